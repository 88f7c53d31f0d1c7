/- Functions of the program as functions on data. -/
import Derived.Test.YtbnjcjpnpidhmaaGreatThresholdWayFb
set_option linter.all false
namespace Go.Proofs.YtbnjcjpnpidhmaaGreat
open Go Go.PV
/-! ### impl_isSetCase -/
abbrev impl_isSetCase_ps : List (PV.Mode × Ty) := [(.ro, QILQII), (.ro, I), (.ro, LI)]
abbrev impl_isSetCase_rs : List (Bool × Ty) := [(true, .bool)]
noncomputable def impl_isSetCase_G (N : Nat) : GTab := gOf [(138, impl_IsGraph_S N), (139, impl_isKind_S N), (144, impl_isRising_S N)]
theorem impl_isSetCase_gok (N : Nat) : GOk Tryz.prog (impl_isSetCase_G N) := gOf_ok ⟨impl_IsGraph_pc N, impl_isKind_pc N, impl_isRising_pc N, trivial⟩
noncomputable def impl_isSetCase_code : Code := (Tryz.f127.body).getD .skip
noncomputable def impl_isSetCase (N : Nat) (g : (Int × (List (Int × Int)))) (kind : Int) (setv : (List Int)) : Option ((Bool × Unit) × (Unit)) :=
  ((impl_IsGraph N (g.1, g.2)).bind fun r =>
    (br r.1.1
      (((impl_isKind N kind).bind fun r1 =>
        (br r1.1.1
          (((impl_isRising N setv g.1).bind fun r2 =>
            some ((r2.1.1, ()), ())))
          (some ((false, ()), ())))))
      (some ((false, ()), ()))))
noncomputable def impl_isSetCase_S (N : Nat) : FSum := ⟨impl_isSetCase_ps, impl_isSetCase_rs, fun x => impl_isSetCase N x.1 x.2.1 x.2.2.1⟩
theorem impl_isSetCase_run (N : Nat) (x : argsT impl_isSetCase_ps) : impl_isSetCase N x.1 x.2.1 x.2.2.1 = funF (impl_isSetCase_G N) tab [] Tryz.f127 impl_isSetCase_ps impl_isSetCase_rs x := by kernel_rfl
theorem impl_isSetCase_pc (N : Nat) : PC Tryz.prog 127 (impl_isSetCase_S N) := by
  have e : impl_isSetCase_S N = ⟨impl_isSetCase_ps, impl_isSetCase_rs, funF (impl_isSetCase_G N) tab [] Tryz.f127 impl_isSetCase_ps impl_isSetCase_rs⟩ := congrArg (FSum.mk impl_isSetCase_ps impl_isSetCase_rs) (funext (impl_isSetCase_run N))
  rw [e]
  exact fun_ok (c := impl_isSetCase_code) progOk (impl_isSetCase_gok N) (draw_ok progOk (impl_isSetCase_gok N)) Tryz.call127 Tryz.func127 (by kernel_rfl) (lsOk_at (L := []) trivial) (by kernel_rfl) (by kernel_rfl) (by kernel_rfl) (by kernel_rfl) (by kernel_rfl)

/-! ### impl_bagOf -/
abbrev impl_bagOf_ps : List (PV.Mode × Ty) := [(.ro, LI)]
abbrev impl_bagOf_rs : List (Bool × Ty) := [(true, U64)]
noncomputable def impl_bagOf_G (N : Nat) : GTab := gOf []
theorem impl_bagOf_gok (N : Nat) : GOk Tryz.prog (impl_bagOf_G N) := gOf_ok trivial
noncomputable def impl_bagOf_code : Code := (Tryz.f125.body).getD .skip
noncomputable def impl_bagOf_l0_sh : Sh := ⟨[(3, .one (.ro U64)), (6, .one (.ro LI)), (7, .one (.ro I)), (8, .one (.ro I))], []⟩
noncomputable def impl_bagOf_l0_ex : List (Ex × Sh) := [(.exit 0, ⟨[(3, .one (.ro U64))], []⟩)]
noncomputable def impl_bagOf_l0 {R : Type} (N : Nat) (k0 : Int → Option R) : Nat → Int → (List Int) → Int → Int → Option R
  | 0, _, _, _, _ => none
  | K + 1, out, x, x1, x2 =>
    (br (ilt x2 x1)
      ((chk (inb x x2)
        (chk (ile 0 (rdI x x2))
        (impl_bagOf_l0 N k0 K (bitop .or .u64 out (shlI .u64 1 (rdI x x2))) x x1 (IntKind.i64.wrap (x2 + 1))))))
      (k0 out))
noncomputable def impl_bagOf_l0_again {R : Type} (N : Nat) (ks : (j : Nat) → ((impl_bagOf_l0_ex.getD j (.ret, Sh.none)).2).T → Option R) (k : Nat) (x : impl_bagOf_l0_sh.T) : Option R :=
  impl_bagOf_l0 N (fun y0 => ks 0 ((y0, ()), ())) k x.1.1 x.1.2.1 x.1.2.2.1 x.1.2.2.2.1
noncomputable def impl_bagOf_l0_s (N : Nat) : LSum := ⟨impl_bagOf_l0_sh, impl_bagOf_l0_ex, fun x ks => impl_bagOf_l0_again N ks N x⟩
theorem impl_bagOf_l0_step (N : Nat) (R : Type) (k : Nat) (x : impl_bagOf_l0_sh.T) (ks : (j : Nat) → ((impl_bagOf_l0_ex.getD j (.ret, Sh.none)).2).T → Option R) : impl_bagOf_l0_again N ks (k + 1) x = roundF (impl_bagOf_G N) tab [] (loopAt impl_bagOf_code 0) impl_bagOf_l0_sh impl_bagOf_l0_ex (fun y => impl_bagOf_l0_again N ks k y) ks x := by kernel_rfl
theorem impl_bagOf_l0_ok (N : Nat) : LoopOk Tryz.prog Tryz.f125.ntmps (impl_bagOf_l0_s N) (loopAt impl_bagOf_code 0) :=
  loop_ok (l := impl_bagOf_l0_s N) progOk (impl_bagOf_gok N) (draw_ok progOk (impl_bagOf_gok N)) (fun R k x ks => impl_bagOf_l0_again N ks k x) (fun _ _ _ => rfl) (fun R k x ks => impl_bagOf_l0_step N R k x ks) (fun R x ks r h => ⟨N, h⟩) (lsOk_at (L := []) trivial) (by kernel_rfl) (by kernel_rfl)
noncomputable def impl_bagOf (N : Nat) (list : (List Int)) : Option ((Int × Unit) × (Unit)) :=
  impl_bagOf_l0 N (fun out => some ((out, ()), ())) N 0 list (tLen list) 0
noncomputable def impl_bagOf_S (N : Nat) : FSum := ⟨impl_bagOf_ps, impl_bagOf_rs, fun x => impl_bagOf N x.1⟩
theorem impl_bagOf_run (N : Nat) (x : argsT impl_bagOf_ps) : impl_bagOf N x.1 = funF (impl_bagOf_G N) tab [impl_bagOf_l0_s N] Tryz.f125 impl_bagOf_ps impl_bagOf_rs x := by kernel_rfl
theorem impl_bagOf_pc (N : Nat) : PC Tryz.prog 125 (impl_bagOf_S N) := by
  have e : impl_bagOf_S N = ⟨impl_bagOf_ps, impl_bagOf_rs, funF (impl_bagOf_G N) tab [impl_bagOf_l0_s N] Tryz.f125 impl_bagOf_ps impl_bagOf_rs⟩ := congrArg (FSum.mk impl_bagOf_ps impl_bagOf_rs) (funext (impl_bagOf_run N))
  rw [e]
  exact fun_ok (c := impl_bagOf_code) progOk (impl_bagOf_gok N) (draw_ok progOk (impl_bagOf_gok N)) Tryz.call125 Tryz.func125 (by kernel_rfl) (lsOk_at (L := [impl_bagOf_l0_s N]) ⟨impl_bagOf_l0_ok N, trivial⟩) (by kernel_rfl) (by kernel_rfl) (by kernel_rfl) (by kernel_rfl) (by kernel_rfl)

/-! ### impl_Graph_all -/
abbrev impl_Graph_all_ps : List (PV.Mode × Ty) := [(.ro, QILQII)]
abbrev impl_Graph_all_rs : List (Bool × Ty) := [(true, U64)]
noncomputable def impl_Graph_all_G (N : Nat) : GTab := gOf []
theorem impl_Graph_all_gok (N : Nat) : GOk Tryz.prog (impl_Graph_all_G N) := gOf_ok trivial
noncomputable def impl_Graph_all_code : Code := (Tryz.f145.body).getD .skip
noncomputable def impl_Graph_all (N : Nat) (g : (Int × (List (Int × Int)))) : Option ((Int × Unit) × (Unit)) :=
  (chk (ile 0 g.1)
    (some (((IntKind.u64.wrap ((shlI .u64 1 g.1) - 1)), ()), ())))
noncomputable def impl_Graph_all_S (N : Nat) : FSum := ⟨impl_Graph_all_ps, impl_Graph_all_rs, fun x => impl_Graph_all N x.1⟩
theorem impl_Graph_all_run (N : Nat) (x : argsT impl_Graph_all_ps) : impl_Graph_all N x.1 = funF (impl_Graph_all_G N) tab [] Tryz.f145 impl_Graph_all_ps impl_Graph_all_rs x := by kernel_rfl
theorem impl_Graph_all_pc (N : Nat) : PC Tryz.prog 145 (impl_Graph_all_S N) := by
  have e : impl_Graph_all_S N = ⟨impl_Graph_all_ps, impl_Graph_all_rs, funF (impl_Graph_all_G N) tab [] Tryz.f145 impl_Graph_all_ps impl_Graph_all_rs⟩ := congrArg (FSum.mk impl_Graph_all_ps impl_Graph_all_rs) (funext (impl_Graph_all_run N))
  rw [e]
  exact fun_ok (c := impl_Graph_all_code) progOk (impl_Graph_all_gok N) (draw_ok progOk (impl_Graph_all_gok N)) Tryz.call145 Tryz.func145 (by kernel_rfl) (lsOk_at (L := []) trivial) (by kernel_rfl) (by kernel_rfl) (by kernel_rfl) (by kernel_rfl) (by kernel_rfl)

/-! ### slices_IndexFunc_LP_P2 -/
abbrev slices_IndexFunc_LP_P2_ps : List (PV.Mode × Ty) := [(.ro, LQII), (.ro, FQIIBo)]
abbrev slices_IndexFunc_LP_P2_rs : List (Bool × Ty) := [(true, I)]
noncomputable def slices_IndexFunc_LP_P2_G (N : Nat) : GTab := gOf []
theorem slices_IndexFunc_LP_P2_gok (N : Nat) : GOk Tryz.prog (slices_IndexFunc_LP_P2_G N) := gOf_ok trivial
noncomputable def slices_IndexFunc_LP_P2_code : Code := (Tryz.f332.body).getD .skip
noncomputable def slices_IndexFunc_LP_P2_l0_sh : Sh := ⟨[(0, .one (.ro LQII)), (1, .one (.ro FQIIBo)), (7, .one (.ro I)), (8, .one (.ro I))], []⟩
noncomputable def slices_IndexFunc_LP_P2_l0_ex : List (Ex × Sh) := [(.ret, ⟨[(4, .one (.ro I))], []⟩), (.exit 0, ⟨[], []⟩)]
noncomputable def slices_IndexFunc_LP_P2_l0 {R : Type} (N : Nat) (k0 : Int → Option R) (k1 : Unit → Option R) : Nat → (List (Int × Int)) → ((Int × Int) → Option Bool) → Int → Int → Option R
  | 0, _, _, _, _ => none
  | K + 1, s1, f1, x, x1 =>
    (br (ilt x1 x)
      ((chk (inb s1 x1)
        ((f1 (rdP s1 x1)).bind fun v =>
        (br v
        (k0 x1)
        (slices_IndexFunc_LP_P2_l0 N k0 k1 K s1 f1 x (IntKind.i64.wrap (x1 + 1)))))))
      (k1 ()))
noncomputable def slices_IndexFunc_LP_P2_l0_again {R : Type} (N : Nat) (ks : (j : Nat) → ((slices_IndexFunc_LP_P2_l0_ex.getD j (.ret, Sh.none)).2).T → Option R) (k : Nat) (x : slices_IndexFunc_LP_P2_l0_sh.T) : Option R :=
  slices_IndexFunc_LP_P2_l0 N (fun y0 => ks 0 ((y0, ()), ())) (fun (_ : Unit) => ks 1 ((), ())) k x.1.1 x.1.2.1 x.1.2.2.1 x.1.2.2.2.1
noncomputable def slices_IndexFunc_LP_P2_l0_s (N : Nat) : LSum := ⟨slices_IndexFunc_LP_P2_l0_sh, slices_IndexFunc_LP_P2_l0_ex, fun x ks => slices_IndexFunc_LP_P2_l0_again N ks N x⟩
theorem slices_IndexFunc_LP_P2_l0_step (N : Nat) (R : Type) (k : Nat) (x : slices_IndexFunc_LP_P2_l0_sh.T) (ks : (j : Nat) → ((slices_IndexFunc_LP_P2_l0_ex.getD j (.ret, Sh.none)).2).T → Option R) : slices_IndexFunc_LP_P2_l0_again N ks (k + 1) x = roundF (slices_IndexFunc_LP_P2_G N) tab [] (loopAt slices_IndexFunc_LP_P2_code 0) slices_IndexFunc_LP_P2_l0_sh slices_IndexFunc_LP_P2_l0_ex (fun y => slices_IndexFunc_LP_P2_l0_again N ks k y) ks x := by kernel_rfl
theorem slices_IndexFunc_LP_P2_l0_ok (N : Nat) : LoopOk Tryz.prog Tryz.f332.ntmps (slices_IndexFunc_LP_P2_l0_s N) (loopAt slices_IndexFunc_LP_P2_code 0) :=
  loop_ok (l := slices_IndexFunc_LP_P2_l0_s N) progOk (slices_IndexFunc_LP_P2_gok N) (draw_ok progOk (slices_IndexFunc_LP_P2_gok N)) (fun R k x ks => slices_IndexFunc_LP_P2_l0_again N ks k x) (fun _ _ _ => rfl) (fun R k x ks => slices_IndexFunc_LP_P2_l0_step N R k x ks) (fun R x ks r h => ⟨N, h⟩) (lsOk_at (L := []) trivial) (by kernel_rfl) (by kernel_rfl)
noncomputable def slices_IndexFunc_LP_P2 (N : Nat) (s : (List (Int × Int))) (f : ((Int × Int) → Option Bool)) : Option ((Int × Unit) × (Unit)) :=
  slices_IndexFunc_LP_P2_l0 N (fun x => some ((x, ()), ())) (fun (_ : Unit) => some (((-1), ()), ())) N s f (tLen s) 0
noncomputable def slices_IndexFunc_LP_P2_S (N : Nat) : FSum := ⟨slices_IndexFunc_LP_P2_ps, slices_IndexFunc_LP_P2_rs, fun x => slices_IndexFunc_LP_P2 N x.1 x.2.1⟩
theorem slices_IndexFunc_LP_P2_run (N : Nat) (x : argsT slices_IndexFunc_LP_P2_ps) : slices_IndexFunc_LP_P2 N x.1 x.2.1 = funF (slices_IndexFunc_LP_P2_G N) tab [slices_IndexFunc_LP_P2_l0_s N] Tryz.f332 slices_IndexFunc_LP_P2_ps slices_IndexFunc_LP_P2_rs x := by kernel_rfl
theorem slices_IndexFunc_LP_P2_pc (N : Nat) : PC Tryz.prog 332 (slices_IndexFunc_LP_P2_S N) := by
  have e : slices_IndexFunc_LP_P2_S N = ⟨slices_IndexFunc_LP_P2_ps, slices_IndexFunc_LP_P2_rs, funF (slices_IndexFunc_LP_P2_G N) tab [slices_IndexFunc_LP_P2_l0_s N] Tryz.f332 slices_IndexFunc_LP_P2_ps slices_IndexFunc_LP_P2_rs⟩ := congrArg (FSum.mk slices_IndexFunc_LP_P2_ps slices_IndexFunc_LP_P2_rs) (funext (slices_IndexFunc_LP_P2_run N))
  rw [e]
  exact fun_ok (c := slices_IndexFunc_LP_P2_code) progOk (slices_IndexFunc_LP_P2_gok N) (draw_ok progOk (slices_IndexFunc_LP_P2_gok N)) Tryz.call332 Tryz.func332 (by kernel_rfl) (lsOk_at (L := [slices_IndexFunc_LP_P2_l0_s N]) ⟨slices_IndexFunc_LP_P2_l0_ok N, trivial⟩) (by kernel_rfl) (by kernel_rfl) (by kernel_rfl) (by kernel_rfl) (by kernel_rfl)

/-! ### slices_ContainsFunc_LP_P2 -/
abbrev slices_ContainsFunc_LP_P2_ps : List (PV.Mode × Ty) := [(.ro, LQII), (.ro, FQIIBo)]
abbrev slices_ContainsFunc_LP_P2_rs : List (Bool × Ty) := [(true, .bool)]
noncomputable def slices_ContainsFunc_LP_P2_G (N : Nat) : GTab := gOf [(332, slices_IndexFunc_LP_P2_S N)]
theorem slices_ContainsFunc_LP_P2_gok (N : Nat) : GOk Tryz.prog (slices_ContainsFunc_LP_P2_G N) := gOf_ok ⟨slices_IndexFunc_LP_P2_pc N, trivial⟩
noncomputable def slices_ContainsFunc_LP_P2_code : Code := (Tryz.f291.body).getD .skip
noncomputable def slices_ContainsFunc_LP_P2 (N : Nat) (s : (List (Int × Int))) (f : ((Int × Int) → Option Bool)) : Option ((Bool × Unit) × (Unit)) :=
  ((slices_IndexFunc_LP_P2 N s f).bind fun r =>
    some (((ile 0 r.1.1), ()), ()))
noncomputable def slices_ContainsFunc_LP_P2_S (N : Nat) : FSum := ⟨slices_ContainsFunc_LP_P2_ps, slices_ContainsFunc_LP_P2_rs, fun x => slices_ContainsFunc_LP_P2 N x.1 x.2.1⟩
theorem slices_ContainsFunc_LP_P2_run (N : Nat) (x : argsT slices_ContainsFunc_LP_P2_ps) : slices_ContainsFunc_LP_P2 N x.1 x.2.1 = funF (slices_ContainsFunc_LP_P2_G N) tab [] Tryz.f291 slices_ContainsFunc_LP_P2_ps slices_ContainsFunc_LP_P2_rs x := by kernel_rfl
theorem slices_ContainsFunc_LP_P2_pc (N : Nat) : PC Tryz.prog 291 (slices_ContainsFunc_LP_P2_S N) := by
  have e : slices_ContainsFunc_LP_P2_S N = ⟨slices_ContainsFunc_LP_P2_ps, slices_ContainsFunc_LP_P2_rs, funF (slices_ContainsFunc_LP_P2_G N) tab [] Tryz.f291 slices_ContainsFunc_LP_P2_ps slices_ContainsFunc_LP_P2_rs⟩ := congrArg (FSum.mk slices_ContainsFunc_LP_P2_ps slices_ContainsFunc_LP_P2_rs) (funext (slices_ContainsFunc_LP_P2_run N))
  rw [e]
  exact fun_ok (c := slices_ContainsFunc_LP_P2_code) progOk (slices_ContainsFunc_LP_P2_gok N) (draw_ok progOk (slices_ContainsFunc_LP_P2_gok N)) Tryz.call291 Tryz.func291 (by kernel_rfl) (lsOk_at (L := []) trivial) (by kernel_rfl) (by kernel_rfl) (by kernel_rfl) (by kernel_rfl) (by kernel_rfl)

/-! ### impl_bag_has -/
abbrev impl_bag_has_ps : List (PV.Mode × Ty) := [(.ro, U64), (.ro, I)]
abbrev impl_bag_has_rs : List (Bool × Ty) := [(true, .bool)]
noncomputable def impl_bag_has_G (N : Nat) : GTab := gOf []
theorem impl_bag_has_gok (N : Nat) : GOk Tryz.prog (impl_bag_has_G N) := gOf_ok trivial
noncomputable def impl_bag_has_code : Code := (Tryz.f133.body).getD .skip
noncomputable def impl_bag_has (N : Nat) (b : Int) (x : Int) : Option ((Bool × Unit) × (Unit)) :=
  (chk (ile 0 x)
    (some (((ieq (bitop .and .u64 (shrI .u64 b x) 1) 1), ()), ())))
noncomputable def impl_bag_has_S (N : Nat) : FSum := ⟨impl_bag_has_ps, impl_bag_has_rs, fun x => impl_bag_has N x.1 x.2.1⟩
theorem impl_bag_has_run (N : Nat) (x : argsT impl_bag_has_ps) : impl_bag_has N x.1 x.2.1 = funF (impl_bag_has_G N) tab [] Tryz.f133 impl_bag_has_ps impl_bag_has_rs x := by kernel_rfl
theorem impl_bag_has_pc (N : Nat) : PC Tryz.prog 133 (impl_bag_has_S N) := by
  have e : impl_bag_has_S N = ⟨impl_bag_has_ps, impl_bag_has_rs, funF (impl_bag_has_G N) tab [] Tryz.f133 impl_bag_has_ps impl_bag_has_rs⟩ := congrArg (FSum.mk impl_bag_has_ps impl_bag_has_rs) (funext (impl_bag_has_run N))
  rw [e]
  exact fun_ok (c := impl_bag_has_code) progOk (impl_bag_has_gok N) (draw_ok progOk (impl_bag_has_gok N)) Tryz.call133 Tryz.func133 (by kernel_rfl) (lsOk_at (L := []) trivial) (by kernel_rfl) (by kernel_rfl) (by kernel_rfl) (by kernel_rfl) (by kernel_rfl)

/-! ### impl_Graph_isFree_c1 -/
abbrev impl_Graph_isFree_c1_ps : List (PV.Mode × Ty) := [(.ro, QII), (.ro, AU64)]
abbrev impl_Graph_isFree_c1_rs : List (Bool × Ty) := [(true, .bool)]
noncomputable def impl_Graph_isFree_c1_G (N : Nat) : GTab := gOf [(133, impl_bag_has_S N)]
theorem impl_Graph_isFree_c1_gok (N : Nat) : GOk Tryz.prog (impl_Graph_isFree_c1_G N) := gOf_ok ⟨impl_bag_has_pc N, trivial⟩
noncomputable def impl_Graph_isFree_c1_code : Code := (Tryz.f293.body).getD .skip
noncomputable def impl_Graph_isFree_c1 (N : Nat) (e : (Int × Int)) (c : Int) : Option ((Bool × Unit) × (Unit)) :=
  ((impl_bag_has N c e.1).bind fun r =>
    (br r.1.1
      (((impl_bag_has N c e.2).bind fun r1 =>
        some ((r1.1.1, ()), ())))
      (some ((false, ()), ()))))
noncomputable def impl_Graph_isFree_c1_S (N : Nat) : FSum := ⟨impl_Graph_isFree_c1_ps, impl_Graph_isFree_c1_rs, fun x => impl_Graph_isFree_c1 N x.1 x.2.1⟩
theorem impl_Graph_isFree_c1_run (N : Nat) (x : argsT impl_Graph_isFree_c1_ps) : impl_Graph_isFree_c1 N x.1 x.2.1 = funF (impl_Graph_isFree_c1_G N) tab [] Tryz.f293 impl_Graph_isFree_c1_ps impl_Graph_isFree_c1_rs x := by kernel_rfl
theorem impl_Graph_isFree_c1_pc (N : Nat) : PC Tryz.prog 293 (impl_Graph_isFree_c1_S N) := by
  have e : impl_Graph_isFree_c1_S N = ⟨impl_Graph_isFree_c1_ps, impl_Graph_isFree_c1_rs, funF (impl_Graph_isFree_c1_G N) tab [] Tryz.f293 impl_Graph_isFree_c1_ps impl_Graph_isFree_c1_rs⟩ := congrArg (FSum.mk impl_Graph_isFree_c1_ps impl_Graph_isFree_c1_rs) (funext (impl_Graph_isFree_c1_run N))
  rw [e]
  exact fun_ok (c := impl_Graph_isFree_c1_code) progOk (impl_Graph_isFree_c1_gok N) (draw_ok progOk (impl_Graph_isFree_c1_gok N)) Tryz.call293 Tryz.func293 (by kernel_rfl) (lsOk_at (L := []) trivial) (by kernel_rfl) (by kernel_rfl) (by kernel_rfl) (by kernel_rfl) (by kernel_rfl)

/-! ### impl_Graph_isFree -/
abbrev impl_Graph_isFree_ps : List (PV.Mode × Ty) := [(.ro, QILQII), (.ro, U64)]
abbrev impl_Graph_isFree_rs : List (Bool × Ty) := [(true, .bool)]
noncomputable def impl_Graph_isFree_G (N : Nat) : GTab := gOf [(291, slices_ContainsFunc_LP_P2_S N), (293, impl_Graph_isFree_c1_S N)]
theorem impl_Graph_isFree_gok (N : Nat) : GOk Tryz.prog (impl_Graph_isFree_G N) := gOf_ok ⟨slices_ContainsFunc_LP_P2_pc N, impl_Graph_isFree_c1_pc N, trivial⟩
noncomputable def impl_Graph_isFree_code : Code := (Tryz.f227.body).getD .skip
noncomputable def impl_Graph_isFree (N : Nat) (g : (Int × (List (Int × Int)))) (b : Int) : Option ((Bool × Unit) × (Unit)) :=
  ((slices_ContainsFunc_LP_P2 N g.2 (fun y0 => (impl_Graph_isFree_c1 N y0 b).bind fun z => some z.1.1)).bind fun r =>
    some (((!r.1.1), ()), ()))
noncomputable def impl_Graph_isFree_S (N : Nat) : FSum := ⟨impl_Graph_isFree_ps, impl_Graph_isFree_rs, fun x => impl_Graph_isFree N x.1 x.2.1⟩
theorem impl_Graph_isFree_run (N : Nat) (x : argsT impl_Graph_isFree_ps) : impl_Graph_isFree N x.1 x.2.1 = funF (impl_Graph_isFree_G N) tab [] Tryz.f227 impl_Graph_isFree_ps impl_Graph_isFree_rs x := by kernel_rfl
theorem impl_Graph_isFree_pc (N : Nat) : PC Tryz.prog 227 (impl_Graph_isFree_S N) := by
  have e : impl_Graph_isFree_S N = ⟨impl_Graph_isFree_ps, impl_Graph_isFree_rs, funF (impl_Graph_isFree_G N) tab [] Tryz.f227 impl_Graph_isFree_ps impl_Graph_isFree_rs⟩ := congrArg (FSum.mk impl_Graph_isFree_ps impl_Graph_isFree_rs) (funext (impl_Graph_isFree_run N))
  rw [e]
  exact fun_ok (c := impl_Graph_isFree_code) progOk (impl_Graph_isFree_gok N) (draw_ok progOk (impl_Graph_isFree_gok N)) Tryz.call227 Tryz.func227 (by kernel_rfl) (lsOk_at (L := []) trivial) (by kernel_rfl) (by kernel_rfl) (by kernel_rfl) (by kernel_rfl) (by kernel_rfl)

/-! ### impl_bag_list -/
abbrev impl_bag_list_ps : List (PV.Mode × Ty) := [(.ro, U64)]
abbrev impl_bag_list_rs : List (Bool × Ty) := [(true, LI)]
noncomputable def impl_bag_list_G (N : Nat) : GTab := gOf []
theorem impl_bag_list_gok (N : Nat) : GOk Tryz.prog (impl_bag_list_G N) := gOf_ok trivial
noncomputable def impl_bag_list_code : Code := (Tryz.f134.body).getD .skip
noncomputable def impl_bag_list_l0_sh : Sh := ⟨[(0, .one (.ro U64)), (3, .one (.ref 0)), (6, .one (.ro I))], [.sl 3 I .own]⟩
noncomputable def impl_bag_list_l0_ex : List (Ex × Sh) := [(.exit 0, ⟨[(3, .one (.ref 0))], [.sl 3 I .own]⟩)]
noncomputable def impl_bag_list_l0 {R : Type} (N : Nat) (k0 : (List Int) → Option R) : Nat → Int → Int → (List Int) → Option R
  | 0, _, _, _ => none
  | K + 1, b1, x, o =>
    (br (ilt x 8)
      ((chk (ile 0 x)
        (br (ieq (bitop .and .u64 (shrI .u64 b1 x) 1) 1)
        ((chk (room o [x])
          (impl_bag_list_l0 N k0 K b1 (IntKind.i64.wrap (x + 1)) (tApp o [x]))))
        (impl_bag_list_l0 N k0 K b1 (IntKind.i64.wrap (x + 1)) o))))
      (k0 o))
noncomputable def impl_bag_list_l0_again {R : Type} (N : Nat) (ks : (j : Nat) → ((impl_bag_list_l0_ex.getD j (.ret, Sh.none)).2).T → Option R) (k : Nat) (x : impl_bag_list_l0_sh.T) : Option R :=
  impl_bag_list_l0 N (fun y0 => ks 0 (((), ()), (y0, ()))) k x.1.1 x.1.2.2.1 x.2.1
noncomputable def impl_bag_list_l0_s (N : Nat) : LSum := ⟨impl_bag_list_l0_sh, impl_bag_list_l0_ex, fun x ks => impl_bag_list_l0_again N ks N x⟩
theorem impl_bag_list_l0_step (N : Nat) (R : Type) (k : Nat) (x : impl_bag_list_l0_sh.T) (ks : (j : Nat) → ((impl_bag_list_l0_ex.getD j (.ret, Sh.none)).2).T → Option R) : impl_bag_list_l0_again N ks (k + 1) x = roundF (impl_bag_list_G N) tab [] (loopAt impl_bag_list_code 0) impl_bag_list_l0_sh impl_bag_list_l0_ex (fun y => impl_bag_list_l0_again N ks k y) ks x := by kernel_rfl
theorem impl_bag_list_l0_ok (N : Nat) : LoopOk Tryz.prog Tryz.f134.ntmps (impl_bag_list_l0_s N) (loopAt impl_bag_list_code 0) :=
  loop_ok (l := impl_bag_list_l0_s N) progOk (impl_bag_list_gok N) (draw_ok progOk (impl_bag_list_gok N)) (fun R k x ks => impl_bag_list_l0_again N ks k x) (fun _ _ _ => rfl) (fun R k x ks => impl_bag_list_l0_step N R k x ks) (fun R x ks r h => ⟨N, h⟩) (lsOk_at (L := []) trivial) (by kernel_rfl) (by kernel_rfl)
noncomputable def impl_bag_list (N : Nat) (b : Int) : Option (((List Int) × Unit) × (Unit)) :=
  impl_bag_list_l0 N (fun o => some ((o, ()), ())) N b 0 []
noncomputable def impl_bag_list_S (N : Nat) : FSum := ⟨impl_bag_list_ps, impl_bag_list_rs, fun x => impl_bag_list N x.1⟩
theorem impl_bag_list_run (N : Nat) (x : argsT impl_bag_list_ps) : impl_bag_list N x.1 = funF (impl_bag_list_G N) tab [impl_bag_list_l0_s N] Tryz.f134 impl_bag_list_ps impl_bag_list_rs x := by kernel_rfl
theorem impl_bag_list_pc (N : Nat) : PC Tryz.prog 134 (impl_bag_list_S N) := by
  have e : impl_bag_list_S N = ⟨impl_bag_list_ps, impl_bag_list_rs, funF (impl_bag_list_G N) tab [impl_bag_list_l0_s N] Tryz.f134 impl_bag_list_ps impl_bag_list_rs⟩ := congrArg (FSum.mk impl_bag_list_ps impl_bag_list_rs) (funext (impl_bag_list_run N))
  rw [e]
  exact fun_ok (c := impl_bag_list_code) progOk (impl_bag_list_gok N) (draw_ok progOk (impl_bag_list_gok N)) Tryz.call134 Tryz.func134 (by kernel_rfl) (lsOk_at (L := [impl_bag_list_l0_s N]) ⟨impl_bag_list_l0_ok N, trivial⟩) (by kernel_rfl) (by kernel_rfl) (by kernel_rfl) (by kernel_rfl) (by kernel_rfl)

/-! ### impl_pair -/
abbrev impl_pair_ps : List (PV.Mode × Ty) := [(.ro, I), (.ro, I)]
abbrev impl_pair_rs : List (Bool × Ty) := [(true, QII)]
noncomputable def impl_pair_G (N : Nat) : GTab := gOf []
theorem impl_pair_gok (N : Nat) : GOk Tryz.prog (impl_pair_G N) := gOf_ok trivial
noncomputable def impl_pair_code : Code := (Tryz.f170.body).getD .skip
noncomputable def impl_pair (N : Nat) (a : Int) (b : Int) : Option (((Int × Int) × Unit) × (Unit)) :=
  some ((((if b < a then b else a), (if b > a then b else a)), ()), ())
noncomputable def impl_pair_S (N : Nat) : FSum := ⟨impl_pair_ps, impl_pair_rs, fun x => impl_pair N x.1 x.2.1⟩
theorem impl_pair_run (N : Nat) (x : argsT impl_pair_ps) : impl_pair N x.1 x.2.1 = funF (impl_pair_G N) tab [] Tryz.f170 impl_pair_ps impl_pair_rs x := by kernel_rfl
theorem impl_pair_pc (N : Nat) : PC Tryz.prog 170 (impl_pair_S N) := by
  have e : impl_pair_S N = ⟨impl_pair_ps, impl_pair_rs, funF (impl_pair_G N) tab [] Tryz.f170 impl_pair_ps impl_pair_rs⟩ := congrArg (FSum.mk impl_pair_ps impl_pair_rs) (funext (impl_pair_run N))
  rw [e]
  exact fun_ok (c := impl_pair_code) progOk (impl_pair_gok N) (draw_ok progOk (impl_pair_gok N)) Tryz.call170 Tryz.func170 (by kernel_rfl) (lsOk_at (L := []) trivial) (by kernel_rfl) (by kernel_rfl) (by kernel_rfl) (by kernel_rfl) (by kernel_rfl)

/-! ### slices_Index_LP_P2 -/
abbrev slices_Index_LP_P2_ps : List (PV.Mode × Ty) := [(.ro, LQII), (.ro, QII)]
abbrev slices_Index_LP_P2_rs : List (Bool × Ty) := [(true, I)]
noncomputable def slices_Index_LP_P2_G (N : Nat) : GTab := gOf []
theorem slices_Index_LP_P2_gok (N : Nat) : GOk Tryz.prog (slices_Index_LP_P2_G N) := gOf_ok trivial
noncomputable def slices_Index_LP_P2_code : Code := (Tryz.f299.body).getD .skip
noncomputable def slices_Index_LP_P2_l0_sh : Sh := ⟨[(0, .one (.ro LQII)), (3, .one (.adr 0 0)), (7, .one (.ro I)), (8, .one (.ro I))], [.box [.ro I, .ro I]]⟩
noncomputable def slices_Index_LP_P2_l0_ex : List (Ex × Sh) := [(.ret, ⟨[(4, .one (.ro I))], []⟩), (.exit 0, ⟨[], []⟩)]
noncomputable def slices_Index_LP_P2_l0 {R : Type} (N : Nat) (k0 : Int → Option R) (k1 : Unit → Option R) : Nat → (List (Int × Int)) → Int → Int → Int → Int → Option R
  | 0, _, _, _, _, _ => none
  | K + 1, s1, x, x1, o, o1 =>
    (br (ilt x1 x)
      ((chk (inb s1 x1)
        (br (ieq o ((rdP s1 x1).1) && ieq o1 ((rdP s1 x1).2))
        (k0 x1)
        (slices_Index_LP_P2_l0 N k0 k1 K s1 x (IntKind.i64.wrap (x1 + 1)) o o1))))
      (k1 ()))
noncomputable def slices_Index_LP_P2_l0_again {R : Type} (N : Nat) (ks : (j : Nat) → ((slices_Index_LP_P2_l0_ex.getD j (.ret, Sh.none)).2).T → Option R) (k : Nat) (x : slices_Index_LP_P2_l0_sh.T) : Option R :=
  slices_Index_LP_P2_l0 N (fun y0 => ks 0 ((y0, ()), ())) (fun (_ : Unit) => ks 1 ((), ())) k x.1.1 x.1.2.2.1 x.1.2.2.2.1 x.2.1.1 x.2.1.2.1
noncomputable def slices_Index_LP_P2_l0_s (N : Nat) : LSum := ⟨slices_Index_LP_P2_l0_sh, slices_Index_LP_P2_l0_ex, fun x ks => slices_Index_LP_P2_l0_again N ks N x⟩
theorem slices_Index_LP_P2_l0_step (N : Nat) (R : Type) (k : Nat) (x : slices_Index_LP_P2_l0_sh.T) (ks : (j : Nat) → ((slices_Index_LP_P2_l0_ex.getD j (.ret, Sh.none)).2).T → Option R) : slices_Index_LP_P2_l0_again N ks (k + 1) x = roundF (slices_Index_LP_P2_G N) tab [] (loopAt slices_Index_LP_P2_code 0) slices_Index_LP_P2_l0_sh slices_Index_LP_P2_l0_ex (fun y => slices_Index_LP_P2_l0_again N ks k y) ks x := by kernel_rfl
theorem slices_Index_LP_P2_l0_ok (N : Nat) : LoopOk Tryz.prog Tryz.f299.ntmps (slices_Index_LP_P2_l0_s N) (loopAt slices_Index_LP_P2_code 0) :=
  loop_ok (l := slices_Index_LP_P2_l0_s N) progOk (slices_Index_LP_P2_gok N) (draw_ok progOk (slices_Index_LP_P2_gok N)) (fun R k x ks => slices_Index_LP_P2_l0_again N ks k x) (fun _ _ _ => rfl) (fun R k x ks => slices_Index_LP_P2_l0_step N R k x ks) (fun R x ks r h => ⟨N, h⟩) (lsOk_at (L := []) trivial) (by kernel_rfl) (by kernel_rfl)
noncomputable def slices_Index_LP_P2 (N : Nat) (s : (List (Int × Int))) (v : (Int × Int)) : Option ((Int × Unit) × (Unit)) :=
  slices_Index_LP_P2_l0 N (fun x => some ((x, ()), ())) (fun (_ : Unit) => some (((-1), ()), ())) N s (tLen s) 0 v.1 v.2
noncomputable def slices_Index_LP_P2_S (N : Nat) : FSum := ⟨slices_Index_LP_P2_ps, slices_Index_LP_P2_rs, fun x => slices_Index_LP_P2 N x.1 x.2.1⟩
theorem slices_Index_LP_P2_run (N : Nat) (x : argsT slices_Index_LP_P2_ps) : slices_Index_LP_P2 N x.1 x.2.1 = funF (slices_Index_LP_P2_G N) tab [slices_Index_LP_P2_l0_s N] Tryz.f299 slices_Index_LP_P2_ps slices_Index_LP_P2_rs x := by kernel_rfl
theorem slices_Index_LP_P2_pc (N : Nat) : PC Tryz.prog 299 (slices_Index_LP_P2_S N) := by
  have e : slices_Index_LP_P2_S N = ⟨slices_Index_LP_P2_ps, slices_Index_LP_P2_rs, funF (slices_Index_LP_P2_G N) tab [slices_Index_LP_P2_l0_s N] Tryz.f299 slices_Index_LP_P2_ps slices_Index_LP_P2_rs⟩ := congrArg (FSum.mk slices_Index_LP_P2_ps slices_Index_LP_P2_rs) (funext (slices_Index_LP_P2_run N))
  rw [e]
  exact fun_ok (c := slices_Index_LP_P2_code) progOk (slices_Index_LP_P2_gok N) (draw_ok progOk (slices_Index_LP_P2_gok N)) Tryz.call299 Tryz.func299 (by kernel_rfl) (lsOk_at (L := [slices_Index_LP_P2_l0_s N]) ⟨slices_Index_LP_P2_l0_ok N, trivial⟩) (by kernel_rfl) (by kernel_rfl) (by kernel_rfl) (by kernel_rfl) (by kernel_rfl)

/-! ### slices_Contains_LP_P2 -/
abbrev slices_Contains_LP_P2_ps : List (PV.Mode × Ty) := [(.ro, LQII), (.ro, QII)]
abbrev slices_Contains_LP_P2_rs : List (Bool × Ty) := [(true, .bool)]
noncomputable def slices_Contains_LP_P2_G (N : Nat) : GTab := gOf [(299, slices_Index_LP_P2_S N)]
theorem slices_Contains_LP_P2_gok (N : Nat) : GOk Tryz.prog (slices_Contains_LP_P2_G N) := gOf_ok ⟨slices_Index_LP_P2_pc N, trivial⟩
noncomputable def slices_Contains_LP_P2_code : Code := (Tryz.f240.body).getD .skip
noncomputable def slices_Contains_LP_P2 (N : Nat) (s : (List (Int × Int))) (v : (Int × Int)) : Option ((Bool × Unit) × (Unit)) :=
  ((slices_Index_LP_P2 N s (v.1, v.2)).bind fun r =>
    some (((ile 0 r.1.1), ()), ()))
noncomputable def slices_Contains_LP_P2_S (N : Nat) : FSum := ⟨slices_Contains_LP_P2_ps, slices_Contains_LP_P2_rs, fun x => slices_Contains_LP_P2 N x.1 x.2.1⟩
theorem slices_Contains_LP_P2_run (N : Nat) (x : argsT slices_Contains_LP_P2_ps) : slices_Contains_LP_P2 N x.1 x.2.1 = funF (slices_Contains_LP_P2_G N) tab [] Tryz.f240 slices_Contains_LP_P2_ps slices_Contains_LP_P2_rs x := by kernel_rfl
theorem slices_Contains_LP_P2_pc (N : Nat) : PC Tryz.prog 240 (slices_Contains_LP_P2_S N) := by
  have e : slices_Contains_LP_P2_S N = ⟨slices_Contains_LP_P2_ps, slices_Contains_LP_P2_rs, funF (slices_Contains_LP_P2_G N) tab [] Tryz.f240 slices_Contains_LP_P2_ps slices_Contains_LP_P2_rs⟩ := congrArg (FSum.mk slices_Contains_LP_P2_ps slices_Contains_LP_P2_rs) (funext (slices_Contains_LP_P2_run N))
  rw [e]
  exact fun_ok (c := slices_Contains_LP_P2_code) progOk (slices_Contains_LP_P2_gok N) (draw_ok progOk (slices_Contains_LP_P2_gok N)) Tryz.call240 Tryz.func240 (by kernel_rfl) (lsOk_at (L := []) trivial) (by kernel_rfl) (by kernel_rfl) (by kernel_rfl) (by kernel_rfl) (by kernel_rfl)

/-! ### impl_Graph_has -/
abbrev impl_Graph_has_ps : List (PV.Mode × Ty) := [(.ro, QILQII), (.ro, I), (.ro, I)]
abbrev impl_Graph_has_rs : List (Bool × Ty) := [(true, .bool)]
noncomputable def impl_Graph_has_G (N : Nat) : GTab := gOf [(170, impl_pair_S N), (240, slices_Contains_LP_P2_S N)]
theorem impl_Graph_has_gok (N : Nat) : GOk Tryz.prog (impl_Graph_has_G N) := gOf_ok ⟨impl_pair_pc N, slices_Contains_LP_P2_pc N, trivial⟩
noncomputable def impl_Graph_has_code : Code := (Tryz.f148.body).getD .skip
noncomputable def impl_Graph_has (N : Nat) (g : (Int × (List (Int × Int)))) (a : Int) (b : Int) : Option ((Bool × Unit) × (Unit)) :=
  ((impl_pair N a b).bind fun r =>
    ((slices_Contains_LP_P2 N g.2 (r.1.1.1, r.1.1.2)).bind fun r1 =>
      some ((r1.1.1, ()), ())))
noncomputable def impl_Graph_has_S (N : Nat) : FSum := ⟨impl_Graph_has_ps, impl_Graph_has_rs, fun x => impl_Graph_has N x.1 x.2.1 x.2.2.1⟩
theorem impl_Graph_has_run (N : Nat) (x : argsT impl_Graph_has_ps) : impl_Graph_has N x.1 x.2.1 x.2.2.1 = funF (impl_Graph_has_G N) tab [] Tryz.f148 impl_Graph_has_ps impl_Graph_has_rs x := by kernel_rfl
theorem impl_Graph_has_pc (N : Nat) : PC Tryz.prog 148 (impl_Graph_has_S N) := by
  have e : impl_Graph_has_S N = ⟨impl_Graph_has_ps, impl_Graph_has_rs, funF (impl_Graph_has_G N) tab [] Tryz.f148 impl_Graph_has_ps impl_Graph_has_rs⟩ := congrArg (FSum.mk impl_Graph_has_ps impl_Graph_has_rs) (funext (impl_Graph_has_run N))
  rw [e]
  exact fun_ok (c := impl_Graph_has_code) progOk (impl_Graph_has_gok N) (draw_ok progOk (impl_Graph_has_gok N)) Tryz.call148 Tryz.func148 (by kernel_rfl) (lsOk_at (L := []) trivial) (by kernel_rfl) (by kernel_rfl) (by kernel_rfl) (by kernel_rfl) (by kernel_rfl)

/-! ### impl_Graph_neighbors -/
abbrev impl_Graph_neighbors_ps : List (PV.Mode × Ty) := [(.ro, QILQII), (.ro, I)]
abbrev impl_Graph_neighbors_rs : List (Bool × Ty) := [(true, LI)]
noncomputable def impl_Graph_neighbors_G (N : Nat) : GTab := gOf [(148, impl_Graph_has_S N)]
theorem impl_Graph_neighbors_gok (N : Nat) : GOk Tryz.prog (impl_Graph_neighbors_G N) := gOf_ok ⟨impl_Graph_has_pc N, trivial⟩
noncomputable def impl_Graph_neighbors_code : Code := (Tryz.f193.body).getD .skip
noncomputable def impl_Graph_neighbors_l0_sh : Sh := ⟨[(1, .one (.ro I)), (2, .one (.adr 0 0)), (5, .one (.ref 1)), (9, .one (.ro I)), (10, .one (.ro I))], [.box [.ro I, .ro LQII], .sl 3 I .own]⟩
noncomputable def impl_Graph_neighbors_l0_ex : List (Ex × Sh) := [(.exit 0, ⟨[(5, .one (.ref 0))], [.sl 3 I .own]⟩)]
noncomputable def impl_Graph_neighbors_l0 {R : Type} (N : Nat) (k0 : (List Int) → Option R) : Nat → Int → Int → Int → Int → (List (Int × Int)) → (List Int) → Option R
  | 0, _, _, _, _, _, _ => none
  | K + 1, x1, x2, x3, o, o1, o2 =>
    (br (ilt x3 x2)
      ((br (ine x3 x1)
        (((impl_Graph_has N (o, o1) x1 x3).bind fun r =>
          (br r.1.1
            ((chk (room o2 [x3])
              (impl_Graph_neighbors_l0 N k0 K x1 x2 (IntKind.i64.wrap (x3 + 1)) o o1 (tApp o2 [x3]))))
            (impl_Graph_neighbors_l0 N k0 K x1 x2 (IntKind.i64.wrap (x3 + 1)) o o1 o2))))
        (impl_Graph_neighbors_l0 N k0 K x1 x2 (IntKind.i64.wrap (x3 + 1)) o o1 o2)))
      (k0 o2))
noncomputable def impl_Graph_neighbors_l0_again {R : Type} (N : Nat) (ks : (j : Nat) → ((impl_Graph_neighbors_l0_ex.getD j (.ret, Sh.none)).2).T → Option R) (k : Nat) (x : impl_Graph_neighbors_l0_sh.T) : Option R :=
  impl_Graph_neighbors_l0 N (fun y0 => ks 0 (((), ()), (y0, ()))) k x.1.1 x.1.2.2.2.1 x.1.2.2.2.2.1 x.2.1.1 x.2.1.2.1 x.2.2.1
noncomputable def impl_Graph_neighbors_l0_s (N : Nat) : LSum := ⟨impl_Graph_neighbors_l0_sh, impl_Graph_neighbors_l0_ex, fun x ks => impl_Graph_neighbors_l0_again N ks N x⟩
theorem impl_Graph_neighbors_l0_step (N : Nat) (R : Type) (k : Nat) (x : impl_Graph_neighbors_l0_sh.T) (ks : (j : Nat) → ((impl_Graph_neighbors_l0_ex.getD j (.ret, Sh.none)).2).T → Option R) : impl_Graph_neighbors_l0_again N ks (k + 1) x = roundF (impl_Graph_neighbors_G N) tab [] (loopAt impl_Graph_neighbors_code 0) impl_Graph_neighbors_l0_sh impl_Graph_neighbors_l0_ex (fun y => impl_Graph_neighbors_l0_again N ks k y) ks x := by kernel_rfl
theorem impl_Graph_neighbors_l0_ok (N : Nat) : LoopOk Tryz.prog Tryz.f193.ntmps (impl_Graph_neighbors_l0_s N) (loopAt impl_Graph_neighbors_code 0) :=
  loop_ok (l := impl_Graph_neighbors_l0_s N) progOk (impl_Graph_neighbors_gok N) (draw_ok progOk (impl_Graph_neighbors_gok N)) (fun R k x ks => impl_Graph_neighbors_l0_again N ks k x) (fun _ _ _ => rfl) (fun R k x ks => impl_Graph_neighbors_l0_step N R k x ks) (fun R x ks r h => ⟨N, h⟩) (lsOk_at (L := []) trivial) (by kernel_rfl) (by kernel_rfl)
noncomputable def impl_Graph_neighbors (N : Nat) (g : (Int × (List (Int × Int)))) (x : Int) : Option (((List Int) × Unit) × (Unit)) :=
  impl_Graph_neighbors_l0 N (fun o => some ((o, ()), ())) N x g.1 0 g.1 g.2 []
noncomputable def impl_Graph_neighbors_S (N : Nat) : FSum := ⟨impl_Graph_neighbors_ps, impl_Graph_neighbors_rs, fun x => impl_Graph_neighbors N x.1 x.2.1⟩
theorem impl_Graph_neighbors_run (N : Nat) (x : argsT impl_Graph_neighbors_ps) : impl_Graph_neighbors N x.1 x.2.1 = funF (impl_Graph_neighbors_G N) tab [impl_Graph_neighbors_l0_s N] Tryz.f193 impl_Graph_neighbors_ps impl_Graph_neighbors_rs x := by kernel_rfl
theorem impl_Graph_neighbors_pc (N : Nat) : PC Tryz.prog 193 (impl_Graph_neighbors_S N) := by
  have e : impl_Graph_neighbors_S N = ⟨impl_Graph_neighbors_ps, impl_Graph_neighbors_rs, funF (impl_Graph_neighbors_G N) tab [impl_Graph_neighbors_l0_s N] Tryz.f193 impl_Graph_neighbors_ps impl_Graph_neighbors_rs⟩ := congrArg (FSum.mk impl_Graph_neighbors_ps impl_Graph_neighbors_rs) (funext (impl_Graph_neighbors_run N))
  rw [e]
  exact fun_ok (c := impl_Graph_neighbors_code) progOk (impl_Graph_neighbors_gok N) (draw_ok progOk (impl_Graph_neighbors_gok N)) Tryz.call193 Tryz.func193 (by kernel_rfl) (lsOk_at (L := [impl_Graph_neighbors_l0_s N]) ⟨impl_Graph_neighbors_l0_ok N, trivial⟩) (by kernel_rfl) (by kernel_rfl) (by kernel_rfl) (by kernel_rfl) (by kernel_rfl)

/-! ### impl_Graph_hasKind -/
abbrev impl_Graph_hasKind_ps : List (PV.Mode × Ty) := [(.ro, QILQII), (.ro, I), (.ro, U64)]
abbrev impl_Graph_hasKind_rs : List (Bool × Ty) := [(true, .bool)]
noncomputable def impl_Graph_hasKind_G (N : Nat) : GTab := gOf [(145, impl_Graph_all_S N), (227, impl_Graph_isFree_S N), (134, impl_bag_list_S N), (148, impl_Graph_has_S N), (133, impl_bag_has_S N), (193, impl_Graph_neighbors_S N), (125, impl_bagOf_S N)]
theorem impl_Graph_hasKind_gok (N : Nat) : GOk Tryz.prog (impl_Graph_hasKind_G N) := gOf_ok ⟨impl_Graph_all_pc N, impl_Graph_isFree_pc N, impl_bag_list_pc N, impl_Graph_has_pc N, impl_bag_has_pc N, impl_Graph_neighbors_pc N, impl_bagOf_pc N, trivial⟩
noncomputable def impl_Graph_hasKind_code : Code := (Tryz.f128.body).getD .skip
noncomputable def impl_Graph_hasKind_l0_0_sh : Sh := ⟨[(3, .one (.adr 0 0)), (7, .one (.ref 1)), (9, .one (.ro I)), (26, .one (.ref 1)), (27, .one (.ro I)), (28, .one (.ro I)), (35, .one (.sub 1 1)), (36, .one (.ro I)), (37, .one (.ro I))], [.box [.ro I, .ro LQII], .sl 3 I .own]⟩
noncomputable def impl_Graph_hasKind_l0_0_ex : List (Ex × Sh) := [(.ret, ⟨[(6, .one (.ro .bool))], []⟩), (.exit 3, ⟨[(3, .one (.adr 0 0)), (7, .one (.ref 1)), (26, .one (.ref 1)), (27, .one (.ro I)), (28, .one (.ro I))], [.box [.ro I, .ro LQII], .sl 3 I .own]⟩)]
noncomputable def impl_Graph_hasKind_l0_0 {R : Type} (N : Nat) (k0 : Bool → Option R) (k1 : Int → Int → Int → (List (Int × Int)) → (List Int) → Option R) : Nat → Int → Int → Int → Int → Int → Int → Int → Int → (List (Int × Int)) → (List Int) → Option R
  | 0, _, _, _, _, _, _, _, _, _, _ => none
  | K + 1, x2, x3, x4, x5, x6, x7, x8, o3, o4, o5 =>
    (br (ilt x8 x7)
      ((chk (ile 0 x8 && ilt x8 (x6 - x5))
        ((impl_Graph_has N (o3, o4) x2 (rdI o5 (x5 + x8))).bind fun r3 =>
        (br (!r3.1.1)
          (k0 false)
          (impl_Graph_hasKind_l0_0 N k0 k1 K x2 x3 x4 x5 x6 x7 (IntKind.i64.wrap (x8 + 1)) o3 o4 o5)))))
      (k1 x3 x4 o3 o4 o5))
noncomputable def impl_Graph_hasKind_l0_0_again {R : Type} (N : Nat) (ks : (j : Nat) → ((impl_Graph_hasKind_l0_0_ex.getD j (.ret, Sh.none)).2).T → Option R) (k : Nat) (x : impl_Graph_hasKind_l0_0_sh.T) : Option R :=
  impl_Graph_hasKind_l0_0 N (fun y0 => ks 0 ((y0, ()), ())) (fun y0 y1 y2 y3 y4 => ks 1 (((), (), (), y0, y1, ()), ((y2, y3, ()), y4, ()))) k x.1.2.2.1 x.1.2.2.2.2.1 x.1.2.2.2.2.2.1 x.1.2.2.2.2.2.2.1.1 x.1.2.2.2.2.2.2.1.2 x.1.2.2.2.2.2.2.2.1 x.1.2.2.2.2.2.2.2.2.1 x.2.1.1 x.2.1.2.1 x.2.2.1
noncomputable def impl_Graph_hasKind_l0_0_s (N : Nat) : LSum := ⟨impl_Graph_hasKind_l0_0_sh, impl_Graph_hasKind_l0_0_ex, fun x ks => impl_Graph_hasKind_l0_0_again N ks N x⟩
theorem impl_Graph_hasKind_l0_0_step (N : Nat) (R : Type) (k : Nat) (x : impl_Graph_hasKind_l0_0_sh.T) (ks : (j : Nat) → ((impl_Graph_hasKind_l0_0_ex.getD j (.ret, Sh.none)).2).T → Option R) : impl_Graph_hasKind_l0_0_again N ks (k + 1) x = roundF (impl_Graph_hasKind_G N) tab [] (loopAt (loopAt impl_Graph_hasKind_code 0) 0) impl_Graph_hasKind_l0_0_sh impl_Graph_hasKind_l0_0_ex (fun y => impl_Graph_hasKind_l0_0_again N ks k y) ks x := by kernel_rfl
theorem impl_Graph_hasKind_l0_0_ok (N : Nat) : LoopOk Tryz.prog Tryz.f128.ntmps (impl_Graph_hasKind_l0_0_s N) (loopAt (loopAt impl_Graph_hasKind_code 0) 0) :=
  loop_ok (l := impl_Graph_hasKind_l0_0_s N) progOk (impl_Graph_hasKind_gok N) (draw_ok progOk (impl_Graph_hasKind_gok N)) (fun R k x ks => impl_Graph_hasKind_l0_0_again N ks k x) (fun _ _ _ => rfl) (fun R k x ks => impl_Graph_hasKind_l0_0_step N R k x ks) (fun R x ks r h => ⟨N, h⟩) (lsOk_at (L := []) trivial) (by kernel_rfl) (by kernel_rfl)
noncomputable def impl_Graph_hasKind_l0_sh : Sh := ⟨[(3, .one (.adr 0 0)), (7, .one (.ref 1)), (26, .one (.ref 1)), (27, .one (.ro I)), (28, .one (.ro I))], [.box [.ro I, .ro LQII], .sl 3 I .own]⟩
noncomputable def impl_Graph_hasKind_l0_ex : List (Ex × Sh) := [(.ret, ⟨[(6, .one (.ro .bool))], []⟩), (.exit 1, ⟨[], []⟩)]
noncomputable def impl_Graph_hasKind_l0 {R : Type} (N : Nat) (k0 : Bool → Option R) (k1 : Unit → Option R) : Nat → Int → Int → Int → (List (Int × Int)) → (List Int) → Option R
  | 0, _, _, _, _, _ => none
  | K + 1, x, x1, o, o1, o2 =>
    (br (ilt x1 x)
      ((chk (inb o2 x1)
        (chk (ile 0 0 && ile 0 x1 && ile x1 (tLen o2))
        (impl_Graph_hasKind_l0_0 N (fun x2 => k0 x2) (fun x3 x4 o3 o4 o5 => impl_Graph_hasKind_l0 N k0 k1 K x3 (IntKind.i64.wrap (x4 + 1)) o3 o4 o5) N (rdI o2 x1) x x1 0 x1 (x1 - 0) 0 o o1 o2))))
      (k1 ()))
noncomputable def impl_Graph_hasKind_l0_again {R : Type} (N : Nat) (ks : (j : Nat) → ((impl_Graph_hasKind_l0_ex.getD j (.ret, Sh.none)).2).T → Option R) (k : Nat) (x : impl_Graph_hasKind_l0_sh.T) : Option R :=
  impl_Graph_hasKind_l0 N (fun y0 => ks 0 ((y0, ()), ())) (fun (_ : Unit) => ks 1 ((), ())) k x.1.2.2.2.1 x.1.2.2.2.2.1 x.2.1.1 x.2.1.2.1 x.2.2.1
noncomputable def impl_Graph_hasKind_l0_s (N : Nat) : LSum := ⟨impl_Graph_hasKind_l0_sh, impl_Graph_hasKind_l0_ex, fun x ks => impl_Graph_hasKind_l0_again N ks N x⟩
theorem impl_Graph_hasKind_l0_step (N : Nat) (R : Type) (k : Nat) (x : impl_Graph_hasKind_l0_sh.T) (ks : (j : Nat) → ((impl_Graph_hasKind_l0_ex.getD j (.ret, Sh.none)).2).T → Option R) : impl_Graph_hasKind_l0_again N ks (k + 1) x = roundF (impl_Graph_hasKind_G N) tab [impl_Graph_hasKind_l0_0_s N] (loopAt impl_Graph_hasKind_code 0) impl_Graph_hasKind_l0_sh impl_Graph_hasKind_l0_ex (fun y => impl_Graph_hasKind_l0_again N ks k y) ks x := by kernel_rfl
theorem impl_Graph_hasKind_l0_ok (N : Nat) : LoopOk Tryz.prog Tryz.f128.ntmps (impl_Graph_hasKind_l0_s N) (loopAt impl_Graph_hasKind_code 0) :=
  loop_ok (l := impl_Graph_hasKind_l0_s N) progOk (impl_Graph_hasKind_gok N) (draw_ok progOk (impl_Graph_hasKind_gok N)) (fun R k x ks => impl_Graph_hasKind_l0_again N ks k x) (fun _ _ _ => rfl) (fun R k x ks => impl_Graph_hasKind_l0_step N R k x ks) (fun R x ks r h => ⟨N, h⟩) (lsOk_at (L := [impl_Graph_hasKind_l0_0_s N]) ⟨impl_Graph_hasKind_l0_0_ok N, trivial⟩) (by kernel_rfl) (by kernel_rfl)
noncomputable def impl_Graph_hasKind_l1_sh : Sh := ⟨[(2, .one (.ro U64)), (3, .one (.adr 0 0)), (49, .one (.ro I)), (50, .one (.ro I))], [.box [.ro I, .ro LQII]]⟩
noncomputable def impl_Graph_hasKind_l1_ex : List (Ex × Sh) := [(.ret, ⟨[(6, .one (.ro .bool))], []⟩), (.exit 5, ⟨[], []⟩)]
noncomputable def impl_Graph_hasKind_l1 {R : Type} (N : Nat) (k0 : Bool → Option R) (k1 : Unit → Option R) : Nat → Int → Int → Int → Int → (List (Int × Int)) → Option R
  | 0, _, _, _, _, _ => none
  | K + 1, x1, x2, x3, o, o1 =>
    (br (ilt x3 x2)
      (((impl_bag_has N x1 x3).bind fun r3 =>
        (br (!r3.1.1)
          (((impl_Graph_neighbors N (o, o1) x3).bind fun r4 =>
            ((impl_bagOf N r4.1.1).bind fun r5 =>
              (br (ieq (bitop .and .u64 r5.1.1 x1) 0)
                (k0 false)
                (impl_Graph_hasKind_l1 N k0 k1 K x1 x2 (IntKind.i64.wrap (x3 + 1)) o o1)))))
          (impl_Graph_hasKind_l1 N k0 k1 K x1 x2 (IntKind.i64.wrap (x3 + 1)) o o1))))
      (k1 ()))
noncomputable def impl_Graph_hasKind_l1_again {R : Type} (N : Nat) (ks : (j : Nat) → ((impl_Graph_hasKind_l1_ex.getD j (.ret, Sh.none)).2).T → Option R) (k : Nat) (x : impl_Graph_hasKind_l1_sh.T) : Option R :=
  impl_Graph_hasKind_l1 N (fun y0 => ks 0 ((y0, ()), ())) (fun (_ : Unit) => ks 1 ((), ())) k x.1.1 x.1.2.2.1 x.1.2.2.2.1 x.2.1.1 x.2.1.2.1
noncomputable def impl_Graph_hasKind_l1_s (N : Nat) : LSum := ⟨impl_Graph_hasKind_l1_sh, impl_Graph_hasKind_l1_ex, fun x ks => impl_Graph_hasKind_l1_again N ks N x⟩
theorem impl_Graph_hasKind_l1_step (N : Nat) (R : Type) (k : Nat) (x : impl_Graph_hasKind_l1_sh.T) (ks : (j : Nat) → ((impl_Graph_hasKind_l1_ex.getD j (.ret, Sh.none)).2).T → Option R) : impl_Graph_hasKind_l1_again N ks (k + 1) x = roundF (impl_Graph_hasKind_G N) tab [] (loopAt impl_Graph_hasKind_code 1) impl_Graph_hasKind_l1_sh impl_Graph_hasKind_l1_ex (fun y => impl_Graph_hasKind_l1_again N ks k y) ks x := by kernel_rfl
theorem impl_Graph_hasKind_l1_ok (N : Nat) : LoopOk Tryz.prog Tryz.f128.ntmps (impl_Graph_hasKind_l1_s N) (loopAt impl_Graph_hasKind_code 1) :=
  loop_ok (l := impl_Graph_hasKind_l1_s N) progOk (impl_Graph_hasKind_gok N) (draw_ok progOk (impl_Graph_hasKind_gok N)) (fun R k x ks => impl_Graph_hasKind_l1_again N ks k x) (fun _ _ _ => rfl) (fun R k x ks => impl_Graph_hasKind_l1_step N R k x ks) (fun R x ks r h => ⟨N, h⟩) (lsOk_at (L := []) trivial) (by kernel_rfl) (by kernel_rfl)
noncomputable def impl_Graph_hasKind (N : Nat) (c : (Int × (List (Int × Int)))) (c1 : Int) (c2 : Int) : Option ((Bool × Unit) × (Unit)) :=
  (br (ieq c1 1)
    (((impl_Graph_all N (c.1, c.2)).bind fun r =>
      ((impl_Graph_isFree N (c.1, c.2) (bitop .andNot .u64 r.1.1 c2)).bind fun r1 =>
        some ((r1.1.1, ()), ()))))
    ((br (ieq c1 2)
      (((impl_bag_list N c2).bind fun r2 =>
        impl_Graph_hasKind_l0 N (fun x => some ((x, ()), ())) (fun (_ : Unit) => some ((true, ()), ())) N (tLen r2.1.1) 0 c.1 c.2 r2.1.1))
      (impl_Graph_hasKind_l1 N (fun x1 => some ((x1, ()), ())) (fun (_ : Unit) => some ((true, ()), ())) N c2 c.1 0 c.1 c.2))))
noncomputable def impl_Graph_hasKind_S (N : Nat) : FSum := ⟨impl_Graph_hasKind_ps, impl_Graph_hasKind_rs, fun x => impl_Graph_hasKind N x.1 x.2.1 x.2.2.1⟩
theorem impl_Graph_hasKind_run (N : Nat) (x : argsT impl_Graph_hasKind_ps) : impl_Graph_hasKind N x.1 x.2.1 x.2.2.1 = funF (impl_Graph_hasKind_G N) tab [impl_Graph_hasKind_l0_s N, impl_Graph_hasKind_l1_s N] Tryz.f128 impl_Graph_hasKind_ps impl_Graph_hasKind_rs x := by kernel_rfl
theorem impl_Graph_hasKind_pc (N : Nat) : PC Tryz.prog 128 (impl_Graph_hasKind_S N) := by
  have e : impl_Graph_hasKind_S N = ⟨impl_Graph_hasKind_ps, impl_Graph_hasKind_rs, funF (impl_Graph_hasKind_G N) tab [impl_Graph_hasKind_l0_s N, impl_Graph_hasKind_l1_s N] Tryz.f128 impl_Graph_hasKind_ps impl_Graph_hasKind_rs⟩ := congrArg (FSum.mk impl_Graph_hasKind_ps impl_Graph_hasKind_rs) (funext (impl_Graph_hasKind_run N))
  rw [e]
  exact fun_ok (c := impl_Graph_hasKind_code) progOk (impl_Graph_hasKind_gok N) (draw_ok progOk (impl_Graph_hasKind_gok N)) Tryz.call128 Tryz.func128 (by kernel_rfl) (lsOk_at (L := [impl_Graph_hasKind_l0_s N, impl_Graph_hasKind_l1_s N]) ⟨impl_Graph_hasKind_l0_ok N, impl_Graph_hasKind_l1_ok N, trivial⟩) (by kernel_rfl) (by kernel_rfl) (by kernel_rfl) (by kernel_rfl) (by kernel_rfl)

/-! ### impl_HasKind -/
abbrev impl_HasKind_ps : List (PV.Mode × Ty) := [(.ro, QILQII), (.ro, I), (.ro, LI)]
abbrev impl_HasKind_rs : List (Bool × Ty) := [(true, .bool), (true, .bool)]
noncomputable def impl_HasKind_G (N : Nat) : GTab := gOf [(127, impl_isSetCase_S N), (125, impl_bagOf_S N), (128, impl_Graph_hasKind_S N)]
theorem impl_HasKind_gok (N : Nat) : GOk Tryz.prog (impl_HasKind_G N) := gOf_ok ⟨impl_isSetCase_pc N, impl_bagOf_pc N, impl_Graph_hasKind_pc N, trivial⟩
noncomputable def impl_HasKind_code : Code := (Tryz.f29.body).getD .skip
noncomputable def impl_HasKind (N : Nat) (g : (Int × (List (Int × Int)))) (kind : Int) (setv : (List Int)) : Option ((Bool × Bool × Unit) × (Unit)) :=
  ((impl_isSetCase N (g.1, g.2) kind setv).bind fun r =>
    (br (!r.1.1)
      (some ((false, false, ()), ()))
      (((impl_bagOf N setv).bind fun r1 =>
        ((impl_Graph_hasKind N (g.1, g.2) kind r1.1.1).bind fun r2 =>
          some ((r2.1.1, true, ()), ()))))))
noncomputable def impl_HasKind_S (N : Nat) : FSum := ⟨impl_HasKind_ps, impl_HasKind_rs, fun x => impl_HasKind N x.1 x.2.1 x.2.2.1⟩
theorem impl_HasKind_run (N : Nat) (x : argsT impl_HasKind_ps) : impl_HasKind N x.1 x.2.1 x.2.2.1 = funF (impl_HasKind_G N) tab [] Tryz.f29 impl_HasKind_ps impl_HasKind_rs x := by kernel_rfl
theorem impl_HasKind_pc (N : Nat) : PC Tryz.prog 29 (impl_HasKind_S N) := by
  have e : impl_HasKind_S N = ⟨impl_HasKind_ps, impl_HasKind_rs, funF (impl_HasKind_G N) tab [] Tryz.f29 impl_HasKind_ps impl_HasKind_rs⟩ := congrArg (FSum.mk impl_HasKind_ps impl_HasKind_rs) (funext (impl_HasKind_run N))
  rw [e]
  exact fun_ok (c := impl_HasKind_code) progOk (impl_HasKind_gok N) (draw_ok progOk (impl_HasKind_gok N)) Tryz.call29 Tryz.func29 (by kernel_rfl) (lsOk_at (L := []) trivial) (by kernel_rfl) (by kernel_rfl) (by kernel_rfl) (by kernel_rfl) (by kernel_rfl)

/-! ### impl_isOfKind -/
abbrev impl_isOfKind_ps : List (PV.Mode × Ty) := [(.ro, QILQII), (.ro, I), (.ro, LI)]
abbrev impl_isOfKind_rs : List (Bool × Ty) := [(true, .bool)]
noncomputable def impl_isOfKind_G (N : Nat) : GTab := gOf [(29, impl_HasKind_S N)]
theorem impl_isOfKind_gok (N : Nat) : GOk Tryz.prog (impl_isOfKind_G N) := gOf_ok ⟨impl_HasKind_pc N, trivial⟩
noncomputable def impl_isOfKind_code : Code := (Tryz.f115.body).getD .skip
noncomputable def impl_isOfKind (N : Nat) (g : (Int × (List (Int × Int)))) (kind : Int) (setv : (List Int)) : Option ((Bool × Unit) × (Unit)) :=
  ((impl_HasKind N (g.1, g.2) kind setv).bind fun r =>
    some ((r.1.1, ()), ()))
noncomputable def impl_isOfKind_S (N : Nat) : FSum := ⟨impl_isOfKind_ps, impl_isOfKind_rs, fun x => impl_isOfKind N x.1 x.2.1 x.2.2.1⟩
theorem impl_isOfKind_run (N : Nat) (x : argsT impl_isOfKind_ps) : impl_isOfKind N x.1 x.2.1 x.2.2.1 = funF (impl_isOfKind_G N) tab [] Tryz.f115 impl_isOfKind_ps impl_isOfKind_rs x := by kernel_rfl
theorem impl_isOfKind_pc (N : Nat) : PC Tryz.prog 115 (impl_isOfKind_S N) := by
  have e : impl_isOfKind_S N = ⟨impl_isOfKind_ps, impl_isOfKind_rs, funF (impl_isOfKind_G N) tab [] Tryz.f115 impl_isOfKind_ps impl_isOfKind_rs⟩ := congrArg (FSum.mk impl_isOfKind_ps impl_isOfKind_rs) (funext (impl_isOfKind_run N))
  rw [e]
  exact fun_ok (c := impl_isOfKind_code) progOk (impl_isOfKind_gok N) (draw_ok progOk (impl_isOfKind_gok N)) Tryz.call115 Tryz.func115 (by kernel_rfl) (lsOk_at (L := []) trivial) (by kernel_rfl) (by kernel_rfl) (by kernel_rfl) (by kernel_rfl) (by kernel_rfl)

/-! ### slices_Compare_LI_int -/
abbrev slices_Compare_LI_int_ps : List (PV.Mode × Ty) := [(.ro, LI), (.ro, LI)]
abbrev slices_Compare_LI_int_rs : List (Bool × Ty) := [(true, I)]
noncomputable def slices_Compare_LI_int_G (N : Nat) : GTab := gOf [(253, cmp_Compare_int_S N)]
theorem slices_Compare_LI_int_gok (N : Nat) : GOk Tryz.prog (slices_Compare_LI_int_G N) := gOf_ok ⟨cmp_Compare_int_pc N, trivial⟩
noncomputable def slices_Compare_LI_int_code : Code := (Tryz.f166.body).getD .skip
noncomputable def slices_Compare_LI_int_l0_sh : Sh := ⟨[(0, .one (.ro LI)), (1, .one (.ro LI)), (9, .one (.ro LI)), (10, .one (.ro I)), (11, .one (.ro I))], []⟩
noncomputable def slices_Compare_LI_int_l0_ex : List (Ex × Sh) := [(.ret, ⟨[(4, .one (.ro I))], []⟩), (.exit 0, ⟨[(0, .one (.ro LI)), (1, .one (.ro LI))], []⟩)]
noncomputable def slices_Compare_LI_int_l0 {R : Type} (N : Nat) (k0 : Int → Option R) (k1 : (List Int) → (List Int) → Option R) : Nat → (List Int) → (List Int) → (List Int) → Int → Int → Option R
  | 0, _, _, _, _, _ => none
  | K + 1, s11, s21, x, x1, x2 =>
    (br (ilt x2 x1)
      ((chk (inb x x2)
        (br (ile (tLen s21) x2)
        (k0 1)
        ((chk (inb s21 x2)
          ((cmp_Compare_int N (rdI x x2) (rdI s21 x2)).bind fun r =>
          (br (ine r.1.1 0)
            (k0 r.1.1)
            (slices_Compare_LI_int_l0 N k0 k1 K s11 s21 x x1 (IntKind.i64.wrap (x2 + 1))))))))))
      (k1 s11 s21))
noncomputable def slices_Compare_LI_int_l0_again {R : Type} (N : Nat) (ks : (j : Nat) → ((slices_Compare_LI_int_l0_ex.getD j (.ret, Sh.none)).2).T → Option R) (k : Nat) (x : slices_Compare_LI_int_l0_sh.T) : Option R :=
  slices_Compare_LI_int_l0 N (fun y0 => ks 0 ((y0, ()), ())) (fun y0 y1 => ks 1 ((y0, y1, ()), ())) k x.1.1 x.1.2.1 x.1.2.2.1 x.1.2.2.2.1 x.1.2.2.2.2.1
noncomputable def slices_Compare_LI_int_l0_s (N : Nat) : LSum := ⟨slices_Compare_LI_int_l0_sh, slices_Compare_LI_int_l0_ex, fun x ks => slices_Compare_LI_int_l0_again N ks N x⟩
theorem slices_Compare_LI_int_l0_step (N : Nat) (R : Type) (k : Nat) (x : slices_Compare_LI_int_l0_sh.T) (ks : (j : Nat) → ((slices_Compare_LI_int_l0_ex.getD j (.ret, Sh.none)).2).T → Option R) : slices_Compare_LI_int_l0_again N ks (k + 1) x = roundF (slices_Compare_LI_int_G N) tab [] (loopAt slices_Compare_LI_int_code 0) slices_Compare_LI_int_l0_sh slices_Compare_LI_int_l0_ex (fun y => slices_Compare_LI_int_l0_again N ks k y) ks x := by kernel_rfl
theorem slices_Compare_LI_int_l0_ok (N : Nat) : LoopOk Tryz.prog Tryz.f166.ntmps (slices_Compare_LI_int_l0_s N) (loopAt slices_Compare_LI_int_code 0) :=
  loop_ok (l := slices_Compare_LI_int_l0_s N) progOk (slices_Compare_LI_int_gok N) (draw_ok progOk (slices_Compare_LI_int_gok N)) (fun R k x ks => slices_Compare_LI_int_l0_again N ks k x) (fun _ _ _ => rfl) (fun R k x ks => slices_Compare_LI_int_l0_step N R k x ks) (fun R x ks r h => ⟨N, h⟩) (lsOk_at (L := []) trivial) (by kernel_rfl) (by kernel_rfl)
noncomputable def slices_Compare_LI_int (N : Nat) (s1 : (List Int)) (s2 : (List Int)) : Option ((Int × Unit) × (Unit)) :=
  slices_Compare_LI_int_l0 N (fun x => some ((x, ()), ())) (fun s11 s21 => (br (ilt (tLen s11) (tLen s21))
    (some (((-1), ()), ()))
    (some ((0, ()), ())))) N s1 s2 s1 (tLen s1) 0
noncomputable def slices_Compare_LI_int_S (N : Nat) : FSum := ⟨slices_Compare_LI_int_ps, slices_Compare_LI_int_rs, fun x => slices_Compare_LI_int N x.1 x.2.1⟩
theorem slices_Compare_LI_int_run (N : Nat) (x : argsT slices_Compare_LI_int_ps) : slices_Compare_LI_int N x.1 x.2.1 = funF (slices_Compare_LI_int_G N) tab [slices_Compare_LI_int_l0_s N] Tryz.f166 slices_Compare_LI_int_ps slices_Compare_LI_int_rs x := by kernel_rfl
theorem slices_Compare_LI_int_pc (N : Nat) : PC Tryz.prog 166 (slices_Compare_LI_int_S N) := by
  have e : slices_Compare_LI_int_S N = ⟨slices_Compare_LI_int_ps, slices_Compare_LI_int_rs, funF (slices_Compare_LI_int_G N) tab [slices_Compare_LI_int_l0_s N] Tryz.f166 slices_Compare_LI_int_ps slices_Compare_LI_int_rs⟩ := congrArg (FSum.mk slices_Compare_LI_int_ps slices_Compare_LI_int_rs) (funext (slices_Compare_LI_int_run N))
  rw [e]
  exact fun_ok (c := slices_Compare_LI_int_code) progOk (slices_Compare_LI_int_gok N) (draw_ok progOk (slices_Compare_LI_int_gok N)) Tryz.call166 Tryz.func166 (by kernel_rfl) (lsOk_at (L := [slices_Compare_LI_int_l0_s N]) ⟨slices_Compare_LI_int_l0_ok N, trivial⟩) (by kernel_rfl) (by kernel_rfl) (by kernel_rfl) (by kernel_rfl) (by kernel_rfl)

/-! ### slices_SortFunc_LLI_LI_kslices_Compare_LI_int -/
abbrev slices_SortFunc_LLI_LI_kslices_Compare_LI_int_ps : List (PV.Mode × Ty) := [(.mut, LLI), (.own, K166Un)]
abbrev slices_SortFunc_LLI_LI_kslices_Compare_LI_int_rs : List (Bool × Ty) := []
noncomputable def slices_SortFunc_LLI_LI_kslices_Compare_LI_int (N : Nat) (x : List (List Int)) (_ : Unit) : Option (Unit × (List (List Int) × Unit)) := sortF (fun a b => (slices_Compare_LI_int N a b).map fun z => z.1.1) x
noncomputable def slices_SortFunc_LLI_LI_kslices_Compare_LI_int_S (N : Nat) : FSum := ⟨slices_SortFunc_LLI_LI_kslices_Compare_LI_int_ps, slices_SortFunc_LLI_LI_kslices_Compare_LI_int_rs, fun x => slices_SortFunc_LLI_LI_kslices_Compare_LI_int N x.1 x.2.1⟩
theorem slices_SortFunc_LLI_LI_kslices_Compare_LI_int_pc (N : Nat) : PC Tryz.prog 165 (slices_SortFunc_LLI_LI_kslices_Compare_LI_int_S N) := sortRows_pc (fc := fun a b => slices_Compare_LI_int N a b) (sortsAt Tryz.sortL) (sortsNone Tryz.sortL) Tryz.call165 (slices_Compare_LI_int_pc N)

/-! ### impl_Graph_sets -/
abbrev impl_Graph_sets_ps : List (PV.Mode × Ty) := [(.ro, QILQII), (.ro, FU64Bo)]
abbrev impl_Graph_sets_rs : List (Bool × Ty) := [(true, LLI)]
noncomputable def impl_Graph_sets_G (N : Nat) : GTab := gOf [(145, impl_Graph_all_S N), (134, impl_bag_list_S N), (165, slices_SortFunc_LLI_LI_kslices_Compare_LI_int_S N)]
theorem impl_Graph_sets_gok (N : Nat) : GOk Tryz.prog (impl_Graph_sets_G N) := gOf_ok ⟨impl_Graph_all_pc N, impl_bag_list_pc N, slices_SortFunc_LLI_LI_kslices_Compare_LI_int_pc N, trivial⟩
noncomputable def impl_Graph_sets_code : Code := (Tryz.f247.body).getD .skip
noncomputable def impl_Graph_sets_l0_sh : Sh := ⟨[(1, .one (.ro FU64Bo)), (2, .one (.adr 0 0)), (5, .one (.ref 1)), (6, .one (.ro U64))], [.box [.ro I, .ro LQII], .sl 25 LI .deep]⟩
noncomputable def impl_Graph_sets_l0_ex : List (Ex × Sh) := [(.exit 0, ⟨[(5, .one (.ref 0))], [.sl 25 LI .deep]⟩)]
noncomputable def impl_Graph_sets_l0 {R : Type} (N : Nat) (k0 : (List (List Int)) → Option R) : Nat → (Int → Option Bool) → Int → Int → (List (Int × Int)) → (List (List Int)) → Option R
  | 0, _, _, _, _, _ => none
  | K + 1, is1, b, o, o1, o2 =>
    ((impl_Graph_all N (o, o1)).bind fun r =>
      (br (ile b r.1.1)
        (((is1 b).bind fun v =>
          (br v
          (((impl_bag_list N b).bind fun r1 =>
            (chk (room o2 [r1.1.1])
              (impl_Graph_sets_l0 N k0 K is1 (IntKind.u64.wrap (b + 1)) o o1 (tApp o2 [r1.1.1])))))
          (impl_Graph_sets_l0 N k0 K is1 (IntKind.u64.wrap (b + 1)) o o1 o2))))
        (k0 o2)))
noncomputable def impl_Graph_sets_l0_again {R : Type} (N : Nat) (ks : (j : Nat) → ((impl_Graph_sets_l0_ex.getD j (.ret, Sh.none)).2).T → Option R) (k : Nat) (x : impl_Graph_sets_l0_sh.T) : Option R :=
  impl_Graph_sets_l0 N (fun y0 => ks 0 (((), ()), (y0, ()))) k x.1.1 x.1.2.2.2.1 x.2.1.1 x.2.1.2.1 x.2.2.1
noncomputable def impl_Graph_sets_l0_s (N : Nat) : LSum := ⟨impl_Graph_sets_l0_sh, impl_Graph_sets_l0_ex, fun x ks => impl_Graph_sets_l0_again N ks N x⟩
theorem impl_Graph_sets_l0_step (N : Nat) (R : Type) (k : Nat) (x : impl_Graph_sets_l0_sh.T) (ks : (j : Nat) → ((impl_Graph_sets_l0_ex.getD j (.ret, Sh.none)).2).T → Option R) : impl_Graph_sets_l0_again N ks (k + 1) x = roundF (impl_Graph_sets_G N) tab [] (loopAt impl_Graph_sets_code 0) impl_Graph_sets_l0_sh impl_Graph_sets_l0_ex (fun y => impl_Graph_sets_l0_again N ks k y) ks x := by kernel_rfl
theorem impl_Graph_sets_l0_ok (N : Nat) : LoopOk Tryz.prog Tryz.f247.ntmps (impl_Graph_sets_l0_s N) (loopAt impl_Graph_sets_code 0) :=
  loop_ok (l := impl_Graph_sets_l0_s N) progOk (impl_Graph_sets_gok N) (draw_ok progOk (impl_Graph_sets_gok N)) (fun R k x ks => impl_Graph_sets_l0_again N ks k x) (fun _ _ _ => rfl) (fun R k x ks => impl_Graph_sets_l0_step N R k x ks) (fun R x ks r h => ⟨N, h⟩) (lsOk_at (L := []) trivial) (by kernel_rfl) (by kernel_rfl)
noncomputable def impl_Graph_sets (N : Nat) (g : (Int × (List (Int × Int)))) (is : (Int → Option Bool)) : Option (((List (List Int)) × Unit) × (Unit)) :=
  impl_Graph_sets_l0 N (fun o => ((slices_SortFunc_LLI_LI_kslices_Compare_LI_int N o ()).bind fun r =>
    some ((r.2.1, ()), ()))) N is 0 g.1 g.2 []
noncomputable def impl_Graph_sets_S (N : Nat) : FSum := ⟨impl_Graph_sets_ps, impl_Graph_sets_rs, fun x => impl_Graph_sets N x.1 x.2.1⟩
theorem impl_Graph_sets_run (N : Nat) (x : argsT impl_Graph_sets_ps) : impl_Graph_sets N x.1 x.2.1 = funF (impl_Graph_sets_G N) tab [impl_Graph_sets_l0_s N] Tryz.f247 impl_Graph_sets_ps impl_Graph_sets_rs x := by kernel_rfl
theorem impl_Graph_sets_pc (N : Nat) : PC Tryz.prog 247 (impl_Graph_sets_S N) := by
  have e : impl_Graph_sets_S N = ⟨impl_Graph_sets_ps, impl_Graph_sets_rs, funF (impl_Graph_sets_G N) tab [impl_Graph_sets_l0_s N] Tryz.f247 impl_Graph_sets_ps impl_Graph_sets_rs⟩ := congrArg (FSum.mk impl_Graph_sets_ps impl_Graph_sets_rs) (funext (impl_Graph_sets_run N))
  rw [e]
  exact fun_ok (c := impl_Graph_sets_code) progOk (impl_Graph_sets_gok N) (draw_ok progOk (impl_Graph_sets_gok N)) Tryz.call247 Tryz.func247 (by kernel_rfl) (lsOk_at (L := [impl_Graph_sets_l0_s N]) ⟨impl_Graph_sets_l0_ok N, trivial⟩) (by kernel_rfl) (by kernel_rfl) (by kernel_rfl) (by kernel_rfl) (by kernel_rfl)

/-! ### math_bits_OnesCount64 -/
abbrev math_bits_OnesCount64_ps : List (PV.Mode × Ty) := [(.ro, U64)]
abbrev math_bits_OnesCount64_rs : List (Bool × Ty) := [(true, I)]
noncomputable def math_bits_OnesCount64_G (N : Nat) : GTab := gOf []
theorem math_bits_OnesCount64_gok (N : Nat) : GOk Tryz.prog (math_bits_OnesCount64_G N) := gOf_ok trivial
noncomputable def math_bits_OnesCount64_code : Code := (Tryz.f326.body).getD .skip
noncomputable def math_bits_OnesCount64 (N : Nat) (x : Int) : Option ((Int × Unit) × (Unit)) :=
  some (((bitop .and .i64 (IntKind.i64.wrap ((IntKind.u64.wrap ((IntKind.u64.wrap ((IntKind.u64.wrap ((bitop .and .u64 (IntKind.u64.wrap ((shrI .u64 (IntKind.u64.wrap ((bitop .and .u64 (shrI .u64 (IntKind.u64.wrap ((bitop .and .u64 (shrI .u64 x 1) 6148914691236517205) + (bitop .and .u64 x 6148914691236517205))) 2) 3689348814741910323) + (bitop .and .u64 (IntKind.u64.wrap ((bitop .and .u64 (shrI .u64 x 1) 6148914691236517205) + (bitop .and .u64 x 6148914691236517205))) 3689348814741910323))) 4) + (IntKind.u64.wrap ((bitop .and .u64 (shrI .u64 (IntKind.u64.wrap ((bitop .and .u64 (shrI .u64 x 1) 6148914691236517205) + (bitop .and .u64 x 6148914691236517205))) 2) 3689348814741910323) + (bitop .and .u64 (IntKind.u64.wrap ((bitop .and .u64 (shrI .u64 x 1) 6148914691236517205) + (bitop .and .u64 x 6148914691236517205))) 3689348814741910323))))) 1085102592571150095) + (shrI .u64 (bitop .and .u64 (IntKind.u64.wrap ((shrI .u64 (IntKind.u64.wrap ((bitop .and .u64 (shrI .u64 (IntKind.u64.wrap ((bitop .and .u64 (shrI .u64 x 1) 6148914691236517205) + (bitop .and .u64 x 6148914691236517205))) 2) 3689348814741910323) + (bitop .and .u64 (IntKind.u64.wrap ((bitop .and .u64 (shrI .u64 x 1) 6148914691236517205) + (bitop .and .u64 x 6148914691236517205))) 3689348814741910323))) 4) + (IntKind.u64.wrap ((bitop .and .u64 (shrI .u64 (IntKind.u64.wrap ((bitop .and .u64 (shrI .u64 x 1) 6148914691236517205) + (bitop .and .u64 x 6148914691236517205))) 2) 3689348814741910323) + (bitop .and .u64 (IntKind.u64.wrap ((bitop .and .u64 (shrI .u64 x 1) 6148914691236517205) + (bitop .and .u64 x 6148914691236517205))) 3689348814741910323))))) 1085102592571150095) 8))) + (shrI .u64 (IntKind.u64.wrap ((bitop .and .u64 (IntKind.u64.wrap ((shrI .u64 (IntKind.u64.wrap ((bitop .and .u64 (shrI .u64 (IntKind.u64.wrap ((bitop .and .u64 (shrI .u64 x 1) 6148914691236517205) + (bitop .and .u64 x 6148914691236517205))) 2) 3689348814741910323) + (bitop .and .u64 (IntKind.u64.wrap ((bitop .and .u64 (shrI .u64 x 1) 6148914691236517205) + (bitop .and .u64 x 6148914691236517205))) 3689348814741910323))) 4) + (IntKind.u64.wrap ((bitop .and .u64 (shrI .u64 (IntKind.u64.wrap ((bitop .and .u64 (shrI .u64 x 1) 6148914691236517205) + (bitop .and .u64 x 6148914691236517205))) 2) 3689348814741910323) + (bitop .and .u64 (IntKind.u64.wrap ((bitop .and .u64 (shrI .u64 x 1) 6148914691236517205) + (bitop .and .u64 x 6148914691236517205))) 3689348814741910323))))) 1085102592571150095) + (shrI .u64 (bitop .and .u64 (IntKind.u64.wrap ((shrI .u64 (IntKind.u64.wrap ((bitop .and .u64 (shrI .u64 (IntKind.u64.wrap ((bitop .and .u64 (shrI .u64 x 1) 6148914691236517205) + (bitop .and .u64 x 6148914691236517205))) 2) 3689348814741910323) + (bitop .and .u64 (IntKind.u64.wrap ((bitop .and .u64 (shrI .u64 x 1) 6148914691236517205) + (bitop .and .u64 x 6148914691236517205))) 3689348814741910323))) 4) + (IntKind.u64.wrap ((bitop .and .u64 (shrI .u64 (IntKind.u64.wrap ((bitop .and .u64 (shrI .u64 x 1) 6148914691236517205) + (bitop .and .u64 x 6148914691236517205))) 2) 3689348814741910323) + (bitop .and .u64 (IntKind.u64.wrap ((bitop .and .u64 (shrI .u64 x 1) 6148914691236517205) + (bitop .and .u64 x 6148914691236517205))) 3689348814741910323))))) 1085102592571150095) 8))) 16))) + (shrI .u64 (IntKind.u64.wrap ((IntKind.u64.wrap ((bitop .and .u64 (IntKind.u64.wrap ((shrI .u64 (IntKind.u64.wrap ((bitop .and .u64 (shrI .u64 (IntKind.u64.wrap ((bitop .and .u64 (shrI .u64 x 1) 6148914691236517205) + (bitop .and .u64 x 6148914691236517205))) 2) 3689348814741910323) + (bitop .and .u64 (IntKind.u64.wrap ((bitop .and .u64 (shrI .u64 x 1) 6148914691236517205) + (bitop .and .u64 x 6148914691236517205))) 3689348814741910323))) 4) + (IntKind.u64.wrap ((bitop .and .u64 (shrI .u64 (IntKind.u64.wrap ((bitop .and .u64 (shrI .u64 x 1) 6148914691236517205) + (bitop .and .u64 x 6148914691236517205))) 2) 3689348814741910323) + (bitop .and .u64 (IntKind.u64.wrap ((bitop .and .u64 (shrI .u64 x 1) 6148914691236517205) + (bitop .and .u64 x 6148914691236517205))) 3689348814741910323))))) 1085102592571150095) + (shrI .u64 (bitop .and .u64 (IntKind.u64.wrap ((shrI .u64 (IntKind.u64.wrap ((bitop .and .u64 (shrI .u64 (IntKind.u64.wrap ((bitop .and .u64 (shrI .u64 x 1) 6148914691236517205) + (bitop .and .u64 x 6148914691236517205))) 2) 3689348814741910323) + (bitop .and .u64 (IntKind.u64.wrap ((bitop .and .u64 (shrI .u64 x 1) 6148914691236517205) + (bitop .and .u64 x 6148914691236517205))) 3689348814741910323))) 4) + (IntKind.u64.wrap ((bitop .and .u64 (shrI .u64 (IntKind.u64.wrap ((bitop .and .u64 (shrI .u64 x 1) 6148914691236517205) + (bitop .and .u64 x 6148914691236517205))) 2) 3689348814741910323) + (bitop .and .u64 (IntKind.u64.wrap ((bitop .and .u64 (shrI .u64 x 1) 6148914691236517205) + (bitop .and .u64 x 6148914691236517205))) 3689348814741910323))))) 1085102592571150095) 8))) + (shrI .u64 (IntKind.u64.wrap ((bitop .and .u64 (IntKind.u64.wrap ((shrI .u64 (IntKind.u64.wrap ((bitop .and .u64 (shrI .u64 (IntKind.u64.wrap ((bitop .and .u64 (shrI .u64 x 1) 6148914691236517205) + (bitop .and .u64 x 6148914691236517205))) 2) 3689348814741910323) + (bitop .and .u64 (IntKind.u64.wrap ((bitop .and .u64 (shrI .u64 x 1) 6148914691236517205) + (bitop .and .u64 x 6148914691236517205))) 3689348814741910323))) 4) + (IntKind.u64.wrap ((bitop .and .u64 (shrI .u64 (IntKind.u64.wrap ((bitop .and .u64 (shrI .u64 x 1) 6148914691236517205) + (bitop .and .u64 x 6148914691236517205))) 2) 3689348814741910323) + (bitop .and .u64 (IntKind.u64.wrap ((bitop .and .u64 (shrI .u64 x 1) 6148914691236517205) + (bitop .and .u64 x 6148914691236517205))) 3689348814741910323))))) 1085102592571150095) + (shrI .u64 (bitop .and .u64 (IntKind.u64.wrap ((shrI .u64 (IntKind.u64.wrap ((bitop .and .u64 (shrI .u64 (IntKind.u64.wrap ((bitop .and .u64 (shrI .u64 x 1) 6148914691236517205) + (bitop .and .u64 x 6148914691236517205))) 2) 3689348814741910323) + (bitop .and .u64 (IntKind.u64.wrap ((bitop .and .u64 (shrI .u64 x 1) 6148914691236517205) + (bitop .and .u64 x 6148914691236517205))) 3689348814741910323))) 4) + (IntKind.u64.wrap ((bitop .and .u64 (shrI .u64 (IntKind.u64.wrap ((bitop .and .u64 (shrI .u64 x 1) 6148914691236517205) + (bitop .and .u64 x 6148914691236517205))) 2) 3689348814741910323) + (bitop .and .u64 (IntKind.u64.wrap ((bitop .and .u64 (shrI .u64 x 1) 6148914691236517205) + (bitop .and .u64 x 6148914691236517205))) 3689348814741910323))))) 1085102592571150095) 8))) 16))) 32))))) 127), ()), ())
noncomputable def math_bits_OnesCount64_S (N : Nat) : FSum := ⟨math_bits_OnesCount64_ps, math_bits_OnesCount64_rs, fun x => math_bits_OnesCount64 N x.1⟩
theorem math_bits_OnesCount64_run (N : Nat) (x : argsT math_bits_OnesCount64_ps) : math_bits_OnesCount64 N x.1 = funF (math_bits_OnesCount64_G N) tab [] Tryz.f326 math_bits_OnesCount64_ps math_bits_OnesCount64_rs x := by kernel_rfl
theorem math_bits_OnesCount64_pc (N : Nat) : PC Tryz.prog 326 (math_bits_OnesCount64_S N) := by
  have e : math_bits_OnesCount64_S N = ⟨math_bits_OnesCount64_ps, math_bits_OnesCount64_rs, funF (math_bits_OnesCount64_G N) tab [] Tryz.f326 math_bits_OnesCount64_ps math_bits_OnesCount64_rs⟩ := congrArg (FSum.mk math_bits_OnesCount64_ps math_bits_OnesCount64_rs) (funext (math_bits_OnesCount64_run N))
  rw [e]
  exact fun_ok (c := math_bits_OnesCount64_code) progOk (math_bits_OnesCount64_gok N) (draw_ok progOk (math_bits_OnesCount64_gok N)) Tryz.call326 Tryz.func326 (by kernel_rfl) (lsOk_at (L := []) trivial) (by kernel_rfl) (by kernel_rfl) (by kernel_rfl) (by kernel_rfl) (by kernel_rfl)

/-! ### math_bits_OnesCount -/
abbrev math_bits_OnesCount_ps : List (PV.Mode × Ty) := [(.ro, U64)]
abbrev math_bits_OnesCount_rs : List (Bool × Ty) := [(true, I)]
noncomputable def math_bits_OnesCount_G (N : Nat) : GTab := gOf [(326, math_bits_OnesCount64_S N)]
theorem math_bits_OnesCount_gok (N : Nat) : GOk Tryz.prog (math_bits_OnesCount_G N) := gOf_ok ⟨math_bits_OnesCount64_pc N, trivial⟩
noncomputable def math_bits_OnesCount_code : Code := (Tryz.f268.body).getD .skip
noncomputable def math_bits_OnesCount (N : Nat) (x : Int) : Option ((Int × Unit) × (Unit)) :=
  ((math_bits_OnesCount64 N x).bind fun r =>
    some ((r.1.1, ()), ()))
noncomputable def math_bits_OnesCount_S (N : Nat) : FSum := ⟨math_bits_OnesCount_ps, math_bits_OnesCount_rs, fun x => math_bits_OnesCount N x.1⟩
theorem math_bits_OnesCount_run (N : Nat) (x : argsT math_bits_OnesCount_ps) : math_bits_OnesCount N x.1 = funF (math_bits_OnesCount_G N) tab [] Tryz.f268 math_bits_OnesCount_ps math_bits_OnesCount_rs x := by kernel_rfl
theorem math_bits_OnesCount_pc (N : Nat) : PC Tryz.prog 268 (math_bits_OnesCount_S N) := by
  have e : math_bits_OnesCount_S N = ⟨math_bits_OnesCount_ps, math_bits_OnesCount_rs, funF (math_bits_OnesCount_G N) tab [] Tryz.f268 math_bits_OnesCount_ps math_bits_OnesCount_rs⟩ := congrArg (FSum.mk math_bits_OnesCount_ps math_bits_OnesCount_rs) (funext (math_bits_OnesCount_run N))
  rw [e]
  exact fun_ok (c := math_bits_OnesCount_code) progOk (math_bits_OnesCount_gok N) (draw_ok progOk (math_bits_OnesCount_gok N)) Tryz.call268 Tryz.func268 (by kernel_rfl) (lsOk_at (L := []) trivial) (by kernel_rfl) (by kernel_rfl) (by kernel_rfl) (by kernel_rfl) (by kernel_rfl)

/-! ### impl_bag_size -/
abbrev impl_bag_size_ps : List (PV.Mode × Ty) := [(.ro, U64)]
abbrev impl_bag_size_rs : List (Bool × Ty) := [(true, I)]
noncomputable def impl_bag_size_G (N : Nat) : GTab := gOf [(268, math_bits_OnesCount_S N)]
theorem impl_bag_size_gok (N : Nat) : GOk Tryz.prog (impl_bag_size_G N) := gOf_ok ⟨math_bits_OnesCount_pc N, trivial⟩
noncomputable def impl_bag_size_code : Code := (Tryz.f194.body).getD .skip
noncomputable def impl_bag_size (N : Nat) (b : Int) : Option ((Int × Unit) × (Unit)) :=
  ((math_bits_OnesCount N b).bind fun r =>
    some ((r.1.1, ()), ()))
noncomputable def impl_bag_size_S (N : Nat) : FSum := ⟨impl_bag_size_ps, impl_bag_size_rs, fun x => impl_bag_size N x.1⟩
theorem impl_bag_size_run (N : Nat) (x : argsT impl_bag_size_ps) : impl_bag_size N x.1 = funF (impl_bag_size_G N) tab [] Tryz.f194 impl_bag_size_ps impl_bag_size_rs x := by kernel_rfl
theorem impl_bag_size_pc (N : Nat) : PC Tryz.prog 194 (impl_bag_size_S N) := by
  have e : impl_bag_size_S N = ⟨impl_bag_size_ps, impl_bag_size_rs, funF (impl_bag_size_G N) tab [] Tryz.f194 impl_bag_size_ps impl_bag_size_rs⟩ := congrArg (FSum.mk impl_bag_size_ps impl_bag_size_rs) (funext (impl_bag_size_run N))
  rw [e]
  exact fun_ok (c := impl_bag_size_code) progOk (impl_bag_size_gok N) (draw_ok progOk (impl_bag_size_gok N)) Tryz.call194 Tryz.func194 (by kernel_rfl) (lsOk_at (L := []) trivial) (by kernel_rfl) (by kernel_rfl) (by kernel_rfl) (by kernel_rfl) (by kernel_rfl)

/-! ### impl_Graph_threshold_c1 -/
abbrev impl_Graph_threshold_c1_ps : List (PV.Mode × Ty) := [(.ro, U64), (.ro, AI), (.ro, AI), (.ro, AQILQII)]
abbrev impl_Graph_threshold_c1_rs : List (Bool × Ty) := [(true, .bool)]
noncomputable def impl_Graph_threshold_c1_G (N : Nat) : GTab := gOf [(194, impl_bag_size_S N), (128, impl_Graph_hasKind_S N)]
theorem impl_Graph_threshold_c1_gok (N : Nat) : GOk Tryz.prog (impl_Graph_threshold_c1_G N) := gOf_ok ⟨impl_bag_size_pc N, impl_Graph_hasKind_pc N, trivial⟩
noncomputable def impl_Graph_threshold_c1_code : Code := (Tryz.f257.body).getD .skip
noncomputable def impl_Graph_threshold_c1 (N : Nat) (b : Int) (c : Int) (c1 : Int) (c2 : (Int × (List (Int × Int)))) : Option ((Bool × Unit) × (Unit)) :=
  (br (ieq c 2)
    (((impl_bag_size N b).bind fun r =>
      (br (ilt r.1.1 c1)
        (some ((false, ()), ()))
        ((br (ine c 2)
          (((impl_bag_size N b).bind fun r1 =>
            (br (ilt c1 r1.1.1)
              (some ((false, ()), ()))
              (((impl_Graph_hasKind N c2 c b).bind fun r2 =>
                some ((r2.1.1, ()), ()))))))
          (((impl_Graph_hasKind N c2 c b).bind fun r3 =>
            some ((r3.1.1, ()), ()))))))))
    ((br (ine c 2)
      (((impl_bag_size N b).bind fun r4 =>
        (br (ilt c1 r4.1.1)
          (some ((false, ()), ()))
          (((impl_Graph_hasKind N c2 c b).bind fun r5 =>
            some ((r5.1.1, ()), ()))))))
      (((impl_Graph_hasKind N c2 c b).bind fun r6 =>
        some ((r6.1.1, ()), ()))))))
noncomputable def impl_Graph_threshold_c1_S (N : Nat) : FSum := ⟨impl_Graph_threshold_c1_ps, impl_Graph_threshold_c1_rs, fun x => impl_Graph_threshold_c1 N x.1 x.2.1 x.2.2.1 x.2.2.2.1⟩
theorem impl_Graph_threshold_c1_run (N : Nat) (x : argsT impl_Graph_threshold_c1_ps) : impl_Graph_threshold_c1 N x.1 x.2.1 x.2.2.1 x.2.2.2.1 = funF (impl_Graph_threshold_c1_G N) tab [] Tryz.f257 impl_Graph_threshold_c1_ps impl_Graph_threshold_c1_rs x := by kernel_rfl
theorem impl_Graph_threshold_c1_pc (N : Nat) : PC Tryz.prog 257 (impl_Graph_threshold_c1_S N) := by
  have e : impl_Graph_threshold_c1_S N = ⟨impl_Graph_threshold_c1_ps, impl_Graph_threshold_c1_rs, funF (impl_Graph_threshold_c1_G N) tab [] Tryz.f257 impl_Graph_threshold_c1_ps impl_Graph_threshold_c1_rs⟩ := congrArg (FSum.mk impl_Graph_threshold_c1_ps impl_Graph_threshold_c1_rs) (funext (impl_Graph_threshold_c1_run N))
  rw [e]
  exact fun_ok (c := impl_Graph_threshold_c1_code) progOk (impl_Graph_threshold_c1_gok N) (draw_ok progOk (impl_Graph_threshold_c1_gok N)) Tryz.call257 Tryz.func257 (by kernel_rfl) (lsOk_at (L := []) trivial) (by kernel_rfl) (by kernel_rfl) (by kernel_rfl) (by kernel_rfl) (by kernel_rfl)

/-! ### impl_spaceOf -/
abbrev impl_spaceOf_ps : List (PV.Mode × Ty) := [(.own, LLI), (.ro, GLILIBo)]
abbrev impl_spaceOf_rs : List (Bool × Ty) := [(true, QLLILQII)]
noncomputable def impl_spaceOf_G (N : Nat) : GTab := gOf [(165, slices_SortFunc_LLI_LI_kslices_Compare_LI_int_S N)]
theorem impl_spaceOf_gok (N : Nat) : GOk Tryz.prog (impl_spaceOf_G N) := gOf_ok ⟨slices_SortFunc_LLI_LI_kslices_Compare_LI_int_pc N, trivial⟩
noncomputable def impl_spaceOf_code : Code := (Tryz.f158.body).getD .skip
noncomputable def impl_spaceOf_l0_0_sh : Sh := ⟨[(1, .one (.ro GLILIBo)), (4, .one (.adr 0 0)), (5, .one (.adr 1 0)), (6, .one (.ro I)), (7, .one (.el 2)), (16, .one (.ref 2)), (17, .one (.ro I)), (18, .one (.ro I)), (27, .one (.sub 2 1)), (28, .one (.ro I)), (29, .one (.ro I))], [.box [.nilsl, .nilsl], .box [.ref 2, .ref 3], .sl 25 LI .deep, .sl 123 QII .own]⟩
noncomputable def impl_spaceOf_l0_0_ex : List (Ex × Sh) := [(.exit 2, ⟨[(1, .one (.ro GLILIBo)), (4, .one (.adr 0 0)), (5, .one (.adr 1 0)), (16, .one (.ref 2)), (17, .one (.ro I)), (18, .one (.ro I))], [.box [.nilsl, .nilsl], .box [.ref 2, .ref 3], .sl 25 LI .deep, .sl 123 QII .own]⟩)]
noncomputable def impl_spaceOf_l0_0 {R : Type} (N : Nat) (k0 : ((List Int) → (List Int) → Option Bool) → Int → Int → (List (List Int)) → (List (Int × Int)) → Option R) : Nat → ((List Int) → (List Int) → Option Bool) → Int → Int → Int → Int → Int → Int → Int → Int → (List (List Int)) → (List (Int × Int)) → Option R
  | 0, _, _, _, _, _, _, _, _, _, _, _ => none
  | K + 1, isStep2, i, a, x2, x3, x4, x5, x6, x7, o2, o3 =>
    (br (ilt x7 x6)
      ((chk (ile 0 x7 && ilt x7 (x5 - x4))
        ((isStep2 (rdL o2 a) (rdL o2 (x4 + x7))).bind fun v =>
        (br v
        ((chk (room o3 [(i, (IntKind.i64.wrap ((IntKind.i64.wrap (i + 1)) + x7)))])
          (impl_spaceOf_l0_0 N k0 K isStep2 i a x2 x3 x4 x5 x6 (IntKind.i64.wrap (x7 + 1)) o2 (tApp o3 [(i, (IntKind.i64.wrap ((IntKind.i64.wrap (i + 1)) + x7)))]))))
        (impl_spaceOf_l0_0 N k0 K isStep2 i a x2 x3 x4 x5 x6 (IntKind.i64.wrap (x7 + 1)) o2 o3)))))
      (k0 isStep2 x2 x3 o2 o3))
noncomputable def impl_spaceOf_l0_0_again {R : Type} (N : Nat) (ks : (j : Nat) → ((impl_spaceOf_l0_0_ex.getD j (.ret, Sh.none)).2).T → Option R) (k : Nat) (x : impl_spaceOf_l0_0_sh.T) : Option R :=
  impl_spaceOf_l0_0 N (fun y0 y1 y2 y3 y4 => ks 0 ((y0, (), (), (), y1, y2, ()), (((), (), ()), ((), (), ()), y3, y4, ()))) k x.1.1 x.1.2.2.2.1 x.1.2.2.2.2.1 x.1.2.2.2.2.2.2.1 x.1.2.2.2.2.2.2.2.1 x.1.2.2.2.2.2.2.2.2.1.1 x.1.2.2.2.2.2.2.2.2.1.2 x.1.2.2.2.2.2.2.2.2.2.1 x.1.2.2.2.2.2.2.2.2.2.2.1 x.2.2.2.1 x.2.2.2.2.1
noncomputable def impl_spaceOf_l0_0_s (N : Nat) : LSum := ⟨impl_spaceOf_l0_0_sh, impl_spaceOf_l0_0_ex, fun x ks => impl_spaceOf_l0_0_again N ks N x⟩
theorem impl_spaceOf_l0_0_step (N : Nat) (R : Type) (k : Nat) (x : impl_spaceOf_l0_0_sh.T) (ks : (j : Nat) → ((impl_spaceOf_l0_0_ex.getD j (.ret, Sh.none)).2).T → Option R) : impl_spaceOf_l0_0_again N ks (k + 1) x = roundF (impl_spaceOf_G N) tab [] (loopAt (loopAt impl_spaceOf_code 0) 0) impl_spaceOf_l0_0_sh impl_spaceOf_l0_0_ex (fun y => impl_spaceOf_l0_0_again N ks k y) ks x := by kernel_rfl
theorem impl_spaceOf_l0_0_ok (N : Nat) : LoopOk Tryz.prog Tryz.f158.ntmps (impl_spaceOf_l0_0_s N) (loopAt (loopAt impl_spaceOf_code 0) 0) :=
  loop_ok (l := impl_spaceOf_l0_0_s N) progOk (impl_spaceOf_gok N) (draw_ok progOk (impl_spaceOf_gok N)) (fun R k x ks => impl_spaceOf_l0_0_again N ks k x) (fun _ _ _ => rfl) (fun R k x ks => impl_spaceOf_l0_0_step N R k x ks) (fun R x ks r h => ⟨N, h⟩) (lsOk_at (L := []) trivial) (by kernel_rfl) (by kernel_rfl)
noncomputable def impl_spaceOf_l0_sh : Sh := ⟨[(1, .one (.ro GLILIBo)), (4, .one (.adr 0 0)), (5, .one (.adr 1 0)), (16, .one (.ref 2)), (17, .one (.ro I)), (18, .one (.ro I))], [.box [.nilsl, .nilsl], .box [.ref 2, .ref 3], .sl 25 LI .deep, .sl 123 QII .own]⟩
noncomputable def impl_spaceOf_l0_ex : List (Ex × Sh) := [(.exit 0, ⟨[(4, .one (.adr 0 0)), (5, .one (.adr 1 0))], [.box [.nilsl, .nilsl], .box [.ref 2, .ref 3], .sl 25 LI .deep, .sl 123 QII .own]⟩)]
noncomputable def impl_spaceOf_l0 {R : Type} (N : Nat) (k0 : (List (List Int)) → (List (Int × Int)) → Option R) : Nat → ((List Int) → (List Int) → Option Bool) → Int → Int → (List (List Int)) → (List (Int × Int)) → Option R
  | 0, _, _, _, _, _ => none
  | K + 1, isStep1, x, x1, o, o1 =>
    (br (ilt x1 x)
      ((chk (inb o x1)
        (chk (ile 0 (IntKind.i64.wrap (x1 + 1)) && ile (IntKind.i64.wrap (x1 + 1)) (tLen o) && ile (tLen o) (tLen o))
        (impl_spaceOf_l0_0 N (fun isStep2 x2 x3 o2 o3 => impl_spaceOf_l0 N k0 K isStep2 x2 (IntKind.i64.wrap (x3 + 1)) o2 o3) N isStep1 x1 x1 x x1 (IntKind.i64.wrap (x1 + 1)) (tLen o) ((tLen o) - (IntKind.i64.wrap (x1 + 1))) 0 o o1))))
      (k0 o o1))
noncomputable def impl_spaceOf_l0_again {R : Type} (N : Nat) (ks : (j : Nat) → ((impl_spaceOf_l0_ex.getD j (.ret, Sh.none)).2).T → Option R) (k : Nat) (x : impl_spaceOf_l0_sh.T) : Option R :=
  impl_spaceOf_l0 N (fun y0 y1 => ks 0 (((), (), ()), (((), (), ()), ((), (), ()), y0, y1, ()))) k x.1.1 x.1.2.2.2.2.1 x.1.2.2.2.2.2.1 x.2.2.2.1 x.2.2.2.2.1
noncomputable def impl_spaceOf_l0_s (N : Nat) : LSum := ⟨impl_spaceOf_l0_sh, impl_spaceOf_l0_ex, fun x ks => impl_spaceOf_l0_again N ks N x⟩
theorem impl_spaceOf_l0_step (N : Nat) (R : Type) (k : Nat) (x : impl_spaceOf_l0_sh.T) (ks : (j : Nat) → ((impl_spaceOf_l0_ex.getD j (.ret, Sh.none)).2).T → Option R) : impl_spaceOf_l0_again N ks (k + 1) x = roundF (impl_spaceOf_G N) tab [impl_spaceOf_l0_0_s N] (loopAt impl_spaceOf_code 0) impl_spaceOf_l0_sh impl_spaceOf_l0_ex (fun y => impl_spaceOf_l0_again N ks k y) ks x := by kernel_rfl
theorem impl_spaceOf_l0_ok (N : Nat) : LoopOk Tryz.prog Tryz.f158.ntmps (impl_spaceOf_l0_s N) (loopAt impl_spaceOf_code 0) :=
  loop_ok (l := impl_spaceOf_l0_s N) progOk (impl_spaceOf_gok N) (draw_ok progOk (impl_spaceOf_gok N)) (fun R k x ks => impl_spaceOf_l0_again N ks k x) (fun _ _ _ => rfl) (fun R k x ks => impl_spaceOf_l0_step N R k x ks) (fun R x ks r h => ⟨N, h⟩) (lsOk_at (L := [impl_spaceOf_l0_0_s N]) ⟨impl_spaceOf_l0_0_ok N, trivial⟩) (by kernel_rfl) (by kernel_rfl)
noncomputable def impl_spaceOf (N : Nat) (states : (List (List Int))) (isStep : ((List Int) → (List Int) → Option Bool)) : Option ((((List (List Int)) × (List (Int × Int))) × Unit) × (Unit)) :=
  ((slices_SortFunc_LLI_LI_kslices_Compare_LI_int N states ()).bind fun r =>
    impl_spaceOf_l0 N (fun o o1 => some (((o, o1), ()), ())) N isStep (tLen r.2.1) 0 r.2.1 [])
noncomputable def impl_spaceOf_S (N : Nat) : FSum := ⟨impl_spaceOf_ps, impl_spaceOf_rs, fun x => impl_spaceOf N x.1 x.2.1⟩
theorem impl_spaceOf_run (N : Nat) (x : argsT impl_spaceOf_ps) : impl_spaceOf N x.1 x.2.1 = funF (impl_spaceOf_G N) tab [impl_spaceOf_l0_s N] Tryz.f158 impl_spaceOf_ps impl_spaceOf_rs x := by kernel_rfl
theorem impl_spaceOf_pc (N : Nat) : PC Tryz.prog 158 (impl_spaceOf_S N) := by
  have e : impl_spaceOf_S N = ⟨impl_spaceOf_ps, impl_spaceOf_rs, funF (impl_spaceOf_G N) tab [impl_spaceOf_l0_s N] Tryz.f158 impl_spaceOf_ps impl_spaceOf_rs⟩ := congrArg (FSum.mk impl_spaceOf_ps impl_spaceOf_rs) (funext (impl_spaceOf_run N))
  rw [e]
  exact fun_ok (c := impl_spaceOf_code) progOk (impl_spaceOf_gok N) (draw_ok progOk (impl_spaceOf_gok N)) Tryz.call158 Tryz.func158 (by kernel_rfl) (lsOk_at (L := [impl_spaceOf_l0_s N]) ⟨impl_spaceOf_l0_ok N, trivial⟩) (by kernel_rfl) (by kernel_rfl) (by kernel_rfl) (by kernel_rfl) (by kernel_rfl)
end Go.Proofs.YtbnjcjpnpidhmaaGreat
