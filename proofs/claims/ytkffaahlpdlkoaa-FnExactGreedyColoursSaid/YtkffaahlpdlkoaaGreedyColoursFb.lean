/- Functions of the program as functions on data. -/
import Derived.Test.YtkffaahlpdlkoaaGreedyColoursFa
set_option linter.all false
namespace Go.Proofs.Ytkffaahlpdlkoaa
open Go Go.PV
/-! ### math_bits_Mul64 -/
abbrev math_bits_Mul64_ps : List (PV.Mode × Ty) := [(.ro, U64), (.ro, U64)]
abbrev math_bits_Mul64_rs : List (Bool × Ty) := [(true, U64), (true, U64)]
noncomputable def math_bits_Mul64_G (N : Nat) : GTab := gOf []
theorem math_bits_Mul64_gok (N : Nat) : GOk Try.prog (math_bits_Mul64_G N) := gOf_ok trivial
noncomputable def math_bits_Mul64_code : Code := (Try.f61.body).getD .skip
noncomputable def math_bits_Mul64 (N : Nat) (x : Int) (y : Int) : Option ((Int × Int × Unit) × (Unit)) :=
  some (((IntKind.u64.wrap ((IntKind.u64.wrap ((IntKind.u64.wrap ((shrI .u64 x 32) * (shrI .u64 y 32))) + (shrI .u64 (IntKind.u64.wrap ((IntKind.u64.wrap ((shrI .u64 x 32) * (bitop .and .u64 y 4294967295))) + (shrI .u64 (IntKind.u64.wrap ((bitop .and .u64 x 4294967295) * (bitop .and .u64 y 4294967295))) 32))) 32))) + (shrI .u64 (IntKind.u64.wrap ((bitop .and .u64 (IntKind.u64.wrap ((IntKind.u64.wrap ((shrI .u64 x 32) * (bitop .and .u64 y 4294967295))) + (shrI .u64 (IntKind.u64.wrap ((bitop .and .u64 x 4294967295) * (bitop .and .u64 y 4294967295))) 32))) 4294967295) + (IntKind.u64.wrap ((bitop .and .u64 x 4294967295) * (shrI .u64 y 32))))) 32))), (IntKind.u64.wrap (x * y)), ()), ())
noncomputable def math_bits_Mul64_S (N : Nat) : FSum := ⟨math_bits_Mul64_ps, math_bits_Mul64_rs, fun x => math_bits_Mul64 N x.1 x.2.1⟩
theorem math_bits_Mul64_run (N : Nat) (x : argsT math_bits_Mul64_ps) : math_bits_Mul64 N x.1 x.2.1 = funF (math_bits_Mul64_G N) tab [] Try.f61 math_bits_Mul64_ps math_bits_Mul64_rs x := by kernel_rfl
theorem math_bits_Mul64_pc (N : Nat) : PC Try.prog 61 (math_bits_Mul64_S N) := by
  have e : math_bits_Mul64_S N = ⟨math_bits_Mul64_ps, math_bits_Mul64_rs, funF (math_bits_Mul64_G N) tab [] Try.f61 math_bits_Mul64_ps math_bits_Mul64_rs⟩ := congrArg (FSum.mk math_bits_Mul64_ps math_bits_Mul64_rs) (funext (math_bits_Mul64_run N))
  rw [e]
  exact fun_ok (c := math_bits_Mul64_code) progOk (math_bits_Mul64_gok N) (draw_ok progOk (math_bits_Mul64_gok N)) Try.call61 Try.func61 (by kernel_rfl) (lsOk_at (L := []) trivial) (by kernel_rfl) (by kernel_rfl) (by kernel_rfl) (by kernel_rfl) (by kernel_rfl)

/-! ### math_bits_Mul -/
abbrev math_bits_Mul_ps : List (PV.Mode × Ty) := [(.ro, U64), (.ro, U64)]
abbrev math_bits_Mul_rs : List (Bool × Ty) := [(true, U64), (true, U64)]
noncomputable def math_bits_Mul_G (N : Nat) : GTab := gOf [(61, math_bits_Mul64_S N)]
theorem math_bits_Mul_gok (N : Nat) : GOk Try.prog (math_bits_Mul_G N) := gOf_ok ⟨math_bits_Mul64_pc N, trivial⟩
noncomputable def math_bits_Mul_code : Code := (Try.f48.body).getD .skip
noncomputable def math_bits_Mul (N : Nat) (x : Int) (y : Int) : Option ((Int × Int × Unit) × (Unit)) :=
  ((math_bits_Mul64 N x y).bind fun r =>
    some ((r.1.1, r.1.2.1, ()), ()))
noncomputable def math_bits_Mul_S (N : Nat) : FSum := ⟨math_bits_Mul_ps, math_bits_Mul_rs, fun x => math_bits_Mul N x.1 x.2.1⟩
theorem math_bits_Mul_run (N : Nat) (x : argsT math_bits_Mul_ps) : math_bits_Mul N x.1 x.2.1 = funF (math_bits_Mul_G N) tab [] Try.f48 math_bits_Mul_ps math_bits_Mul_rs x := by kernel_rfl
theorem math_bits_Mul_pc (N : Nat) : PC Try.prog 48 (math_bits_Mul_S N) := by
  have e : math_bits_Mul_S N = ⟨math_bits_Mul_ps, math_bits_Mul_rs, funF (math_bits_Mul_G N) tab [] Try.f48 math_bits_Mul_ps math_bits_Mul_rs⟩ := congrArg (FSum.mk math_bits_Mul_ps math_bits_Mul_rs) (funext (math_bits_Mul_run N))
  rw [e]
  exact fun_ok (c := math_bits_Mul_code) progOk (math_bits_Mul_gok N) (draw_ok progOk (math_bits_Mul_gok N)) Try.call48 Try.func48 (by kernel_rfl) (lsOk_at (L := []) trivial) (by kernel_rfl) (by kernel_rfl) (by kernel_rfl) (by kernel_rfl) (by kernel_rfl)

/-! ### slices_Repeat_LI_int -/
abbrev slices_Repeat_LI_int_ps : List (PV.Mode × Ty) := [(.ro, LI), (.ro, I)]
abbrev slices_Repeat_LI_int_rs : List (Bool × Ty) := [(true, LI)]
noncomputable def slices_Repeat_LI_int_G (N : Nat) : GTab := gOf [(48, math_bits_Mul_S N)]
theorem slices_Repeat_LI_int_gok (N : Nat) : GOk Try.prog (slices_Repeat_LI_int_G N) := gOf_ok ⟨math_bits_Mul_pc N, trivial⟩
noncomputable def slices_Repeat_LI_int_code : Code := (Try.f29.body).getD .skip
noncomputable def slices_Repeat_LI_int_l0_sh : Sh := ⟨[(7, .one (.ref 0)), (8, .one (.ro I))], [.sl 3 I .own]⟩
noncomputable def slices_Repeat_LI_int_l0_ex : List (Ex × Sh) := [(.exit 0, ⟨[(7, .one (.ref 0))], [.sl 3 I .own]⟩)]
noncomputable def slices_Repeat_LI_int_l0 {R : Type} (N : Nat) (k0 : (List Int) → Option R) : Nat → Int → (List Int) → Option R
  | 0, _, _ => none
  | K + 1, n, o =>
    (br (ilt n (tLen o))
      ((chk (ile 0 n && ile n (tLen o) && ile (tLen o) (tLen o))
        (chk (ile 0 0 && ile 0 n && ile n (tLen o))
        (slices_Repeat_LI_int_l0 N k0 K (IntKind.i64.wrap (n + (tMin ((tLen o) - n) (tLen (tCut o 0 n))))) (tPut o n (tCut (tCut o 0 n) 0 (tMin ((tLen o) - n) (tLen (tCut o 0 n)))))))))
      (k0 o))
noncomputable def slices_Repeat_LI_int_l0_again {R : Type} (N : Nat) (ks : (j : Nat) → ((slices_Repeat_LI_int_l0_ex.getD j (.ret, Sh.none)).2).T → Option R) (k : Nat) (x : slices_Repeat_LI_int_l0_sh.T) : Option R :=
  slices_Repeat_LI_int_l0 N (fun y0 => ks 0 (((), ()), (y0, ()))) k x.1.2.1 x.2.1
noncomputable def slices_Repeat_LI_int_l0_s (N : Nat) : LSum := ⟨slices_Repeat_LI_int_l0_sh, slices_Repeat_LI_int_l0_ex, fun x ks => slices_Repeat_LI_int_l0_again N ks N x⟩
theorem slices_Repeat_LI_int_l0_step (N : Nat) (R : Type) (k : Nat) (x : slices_Repeat_LI_int_l0_sh.T) (ks : (j : Nat) → ((slices_Repeat_LI_int_l0_ex.getD j (.ret, Sh.none)).2).T → Option R) : slices_Repeat_LI_int_l0_again N ks (k + 1) x = roundF (slices_Repeat_LI_int_G N) tab [] (loopAt slices_Repeat_LI_int_code 0) slices_Repeat_LI_int_l0_sh slices_Repeat_LI_int_l0_ex (fun y => slices_Repeat_LI_int_l0_again N ks k y) ks x := by kernel_rfl
theorem slices_Repeat_LI_int_l0_ok (N : Nat) : LoopOk Try.prog Try.f29.ntmps (slices_Repeat_LI_int_l0_s N) (loopAt slices_Repeat_LI_int_code 0) :=
  loop_ok (l := slices_Repeat_LI_int_l0_s N) progOk (slices_Repeat_LI_int_gok N) (draw_ok progOk (slices_Repeat_LI_int_gok N)) (fun R k x ks => slices_Repeat_LI_int_l0_again N ks k x) (fun _ _ _ => rfl) (fun R k x ks => slices_Repeat_LI_int_l0_step N R k x ks) (fun R x ks r h => ⟨N, h⟩) (lsOk_at (L := []) trivial) (by kernel_rfl) (by kernel_rfl)
noncomputable def slices_Repeat_LI_int (N : Nat) (x : (List Int)) (count : Int) : Option (((List Int) × Unit) × (Unit)) :=
  (br (ilt count 0)
    (none)
    (((math_bits_Mul N (IntKind.u64.wrap ((tLen x))) (IntKind.u64.wrap (count))).bind fun r =>
      (br (ilt 0 r.1.1)
        (none)
        ((br (ilt 9223372036854775807 r.1.2.1)
          (none)
          ((chk (ile 0 (IntKind.i64.wrap (r.1.2.1)) && ile (IntKind.i64.wrap (r.1.2.1)) (IntKind.i64.wrap (r.1.2.1)) && fits (IntKind.i64.wrap (r.1.2.1)))
            (slices_Repeat_LI_int_l0 N (fun o => some ((o, ()), ())) N (tMin (tLen (tRep (IntKind.i64.wrap (r.1.2.1)) (0 : Int))) (tLen x)) (tPut (tRep (IntKind.i64.wrap (r.1.2.1)) (0 : Int)) 0 (tCut x 0 (tMin (tLen (tRep (IntKind.i64.wrap (r.1.2.1)) (0 : Int))) (tLen x)))))))))))))
noncomputable def slices_Repeat_LI_int_S (N : Nat) : FSum := ⟨slices_Repeat_LI_int_ps, slices_Repeat_LI_int_rs, fun x => slices_Repeat_LI_int N x.1 x.2.1⟩
theorem slices_Repeat_LI_int_run (N : Nat) (x : argsT slices_Repeat_LI_int_ps) : slices_Repeat_LI_int N x.1 x.2.1 = funF (slices_Repeat_LI_int_G N) tab [slices_Repeat_LI_int_l0_s N] Try.f29 slices_Repeat_LI_int_ps slices_Repeat_LI_int_rs x := by kernel_rfl
theorem slices_Repeat_LI_int_pc (N : Nat) : PC Try.prog 29 (slices_Repeat_LI_int_S N) := by
  have e : slices_Repeat_LI_int_S N = ⟨slices_Repeat_LI_int_ps, slices_Repeat_LI_int_rs, funF (slices_Repeat_LI_int_G N) tab [slices_Repeat_LI_int_l0_s N] Try.f29 slices_Repeat_LI_int_ps slices_Repeat_LI_int_rs⟩ := congrArg (FSum.mk slices_Repeat_LI_int_ps slices_Repeat_LI_int_rs) (funext (slices_Repeat_LI_int_run N))
  rw [e]
  exact fun_ok (c := slices_Repeat_LI_int_code) progOk (slices_Repeat_LI_int_gok N) (draw_ok progOk (slices_Repeat_LI_int_gok N)) Try.call29 Try.func29 (by kernel_rfl) (lsOk_at (L := [slices_Repeat_LI_int_l0_s N]) ⟨slices_Repeat_LI_int_l0_ok N, trivial⟩) (by kernel_rfl) (by kernel_rfl) (by kernel_rfl) (by kernel_rfl) (by kernel_rfl)

/-! ### impl_pair -/
abbrev impl_pair_ps : List (PV.Mode × Ty) := [(.ro, I), (.ro, I)]
abbrev impl_pair_rs : List (Bool × Ty) := [(true, QII)]
noncomputable def impl_pair_G (N : Nat) : GTab := gOf []
theorem impl_pair_gok (N : Nat) : GOk Try.prog (impl_pair_G N) := gOf_ok trivial
noncomputable def impl_pair_code : Code := (Try.f63.body).getD .skip
noncomputable def impl_pair (N : Nat) (a : Int) (b : Int) : Option (((Int × Int) × Unit) × (Unit)) :=
  some ((((if b < a then b else a), (if b > a then b else a)), ()), ())
noncomputable def impl_pair_S (N : Nat) : FSum := ⟨impl_pair_ps, impl_pair_rs, fun x => impl_pair N x.1 x.2.1⟩
theorem impl_pair_run (N : Nat) (x : argsT impl_pair_ps) : impl_pair N x.1 x.2.1 = funF (impl_pair_G N) tab [] Try.f63 impl_pair_ps impl_pair_rs x := by kernel_rfl
theorem impl_pair_pc (N : Nat) : PC Try.prog 63 (impl_pair_S N) := by
  have e : impl_pair_S N = ⟨impl_pair_ps, impl_pair_rs, funF (impl_pair_G N) tab [] Try.f63 impl_pair_ps impl_pair_rs⟩ := congrArg (FSum.mk impl_pair_ps impl_pair_rs) (funext (impl_pair_run N))
  rw [e]
  exact fun_ok (c := impl_pair_code) progOk (impl_pair_gok N) (draw_ok progOk (impl_pair_gok N)) Try.call63 Try.func63 (by kernel_rfl) (lsOk_at (L := []) trivial) (by kernel_rfl) (by kernel_rfl) (by kernel_rfl) (by kernel_rfl) (by kernel_rfl)

/-! ### slices_Index_LP_P2 -/
abbrev slices_Index_LP_P2_ps : List (PV.Mode × Ty) := [(.ro, LQII), (.ro, QII)]
abbrev slices_Index_LP_P2_rs : List (Bool × Ty) := [(true, I)]
noncomputable def slices_Index_LP_P2_G (N : Nat) : GTab := gOf []
theorem slices_Index_LP_P2_gok (N : Nat) : GOk Try.prog (slices_Index_LP_P2_G N) := gOf_ok trivial
noncomputable def slices_Index_LP_P2_code : Code := (Try.f70.body).getD .skip
noncomputable def slices_Index_LP_P2_l0_sh : Sh := ⟨[(0, .one (.ro LQII)), (3, .one (.adr 0 0)), (7, .one (.ro I)), (8, .one (.ro I))], [.box [.ro I, .ro I]]⟩
noncomputable def slices_Index_LP_P2_l0_ex : List (Ex × Sh) := [(.ret, ⟨[(4, .one (.ro I))], []⟩), (.exit 0, ⟨[], []⟩)]
noncomputable def slices_Index_LP_P2_l0 {R : Type} (N : Nat) (k0 : Int → Option R) (k1 : Unit → Option R) : Nat → (List (Int × Int)) → Int → Int → Int → Int → Option R
  | 0, _, _, _, _, _ => none
  | K + 1, s1, x, x1, o, o1 =>
    (br (ilt x1 x)
      ((chk (inb s1 x1)
        (br (ieq o ((rdP s1 x1).1) && ieq o1 ((rdP s1 x1).2))
        (k0 x1)
        (slices_Index_LP_P2_l0 N k0 k1 K s1 x (IntKind.i64.wrap (x1 + 1)) o o1))))
      (k1 ()))
noncomputable def slices_Index_LP_P2_l0_again {R : Type} (N : Nat) (ks : (j : Nat) → ((slices_Index_LP_P2_l0_ex.getD j (.ret, Sh.none)).2).T → Option R) (k : Nat) (x : slices_Index_LP_P2_l0_sh.T) : Option R :=
  slices_Index_LP_P2_l0 N (fun y0 => ks 0 ((y0, ()), ())) (fun (_ : Unit) => ks 1 ((), ())) k x.1.1 x.1.2.2.1 x.1.2.2.2.1 x.2.1.1 x.2.1.2.1
noncomputable def slices_Index_LP_P2_l0_s (N : Nat) : LSum := ⟨slices_Index_LP_P2_l0_sh, slices_Index_LP_P2_l0_ex, fun x ks => slices_Index_LP_P2_l0_again N ks N x⟩
theorem slices_Index_LP_P2_l0_step (N : Nat) (R : Type) (k : Nat) (x : slices_Index_LP_P2_l0_sh.T) (ks : (j : Nat) → ((slices_Index_LP_P2_l0_ex.getD j (.ret, Sh.none)).2).T → Option R) : slices_Index_LP_P2_l0_again N ks (k + 1) x = roundF (slices_Index_LP_P2_G N) tab [] (loopAt slices_Index_LP_P2_code 0) slices_Index_LP_P2_l0_sh slices_Index_LP_P2_l0_ex (fun y => slices_Index_LP_P2_l0_again N ks k y) ks x := by kernel_rfl
theorem slices_Index_LP_P2_l0_ok (N : Nat) : LoopOk Try.prog Try.f70.ntmps (slices_Index_LP_P2_l0_s N) (loopAt slices_Index_LP_P2_code 0) :=
  loop_ok (l := slices_Index_LP_P2_l0_s N) progOk (slices_Index_LP_P2_gok N) (draw_ok progOk (slices_Index_LP_P2_gok N)) (fun R k x ks => slices_Index_LP_P2_l0_again N ks k x) (fun _ _ _ => rfl) (fun R k x ks => slices_Index_LP_P2_l0_step N R k x ks) (fun R x ks r h => ⟨N, h⟩) (lsOk_at (L := []) trivial) (by kernel_rfl) (by kernel_rfl)
noncomputable def slices_Index_LP_P2 (N : Nat) (s : (List (Int × Int))) (v : (Int × Int)) : Option ((Int × Unit) × (Unit)) :=
  slices_Index_LP_P2_l0 N (fun x => some ((x, ()), ())) (fun (_ : Unit) => some (((-1), ()), ())) N s (tLen s) 0 v.1 v.2
noncomputable def slices_Index_LP_P2_S (N : Nat) : FSum := ⟨slices_Index_LP_P2_ps, slices_Index_LP_P2_rs, fun x => slices_Index_LP_P2 N x.1 x.2.1⟩
theorem slices_Index_LP_P2_run (N : Nat) (x : argsT slices_Index_LP_P2_ps) : slices_Index_LP_P2 N x.1 x.2.1 = funF (slices_Index_LP_P2_G N) tab [slices_Index_LP_P2_l0_s N] Try.f70 slices_Index_LP_P2_ps slices_Index_LP_P2_rs x := by kernel_rfl
theorem slices_Index_LP_P2_pc (N : Nat) : PC Try.prog 70 (slices_Index_LP_P2_S N) := by
  have e : slices_Index_LP_P2_S N = ⟨slices_Index_LP_P2_ps, slices_Index_LP_P2_rs, funF (slices_Index_LP_P2_G N) tab [slices_Index_LP_P2_l0_s N] Try.f70 slices_Index_LP_P2_ps slices_Index_LP_P2_rs⟩ := congrArg (FSum.mk slices_Index_LP_P2_ps slices_Index_LP_P2_rs) (funext (slices_Index_LP_P2_run N))
  rw [e]
  exact fun_ok (c := slices_Index_LP_P2_code) progOk (slices_Index_LP_P2_gok N) (draw_ok progOk (slices_Index_LP_P2_gok N)) Try.call70 Try.func70 (by kernel_rfl) (lsOk_at (L := [slices_Index_LP_P2_l0_s N]) ⟨slices_Index_LP_P2_l0_ok N, trivial⟩) (by kernel_rfl) (by kernel_rfl) (by kernel_rfl) (by kernel_rfl) (by kernel_rfl)

/-! ### slices_Contains_LP_P2 -/
abbrev slices_Contains_LP_P2_ps : List (PV.Mode × Ty) := [(.ro, LQII), (.ro, QII)]
abbrev slices_Contains_LP_P2_rs : List (Bool × Ty) := [(true, .bool)]
noncomputable def slices_Contains_LP_P2_G (N : Nat) : GTab := gOf [(70, slices_Index_LP_P2_S N)]
theorem slices_Contains_LP_P2_gok (N : Nat) : GOk Try.prog (slices_Contains_LP_P2_G N) := gOf_ok ⟨slices_Index_LP_P2_pc N, trivial⟩
noncomputable def slices_Contains_LP_P2_code : Code := (Try.f62.body).getD .skip
noncomputable def slices_Contains_LP_P2 (N : Nat) (s : (List (Int × Int))) (v : (Int × Int)) : Option ((Bool × Unit) × (Unit)) :=
  ((slices_Index_LP_P2 N s (v.1, v.2)).bind fun r =>
    some (((ile 0 r.1.1), ()), ()))
noncomputable def slices_Contains_LP_P2_S (N : Nat) : FSum := ⟨slices_Contains_LP_P2_ps, slices_Contains_LP_P2_rs, fun x => slices_Contains_LP_P2 N x.1 x.2.1⟩
theorem slices_Contains_LP_P2_run (N : Nat) (x : argsT slices_Contains_LP_P2_ps) : slices_Contains_LP_P2 N x.1 x.2.1 = funF (slices_Contains_LP_P2_G N) tab [] Try.f62 slices_Contains_LP_P2_ps slices_Contains_LP_P2_rs x := by kernel_rfl
theorem slices_Contains_LP_P2_pc (N : Nat) : PC Try.prog 62 (slices_Contains_LP_P2_S N) := by
  have e : slices_Contains_LP_P2_S N = ⟨slices_Contains_LP_P2_ps, slices_Contains_LP_P2_rs, funF (slices_Contains_LP_P2_G N) tab [] Try.f62 slices_Contains_LP_P2_ps slices_Contains_LP_P2_rs⟩ := congrArg (FSum.mk slices_Contains_LP_P2_ps slices_Contains_LP_P2_rs) (funext (slices_Contains_LP_P2_run N))
  rw [e]
  exact fun_ok (c := slices_Contains_LP_P2_code) progOk (slices_Contains_LP_P2_gok N) (draw_ok progOk (slices_Contains_LP_P2_gok N)) Try.call62 Try.func62 (by kernel_rfl) (lsOk_at (L := []) trivial) (by kernel_rfl) (by kernel_rfl) (by kernel_rfl) (by kernel_rfl) (by kernel_rfl)

/-! ### impl_Graph_has -/
abbrev impl_Graph_has_ps : List (PV.Mode × Ty) := [(.ro, QILQII), (.ro, I), (.ro, I)]
abbrev impl_Graph_has_rs : List (Bool × Ty) := [(true, .bool)]
noncomputable def impl_Graph_has_G (N : Nat) : GTab := gOf [(63, impl_pair_S N), (62, slices_Contains_LP_P2_S N)]
theorem impl_Graph_has_gok (N : Nat) : GOk Try.prog (impl_Graph_has_G N) := gOf_ok ⟨impl_pair_pc N, slices_Contains_LP_P2_pc N, trivial⟩
noncomputable def impl_Graph_has_code : Code := (Try.f50.body).getD .skip
noncomputable def impl_Graph_has (N : Nat) (g : (Int × (List (Int × Int)))) (a : Int) (b : Int) : Option ((Bool × Unit) × (Unit)) :=
  ((impl_pair N a b).bind fun r =>
    ((slices_Contains_LP_P2 N g.2 (r.1.1.1, r.1.1.2)).bind fun r1 =>
      some ((r1.1.1, ()), ())))
noncomputable def impl_Graph_has_S (N : Nat) : FSum := ⟨impl_Graph_has_ps, impl_Graph_has_rs, fun x => impl_Graph_has N x.1 x.2.1 x.2.2.1⟩
theorem impl_Graph_has_run (N : Nat) (x : argsT impl_Graph_has_ps) : impl_Graph_has N x.1 x.2.1 x.2.2.1 = funF (impl_Graph_has_G N) tab [] Try.f50 impl_Graph_has_ps impl_Graph_has_rs x := by kernel_rfl
theorem impl_Graph_has_pc (N : Nat) : PC Try.prog 50 (impl_Graph_has_S N) := by
  have e : impl_Graph_has_S N = ⟨impl_Graph_has_ps, impl_Graph_has_rs, funF (impl_Graph_has_G N) tab [] Try.f50 impl_Graph_has_ps impl_Graph_has_rs⟩ := congrArg (FSum.mk impl_Graph_has_ps impl_Graph_has_rs) (funext (impl_Graph_has_run N))
  rw [e]
  exact fun_ok (c := impl_Graph_has_code) progOk (impl_Graph_has_gok N) (draw_ok progOk (impl_Graph_has_gok N)) Try.call50 Try.func50 (by kernel_rfl) (lsOk_at (L := []) trivial) (by kernel_rfl) (by kernel_rfl) (by kernel_rfl) (by kernel_rfl) (by kernel_rfl)

/-! ### impl_Graph_neighbors -/
abbrev impl_Graph_neighbors_ps : List (PV.Mode × Ty) := [(.ro, QILQII), (.ro, I)]
abbrev impl_Graph_neighbors_rs : List (Bool × Ty) := [(true, LI)]
noncomputable def impl_Graph_neighbors_G (N : Nat) : GTab := gOf [(50, impl_Graph_has_S N)]
theorem impl_Graph_neighbors_gok (N : Nat) : GOk Try.prog (impl_Graph_neighbors_G N) := gOf_ok ⟨impl_Graph_has_pc N, trivial⟩
noncomputable def impl_Graph_neighbors_code : Code := (Try.f31.body).getD .skip
noncomputable def impl_Graph_neighbors_l0_sh : Sh := ⟨[(1, .one (.ro I)), (2, .one (.adr 0 0)), (5, .one (.ref 1)), (9, .one (.ro I)), (10, .one (.ro I))], [.box [.ro I, .ro LQII], .sl 3 I .own]⟩
noncomputable def impl_Graph_neighbors_l0_ex : List (Ex × Sh) := [(.exit 0, ⟨[(5, .one (.ref 0))], [.sl 3 I .own]⟩)]
noncomputable def impl_Graph_neighbors_l0 {R : Type} (N : Nat) (k0 : (List Int) → Option R) : Nat → Int → Int → Int → Int → (List (Int × Int)) → (List Int) → Option R
  | 0, _, _, _, _, _, _ => none
  | K + 1, x1, x2, x3, o, o1, o2 =>
    (br (ilt x3 x2)
      ((br (ine x3 x1)
        (((impl_Graph_has N (o, o1) x1 x3).bind fun r =>
          (br r.1.1
            ((chk (room o2 [x3])
              (impl_Graph_neighbors_l0 N k0 K x1 x2 (IntKind.i64.wrap (x3 + 1)) o o1 (tApp o2 [x3]))))
            (impl_Graph_neighbors_l0 N k0 K x1 x2 (IntKind.i64.wrap (x3 + 1)) o o1 o2))))
        (impl_Graph_neighbors_l0 N k0 K x1 x2 (IntKind.i64.wrap (x3 + 1)) o o1 o2)))
      (k0 o2))
noncomputable def impl_Graph_neighbors_l0_again {R : Type} (N : Nat) (ks : (j : Nat) → ((impl_Graph_neighbors_l0_ex.getD j (.ret, Sh.none)).2).T → Option R) (k : Nat) (x : impl_Graph_neighbors_l0_sh.T) : Option R :=
  impl_Graph_neighbors_l0 N (fun y0 => ks 0 (((), ()), (y0, ()))) k x.1.1 x.1.2.2.2.1 x.1.2.2.2.2.1 x.2.1.1 x.2.1.2.1 x.2.2.1
noncomputable def impl_Graph_neighbors_l0_s (N : Nat) : LSum := ⟨impl_Graph_neighbors_l0_sh, impl_Graph_neighbors_l0_ex, fun x ks => impl_Graph_neighbors_l0_again N ks N x⟩
theorem impl_Graph_neighbors_l0_step (N : Nat) (R : Type) (k : Nat) (x : impl_Graph_neighbors_l0_sh.T) (ks : (j : Nat) → ((impl_Graph_neighbors_l0_ex.getD j (.ret, Sh.none)).2).T → Option R) : impl_Graph_neighbors_l0_again N ks (k + 1) x = roundF (impl_Graph_neighbors_G N) tab [] (loopAt impl_Graph_neighbors_code 0) impl_Graph_neighbors_l0_sh impl_Graph_neighbors_l0_ex (fun y => impl_Graph_neighbors_l0_again N ks k y) ks x := by kernel_rfl
theorem impl_Graph_neighbors_l0_ok (N : Nat) : LoopOk Try.prog Try.f31.ntmps (impl_Graph_neighbors_l0_s N) (loopAt impl_Graph_neighbors_code 0) :=
  loop_ok (l := impl_Graph_neighbors_l0_s N) progOk (impl_Graph_neighbors_gok N) (draw_ok progOk (impl_Graph_neighbors_gok N)) (fun R k x ks => impl_Graph_neighbors_l0_again N ks k x) (fun _ _ _ => rfl) (fun R k x ks => impl_Graph_neighbors_l0_step N R k x ks) (fun R x ks r h => ⟨N, h⟩) (lsOk_at (L := []) trivial) (by kernel_rfl) (by kernel_rfl)
noncomputable def impl_Graph_neighbors (N : Nat) (g : (Int × (List (Int × Int)))) (x : Int) : Option (((List Int) × Unit) × (Unit)) :=
  impl_Graph_neighbors_l0 N (fun o => some ((o, ()), ())) N x g.1 0 g.1 g.2 []
noncomputable def impl_Graph_neighbors_S (N : Nat) : FSum := ⟨impl_Graph_neighbors_ps, impl_Graph_neighbors_rs, fun x => impl_Graph_neighbors N x.1 x.2.1⟩
theorem impl_Graph_neighbors_run (N : Nat) (x : argsT impl_Graph_neighbors_ps) : impl_Graph_neighbors N x.1 x.2.1 = funF (impl_Graph_neighbors_G N) tab [impl_Graph_neighbors_l0_s N] Try.f31 impl_Graph_neighbors_ps impl_Graph_neighbors_rs x := by kernel_rfl
theorem impl_Graph_neighbors_pc (N : Nat) : PC Try.prog 31 (impl_Graph_neighbors_S N) := by
  have e : impl_Graph_neighbors_S N = ⟨impl_Graph_neighbors_ps, impl_Graph_neighbors_rs, funF (impl_Graph_neighbors_G N) tab [impl_Graph_neighbors_l0_s N] Try.f31 impl_Graph_neighbors_ps impl_Graph_neighbors_rs⟩ := congrArg (FSum.mk impl_Graph_neighbors_ps impl_Graph_neighbors_rs) (funext (impl_Graph_neighbors_run N))
  rw [e]
  exact fun_ok (c := impl_Graph_neighbors_code) progOk (impl_Graph_neighbors_gok N) (draw_ok progOk (impl_Graph_neighbors_gok N)) Try.call31 Try.func31 (by kernel_rfl) (lsOk_at (L := [impl_Graph_neighbors_l0_s N]) ⟨impl_Graph_neighbors_l0_ok N, trivial⟩) (by kernel_rfl) (by kernel_rfl) (by kernel_rfl) (by kernel_rfl) (by kernel_rfl)

/-! ### slices_IndexFunc_LI_int -/
abbrev slices_IndexFunc_LI_int_ps : List (PV.Mode × Ty) := [(.ro, LI), (.ro, FIBo)]
abbrev slices_IndexFunc_LI_int_rs : List (Bool × Ty) := [(true, I)]
noncomputable def slices_IndexFunc_LI_int_G (N : Nat) : GTab := gOf []
theorem slices_IndexFunc_LI_int_gok (N : Nat) : GOk Try.prog (slices_IndexFunc_LI_int_G N) := gOf_ok trivial
noncomputable def slices_IndexFunc_LI_int_code : Code := (Try.f49.body).getD .skip
noncomputable def slices_IndexFunc_LI_int_l0_sh : Sh := ⟨[(0, .one (.ro LI)), (1, .one (.ro FIBo)), (7, .one (.ro I)), (8, .one (.ro I))], []⟩
noncomputable def slices_IndexFunc_LI_int_l0_ex : List (Ex × Sh) := [(.ret, ⟨[(4, .one (.ro I))], []⟩), (.exit 0, ⟨[], []⟩)]
noncomputable def slices_IndexFunc_LI_int_l0 {R : Type} (N : Nat) (k0 : Int → Option R) (k1 : Unit → Option R) : Nat → (List Int) → (Int → Option Bool) → Int → Int → Option R
  | 0, _, _, _, _ => none
  | K + 1, s1, f1, x, x1 =>
    (br (ilt x1 x)
      ((chk (inb s1 x1)
        ((f1 (rdI s1 x1)).bind fun v =>
        (br v
        (k0 x1)
        (slices_IndexFunc_LI_int_l0 N k0 k1 K s1 f1 x (IntKind.i64.wrap (x1 + 1)))))))
      (k1 ()))
noncomputable def slices_IndexFunc_LI_int_l0_again {R : Type} (N : Nat) (ks : (j : Nat) → ((slices_IndexFunc_LI_int_l0_ex.getD j (.ret, Sh.none)).2).T → Option R) (k : Nat) (x : slices_IndexFunc_LI_int_l0_sh.T) : Option R :=
  slices_IndexFunc_LI_int_l0 N (fun y0 => ks 0 ((y0, ()), ())) (fun (_ : Unit) => ks 1 ((), ())) k x.1.1 x.1.2.1 x.1.2.2.1 x.1.2.2.2.1
noncomputable def slices_IndexFunc_LI_int_l0_s (N : Nat) : LSum := ⟨slices_IndexFunc_LI_int_l0_sh, slices_IndexFunc_LI_int_l0_ex, fun x ks => slices_IndexFunc_LI_int_l0_again N ks N x⟩
theorem slices_IndexFunc_LI_int_l0_step (N : Nat) (R : Type) (k : Nat) (x : slices_IndexFunc_LI_int_l0_sh.T) (ks : (j : Nat) → ((slices_IndexFunc_LI_int_l0_ex.getD j (.ret, Sh.none)).2).T → Option R) : slices_IndexFunc_LI_int_l0_again N ks (k + 1) x = roundF (slices_IndexFunc_LI_int_G N) tab [] (loopAt slices_IndexFunc_LI_int_code 0) slices_IndexFunc_LI_int_l0_sh slices_IndexFunc_LI_int_l0_ex (fun y => slices_IndexFunc_LI_int_l0_again N ks k y) ks x := by kernel_rfl
theorem slices_IndexFunc_LI_int_l0_ok (N : Nat) : LoopOk Try.prog Try.f49.ntmps (slices_IndexFunc_LI_int_l0_s N) (loopAt slices_IndexFunc_LI_int_code 0) :=
  loop_ok (l := slices_IndexFunc_LI_int_l0_s N) progOk (slices_IndexFunc_LI_int_gok N) (draw_ok progOk (slices_IndexFunc_LI_int_gok N)) (fun R k x ks => slices_IndexFunc_LI_int_l0_again N ks k x) (fun _ _ _ => rfl) (fun R k x ks => slices_IndexFunc_LI_int_l0_step N R k x ks) (fun R x ks r h => ⟨N, h⟩) (lsOk_at (L := []) trivial) (by kernel_rfl) (by kernel_rfl)
noncomputable def slices_IndexFunc_LI_int (N : Nat) (s : (List Int)) (f : (Int → Option Bool)) : Option ((Int × Unit) × (Unit)) :=
  slices_IndexFunc_LI_int_l0 N (fun x => some ((x, ()), ())) (fun (_ : Unit) => some (((-1), ()), ())) N s f (tLen s) 0
noncomputable def slices_IndexFunc_LI_int_S (N : Nat) : FSum := ⟨slices_IndexFunc_LI_int_ps, slices_IndexFunc_LI_int_rs, fun x => slices_IndexFunc_LI_int N x.1 x.2.1⟩
theorem slices_IndexFunc_LI_int_run (N : Nat) (x : argsT slices_IndexFunc_LI_int_ps) : slices_IndexFunc_LI_int N x.1 x.2.1 = funF (slices_IndexFunc_LI_int_G N) tab [slices_IndexFunc_LI_int_l0_s N] Try.f49 slices_IndexFunc_LI_int_ps slices_IndexFunc_LI_int_rs x := by kernel_rfl
theorem slices_IndexFunc_LI_int_pc (N : Nat) : PC Try.prog 49 (slices_IndexFunc_LI_int_S N) := by
  have e : slices_IndexFunc_LI_int_S N = ⟨slices_IndexFunc_LI_int_ps, slices_IndexFunc_LI_int_rs, funF (slices_IndexFunc_LI_int_G N) tab [slices_IndexFunc_LI_int_l0_s N] Try.f49 slices_IndexFunc_LI_int_ps slices_IndexFunc_LI_int_rs⟩ := congrArg (FSum.mk slices_IndexFunc_LI_int_ps slices_IndexFunc_LI_int_rs) (funext (slices_IndexFunc_LI_int_run N))
  rw [e]
  exact fun_ok (c := slices_IndexFunc_LI_int_code) progOk (slices_IndexFunc_LI_int_gok N) (draw_ok progOk (slices_IndexFunc_LI_int_gok N)) Try.call49 Try.func49 (by kernel_rfl) (lsOk_at (L := [slices_IndexFunc_LI_int_l0_s N]) ⟨slices_IndexFunc_LI_int_l0_ok N, trivial⟩) (by kernel_rfl) (by kernel_rfl) (by kernel_rfl) (by kernel_rfl) (by kernel_rfl)

/-! ### slices_ContainsFunc_LI_int -/
abbrev slices_ContainsFunc_LI_int_ps : List (PV.Mode × Ty) := [(.ro, LI), (.ro, FIBo)]
abbrev slices_ContainsFunc_LI_int_rs : List (Bool × Ty) := [(true, .bool)]
noncomputable def slices_ContainsFunc_LI_int_G (N : Nat) : GTab := gOf [(49, slices_IndexFunc_LI_int_S N)]
theorem slices_ContainsFunc_LI_int_gok (N : Nat) : GOk Try.prog (slices_ContainsFunc_LI_int_G N) := gOf_ok ⟨slices_IndexFunc_LI_int_pc N, trivial⟩
noncomputable def slices_ContainsFunc_LI_int_code : Code := (Try.f30.body).getD .skip
noncomputable def slices_ContainsFunc_LI_int (N : Nat) (s : (List Int)) (f : (Int → Option Bool)) : Option ((Bool × Unit) × (Unit)) :=
  ((slices_IndexFunc_LI_int N s f).bind fun r =>
    some (((ile 0 r.1.1), ()), ()))
noncomputable def slices_ContainsFunc_LI_int_S (N : Nat) : FSum := ⟨slices_ContainsFunc_LI_int_ps, slices_ContainsFunc_LI_int_rs, fun x => slices_ContainsFunc_LI_int N x.1 x.2.1⟩
theorem slices_ContainsFunc_LI_int_run (N : Nat) (x : argsT slices_ContainsFunc_LI_int_ps) : slices_ContainsFunc_LI_int N x.1 x.2.1 = funF (slices_ContainsFunc_LI_int_G N) tab [] Try.f30 slices_ContainsFunc_LI_int_ps slices_ContainsFunc_LI_int_rs x := by kernel_rfl
theorem slices_ContainsFunc_LI_int_pc (N : Nat) : PC Try.prog 30 (slices_ContainsFunc_LI_int_S N) := by
  have e : slices_ContainsFunc_LI_int_S N = ⟨slices_ContainsFunc_LI_int_ps, slices_ContainsFunc_LI_int_rs, funF (slices_ContainsFunc_LI_int_G N) tab [] Try.f30 slices_ContainsFunc_LI_int_ps slices_ContainsFunc_LI_int_rs⟩ := congrArg (FSum.mk slices_ContainsFunc_LI_int_ps slices_ContainsFunc_LI_int_rs) (funext (slices_ContainsFunc_LI_int_run N))
  rw [e]
  exact fun_ok (c := slices_ContainsFunc_LI_int_code) progOk (slices_ContainsFunc_LI_int_gok N) (draw_ok progOk (slices_ContainsFunc_LI_int_gok N)) Try.call30 Try.func30 (by kernel_rfl) (lsOk_at (L := []) trivial) (by kernel_rfl) (by kernel_rfl) (by kernel_rfl) (by kernel_rfl) (by kernel_rfl)

/-! ### impl_GreedyColours_c1 -/
abbrev impl_GreedyColours_c1_ps : List (PV.Mode × Ty) := [(.ro, I), (.ro, ALI), (.ro, AI)]
abbrev impl_GreedyColours_c1_rs : List (Bool × Ty) := [(true, .bool)]
noncomputable def impl_GreedyColours_c1_G (N : Nat) : GTab := gOf []
theorem impl_GreedyColours_c1_gok (N : Nat) : GOk Try.prog (impl_GreedyColours_c1_G N) := gOf_ok trivial
noncomputable def impl_GreedyColours_c1_code : Code := (Try.f32.body).getD .skip
noncomputable def impl_GreedyColours_c1 (N : Nat) (y : Int) (c : (List Int)) (c1 : Int) : Option ((Bool × Unit) × (Unit)) :=
  (chk (inb c y)
    (some (((ieq (rdI c y) c1), ()), ())))
noncomputable def impl_GreedyColours_c1_S (N : Nat) : FSum := ⟨impl_GreedyColours_c1_ps, impl_GreedyColours_c1_rs, fun x => impl_GreedyColours_c1 N x.1 x.2.1 x.2.2.1⟩
theorem impl_GreedyColours_c1_run (N : Nat) (x : argsT impl_GreedyColours_c1_ps) : impl_GreedyColours_c1 N x.1 x.2.1 x.2.2.1 = funF (impl_GreedyColours_c1_G N) tab [] Try.f32 impl_GreedyColours_c1_ps impl_GreedyColours_c1_rs x := by kernel_rfl
theorem impl_GreedyColours_c1_pc (N : Nat) : PC Try.prog 32 (impl_GreedyColours_c1_S N) := by
  have e : impl_GreedyColours_c1_S N = ⟨impl_GreedyColours_c1_ps, impl_GreedyColours_c1_rs, funF (impl_GreedyColours_c1_G N) tab [] Try.f32 impl_GreedyColours_c1_ps impl_GreedyColours_c1_rs⟩ := congrArg (FSum.mk impl_GreedyColours_c1_ps impl_GreedyColours_c1_rs) (funext (impl_GreedyColours_c1_run N))
  rw [e]
  exact fun_ok (c := impl_GreedyColours_c1_code) progOk (impl_GreedyColours_c1_gok N) (draw_ok progOk (impl_GreedyColours_c1_gok N)) Try.call32 Try.func32 (by kernel_rfl) (lsOk_at (L := []) trivial) (by kernel_rfl) (by kernel_rfl) (by kernel_rfl) (by kernel_rfl) (by kernel_rfl)

/-! ### impl_GreedyColours -/
abbrev impl_GreedyColours_ps : List (PV.Mode × Ty) := [(.ro, QILQII), (.ro, LI)]
abbrev impl_GreedyColours_rs : List (Bool × Ty) := [(true, LI), (true, .bool)]
noncomputable def impl_GreedyColours_G (N : Nat) : GTab := gOf [(28, impl_IsGraph_S N), (22, impl_isOrder_S N), (29, slices_Repeat_LI_int_S N), (31, impl_Graph_neighbors_S N), (30, slices_ContainsFunc_LI_int_S N), (32, impl_GreedyColours_c1_S N)]
theorem impl_GreedyColours_gok (N : Nat) : GOk Try.prog (impl_GreedyColours_G N) := gOf_ok ⟨impl_IsGraph_pc N, impl_isOrder_pc N, slices_Repeat_LI_int_pc N, impl_Graph_neighbors_pc N, slices_ContainsFunc_LI_int_pc N, impl_GreedyColours_c1_pc N, trivial⟩
noncomputable def impl_GreedyColours_code : Code := (Try.f16.body).getD .skip
noncomputable def impl_GreedyColours_l0_0_sh : Sh := ⟨[(2, .one (.adr 0 0)), (6, .one (.adr 1 0)), (8, .one (.ro I)), (9, .one (.adr 2 0)), (24, .one (.ro LI)), (25, .one (.ro I)), (26, .one (.ro I))], [.box [.ro I, .ro LQII], .box [.ref 3], .box [.ro I], .sl 3 I .own]⟩
noncomputable def impl_GreedyColours_l0_0_ex : List (Ex × Sh) := [(.exit 2, ⟨[(2, .one (.adr 0 0)), (6, .one (.adr 1 0)), (8, .one (.ro I)), (9, .one (.adr 2 0)), (24, .one (.ro LI)), (25, .one (.ro I)), (26, .one (.ro I))], [.box [.ro I, .ro LQII], .box [.ref 3], .box [.ro I], .sl 3 I .own]⟩)]
noncomputable def impl_GreedyColours_l0_0 {R : Type} (N : Nat) (k0 : Int → (List Int) → Int → Int → Int → (List (Int × Int)) → Int → (List Int) → Option R) : Nat → Int → (List Int) → Int → Int → Int → (List (Int × Int)) → Int → (List Int) → Option R
  | 0, _, _, _, _, _, _, _, _ => none
  | K + 1, x3, x4, x5, x6, o3, o4, o5, o6 =>
    ((impl_Graph_neighbors N (o3, o4) x3).bind fun r3 =>
      ((slices_ContainsFunc_LI_int N r3.1.1 (fun y0 => (impl_GreedyColours_c1 N y0 o6 o5).bind fun z => some z.1.1)).bind fun r4 =>
        (br r4.1.1
          (impl_GreedyColours_l0_0 N k0 K x3 x4 x5 x6 o3 o4 (IntKind.i64.wrap (o5 + 1)) o6)
          (k0 x3 x4 x5 x6 o3 o4 o5 o6))))
noncomputable def impl_GreedyColours_l0_0_again {R : Type} (N : Nat) (ks : (j : Nat) → ((impl_GreedyColours_l0_0_ex.getD j (.ret, Sh.none)).2).T → Option R) (k : Nat) (x : impl_GreedyColours_l0_0_sh.T) : Option R :=
  impl_GreedyColours_l0_0 N (fun y0 y1 y2 y3 y4 y5 y6 y7 => ks 0 (((), (), y0, (), y1, y2, y3, ()), ((y4, y5, ()), ((), ()), (y6, ()), y7, ()))) k x.1.2.2.1 x.1.2.2.2.2.1 x.1.2.2.2.2.2.1 x.1.2.2.2.2.2.2.1 x.2.1.1 x.2.1.2.1 x.2.2.2.1.1 x.2.2.2.2.1
noncomputable def impl_GreedyColours_l0_0_s (N : Nat) : LSum := ⟨impl_GreedyColours_l0_0_sh, impl_GreedyColours_l0_0_ex, fun x ks => impl_GreedyColours_l0_0_again N ks N x⟩
theorem impl_GreedyColours_l0_0_step (N : Nat) (R : Type) (k : Nat) (x : impl_GreedyColours_l0_0_sh.T) (ks : (j : Nat) → ((impl_GreedyColours_l0_0_ex.getD j (.ret, Sh.none)).2).T → Option R) : impl_GreedyColours_l0_0_again N ks (k + 1) x = roundF (impl_GreedyColours_G N) tab [] (loopAt (loopAt impl_GreedyColours_code 0) 0) impl_GreedyColours_l0_0_sh impl_GreedyColours_l0_0_ex (fun y => impl_GreedyColours_l0_0_again N ks k y) ks x := by kernel_rfl
theorem impl_GreedyColours_l0_0_ok (N : Nat) : LoopOk Try.prog Try.f16.ntmps (impl_GreedyColours_l0_0_s N) (loopAt (loopAt impl_GreedyColours_code 0) 0) :=
  loop_ok (l := impl_GreedyColours_l0_0_s N) progOk (impl_GreedyColours_gok N) (draw_ok progOk (impl_GreedyColours_gok N)) (fun R k x ks => impl_GreedyColours_l0_0_again N ks k x) (fun _ _ _ => rfl) (fun R k x ks => impl_GreedyColours_l0_0_step N R k x ks) (fun R x ks r h => ⟨N, h⟩) (lsOk_at (L := []) trivial) (by kernel_rfl) (by kernel_rfl)
noncomputable def impl_GreedyColours_l0_sh : Sh := ⟨[(2, .one (.adr 0 0)), (6, .one (.adr 1 0)), (24, .one (.ro LI)), (25, .one (.ro I)), (26, .one (.ro I))], [.box [.ro I, .ro LQII], .box [.ref 2], .sl 3 I .own]⟩
noncomputable def impl_GreedyColours_l0_ex : List (Ex × Sh) := [(.exit 0, ⟨[(6, .one (.adr 0 0))], [.box [.ref 1], .sl 3 I .own]⟩)]
noncomputable def impl_GreedyColours_l0 {R : Type} (N : Nat) (k0 : (List Int) → Option R) : Nat → (List Int) → Int → Int → Int → (List (Int × Int)) → (List Int) → Option R
  | 0, _, _, _, _, _, _ => none
  | K + 1, x, x1, x2, o, o1, o2 =>
    (br (ilt x2 x1)
      ((chk (inb x x2)
        (impl_GreedyColours_l0_0 N (fun x3 x4 x5 x6 o3 o4 o5 o6 => (chk (inb o6 x3)
        (impl_GreedyColours_l0 N k0 K x4 x5 (IntKind.i64.wrap (x6 + 1)) o3 o4 (tSet o6 x3 o5)))) N (rdI x x2) x x1 x2 o o1 0 o2)))
      (k0 o2))
noncomputable def impl_GreedyColours_l0_again {R : Type} (N : Nat) (ks : (j : Nat) → ((impl_GreedyColours_l0_ex.getD j (.ret, Sh.none)).2).T → Option R) (k : Nat) (x : impl_GreedyColours_l0_sh.T) : Option R :=
  impl_GreedyColours_l0 N (fun y0 => ks 0 (((), ()), (((), ()), y0, ()))) k x.1.2.2.1 x.1.2.2.2.1 x.1.2.2.2.2.1 x.2.1.1 x.2.1.2.1 x.2.2.2.1
noncomputable def impl_GreedyColours_l0_s (N : Nat) : LSum := ⟨impl_GreedyColours_l0_sh, impl_GreedyColours_l0_ex, fun x ks => impl_GreedyColours_l0_again N ks N x⟩
theorem impl_GreedyColours_l0_step (N : Nat) (R : Type) (k : Nat) (x : impl_GreedyColours_l0_sh.T) (ks : (j : Nat) → ((impl_GreedyColours_l0_ex.getD j (.ret, Sh.none)).2).T → Option R) : impl_GreedyColours_l0_again N ks (k + 1) x = roundF (impl_GreedyColours_G N) tab [impl_GreedyColours_l0_0_s N] (loopAt impl_GreedyColours_code 0) impl_GreedyColours_l0_sh impl_GreedyColours_l0_ex (fun y => impl_GreedyColours_l0_again N ks k y) ks x := by kernel_rfl
theorem impl_GreedyColours_l0_ok (N : Nat) : LoopOk Try.prog Try.f16.ntmps (impl_GreedyColours_l0_s N) (loopAt impl_GreedyColours_code 0) :=
  loop_ok (l := impl_GreedyColours_l0_s N) progOk (impl_GreedyColours_gok N) (draw_ok progOk (impl_GreedyColours_gok N)) (fun R k x ks => impl_GreedyColours_l0_again N ks k x) (fun _ _ _ => rfl) (fun R k x ks => impl_GreedyColours_l0_step N R k x ks) (fun R x ks r h => ⟨N, h⟩) (lsOk_at (L := [impl_GreedyColours_l0_0_s N]) ⟨impl_GreedyColours_l0_0_ok N, trivial⟩) (by kernel_rfl) (by kernel_rfl)
noncomputable def impl_GreedyColours (N : Nat) (g : (Int × (List (Int × Int)))) (order : (List Int)) : Option (((List Int) × Bool × Unit) × (Unit)) :=
  ((impl_IsGraph N (g.1, g.2)).bind fun r =>
    (br (!r.1.1)
      (some (([], false, ()), ()))
      (((impl_isOrder N order g.1).bind fun r1 =>
        (br (!r1.1.1)
          (some (([], false, ()), ()))
          (((slices_Repeat_LI_int N [(-1)] g.1).bind fun r2 =>
            impl_GreedyColours_l0 N (fun o => some ((o, true, ()), ())) N order (tLen order) 0 g.1 g.2 r2.1.1)))))))
noncomputable def impl_GreedyColours_S (N : Nat) : FSum := ⟨impl_GreedyColours_ps, impl_GreedyColours_rs, fun x => impl_GreedyColours N x.1 x.2.1⟩
theorem impl_GreedyColours_run (N : Nat) (x : argsT impl_GreedyColours_ps) : impl_GreedyColours N x.1 x.2.1 = funF (impl_GreedyColours_G N) tab [impl_GreedyColours_l0_s N] Try.f16 impl_GreedyColours_ps impl_GreedyColours_rs x := by kernel_rfl
theorem impl_GreedyColours_pc (N : Nat) : PC Try.prog 16 (impl_GreedyColours_S N) := by
  have e : impl_GreedyColours_S N = ⟨impl_GreedyColours_ps, impl_GreedyColours_rs, funF (impl_GreedyColours_G N) tab [impl_GreedyColours_l0_s N] Try.f16 impl_GreedyColours_ps impl_GreedyColours_rs⟩ := congrArg (FSum.mk impl_GreedyColours_ps impl_GreedyColours_rs) (funext (impl_GreedyColours_run N))
  rw [e]
  exact fun_ok (c := impl_GreedyColours_code) progOk (impl_GreedyColours_gok N) (draw_ok progOk (impl_GreedyColours_gok N)) Try.call16 Try.func16 (by kernel_rfl) (lsOk_at (L := [impl_GreedyColours_l0_s N]) ⟨impl_GreedyColours_l0_ok N, trivial⟩) (by kernel_rfl) (by kernel_rfl) (by kernel_rfl) (by kernel_rfl) (by kernel_rfl)

/-! ### laws_eqIntS -/
abbrev laws_eqIntS_ps : List (PV.Mode × Ty) := [(.ro, LI), (.ro, LI)]
abbrev laws_eqIntS_rs : List (Bool × Ty) := [(true, .bool)]
noncomputable def laws_eqIntS_G (N : Nat) : GTab := gOf []
theorem laws_eqIntS_gok (N : Nat) : GOk Try.prog (laws_eqIntS_G N) := gOf_ok trivial
noncomputable def laws_eqIntS_code : Code := (Try.f10.body).getD .skip
noncomputable def laws_eqIntS_l0_sh : Sh := ⟨[(0, .one (.ro LI)), (1, .one (.ro LI)), (5, .one (.ro I))], []⟩
noncomputable def laws_eqIntS_l0_ex : List (Ex × Sh) := [(.ret, ⟨[(4, .one (.ro .bool))], []⟩), (.exit 0, ⟨[], []⟩)]
noncomputable def laws_eqIntS_l0 {R : Type} (N : Nat) (k0 : Bool → Option R) (k1 : Unit → Option R) : Nat → (List Int) → (List Int) → Int → Option R
  | 0, _, _, _ => none
  | K + 1, a1, b1, i =>
    (br (ilt i (tLen a1))
      ((chk (inb a1 i)
        (chk (inb b1 i)
        (br (ine (rdI a1 i) (rdI b1 i))
        (k0 false)
        (laws_eqIntS_l0 N k0 k1 K a1 b1 (IntKind.i64.wrap (i + 1)))))))
      (k1 ()))
noncomputable def laws_eqIntS_l0_again {R : Type} (N : Nat) (ks : (j : Nat) → ((laws_eqIntS_l0_ex.getD j (.ret, Sh.none)).2).T → Option R) (k : Nat) (x : laws_eqIntS_l0_sh.T) : Option R :=
  laws_eqIntS_l0 N (fun y0 => ks 0 ((y0, ()), ())) (fun (_ : Unit) => ks 1 ((), ())) k x.1.1 x.1.2.1 x.1.2.2.1
noncomputable def laws_eqIntS_l0_s (N : Nat) : LSum := ⟨laws_eqIntS_l0_sh, laws_eqIntS_l0_ex, fun x ks => laws_eqIntS_l0_again N ks N x⟩
theorem laws_eqIntS_l0_step (N : Nat) (R : Type) (k : Nat) (x : laws_eqIntS_l0_sh.T) (ks : (j : Nat) → ((laws_eqIntS_l0_ex.getD j (.ret, Sh.none)).2).T → Option R) : laws_eqIntS_l0_again N ks (k + 1) x = roundF (laws_eqIntS_G N) tab [] (loopAt laws_eqIntS_code 0) laws_eqIntS_l0_sh laws_eqIntS_l0_ex (fun y => laws_eqIntS_l0_again N ks k y) ks x := by kernel_rfl
theorem laws_eqIntS_l0_ok (N : Nat) : LoopOk Try.prog Try.f10.ntmps (laws_eqIntS_l0_s N) (loopAt laws_eqIntS_code 0) :=
  loop_ok (l := laws_eqIntS_l0_s N) progOk (laws_eqIntS_gok N) (draw_ok progOk (laws_eqIntS_gok N)) (fun R k x ks => laws_eqIntS_l0_again N ks k x) (fun _ _ _ => rfl) (fun R k x ks => laws_eqIntS_l0_step N R k x ks) (fun R x ks r h => ⟨N, h⟩) (lsOk_at (L := []) trivial) (by kernel_rfl) (by kernel_rfl)
noncomputable def laws_eqIntS (N : Nat) (a : (List Int)) (b : (List Int)) : Option ((Bool × Unit) × (Unit)) :=
  (br (ine (tLen a) (tLen b))
    (some ((false, ()), ()))
    (laws_eqIntS_l0 N (fun x => some ((x, ()), ())) (fun (_ : Unit) => some ((true, ()), ())) N a b 0))
noncomputable def laws_eqIntS_S (N : Nat) : FSum := ⟨laws_eqIntS_ps, laws_eqIntS_rs, fun x => laws_eqIntS N x.1 x.2.1⟩
theorem laws_eqIntS_run (N : Nat) (x : argsT laws_eqIntS_ps) : laws_eqIntS N x.1 x.2.1 = funF (laws_eqIntS_G N) tab [laws_eqIntS_l0_s N] Try.f10 laws_eqIntS_ps laws_eqIntS_rs x := by kernel_rfl
theorem laws_eqIntS_pc (N : Nat) : PC Try.prog 10 (laws_eqIntS_S N) := by
  have e : laws_eqIntS_S N = ⟨laws_eqIntS_ps, laws_eqIntS_rs, funF (laws_eqIntS_G N) tab [laws_eqIntS_l0_s N] Try.f10 laws_eqIntS_ps laws_eqIntS_rs⟩ := congrArg (FSum.mk laws_eqIntS_ps laws_eqIntS_rs) (funext (laws_eqIntS_run N))
  rw [e]
  exact fun_ok (c := laws_eqIntS_code) progOk (laws_eqIntS_gok N) (draw_ok progOk (laws_eqIntS_gok N)) Try.call10 Try.func10 (by kernel_rfl) (lsOk_at (L := [laws_eqIntS_l0_s N]) ⟨laws_eqIntS_l0_ok N, trivial⟩) (by kernel_rfl) (by kernel_rfl) (by kernel_rfl) (by kernel_rfl) (by kernel_rfl)

/-! ### laws_eqIntA2 -/
abbrev laws_eqIntA2_ps : List (PV.Mode × Ty) := [(.ro, QII), (.ro, QII)]
abbrev laws_eqIntA2_rs : List (Bool × Ty) := [(true, .bool)]
noncomputable def laws_eqIntA2_G (N : Nat) : GTab := gOf []
theorem laws_eqIntA2_gok (N : Nat) : GOk Try.prog (laws_eqIntA2_G N) := gOf_ok trivial
noncomputable def laws_eqIntA2_code : Code := (Try.f43.body).getD .skip
noncomputable def laws_eqIntA2_l0_sh : Sh := ⟨[(2, .one (.adr 0 0)), (3, .one (.adr 1 0)), (5, .one (.num .i64 0))], [.box [.ro I, .ro I], .box [.ro I, .ro I]]⟩
noncomputable def laws_eqIntA2_l0_ex : List (Ex × Sh) := [(.ret, ⟨[(4, .one (.ro .bool))], []⟩), (.exit 0, ⟨[], []⟩)]
noncomputable def laws_eqIntA2_l0 {R : Type} (N : Nat) (k0 : Bool → Option R) (k1 : Unit → Option R) (_ : Nat) (o4 : Int) (o5 : Int) (o6 : Int) (o7 : Int) : Option R :=
  (br (ine o4 o6)
    (k0 false)
    ((br (ine o5 o7)
      (k0 false)
      (k1 ()))))
noncomputable def laws_eqIntA2_l0_again {R : Type} (N : Nat) (ks : (j : Nat) → ((laws_eqIntA2_l0_ex.getD j (.ret, Sh.none)).2).T → Option R) (x : laws_eqIntA2_l0_sh.T) : Option R :=
  laws_eqIntA2_l0 N (fun y0 => ks 0 ((y0, ()), ())) (fun (_ : Unit) => ks 1 ((), ())) N x.2.1.1 x.2.1.2.1 x.2.2.1.1 x.2.2.1.2.1
noncomputable def laws_eqIntA2_l0_s (N : Nat) : LSum := ⟨laws_eqIntA2_l0_sh, laws_eqIntA2_l0_ex, fun x ks => laws_eqIntA2_l0_again N ks x⟩
theorem laws_eqIntA2_l0_unr (N : Nat) (R : Type) (x : laws_eqIntA2_l0_sh.T) (ks : (j : Nat) → ((laws_eqIntA2_l0_ex.getD j (.ret, Sh.none)).2).T → Option R) : laws_eqIntA2_l0_again N ks x = unrF (laws_eqIntA2_G N) tab (loopAt laws_eqIntA2_code 0) laws_eqIntA2_l0_ex ks 3 (fill laws_eqIntA2_l0_sh x) := by kernel_rfl
theorem laws_eqIntA2_l0_ok (N : Nat) : LoopOk Try.prog Try.f43.ntmps (laws_eqIntA2_l0_s N) (loopAt laws_eqIntA2_code 0) :=
  unroll_ok (l := laws_eqIntA2_l0_s N) progOk (laws_eqIntA2_gok N) (draw_ok progOk (laws_eqIntA2_gok N)) (fun R x ks r h => ⟨3, (laws_eqIntA2_l0_unr N R x ks).symm.trans h⟩) (by kernel_rfl) (by kernel_rfl)
noncomputable def laws_eqIntA2 (N : Nat) (a : (Int × Int)) (b : (Int × Int)) : Option ((Bool × Unit) × (Unit)) :=
  laws_eqIntA2_l0 N (fun x => some ((x, ()), ())) (fun (_ : Unit) => some ((true, ()), ())) N a.1 a.2 b.1 b.2
noncomputable def laws_eqIntA2_S (N : Nat) : FSum := ⟨laws_eqIntA2_ps, laws_eqIntA2_rs, fun x => laws_eqIntA2 N x.1 x.2.1⟩
theorem laws_eqIntA2_run (N : Nat) (x : argsT laws_eqIntA2_ps) : laws_eqIntA2 N x.1 x.2.1 = funF (laws_eqIntA2_G N) tab [laws_eqIntA2_l0_s N] Try.f43 laws_eqIntA2_ps laws_eqIntA2_rs x := by kernel_rfl
theorem laws_eqIntA2_pc (N : Nat) : PC Try.prog 43 (laws_eqIntA2_S N) := by
  have e : laws_eqIntA2_S N = ⟨laws_eqIntA2_ps, laws_eqIntA2_rs, funF (laws_eqIntA2_G N) tab [laws_eqIntA2_l0_s N] Try.f43 laws_eqIntA2_ps laws_eqIntA2_rs⟩ := congrArg (FSum.mk laws_eqIntA2_ps laws_eqIntA2_rs) (funext (laws_eqIntA2_run N))
  rw [e]
  exact fun_ok (c := laws_eqIntA2_code) progOk (laws_eqIntA2_gok N) (draw_ok progOk (laws_eqIntA2_gok N)) Try.call43 Try.func43 (by kernel_rfl) (lsOk_at (L := [laws_eqIntA2_l0_s N]) ⟨laws_eqIntA2_l0_ok N, trivial⟩) (by kernel_rfl) (by kernel_rfl) (by kernel_rfl) (by kernel_rfl) (by kernel_rfl)

/-! ### laws_eqIntA2S -/
abbrev laws_eqIntA2S_ps : List (PV.Mode × Ty) := [(.ro, LQII), (.ro, LQII)]
abbrev laws_eqIntA2S_rs : List (Bool × Ty) := [(true, .bool)]
noncomputable def laws_eqIntA2S_G (N : Nat) : GTab := gOf [(43, laws_eqIntA2_S N)]
theorem laws_eqIntA2S_gok (N : Nat) : GOk Try.prog (laws_eqIntA2S_G N) := gOf_ok ⟨laws_eqIntA2_pc N, trivial⟩
noncomputable def laws_eqIntA2S_code : Code := (Try.f23.body).getD .skip
noncomputable def laws_eqIntA2S_l0_sh : Sh := ⟨[(0, .one (.ro LQII)), (1, .one (.ro LQII)), (5, .one (.ro I))], []⟩
noncomputable def laws_eqIntA2S_l0_ex : List (Ex × Sh) := [(.ret, ⟨[(4, .one (.ro .bool))], []⟩), (.exit 0, ⟨[], []⟩)]
noncomputable def laws_eqIntA2S_l0 {R : Type} (N : Nat) (k0 : Bool → Option R) (k1 : Unit → Option R) : Nat → (List (Int × Int)) → (List (Int × Int)) → Int → Option R
  | 0, _, _, _ => none
  | K + 1, a1, b1, i =>
    (br (ilt i (tLen a1))
      ((chk (inb a1 i)
        (chk (inb b1 i)
        ((laws_eqIntA2 N (rdP a1 i) (rdP b1 i)).bind fun r =>
        (br (!r.1.1)
          (k0 false)
          (laws_eqIntA2S_l0 N k0 k1 K a1 b1 (IntKind.i64.wrap (i + 1))))))))
      (k1 ()))
noncomputable def laws_eqIntA2S_l0_again {R : Type} (N : Nat) (ks : (j : Nat) → ((laws_eqIntA2S_l0_ex.getD j (.ret, Sh.none)).2).T → Option R) (k : Nat) (x : laws_eqIntA2S_l0_sh.T) : Option R :=
  laws_eqIntA2S_l0 N (fun y0 => ks 0 ((y0, ()), ())) (fun (_ : Unit) => ks 1 ((), ())) k x.1.1 x.1.2.1 x.1.2.2.1
noncomputable def laws_eqIntA2S_l0_s (N : Nat) : LSum := ⟨laws_eqIntA2S_l0_sh, laws_eqIntA2S_l0_ex, fun x ks => laws_eqIntA2S_l0_again N ks N x⟩
theorem laws_eqIntA2S_l0_step (N : Nat) (R : Type) (k : Nat) (x : laws_eqIntA2S_l0_sh.T) (ks : (j : Nat) → ((laws_eqIntA2S_l0_ex.getD j (.ret, Sh.none)).2).T → Option R) : laws_eqIntA2S_l0_again N ks (k + 1) x = roundF (laws_eqIntA2S_G N) tab [] (loopAt laws_eqIntA2S_code 0) laws_eqIntA2S_l0_sh laws_eqIntA2S_l0_ex (fun y => laws_eqIntA2S_l0_again N ks k y) ks x := by kernel_rfl
theorem laws_eqIntA2S_l0_ok (N : Nat) : LoopOk Try.prog Try.f23.ntmps (laws_eqIntA2S_l0_s N) (loopAt laws_eqIntA2S_code 0) :=
  loop_ok (l := laws_eqIntA2S_l0_s N) progOk (laws_eqIntA2S_gok N) (draw_ok progOk (laws_eqIntA2S_gok N)) (fun R k x ks => laws_eqIntA2S_l0_again N ks k x) (fun _ _ _ => rfl) (fun R k x ks => laws_eqIntA2S_l0_step N R k x ks) (fun R x ks r h => ⟨N, h⟩) (lsOk_at (L := []) trivial) (by kernel_rfl) (by kernel_rfl)
noncomputable def laws_eqIntA2S (N : Nat) (a : (List (Int × Int))) (b : (List (Int × Int))) : Option ((Bool × Unit) × (Unit)) :=
  (br (ine (tLen a) (tLen b))
    (some ((false, ()), ()))
    (laws_eqIntA2S_l0 N (fun x => some ((x, ()), ())) (fun (_ : Unit) => some ((true, ()), ())) N a b 0))
noncomputable def laws_eqIntA2S_S (N : Nat) : FSum := ⟨laws_eqIntA2S_ps, laws_eqIntA2S_rs, fun x => laws_eqIntA2S N x.1 x.2.1⟩
theorem laws_eqIntA2S_run (N : Nat) (x : argsT laws_eqIntA2S_ps) : laws_eqIntA2S N x.1 x.2.1 = funF (laws_eqIntA2S_G N) tab [laws_eqIntA2S_l0_s N] Try.f23 laws_eqIntA2S_ps laws_eqIntA2S_rs x := by kernel_rfl
theorem laws_eqIntA2S_pc (N : Nat) : PC Try.prog 23 (laws_eqIntA2S_S N) := by
  have e : laws_eqIntA2S_S N = ⟨laws_eqIntA2S_ps, laws_eqIntA2S_rs, funF (laws_eqIntA2S_G N) tab [laws_eqIntA2S_l0_s N] Try.f23 laws_eqIntA2S_ps laws_eqIntA2S_rs⟩ := congrArg (FSum.mk laws_eqIntA2S_ps laws_eqIntA2S_rs) (funext (laws_eqIntA2S_run N))
  rw [e]
  exact fun_ok (c := laws_eqIntA2S_code) progOk (laws_eqIntA2S_gok N) (draw_ok progOk (laws_eqIntA2S_gok N)) Try.call23 Try.func23 (by kernel_rfl) (lsOk_at (L := [laws_eqIntA2S_l0_s N]) ⟨laws_eqIntA2S_l0_ok N, trivial⟩) (by kernel_rfl) (by kernel_rfl) (by kernel_rfl) (by kernel_rfl) (by kernel_rfl)

/-! ### laws_eqGraph -/
abbrev laws_eqGraph_ps : List (PV.Mode × Ty) := [(.ro, QILQII), (.ro, QILQII)]
abbrev laws_eqGraph_rs : List (Bool × Ty) := [(true, .bool)]
noncomputable def laws_eqGraph_G (N : Nat) : GTab := gOf [(23, laws_eqIntA2S_S N)]
theorem laws_eqGraph_gok (N : Nat) : GOk Try.prog (laws_eqGraph_G N) := gOf_ok ⟨laws_eqIntA2S_pc N, trivial⟩
noncomputable def laws_eqGraph_code : Code := (Try.f11.body).getD .skip
noncomputable def laws_eqGraph (N : Nat) (a : (Int × (List (Int × Int)))) (b : (Int × (List (Int × Int)))) : Option ((Bool × Unit) × (Unit)) :=
  (br (ine a.1 b.1)
    (some ((false, ()), ()))
    (((laws_eqIntA2S N a.2 b.2).bind fun r =>
      (br (!r.1.1)
        (some ((false, ()), ()))
        (some ((true, ()), ()))))))
noncomputable def laws_eqGraph_S (N : Nat) : FSum := ⟨laws_eqGraph_ps, laws_eqGraph_rs, fun x => laws_eqGraph N x.1 x.2.1⟩
theorem laws_eqGraph_run (N : Nat) (x : argsT laws_eqGraph_ps) : laws_eqGraph N x.1 x.2.1 = funF (laws_eqGraph_G N) tab [] Try.f11 laws_eqGraph_ps laws_eqGraph_rs x := by kernel_rfl
theorem laws_eqGraph_pc (N : Nat) : PC Try.prog 11 (laws_eqGraph_S N) := by
  have e : laws_eqGraph_S N = ⟨laws_eqGraph_ps, laws_eqGraph_rs, funF (laws_eqGraph_G N) tab [] Try.f11 laws_eqGraph_ps laws_eqGraph_rs⟩ := congrArg (FSum.mk laws_eqGraph_ps laws_eqGraph_rs) (funext (laws_eqGraph_run N))
  rw [e]
  exact fun_ok (c := laws_eqGraph_code) progOk (laws_eqGraph_gok N) (draw_ok progOk (laws_eqGraph_gok N)) Try.call11 Try.func11 (by kernel_rfl) (lsOk_at (L := []) trivial) (by kernel_rfl) (by kernel_rfl) (by kernel_rfl) (by kernel_rfl) (by kernel_rfl)

/-! ### laws_markIntA2S -/
abbrev laws_markIntA2S_ps : List (PV.Mode × Ty) := [(.mut, LQII), (.ro, I)]
abbrev laws_markIntA2S_rs : List (Bool × Ty) := [(true, I)]
noncomputable def laws_markIntA2S_G (N : Nat) : GTab := gOf []
theorem laws_markIntA2S_gok (N : Nat) : GOk Try.prog (laws_markIntA2S_G N) := gOf_ok trivial
noncomputable def laws_markIntA2S_code : Code := (Try.f24.body).getD .skip
noncomputable def laws_markIntA2S_l0_0_sh : Sh := ⟨[(0, .one (.ref 0)), (1, .one (.ro I)), (5, .one (.ro I)), (6, .one (.num .i64 0))], [.sl 53 QII .own]⟩
noncomputable def laws_markIntA2S_l0_0_ex : List (Ex × Sh) := [(.exit 2, ⟨[(0, .one (.ref 0)), (1, .one (.ro I)), (5, .one (.ro I))], [.sl 53 QII .own]⟩)]
noncomputable def laws_markIntA2S_l0_0 {R : Type} (N : Nat) (k0 : Int → Int → (List (Int × Int)) → Option R) (_ : Nat) (kv3 : Int) (i2 : Int) (o2 : (List (Int × Int))) : Option R :=
  (chk (inb o2 i2)
    (chk (inb (tSet o2 i2 (kv3, (rdP o2 i2).2)) i2)
    (k0 (IntKind.i64.wrap ((IntKind.i64.wrap (kv3 + 1)) + 1)) i2 (tSet (tSet o2 i2 (kv3, (rdP o2 i2).2)) i2 ((rdP (tSet o2 i2 (kv3, (rdP o2 i2).2)) i2).1, (IntKind.i64.wrap (kv3 + 1)))))))
noncomputable def laws_markIntA2S_l0_0_again {R : Type} (N : Nat) (ks : (j : Nat) → ((laws_markIntA2S_l0_0_ex.getD j (.ret, Sh.none)).2).T → Option R) (x : laws_markIntA2S_l0_0_sh.T) : Option R :=
  laws_markIntA2S_l0_0 N (fun y0 y1 y2 => ks 0 (((), y0, y1, ()), (y2, ()))) N x.1.2.1 x.1.2.2.1 x.2.1
noncomputable def laws_markIntA2S_l0_0_s (N : Nat) : LSum := ⟨laws_markIntA2S_l0_0_sh, laws_markIntA2S_l0_0_ex, fun x ks => laws_markIntA2S_l0_0_again N ks x⟩
theorem laws_markIntA2S_l0_0_unr (N : Nat) (R : Type) (x : laws_markIntA2S_l0_0_sh.T) (ks : (j : Nat) → ((laws_markIntA2S_l0_0_ex.getD j (.ret, Sh.none)).2).T → Option R) : laws_markIntA2S_l0_0_again N ks x = unrF (laws_markIntA2S_G N) tab (loopAt (loopAt laws_markIntA2S_code 0) 0) laws_markIntA2S_l0_0_ex ks 3 (fill laws_markIntA2S_l0_0_sh x) := by kernel_rfl
theorem laws_markIntA2S_l0_0_ok (N : Nat) : LoopOk Try.prog Try.f24.ntmps (laws_markIntA2S_l0_0_s N) (loopAt (loopAt laws_markIntA2S_code 0) 0) :=
  unroll_ok (l := laws_markIntA2S_l0_0_s N) progOk (laws_markIntA2S_gok N) (draw_ok progOk (laws_markIntA2S_gok N)) (fun R x ks r h => ⟨3, (laws_markIntA2S_l0_0_unr N R x ks).symm.trans h⟩) (by kernel_rfl) (by kernel_rfl)
noncomputable def laws_markIntA2S_l0_sh : Sh := ⟨[(0, .one (.ref 0)), (1, .one (.ro I)), (5, .one (.ro I))], [.sl 53 QII .own]⟩
noncomputable def laws_markIntA2S_l0_ex : List (Ex × Sh) := [(.exit 0, ⟨[(0, .one (.ref 0)), (1, .one (.ro I))], [.sl 53 QII .own]⟩)]
noncomputable def laws_markIntA2S_l0 {R : Type} (N : Nat) (k0 : Int → (List (Int × Int)) → Option R) : Nat → Int → Int → (List (Int × Int)) → Option R
  | 0, _, _, _ => none
  | K + 1, kv1, i, o =>
    (br (ilt i (tLen o))
      (laws_markIntA2S_l0_0 N (fun kv2 i1 o1 => laws_markIntA2S_l0 N k0 K kv2 (IntKind.i64.wrap (i1 + 1)) o1) N kv1 i o)
      (k0 kv1 o))
noncomputable def laws_markIntA2S_l0_again {R : Type} (N : Nat) (ks : (j : Nat) → ((laws_markIntA2S_l0_ex.getD j (.ret, Sh.none)).2).T → Option R) (k : Nat) (x : laws_markIntA2S_l0_sh.T) : Option R :=
  laws_markIntA2S_l0 N (fun y0 y1 => ks 0 (((), y0, ()), (y1, ()))) k x.1.2.1 x.1.2.2.1 x.2.1
noncomputable def laws_markIntA2S_l0_s (N : Nat) : LSum := ⟨laws_markIntA2S_l0_sh, laws_markIntA2S_l0_ex, fun x ks => laws_markIntA2S_l0_again N ks N x⟩
theorem laws_markIntA2S_l0_step (N : Nat) (R : Type) (k : Nat) (x : laws_markIntA2S_l0_sh.T) (ks : (j : Nat) → ((laws_markIntA2S_l0_ex.getD j (.ret, Sh.none)).2).T → Option R) : laws_markIntA2S_l0_again N ks (k + 1) x = roundF (laws_markIntA2S_G N) tab [laws_markIntA2S_l0_0_s N] (loopAt laws_markIntA2S_code 0) laws_markIntA2S_l0_sh laws_markIntA2S_l0_ex (fun y => laws_markIntA2S_l0_again N ks k y) ks x := by kernel_rfl
theorem laws_markIntA2S_l0_ok (N : Nat) : LoopOk Try.prog Try.f24.ntmps (laws_markIntA2S_l0_s N) (loopAt laws_markIntA2S_code 0) :=
  loop_ok (l := laws_markIntA2S_l0_s N) progOk (laws_markIntA2S_gok N) (draw_ok progOk (laws_markIntA2S_gok N)) (fun R k x ks => laws_markIntA2S_l0_again N ks k x) (fun _ _ _ => rfl) (fun R k x ks => laws_markIntA2S_l0_step N R k x ks) (fun R x ks r h => ⟨N, h⟩) (lsOk_at (L := [laws_markIntA2S_l0_0_s N]) ⟨laws_markIntA2S_l0_0_ok N, trivial⟩) (by kernel_rfl) (by kernel_rfl)
noncomputable def laws_markIntA2S (N : Nat) (a : (List (Int × Int))) (kv : Int) : Option ((Int × Unit) × ((List (Int × Int)) × Unit)) :=
  laws_markIntA2S_l0 N (fun kv1 o => some ((kv1, ()), (o, ()))) N kv 0 a
noncomputable def laws_markIntA2S_S (N : Nat) : FSum := ⟨laws_markIntA2S_ps, laws_markIntA2S_rs, fun x => laws_markIntA2S N x.1 x.2.1⟩
theorem laws_markIntA2S_run (N : Nat) (x : argsT laws_markIntA2S_ps) : laws_markIntA2S N x.1 x.2.1 = funF (laws_markIntA2S_G N) tab [laws_markIntA2S_l0_s N] Try.f24 laws_markIntA2S_ps laws_markIntA2S_rs x := by kernel_rfl
theorem laws_markIntA2S_pc (N : Nat) : PC Try.prog 24 (laws_markIntA2S_S N) := by
  have e : laws_markIntA2S_S N = ⟨laws_markIntA2S_ps, laws_markIntA2S_rs, funF (laws_markIntA2S_G N) tab [laws_markIntA2S_l0_s N] Try.f24 laws_markIntA2S_ps laws_markIntA2S_rs⟩ := congrArg (FSum.mk laws_markIntA2S_ps laws_markIntA2S_rs) (funext (laws_markIntA2S_run N))
  rw [e]
  exact fun_ok (c := laws_markIntA2S_code) progOk (laws_markIntA2S_gok N) (draw_ok progOk (laws_markIntA2S_gok N)) Try.call24 Try.func24 (by kernel_rfl) (lsOk_at (L := [laws_markIntA2S_l0_s N]) ⟨laws_markIntA2S_l0_ok N, trivial⟩) (by kernel_rfl) (by kernel_rfl) (by kernel_rfl) (by kernel_rfl) (by kernel_rfl)

/-! ### laws_markGraph -/
abbrev laws_markGraph_ps : List (PV.Mode × Ty) := [(.mut, QILQII), (.ro, I)]
abbrev laws_markGraph_rs : List (Bool × Ty) := [(true, I)]
noncomputable def laws_markGraph_G (N : Nat) : GTab := gOf [(24, laws_markIntA2S_S N)]
theorem laws_markGraph_gok (N : Nat) : GOk Try.prog (laws_markGraph_G N) := gOf_ok ⟨laws_markIntA2S_pc N, trivial⟩
noncomputable def laws_markGraph_code : Code := (Try.f12.body).getD .skip
noncomputable def laws_markGraph (N : Nat) (a : (Int × (List (Int × Int)))) (kv : Int) : Option ((Int × Unit) × ((Int × (List (Int × Int))) × Unit)) :=
  ((laws_markIntA2S N a.2 kv).bind fun r =>
    some ((r.1.1, ()), ((a.1, r.2.1), ())))
noncomputable def laws_markGraph_S (N : Nat) : FSum := ⟨laws_markGraph_ps, laws_markGraph_rs, fun x => laws_markGraph N x.1 x.2.1⟩
theorem laws_markGraph_run (N : Nat) (x : argsT laws_markGraph_ps) : laws_markGraph N x.1 x.2.1 = funF (laws_markGraph_G N) tab [] Try.f12 laws_markGraph_ps laws_markGraph_rs x := by kernel_rfl
theorem laws_markGraph_pc (N : Nat) : PC Try.prog 12 (laws_markGraph_S N) := by
  have e : laws_markGraph_S N = ⟨laws_markGraph_ps, laws_markGraph_rs, funF (laws_markGraph_G N) tab [] Try.f12 laws_markGraph_ps laws_markGraph_rs⟩ := congrArg (FSum.mk laws_markGraph_ps laws_markGraph_rs) (funext (laws_markGraph_run N))
  rw [e]
  exact fun_ok (c := laws_markGraph_code) progOk (laws_markGraph_gok N) (draw_ok progOk (laws_markGraph_gok N)) Try.call12 Try.func12 (by kernel_rfl) (lsOk_at (L := []) trivial) (by kernel_rfl) (by kernel_rfl) (by kernel_rfl) (by kernel_rfl) (by kernel_rfl)

/-! ### laws_markIntS -/
abbrev laws_markIntS_ps : List (PV.Mode × Ty) := [(.mut, LI), (.ro, I)]
abbrev laws_markIntS_rs : List (Bool × Ty) := [(true, I)]
noncomputable def laws_markIntS_G (N : Nat) : GTab := gOf []
theorem laws_markIntS_gok (N : Nat) : GOk Try.prog (laws_markIntS_G N) := gOf_ok trivial
noncomputable def laws_markIntS_code : Code := (Try.f13.body).getD .skip
noncomputable def laws_markIntS_l0_sh : Sh := ⟨[(0, .one (.ref 0)), (1, .one (.ro I)), (5, .one (.ro I))], [.sl 3 I .own]⟩
noncomputable def laws_markIntS_l0_ex : List (Ex × Sh) := [(.exit 0, ⟨[(0, .one (.ref 0)), (1, .one (.ro I))], [.sl 3 I .own]⟩)]
noncomputable def laws_markIntS_l0 {R : Type} (N : Nat) (k0 : Int → (List Int) → Option R) : Nat → Int → Int → (List Int) → Option R
  | 0, _, _, _ => none
  | K + 1, kv1, i, o =>
    (br (ilt i (tLen o))
      ((chk (inb o i)
        (laws_markIntS_l0 N k0 K (IntKind.i64.wrap (kv1 + 1)) (IntKind.i64.wrap (i + 1)) (tSet o i kv1))))
      (k0 kv1 o))
noncomputable def laws_markIntS_l0_again {R : Type} (N : Nat) (ks : (j : Nat) → ((laws_markIntS_l0_ex.getD j (.ret, Sh.none)).2).T → Option R) (k : Nat) (x : laws_markIntS_l0_sh.T) : Option R :=
  laws_markIntS_l0 N (fun y0 y1 => ks 0 (((), y0, ()), (y1, ()))) k x.1.2.1 x.1.2.2.1 x.2.1
noncomputable def laws_markIntS_l0_s (N : Nat) : LSum := ⟨laws_markIntS_l0_sh, laws_markIntS_l0_ex, fun x ks => laws_markIntS_l0_again N ks N x⟩
theorem laws_markIntS_l0_step (N : Nat) (R : Type) (k : Nat) (x : laws_markIntS_l0_sh.T) (ks : (j : Nat) → ((laws_markIntS_l0_ex.getD j (.ret, Sh.none)).2).T → Option R) : laws_markIntS_l0_again N ks (k + 1) x = roundF (laws_markIntS_G N) tab [] (loopAt laws_markIntS_code 0) laws_markIntS_l0_sh laws_markIntS_l0_ex (fun y => laws_markIntS_l0_again N ks k y) ks x := by kernel_rfl
theorem laws_markIntS_l0_ok (N : Nat) : LoopOk Try.prog Try.f13.ntmps (laws_markIntS_l0_s N) (loopAt laws_markIntS_code 0) :=
  loop_ok (l := laws_markIntS_l0_s N) progOk (laws_markIntS_gok N) (draw_ok progOk (laws_markIntS_gok N)) (fun R k x ks => laws_markIntS_l0_again N ks k x) (fun _ _ _ => rfl) (fun R k x ks => laws_markIntS_l0_step N R k x ks) (fun R x ks r h => ⟨N, h⟩) (lsOk_at (L := []) trivial) (by kernel_rfl) (by kernel_rfl)
noncomputable def laws_markIntS (N : Nat) (a : (List Int)) (kv : Int) : Option ((Int × Unit) × ((List Int) × Unit)) :=
  laws_markIntS_l0 N (fun kv1 o => some ((kv1, ()), (o, ()))) N kv 0 a
noncomputable def laws_markIntS_S (N : Nat) : FSum := ⟨laws_markIntS_ps, laws_markIntS_rs, fun x => laws_markIntS N x.1 x.2.1⟩
theorem laws_markIntS_run (N : Nat) (x : argsT laws_markIntS_ps) : laws_markIntS N x.1 x.2.1 = funF (laws_markIntS_G N) tab [laws_markIntS_l0_s N] Try.f13 laws_markIntS_ps laws_markIntS_rs x := by kernel_rfl
theorem laws_markIntS_pc (N : Nat) : PC Try.prog 13 (laws_markIntS_S N) := by
  have e : laws_markIntS_S N = ⟨laws_markIntS_ps, laws_markIntS_rs, funF (laws_markIntS_G N) tab [laws_markIntS_l0_s N] Try.f13 laws_markIntS_ps laws_markIntS_rs⟩ := congrArg (FSum.mk laws_markIntS_ps laws_markIntS_rs) (funext (laws_markIntS_run N))
  rw [e]
  exact fun_ok (c := laws_markIntS_code) progOk (laws_markIntS_gok N) (draw_ok progOk (laws_markIntS_gok N)) Try.call13 Try.func13 (by kernel_rfl) (lsOk_at (L := [laws_markIntS_l0_s N]) ⟨laws_markIntS_l0_ok N, trivial⟩) (by kernel_rfl) (by kernel_rfl) (by kernel_rfl) (by kernel_rfl) (by kernel_rfl)

/-! ### laws_heldIntS -/
abbrev laws_heldIntS_ps : List (PV.Mode × Ty) := [(.ro, LI), (.ro, I)]
abbrev laws_heldIntS_rs : List (Bool × Ty) := [(true, I)]
noncomputable def laws_heldIntS_G (N : Nat) : GTab := gOf []
theorem laws_heldIntS_gok (N : Nat) : GOk Try.prog (laws_heldIntS_G N) := gOf_ok trivial
noncomputable def laws_heldIntS_code : Code := (Try.f14.body).getD .skip
noncomputable def laws_heldIntS_l0_sh : Sh := ⟨[(0, .one (.ro LI)), (1, .one (.ro I)), (5, .one (.ro I))], []⟩
noncomputable def laws_heldIntS_l0_ex : List (Ex × Sh) := [(.ret, ⟨[(4, .one (.ro I))], []⟩), (.exit 0, ⟨[(1, .one (.ro I))], []⟩)]
noncomputable def laws_heldIntS_l0 {R : Type} (N : Nat) (k0 : Int → Option R) (k1 : Int → Option R) : Nat → (List Int) → Int → Int → Option R
  | 0, _, _, _ => none
  | K + 1, a1, kv1, i =>
    (br (ilt i (tLen a1))
      ((chk (inb a1 i)
        (br (ine (rdI a1 i) kv1)
        (k0 (-1))
        (laws_heldIntS_l0 N k0 k1 K a1 (IntKind.i64.wrap (kv1 + 1)) (IntKind.i64.wrap (i + 1))))))
      (k1 kv1))
noncomputable def laws_heldIntS_l0_again {R : Type} (N : Nat) (ks : (j : Nat) → ((laws_heldIntS_l0_ex.getD j (.ret, Sh.none)).2).T → Option R) (k : Nat) (x : laws_heldIntS_l0_sh.T) : Option R :=
  laws_heldIntS_l0 N (fun y0 => ks 0 ((y0, ()), ())) (fun y0 => ks 1 ((y0, ()), ())) k x.1.1 x.1.2.1 x.1.2.2.1
noncomputable def laws_heldIntS_l0_s (N : Nat) : LSum := ⟨laws_heldIntS_l0_sh, laws_heldIntS_l0_ex, fun x ks => laws_heldIntS_l0_again N ks N x⟩
theorem laws_heldIntS_l0_step (N : Nat) (R : Type) (k : Nat) (x : laws_heldIntS_l0_sh.T) (ks : (j : Nat) → ((laws_heldIntS_l0_ex.getD j (.ret, Sh.none)).2).T → Option R) : laws_heldIntS_l0_again N ks (k + 1) x = roundF (laws_heldIntS_G N) tab [] (loopAt laws_heldIntS_code 0) laws_heldIntS_l0_sh laws_heldIntS_l0_ex (fun y => laws_heldIntS_l0_again N ks k y) ks x := by kernel_rfl
theorem laws_heldIntS_l0_ok (N : Nat) : LoopOk Try.prog Try.f14.ntmps (laws_heldIntS_l0_s N) (loopAt laws_heldIntS_code 0) :=
  loop_ok (l := laws_heldIntS_l0_s N) progOk (laws_heldIntS_gok N) (draw_ok progOk (laws_heldIntS_gok N)) (fun R k x ks => laws_heldIntS_l0_again N ks k x) (fun _ _ _ => rfl) (fun R k x ks => laws_heldIntS_l0_step N R k x ks) (fun R x ks r h => ⟨N, h⟩) (lsOk_at (L := []) trivial) (by kernel_rfl) (by kernel_rfl)
noncomputable def laws_heldIntS (N : Nat) (a : (List Int)) (kv : Int) : Option ((Int × Unit) × (Unit)) :=
  laws_heldIntS_l0 N (fun x => some ((x, ()), ())) (fun kv1 => some ((kv1, ()), ())) N a kv 0
noncomputable def laws_heldIntS_S (N : Nat) : FSum := ⟨laws_heldIntS_ps, laws_heldIntS_rs, fun x => laws_heldIntS N x.1 x.2.1⟩
theorem laws_heldIntS_run (N : Nat) (x : argsT laws_heldIntS_ps) : laws_heldIntS N x.1 x.2.1 = funF (laws_heldIntS_G N) tab [laws_heldIntS_l0_s N] Try.f14 laws_heldIntS_ps laws_heldIntS_rs x := by kernel_rfl
theorem laws_heldIntS_pc (N : Nat) : PC Try.prog 14 (laws_heldIntS_S N) := by
  have e : laws_heldIntS_S N = ⟨laws_heldIntS_ps, laws_heldIntS_rs, funF (laws_heldIntS_G N) tab [laws_heldIntS_l0_s N] Try.f14 laws_heldIntS_ps laws_heldIntS_rs⟩ := congrArg (FSum.mk laws_heldIntS_ps laws_heldIntS_rs) (funext (laws_heldIntS_run N))
  rw [e]
  exact fun_ok (c := laws_heldIntS_code) progOk (laws_heldIntS_gok N) (draw_ok progOk (laws_heldIntS_gok N)) Try.call14 Try.func14 (by kernel_rfl) (lsOk_at (L := [laws_heldIntS_l0_s N]) ⟨laws_heldIntS_l0_ok N, trivial⟩) (by kernel_rfl) (by kernel_rfl) (by kernel_rfl) (by kernel_rfl) (by kernel_rfl)

/-! ### laws_FnExactGreedyColours -/
abbrev laws_FnExactGreedyColours_ps : List (PV.Mode × Ty) := [(.ro, QILQII), (.ro, LI)]
abbrev laws_FnExactGreedyColours_rs : List (Bool × Ty) := [(true, .bool)]
noncomputable def laws_FnExactGreedyColours_G (N : Nat) : GTab := gOf [(5, laws_szGraph_S N), (7, laws_toGraph_S N), (8, laws_toIntS_S N), (15, spec_GreedyColours_S N), (16, impl_GreedyColours_S N), (10, laws_eqIntS_S N), (11, laws_eqGraph_S N), (12, laws_markGraph_S N), (13, laws_markIntS_S N), (14, laws_heldIntS_S N)]
theorem laws_FnExactGreedyColours_gok (N : Nat) : GOk Try.prog (laws_FnExactGreedyColours_G N) := gOf_ok ⟨laws_szGraph_pc N, laws_toGraph_pc N, laws_toIntS_pc N, spec_GreedyColours_pc N, impl_GreedyColours_pc N, laws_eqIntS_pc N, laws_eqGraph_pc N, laws_markGraph_pc N, laws_markIntS_pc N, laws_heldIntS_pc N, trivial⟩
noncomputable def laws_FnExactGreedyColours_code : Code := (Try.f4.body).getD .skip
noncomputable def laws_FnExactGreedyColours (N : Nat) (c : (Int × (List (Int × Int)))) (c1 : (List Int)) : Option ((Bool × Unit) × (Unit)) :=
  (br (ilt 1048576 (tLen c1))
    (some ((true, ()), ()))
    (((laws_szGraph N (c.1, c.2) 1048576).bind fun r =>
      (br (ilt r.1.1 0)
        (some ((true, ()), ()))
        (((laws_toGraph N (c.1, c.2)).bind fun r1 =>
          ((laws_toIntS N c1).bind fun r2 =>
            ((spec_GreedyColours N (r1.1.1.1, r1.1.1.2) r2.1.1).bind fun r3 =>
              ((laws_toGraph N (c.1, c.2)).bind fun r4 =>
                ((laws_toIntS N c1).bind fun r5 =>
                  ((impl_GreedyColours N (r4.1.1.1, r4.1.1.2) r5.1.1).bind fun r6 =>
                    ((laws_eqIntS N r6.1.1 r3.1.1).bind fun r7 =>
                      (br (!r7.1.1)
                        (some ((false, ()), ()))
                        ((br (!(r6.1.2.1 == r3.1.2.1))
                          (some ((false, ()), ()))
                          (((laws_toGraph N (c.1, c.2)).bind fun r8 =>
                            ((laws_eqGraph N (r4.1.1.1, r4.1.1.2) (r8.1.1.1, r8.1.1.2)).bind fun r9 =>
                              (br (!r9.1.1)
                                (some ((false, ()), ()))
                                (((laws_toIntS N c1).bind fun r10 =>
                                  ((laws_eqIntS N r5.1.1 r10.1.1).bind fun r11 =>
                                    (br (!r11.1.1)
                                      (some ((false, ()), ()))
                                      (((laws_markGraph N (r4.1.1.1, r4.1.1.2) 1).bind fun r12 =>
                                        ((laws_markIntS N r5.1.1 r12.1.1).bind fun r13 =>
                                          (br (ilt r13.1.1 0)
                                            (some ((false, ()), ()))
                                            (((laws_eqIntS N r6.1.1 r3.1.1).bind fun r14 =>
                                              (br (!r14.1.1)
                                                (some ((false, ()), ()))
                                                ((br (!(r6.1.2.1 == r3.1.2.1))
                                                  (some ((false, ()), ()))
                                                  (((laws_markIntS N r6.1.1 1).bind fun r15 =>
                                                    ((laws_heldIntS N r15.2.1 1).bind fun r16 =>
                                                      (br (ilt r16.1.1 0)
                                                        (some ((false, ()), ()))
                                                        ((br (ine r16.1.1 r15.1.1)
                                                          (some ((false, ()), ()))
                                                          (((laws_toGraph N (c.1, c.2)).bind fun r17 =>
                                                            ((laws_toIntS N c1).bind fun r18 =>
                                                              ((impl_GreedyColours N (r17.1.1.1, r17.1.1.2) r18.1.1).bind fun r19 =>
                                                                ((laws_eqIntS N r19.1.1 r3.1.1).bind fun r20 =>
                                                                  (br (!r20.1.1)
                                                                    (some ((false, ()), ()))
                                                                    ((br (!(r19.1.2.1 == r3.1.2.1))
                                                                      (some ((false, ()), ()))
                                                                      (((laws_heldIntS N r15.2.1 1).bind fun r21 =>
                                                                        (br (ilt r21.1.1 0)
                                                                          (some ((false, ()), ()))
                                                                          ((br (ine r21.1.1 r15.1.1)
                                                                            (some ((false, ()), ()))
                                                                            (some ((true, ()), ())))))))))))))))))))))))))))))))))))))))))))))))))))))
noncomputable def laws_FnExactGreedyColours_S (N : Nat) : FSum := ⟨laws_FnExactGreedyColours_ps, laws_FnExactGreedyColours_rs, fun x => laws_FnExactGreedyColours N x.1 x.2.1⟩
theorem laws_FnExactGreedyColours_run (N : Nat) (x : argsT laws_FnExactGreedyColours_ps) : laws_FnExactGreedyColours N x.1 x.2.1 = funF (laws_FnExactGreedyColours_G N) tab [] Try.f4 laws_FnExactGreedyColours_ps laws_FnExactGreedyColours_rs x := by kernel_rfl
theorem laws_FnExactGreedyColours_pc (N : Nat) : PC Try.prog 4 (laws_FnExactGreedyColours_S N) := by
  have e : laws_FnExactGreedyColours_S N = ⟨laws_FnExactGreedyColours_ps, laws_FnExactGreedyColours_rs, funF (laws_FnExactGreedyColours_G N) tab [] Try.f4 laws_FnExactGreedyColours_ps laws_FnExactGreedyColours_rs⟩ := congrArg (FSum.mk laws_FnExactGreedyColours_ps laws_FnExactGreedyColours_rs) (funext (laws_FnExactGreedyColours_run N))
  rw [e]
  exact fun_ok (c := laws_FnExactGreedyColours_code) progOk (laws_FnExactGreedyColours_gok N) (draw_ok progOk (laws_FnExactGreedyColours_gok N)) Try.call4 Try.func4 (by kernel_rfl) (lsOk_at (L := []) trivial) (by kernel_rfl) (by kernel_rfl) (by kernel_rfl) (by kernel_rfl) (by kernel_rfl)
end Go.Proofs.Ytkffaahlpdlkoaa
