/- Functions of the program as functions on data. -/
import Derived.Test.YtgelipdkheahdaaMixingColoursFa
set_option linter.all false
namespace Go.Proofs.Ytgelipdkheahdaa
open Go Go.PV
/-! ### spec_l2Parts -/
abbrev spec_l2Parts_ps : List (PV.Mode × Ty) := [(.ro, QLLILQII)]
abbrev spec_l2Parts_rs : List (Bool × Ty) := [(true, LLI)]
noncomputable def spec_l2Parts_G (N : Nat) : GTab := gOf [(98, spec_l2Lists_S N), (99, spec_l2Spread_S N)]
theorem spec_l2Parts_gok (N : Nat) : GOk Try.prog (spec_l2Parts_G N) := gOf_ok ⟨spec_l2Lists_pc N, spec_l2Spread_pc N, trivial⟩
noncomputable def spec_l2Parts_code : Code := (Try.f58.body).getD .skip
noncomputable def spec_l2Parts_l0_0_sh : Sh := ⟨[(3, .one (.ref 0)), (4, .one (.ref 1)), (5, .one (.ref 2)), (6, .one (.ro I)), (7, .one (.ref 3)), (8, .one (.ref 4)), (9, .one (.ro I))], [.sl 43 LI .deep, .sl 43 LI .deep, .sl 4 .bool .own, .sl 3 I .own, .sl 3 I .own]⟩
noncomputable def spec_l2Parts_l0_0_ex : List (Ex × Sh) := [(.exit 2, ⟨[(3, .one (.ref 0)), (4, .one (.ref 1)), (5, .one (.ref 2)), (6, .one (.ro I)), (7, .one (.ref 3))], [.sl 43 LI .deep, .sl 43 LI .deep, .sl 4 .bool .own, .sl 3 I .own]⟩)]
noncomputable def spec_l2Parts_l0_0 {R : Type} (N : Nat) (k0 : Int → (List (List Int)) → (List (List Int)) → (List Bool) → (List Int) → Option R) : Nat → Int → Int → (List (List Int)) → (List (List Int)) → (List Bool) → (List Int) → (List Int) → Option R
  | 0, _, _, _, _, _, _, _ => none
  | K + 1, i1, kv, o3, o4, o5, o6, o7 =>
    (br (ilt kv (tLen o7))
      ((chk (inb o7 kv)
        (br (ile 0 (rdI o7 kv))
        ((chk (room o6 [kv])
          (chk (inb o5 kv)
          (spec_l2Parts_l0_0 N k0 K i1 (IntKind.i64.wrap (kv + 1)) o3 o4 (tSet o5 kv true) (tApp o6 [kv]) o7))))
        (spec_l2Parts_l0_0 N k0 K i1 (IntKind.i64.wrap (kv + 1)) o3 o4 o5 o6 o7))))
      (k0 i1 o3 o4 o5 o6))
noncomputable def spec_l2Parts_l0_0_again {R : Type} (N : Nat) (ks : (j : Nat) → ((spec_l2Parts_l0_0_ex.getD j (.ret, Sh.none)).2).T → Option R) (k : Nat) (x : spec_l2Parts_l0_0_sh.T) : Option R :=
  spec_l2Parts_l0_0 N (fun y0 y1 y2 y3 y4 => ks 0 (((), (), (), y0, (), ()), (y1, y2, y3, y4, ()))) k x.1.2.2.2.1 x.1.2.2.2.2.2.2.1 x.2.1 x.2.2.1 x.2.2.2.1 x.2.2.2.2.1 x.2.2.2.2.2.1
noncomputable def spec_l2Parts_l0_0_s (N : Nat) : LSum := ⟨spec_l2Parts_l0_0_sh, spec_l2Parts_l0_0_ex, fun x ks => spec_l2Parts_l0_0_again N ks N x⟩
theorem spec_l2Parts_l0_0_step (N : Nat) (R : Type) (k : Nat) (x : spec_l2Parts_l0_0_sh.T) (ks : (j : Nat) → ((spec_l2Parts_l0_0_ex.getD j (.ret, Sh.none)).2).T → Option R) : spec_l2Parts_l0_0_again N ks (k + 1) x = roundF (spec_l2Parts_G N) tab [] (loopAt (loopAt spec_l2Parts_code 0) 0) spec_l2Parts_l0_0_sh spec_l2Parts_l0_0_ex (fun y => spec_l2Parts_l0_0_again N ks k y) ks x := by kernel_rfl
theorem spec_l2Parts_l0_0_ok (N : Nat) : LoopOk Try.prog Try.f58.ntmps (spec_l2Parts_l0_0_s N) (loopAt (loopAt spec_l2Parts_code 0) 0) :=
  loop_ok (l := spec_l2Parts_l0_0_s N) progOk (spec_l2Parts_gok N) (draw_ok progOk (spec_l2Parts_gok N)) (fun R k x ks => spec_l2Parts_l0_0_again N ks k x) (fun _ _ _ => rfl) (fun R k x ks => spec_l2Parts_l0_0_step N R k x ks) (fun R x ks r h => ⟨N, h⟩) (lsOk_at (L := []) trivial) (by kernel_rfl) (by kernel_rfl)
noncomputable def spec_l2Parts_l0_sh : Sh := ⟨[(3, .one (.ref 0)), (4, .one (.ref 1)), (5, .one (.ref 2)), (6, .one (.ro I))], [.sl 43 LI .deep, .sl 43 LI .deep, .sl 4 .bool .own]⟩
noncomputable def spec_l2Parts_l0_ex : List (Ex × Sh) := [(.exit 0, ⟨[(3, .one (.ref 0))], [.sl 43 LI .deep]⟩)]
noncomputable def spec_l2Parts_l0 {R : Type} (N : Nat) (k0 : (List (List Int)) → Option R) : Nat → Int → (List (List Int)) → (List (List Int)) → (List Bool) → Option R
  | 0, _, _, _, _ => none
  | K + 1, i, o, o1, o2 =>
    (br (ilt i (tLen o1))
      ((chk (inb o2 i)
        (br (rdB o2 i)
        (spec_l2Parts_l0 N k0 K (IntKind.i64.wrap (i + 1)) o o1 o2)
        (((spec_l2Spread N o1 i).bind fun r1 =>
          spec_l2Parts_l0_0 N (fun i1 o3 o4 o5 o6 => (chk (room o3 [o6])
            (spec_l2Parts_l0 N k0 K (IntKind.i64.wrap (i1 + 1)) (tApp o3 [o6]) o4 o5))) N i 0 o o1 o2 [] r1.1.1)))))
      (k0 o))
noncomputable def spec_l2Parts_l0_again {R : Type} (N : Nat) (ks : (j : Nat) → ((spec_l2Parts_l0_ex.getD j (.ret, Sh.none)).2).T → Option R) (k : Nat) (x : spec_l2Parts_l0_sh.T) : Option R :=
  spec_l2Parts_l0 N (fun y0 => ks 0 (((), ()), (y0, ()))) k x.1.2.2.2.1 x.2.1 x.2.2.1 x.2.2.2.1
noncomputable def spec_l2Parts_l0_s (N : Nat) : LSum := ⟨spec_l2Parts_l0_sh, spec_l2Parts_l0_ex, fun x ks => spec_l2Parts_l0_again N ks N x⟩
theorem spec_l2Parts_l0_step (N : Nat) (R : Type) (k : Nat) (x : spec_l2Parts_l0_sh.T) (ks : (j : Nat) → ((spec_l2Parts_l0_ex.getD j (.ret, Sh.none)).2).T → Option R) : spec_l2Parts_l0_again N ks (k + 1) x = roundF (spec_l2Parts_G N) tab [spec_l2Parts_l0_0_s N] (loopAt spec_l2Parts_code 0) spec_l2Parts_l0_sh spec_l2Parts_l0_ex (fun y => spec_l2Parts_l0_again N ks k y) ks x := by kernel_rfl
theorem spec_l2Parts_l0_ok (N : Nat) : LoopOk Try.prog Try.f58.ntmps (spec_l2Parts_l0_s N) (loopAt spec_l2Parts_code 0) :=
  loop_ok (l := spec_l2Parts_l0_s N) progOk (spec_l2Parts_gok N) (draw_ok progOk (spec_l2Parts_gok N)) (fun R k x ks => spec_l2Parts_l0_again N ks k x) (fun _ _ _ => rfl) (fun R k x ks => spec_l2Parts_l0_step N R k x ks) (fun R x ks r h => ⟨N, h⟩) (lsOk_at (L := [spec_l2Parts_l0_0_s N]) ⟨spec_l2Parts_l0_0_ok N, trivial⟩) (by kernel_rfl) (by kernel_rfl)
noncomputable def spec_l2Parts (N : Nat) (x : ((List (List Int)) × (List (Int × Int)))) : Option (((List (List Int)) × Unit) × (Unit)) :=
  ((spec_l2Lists N (x.1, x.2)).bind fun r =>
    (chk (ile 0 (tLen r.1.1) && ile (tLen r.1.1) (tLen r.1.1) && fits (tLen r.1.1))
      (spec_l2Parts_l0 N (fun o => some ((o, ()), ())) N 0 [] r.1.1 (tRep (tLen r.1.1) false))))
noncomputable def spec_l2Parts_S (N : Nat) : FSum := ⟨spec_l2Parts_ps, spec_l2Parts_rs, fun x => spec_l2Parts N x.1⟩
theorem spec_l2Parts_run (N : Nat) (x : argsT spec_l2Parts_ps) : spec_l2Parts N x.1 = funF (spec_l2Parts_G N) tab [spec_l2Parts_l0_s N] Try.f58 spec_l2Parts_ps spec_l2Parts_rs x := by kernel_rfl
theorem spec_l2Parts_pc (N : Nat) : PC Try.prog 58 (spec_l2Parts_S N) := by
  have e : spec_l2Parts_S N = ⟨spec_l2Parts_ps, spec_l2Parts_rs, funF (spec_l2Parts_G N) tab [spec_l2Parts_l0_s N] Try.f58 spec_l2Parts_ps spec_l2Parts_rs⟩ := congrArg (FSum.mk spec_l2Parts_ps spec_l2Parts_rs) (funext (spec_l2Parts_run N))
  rw [e]
  exact fun_ok (c := spec_l2Parts_code) progOk (spec_l2Parts_gok N) (draw_ok progOk (spec_l2Parts_gok N)) Try.call58 Try.func58 (by kernel_rfl) (lsOk_at (L := [spec_l2Parts_l0_s N]) ⟨spec_l2Parts_l0_ok N, trivial⟩) (by kernel_rfl) (by kernel_rfl) (by kernel_rfl) (by kernel_rfl) (by kernel_rfl)

/-! ### spec_MixingColours -/
abbrev spec_MixingColours_ps : List (PV.Mode × Ty) := [(.ro, QILQII)]
abbrev spec_MixingColours_rs : List (Bool × Ty) := [(true, I), (true, .bool)]
noncomputable def spec_MixingColours_G (N : Nat) : GTab := gOf [(57, spec_l5Space_S N), (58, spec_l2Parts_S N)]
theorem spec_MixingColours_gok (N : Nat) : GOk Try.prog (spec_MixingColours_G N) := gOf_ok ⟨spec_l5Space_pc N, spec_l2Parts_pc N, trivial⟩
noncomputable def spec_MixingColours_code : Code := (Try.f24.body).getD .skip
noncomputable def spec_MixingColours_l0_sh : Sh := ⟨[(1, .one (.adr 0 0)), (4, .one (.ro I))], [.box [.ro I, .ro LQII]]⟩
noncomputable def spec_MixingColours_l0_ex : List (Ex × Sh) := [(.ret, ⟨[(2, .one (.ro I)), (3, .one (.ro .bool))], []⟩), (.exit 0, ⟨[], []⟩)]
noncomputable def spec_MixingColours_l0 {R : Type} (N : Nat) (k0 : Int → Bool → Option R) (k1 : Unit → Option R) : Nat → Int → Int → (List (Int × Int)) → Option R
  | 0, _, _, _ => none
  | K + 1, kv, o, o1 =>
    (br (ile kv 5)
      (((spec_l5Space N (o, o1) kv false).bind fun r =>
        (br (!r.1.2.1)
          (k0 0 false)
          ((br (ilt 0 (tLen r.1.1.1))
            (((spec_l2Parts N (r.1.1.1, r.1.1.2)).bind fun r1 =>
              (br (ieq (tLen r1.1.1) 1)
                (k0 kv true)
                (spec_MixingColours_l0 N k0 k1 K (IntKind.i64.wrap (kv + 1)) o o1))))
            (spec_MixingColours_l0 N k0 k1 K (IntKind.i64.wrap (kv + 1)) o o1))))))
      (k1 ()))
noncomputable def spec_MixingColours_l0_again {R : Type} (N : Nat) (ks : (j : Nat) → ((spec_MixingColours_l0_ex.getD j (.ret, Sh.none)).2).T → Option R) (k : Nat) (x : spec_MixingColours_l0_sh.T) : Option R :=
  spec_MixingColours_l0 N (fun y0 y1 => ks 0 ((y0, y1, ()), ())) (fun (_ : Unit) => ks 1 ((), ())) k x.1.2.1 x.2.1.1 x.2.1.2.1
noncomputable def spec_MixingColours_l0_s (N : Nat) : LSum := ⟨spec_MixingColours_l0_sh, spec_MixingColours_l0_ex, fun x ks => spec_MixingColours_l0_again N ks N x⟩
theorem spec_MixingColours_l0_step (N : Nat) (R : Type) (k : Nat) (x : spec_MixingColours_l0_sh.T) (ks : (j : Nat) → ((spec_MixingColours_l0_ex.getD j (.ret, Sh.none)).2).T → Option R) : spec_MixingColours_l0_again N ks (k + 1) x = roundF (spec_MixingColours_G N) tab [] (loopAt spec_MixingColours_code 0) spec_MixingColours_l0_sh spec_MixingColours_l0_ex (fun y => spec_MixingColours_l0_again N ks k y) ks x := by kernel_rfl
theorem spec_MixingColours_l0_ok (N : Nat) : LoopOk Try.prog Try.f24.ntmps (spec_MixingColours_l0_s N) (loopAt spec_MixingColours_code 0) :=
  loop_ok (l := spec_MixingColours_l0_s N) progOk (spec_MixingColours_gok N) (draw_ok progOk (spec_MixingColours_gok N)) (fun R k x ks => spec_MixingColours_l0_again N ks k x) (fun _ _ _ => rfl) (fun R k x ks => spec_MixingColours_l0_step N R k x ks) (fun R x ks r h => ⟨N, h⟩) (lsOk_at (L := []) trivial) (by kernel_rfl) (by kernel_rfl)
noncomputable def spec_MixingColours (N : Nat) (g : (Int × (List (Int × Int)))) : Option ((Int × Bool × Unit) × (Unit)) :=
  spec_MixingColours_l0 N (fun x x1 => some ((x, x1, ()), ())) (fun (_ : Unit) => some ((0, false, ()), ())) N 1 g.1 g.2
noncomputable def spec_MixingColours_S (N : Nat) : FSum := ⟨spec_MixingColours_ps, spec_MixingColours_rs, fun x => spec_MixingColours N x.1⟩
theorem spec_MixingColours_run (N : Nat) (x : argsT spec_MixingColours_ps) : spec_MixingColours N x.1 = funF (spec_MixingColours_G N) tab [spec_MixingColours_l0_s N] Try.f24 spec_MixingColours_ps spec_MixingColours_rs x := by kernel_rfl
theorem spec_MixingColours_pc (N : Nat) : PC Try.prog 24 (spec_MixingColours_S N) := by
  have e : spec_MixingColours_S N = ⟨spec_MixingColours_ps, spec_MixingColours_rs, funF (spec_MixingColours_G N) tab [spec_MixingColours_l0_s N] Try.f24 spec_MixingColours_ps spec_MixingColours_rs⟩ := congrArg (FSum.mk spec_MixingColours_ps spec_MixingColours_rs) (funext (spec_MixingColours_run N))
  rw [e]
  exact fun_ok (c := spec_MixingColours_code) progOk (spec_MixingColours_gok N) (draw_ok progOk (spec_MixingColours_gok N)) Try.call24 Try.func24 (by kernel_rfl) (lsOk_at (L := [spec_MixingColours_l0_s N]) ⟨spec_MixingColours_l0_ok N, trivial⟩) (by kernel_rfl) (by kernel_rfl) (by kernel_rfl) (by kernel_rfl) (by kernel_rfl)

/-! ### impl_between -/
abbrev impl_between_ps : List (PV.Mode × Ty) := [(.ro, I), (.ro, I), (.ro, I)]
abbrev impl_between_rs : List (Bool × Ty) := [(true, .bool)]
noncomputable def impl_between_G (N : Nat) : GTab := gOf []
theorem impl_between_gok (N : Nat) : GOk Try.prog (impl_between_G N) := gOf_ok trivial
noncomputable def impl_between_code : Code := (Try.f69.body).getD .skip
noncomputable def impl_between (N : Nat) (n : Int) (low : Int) (high : Int) : Option ((Bool × Unit) × (Unit)) :=
  (br (ile low n)
    (some (((ile n high), ()), ()))
    (some ((false, ()), ())))
noncomputable def impl_between_S (N : Nat) : FSum := ⟨impl_between_ps, impl_between_rs, fun x => impl_between N x.1 x.2.1 x.2.2.1⟩
theorem impl_between_run (N : Nat) (x : argsT impl_between_ps) : impl_between N x.1 x.2.1 x.2.2.1 = funF (impl_between_G N) tab [] Try.f69 impl_between_ps impl_between_rs x := by kernel_rfl
theorem impl_between_pc (N : Nat) : PC Try.prog 69 (impl_between_S N) := by
  have e : impl_between_S N = ⟨impl_between_ps, impl_between_rs, funF (impl_between_G N) tab [] Try.f69 impl_between_ps impl_between_rs⟩ := congrArg (FSum.mk impl_between_ps impl_between_rs) (funext (impl_between_run N))
  rw [e]
  exact fun_ok (c := impl_between_code) progOk (impl_between_gok N) (draw_ok progOk (impl_between_gok N)) Try.call69 Try.func69 (by kernel_rfl) (lsOk_at (L := []) trivial) (by kernel_rfl) (by kernel_rfl) (by kernel_rfl) (by kernel_rfl) (by kernel_rfl)

/-! ### cmp_isNaN_int -/
abbrev cmp_isNaN_int_ps : List (PV.Mode × Ty) := [(.ro, I)]
abbrev cmp_isNaN_int_rs : List (Bool × Ty) := [(true, .bool)]
noncomputable def cmp_isNaN_int_G (N : Nat) : GTab := gOf []
theorem cmp_isNaN_int_gok (N : Nat) : GOk Try.prog (cmp_isNaN_int_G N) := gOf_ok trivial
noncomputable def cmp_isNaN_int_code : Code := (Try.f164.body).getD .skip
noncomputable def cmp_isNaN_int (N : Nat) (x : Int) : Option ((Bool × Unit) × (Unit)) :=
  some (((ine x x), ()), ())
noncomputable def cmp_isNaN_int_S (N : Nat) : FSum := ⟨cmp_isNaN_int_ps, cmp_isNaN_int_rs, fun x => cmp_isNaN_int N x.1⟩
theorem cmp_isNaN_int_run (N : Nat) (x : argsT cmp_isNaN_int_ps) : cmp_isNaN_int N x.1 = funF (cmp_isNaN_int_G N) tab [] Try.f164 cmp_isNaN_int_ps cmp_isNaN_int_rs x := by kernel_rfl
theorem cmp_isNaN_int_pc (N : Nat) : PC Try.prog 164 (cmp_isNaN_int_S N) := by
  have e : cmp_isNaN_int_S N = ⟨cmp_isNaN_int_ps, cmp_isNaN_int_rs, funF (cmp_isNaN_int_G N) tab [] Try.f164 cmp_isNaN_int_ps cmp_isNaN_int_rs⟩ := congrArg (FSum.mk cmp_isNaN_int_ps cmp_isNaN_int_rs) (funext (cmp_isNaN_int_run N))
  rw [e]
  exact fun_ok (c := cmp_isNaN_int_code) progOk (cmp_isNaN_int_gok N) (draw_ok progOk (cmp_isNaN_int_gok N)) Try.call164 Try.func164 (by kernel_rfl) (lsOk_at (L := []) trivial) (by kernel_rfl) (by kernel_rfl) (by kernel_rfl) (by kernel_rfl) (by kernel_rfl)

/-! ### cmp_Compare_int -/
abbrev cmp_Compare_int_ps : List (PV.Mode × Ty) := [(.ro, I), (.ro, I)]
abbrev cmp_Compare_int_rs : List (Bool × Ty) := [(true, I)]
noncomputable def cmp_Compare_int_G (N : Nat) : GTab := gOf [(164, cmp_isNaN_int_S N)]
theorem cmp_Compare_int_gok (N : Nat) : GOk Try.prog (cmp_Compare_int_G N) := gOf_ok ⟨cmp_isNaN_int_pc N, trivial⟩
noncomputable def cmp_Compare_int_code : Code := (Try.f128.body).getD .skip
noncomputable def cmp_Compare_int (N : Nat) (x : Int) (y : Int) : Option ((Int × Unit) × (Unit)) :=
  ((cmp_isNaN_int N x).bind fun r =>
    ((cmp_isNaN_int N y).bind fun r1 =>
      (br r.1.1
        ((br r1.1.1
          (some ((0, ()), ()))
          (some (((-1), ()), ()))))
        ((br r1.1.1
          (some ((1, ()), ()))
          ((br (ilt x y)
            (some (((-1), ()), ()))
            ((br (ilt y x)
              (some ((1, ()), ()))
              (some ((0, ()), ())))))))))))
noncomputable def cmp_Compare_int_S (N : Nat) : FSum := ⟨cmp_Compare_int_ps, cmp_Compare_int_rs, fun x => cmp_Compare_int N x.1 x.2.1⟩
theorem cmp_Compare_int_run (N : Nat) (x : argsT cmp_Compare_int_ps) : cmp_Compare_int N x.1 x.2.1 = funF (cmp_Compare_int_G N) tab [] Try.f128 cmp_Compare_int_ps cmp_Compare_int_rs x := by kernel_rfl
theorem cmp_Compare_int_pc (N : Nat) : PC Try.prog 128 (cmp_Compare_int_S N) := by
  have e : cmp_Compare_int_S N = ⟨cmp_Compare_int_ps, cmp_Compare_int_rs, funF (cmp_Compare_int_G N) tab [] Try.f128 cmp_Compare_int_ps cmp_Compare_int_rs⟩ := congrArg (FSum.mk cmp_Compare_int_ps cmp_Compare_int_rs) (funext (cmp_Compare_int_run N))
  rw [e]
  exact fun_ok (c := cmp_Compare_int_code) progOk (cmp_Compare_int_gok N) (draw_ok progOk (cmp_Compare_int_gok N)) Try.call128 Try.func128 (by kernel_rfl) (lsOk_at (L := []) trivial) (by kernel_rfl) (by kernel_rfl) (by kernel_rfl) (by kernel_rfl) (by kernel_rfl)

/-! ### cmp_Or_int -/
abbrev cmp_Or_int_ps : List (PV.Mode × Ty) := [(.ro, LI)]
abbrev cmp_Or_int_rs : List (Bool × Ty) := [(true, I)]
noncomputable def cmp_Or_int_G (N : Nat) : GTab := gOf []
theorem cmp_Or_int_gok (N : Nat) : GOk Try.prog (cmp_Or_int_G N) := gOf_ok trivial
noncomputable def cmp_Or_int_code : Code := (Try.f153.body).getD .skip
noncomputable def cmp_Or_int_l0_sh : Sh := ⟨[(3, .one (.ro I)), (6, .one (.ro LI)), (7, .one (.ro I)), (8, .one (.ro I))], []⟩
noncomputable def cmp_Or_int_l0_ex : List (Ex × Sh) := [(.ret, ⟨[(2, .one (.ro I))], []⟩), (.exit 0, ⟨[(3, .one (.ro I))], []⟩)]
noncomputable def cmp_Or_int_l0 {R : Type} (N : Nat) (k0 : Int → Option R) (k1 : Int → Option R) : Nat → Int → (List Int) → Int → Int → Option R
  | 0, _, _, _, _ => none
  | K + 1, zero, x, x1, x2 =>
    (br (ilt x2 x1)
      ((chk (inb x x2)
        (br (ine (rdI x x2) zero)
        (k0 (rdI x x2))
        (cmp_Or_int_l0 N k0 k1 K zero x x1 (IntKind.i64.wrap (x2 + 1))))))
      (k1 zero))
noncomputable def cmp_Or_int_l0_again {R : Type} (N : Nat) (ks : (j : Nat) → ((cmp_Or_int_l0_ex.getD j (.ret, Sh.none)).2).T → Option R) (k : Nat) (x : cmp_Or_int_l0_sh.T) : Option R :=
  cmp_Or_int_l0 N (fun y0 => ks 0 ((y0, ()), ())) (fun y0 => ks 1 ((y0, ()), ())) k x.1.1 x.1.2.1 x.1.2.2.1 x.1.2.2.2.1
noncomputable def cmp_Or_int_l0_s (N : Nat) : LSum := ⟨cmp_Or_int_l0_sh, cmp_Or_int_l0_ex, fun x ks => cmp_Or_int_l0_again N ks N x⟩
theorem cmp_Or_int_l0_step (N : Nat) (R : Type) (k : Nat) (x : cmp_Or_int_l0_sh.T) (ks : (j : Nat) → ((cmp_Or_int_l0_ex.getD j (.ret, Sh.none)).2).T → Option R) : cmp_Or_int_l0_again N ks (k + 1) x = roundF (cmp_Or_int_G N) tab [] (loopAt cmp_Or_int_code 0) cmp_Or_int_l0_sh cmp_Or_int_l0_ex (fun y => cmp_Or_int_l0_again N ks k y) ks x := by kernel_rfl
theorem cmp_Or_int_l0_ok (N : Nat) : LoopOk Try.prog Try.f153.ntmps (cmp_Or_int_l0_s N) (loopAt cmp_Or_int_code 0) :=
  loop_ok (l := cmp_Or_int_l0_s N) progOk (cmp_Or_int_gok N) (draw_ok progOk (cmp_Or_int_gok N)) (fun R k x ks => cmp_Or_int_l0_again N ks k x) (fun _ _ _ => rfl) (fun R k x ks => cmp_Or_int_l0_step N R k x ks) (fun R x ks r h => ⟨N, h⟩) (lsOk_at (L := []) trivial) (by kernel_rfl) (by kernel_rfl)
noncomputable def cmp_Or_int (N : Nat) (vals : (List Int)) : Option ((Int × Unit) × (Unit)) :=
  cmp_Or_int_l0 N (fun x => some ((x, ()), ())) (fun zero => some ((zero, ()), ())) N 0 vals (tLen vals) 0
noncomputable def cmp_Or_int_S (N : Nat) : FSum := ⟨cmp_Or_int_ps, cmp_Or_int_rs, fun x => cmp_Or_int N x.1⟩
theorem cmp_Or_int_run (N : Nat) (x : argsT cmp_Or_int_ps) : cmp_Or_int N x.1 = funF (cmp_Or_int_G N) tab [cmp_Or_int_l0_s N] Try.f153 cmp_Or_int_ps cmp_Or_int_rs x := by kernel_rfl
theorem cmp_Or_int_pc (N : Nat) : PC Try.prog 153 (cmp_Or_int_S N) := by
  have e : cmp_Or_int_S N = ⟨cmp_Or_int_ps, cmp_Or_int_rs, funF (cmp_Or_int_G N) tab [cmp_Or_int_l0_s N] Try.f153 cmp_Or_int_ps cmp_Or_int_rs⟩ := congrArg (FSum.mk cmp_Or_int_ps cmp_Or_int_rs) (funext (cmp_Or_int_run N))
  rw [e]
  exact fun_ok (c := cmp_Or_int_code) progOk (cmp_Or_int_gok N) (draw_ok progOk (cmp_Or_int_gok N)) Try.call153 Try.func153 (by kernel_rfl) (lsOk_at (L := [cmp_Or_int_l0_s N]) ⟨cmp_Or_int_l0_ok N, trivial⟩) (by kernel_rfl) (by kernel_rfl) (by kernel_rfl) (by kernel_rfl) (by kernel_rfl)

/-! ### impl_comparePairs -/
abbrev impl_comparePairs_ps : List (PV.Mode × Ty) := [(.ro, QII), (.ro, QII)]
abbrev impl_comparePairs_rs : List (Bool × Ty) := [(true, I)]
noncomputable def impl_comparePairs_G (N : Nat) : GTab := gOf [(128, cmp_Compare_int_S N), (153, cmp_Or_int_S N)]
theorem impl_comparePairs_gok (N : Nat) : GOk Try.prog (impl_comparePairs_G N) := gOf_ok ⟨cmp_Compare_int_pc N, cmp_Or_int_pc N, trivial⟩
noncomputable def impl_comparePairs_code : Code := (Try.f117.body).getD .skip
noncomputable def impl_comparePairs (N : Nat) (a : (Int × Int)) (b : (Int × Int)) : Option ((Int × Unit) × (Unit)) :=
  ((cmp_Compare_int N a.1 b.1).bind fun r =>
    ((cmp_Compare_int N a.2 b.2).bind fun r1 =>
      ((cmp_Or_int N [r.1.1, r1.1.1]).bind fun r2 =>
        some ((r2.1.1, ()), ()))))
noncomputable def impl_comparePairs_S (N : Nat) : FSum := ⟨impl_comparePairs_ps, impl_comparePairs_rs, fun x => impl_comparePairs N x.1 x.2.1⟩
theorem impl_comparePairs_run (N : Nat) (x : argsT impl_comparePairs_ps) : impl_comparePairs N x.1 x.2.1 = funF (impl_comparePairs_G N) tab [] Try.f117 impl_comparePairs_ps impl_comparePairs_rs x := by kernel_rfl
theorem impl_comparePairs_pc (N : Nat) : PC Try.prog 117 (impl_comparePairs_S N) := by
  have e : impl_comparePairs_S N = ⟨impl_comparePairs_ps, impl_comparePairs_rs, funF (impl_comparePairs_G N) tab [] Try.f117 impl_comparePairs_ps impl_comparePairs_rs⟩ := congrArg (FSum.mk impl_comparePairs_ps impl_comparePairs_rs) (funext (impl_comparePairs_run N))
  rw [e]
  exact fun_ok (c := impl_comparePairs_code) progOk (impl_comparePairs_gok N) (draw_ok progOk (impl_comparePairs_gok N)) Try.call117 Try.func117 (by kernel_rfl) (lsOk_at (L := []) trivial) (by kernel_rfl) (by kernel_rfl) (by kernel_rfl) (by kernel_rfl) (by kernel_rfl)

/-! ### impl_isPairs -/
abbrev impl_isPairs_ps : List (PV.Mode × Ty) := [(.ro, LQII), (.ro, I)]
abbrev impl_isPairs_rs : List (Bool × Ty) := [(true, .bool)]
noncomputable def impl_isPairs_G (N : Nat) : GTab := gOf [(117, impl_comparePairs_S N)]
theorem impl_isPairs_gok (N : Nat) : GOk Try.prog (impl_isPairs_G N) := gOf_ok ⟨impl_comparePairs_pc N, trivial⟩
noncomputable def impl_isPairs_code : Code := (Try.f70.body).getD .skip
noncomputable def impl_isPairs_l0_sh : Sh := ⟨[(0, .one (.ro LQII)), (1, .one (.ro I)), (7, .one (.ro LQII)), (8, .one (.ro I)), (9, .one (.ro I))], []⟩
noncomputable def impl_isPairs_l0_ex : List (Ex × Sh) := [(.ret, ⟨[(4, .one (.ro .bool))], []⟩), (.exit 0, ⟨[], []⟩)]
noncomputable def impl_isPairs_l0 {R : Type} (N : Nat) (k0 : Bool → Option R) (k1 : Unit → Option R) : Nat → (List (Int × Int)) → Int → (List (Int × Int)) → Int → Int → Option R
  | 0, _, _, _, _, _ => none
  | K + 1, list1, below1, x, x1, x2 =>
    (br (ilt x2 x1)
      ((chk (inb x x2)
        (br (ilt ((rdP x x2).1) 0)
        (k0 false)
        ((br (ile ((rdP x x2).2) ((rdP x x2).1))
          (k0 false)
          ((br (ile below1 ((rdP x x2).2))
            (k0 false)
            ((br (ilt 0 x2)
              ((chk (inb list1 (IntKind.i64.wrap (x2 - 1)))
                ((impl_comparePairs N (rdP list1 (IntKind.i64.wrap (x2 - 1))) ((rdP x x2).1, (rdP x x2).2)).bind fun r =>
                (br (ile 0 r.1.1)
                  (k0 false)
                  (impl_isPairs_l0 N k0 k1 K list1 below1 x x1 (IntKind.i64.wrap (x2 + 1)))))))
              (impl_isPairs_l0 N k0 k1 K list1 below1 x x1 (IntKind.i64.wrap (x2 + 1))))))))))))
      (k1 ()))
noncomputable def impl_isPairs_l0_again {R : Type} (N : Nat) (ks : (j : Nat) → ((impl_isPairs_l0_ex.getD j (.ret, Sh.none)).2).T → Option R) (k : Nat) (x : impl_isPairs_l0_sh.T) : Option R :=
  impl_isPairs_l0 N (fun y0 => ks 0 ((y0, ()), ())) (fun (_ : Unit) => ks 1 ((), ())) k x.1.1 x.1.2.1 x.1.2.2.1 x.1.2.2.2.1 x.1.2.2.2.2.1
noncomputable def impl_isPairs_l0_s (N : Nat) : LSum := ⟨impl_isPairs_l0_sh, impl_isPairs_l0_ex, fun x ks => impl_isPairs_l0_again N ks N x⟩
theorem impl_isPairs_l0_step (N : Nat) (R : Type) (k : Nat) (x : impl_isPairs_l0_sh.T) (ks : (j : Nat) → ((impl_isPairs_l0_ex.getD j (.ret, Sh.none)).2).T → Option R) : impl_isPairs_l0_again N ks (k + 1) x = roundF (impl_isPairs_G N) tab [] (loopAt impl_isPairs_code 0) impl_isPairs_l0_sh impl_isPairs_l0_ex (fun y => impl_isPairs_l0_again N ks k y) ks x := by kernel_rfl
theorem impl_isPairs_l0_ok (N : Nat) : LoopOk Try.prog Try.f70.ntmps (impl_isPairs_l0_s N) (loopAt impl_isPairs_code 0) :=
  loop_ok (l := impl_isPairs_l0_s N) progOk (impl_isPairs_gok N) (draw_ok progOk (impl_isPairs_gok N)) (fun R k x ks => impl_isPairs_l0_again N ks k x) (fun _ _ _ => rfl) (fun R k x ks => impl_isPairs_l0_step N R k x ks) (fun R x ks r h => ⟨N, h⟩) (lsOk_at (L := []) trivial) (by kernel_rfl) (by kernel_rfl)
noncomputable def impl_isPairs (N : Nat) (list : (List (Int × Int))) (below : Int) : Option ((Bool × Unit) × (Unit)) :=
  impl_isPairs_l0 N (fun x => some ((x, ()), ())) (fun (_ : Unit) => some ((true, ()), ())) N list below list (tLen list) 0
noncomputable def impl_isPairs_S (N : Nat) : FSum := ⟨impl_isPairs_ps, impl_isPairs_rs, fun x => impl_isPairs N x.1 x.2.1⟩
theorem impl_isPairs_run (N : Nat) (x : argsT impl_isPairs_ps) : impl_isPairs N x.1 x.2.1 = funF (impl_isPairs_G N) tab [impl_isPairs_l0_s N] Try.f70 impl_isPairs_ps impl_isPairs_rs x := by kernel_rfl
theorem impl_isPairs_pc (N : Nat) : PC Try.prog 70 (impl_isPairs_S N) := by
  have e : impl_isPairs_S N = ⟨impl_isPairs_ps, impl_isPairs_rs, funF (impl_isPairs_G N) tab [impl_isPairs_l0_s N] Try.f70 impl_isPairs_ps impl_isPairs_rs⟩ := congrArg (FSum.mk impl_isPairs_ps impl_isPairs_rs) (funext (impl_isPairs_run N))
  rw [e]
  exact fun_ok (c := impl_isPairs_code) progOk (impl_isPairs_gok N) (draw_ok progOk (impl_isPairs_gok N)) Try.call70 Try.func70 (by kernel_rfl) (lsOk_at (L := [impl_isPairs_l0_s N]) ⟨impl_isPairs_l0_ok N, trivial⟩) (by kernel_rfl) (by kernel_rfl) (by kernel_rfl) (by kernel_rfl) (by kernel_rfl)

/-! ### impl_IsGraph -/
abbrev impl_IsGraph_ps : List (PV.Mode × Ty) := [(.ro, QILQII)]
abbrev impl_IsGraph_rs : List (Bool × Ty) := [(true, .bool)]
noncomputable def impl_IsGraph_G (N : Nat) : GTab := gOf [(69, impl_between_S N), (70, impl_isPairs_S N)]
theorem impl_IsGraph_gok (N : Nat) : GOk Try.prog (impl_IsGraph_G N) := gOf_ok ⟨impl_between_pc N, impl_isPairs_pc N, trivial⟩
noncomputable def impl_IsGraph_code : Code := (Try.f39.body).getD .skip
noncomputable def impl_IsGraph (N : Nat) (g : (Int × (List (Int × Int)))) : Option ((Bool × Unit) × (Unit)) :=
  ((impl_between N g.1 0 8).bind fun r =>
    (br r.1.1
      (((impl_isPairs N g.2 g.1).bind fun r1 =>
        some ((r1.1.1, ()), ())))
      (some ((false, ()), ()))))
noncomputable def impl_IsGraph_S (N : Nat) : FSum := ⟨impl_IsGraph_ps, impl_IsGraph_rs, fun x => impl_IsGraph N x.1⟩
theorem impl_IsGraph_run (N : Nat) (x : argsT impl_IsGraph_ps) : impl_IsGraph N x.1 = funF (impl_IsGraph_G N) tab [] Try.f39 impl_IsGraph_ps impl_IsGraph_rs x := by kernel_rfl
theorem impl_IsGraph_pc (N : Nat) : PC Try.prog 39 (impl_IsGraph_S N) := by
  have e : impl_IsGraph_S N = ⟨impl_IsGraph_ps, impl_IsGraph_rs, funF (impl_IsGraph_G N) tab [] Try.f39 impl_IsGraph_ps impl_IsGraph_rs⟩ := congrArg (FSum.mk impl_IsGraph_ps impl_IsGraph_rs) (funext (impl_IsGraph_run N))
  rw [e]
  exact fun_ok (c := impl_IsGraph_code) progOk (impl_IsGraph_gok N) (draw_ok progOk (impl_IsGraph_gok N)) Try.call39 Try.func39 (by kernel_rfl) (lsOk_at (L := []) trivial) (by kernel_rfl) (by kernel_rfl) (by kernel_rfl) (by kernel_rfl) (by kernel_rfl)

/-! ### impl_isColourCase -/
abbrev impl_isColourCase_ps : List (PV.Mode × Ty) := [(.ro, QILQII), (.ro, I)]
abbrev impl_isColourCase_rs : List (Bool × Ty) := [(true, .bool)]
noncomputable def impl_isColourCase_G (N : Nat) : GTab := gOf [(39, impl_IsGraph_S N), (69, impl_between_S N)]
theorem impl_isColourCase_gok (N : Nat) : GOk Try.prog (impl_isColourCase_G N) := gOf_ok ⟨impl_IsGraph_pc N, impl_between_pc N, trivial⟩
noncomputable def impl_isColourCase_code : Code := (Try.f141.body).getD .skip
noncomputable def impl_isColourCase (N : Nat) (g : (Int × (List (Int × Int)))) (kv : Int) : Option ((Bool × Unit) × (Unit)) :=
  ((impl_IsGraph N (g.1, g.2)).bind fun r =>
    (br r.1.1
      (((impl_between N kv 1 5).bind fun r1 =>
        some ((r1.1.1, ()), ())))
      (some ((false, ()), ()))))
noncomputable def impl_isColourCase_S (N : Nat) : FSum := ⟨impl_isColourCase_ps, impl_isColourCase_rs, fun x => impl_isColourCase N x.1 x.2.1⟩
theorem impl_isColourCase_run (N : Nat) (x : argsT impl_isColourCase_ps) : impl_isColourCase N x.1 x.2.1 = funF (impl_isColourCase_G N) tab [] Try.f141 impl_isColourCase_ps impl_isColourCase_rs x := by kernel_rfl
theorem impl_isColourCase_pc (N : Nat) : PC Try.prog 141 (impl_isColourCase_S N) := by
  have e : impl_isColourCase_S N = ⟨impl_isColourCase_ps, impl_isColourCase_rs, funF (impl_isColourCase_G N) tab [] Try.f141 impl_isColourCase_ps impl_isColourCase_rs⟩ := congrArg (FSum.mk impl_isColourCase_ps impl_isColourCase_rs) (funext (impl_isColourCase_run N))
  rw [e]
  exact fun_ok (c := impl_isColourCase_code) progOk (impl_isColourCase_gok N) (draw_ok progOk (impl_isColourCase_gok N)) Try.call141 Try.func141 (by kernel_rfl) (lsOk_at (L := []) trivial) (by kernel_rfl) (by kernel_rfl) (by kernel_rfl) (by kernel_rfl) (by kernel_rfl)

/-! ### slices_Clone_LI_int -/
abbrev slices_Clone_LI_int_ps : List (PV.Mode × Ty) := [(.ro, LI)]
abbrev slices_Clone_LI_int_rs : List (Bool × Ty) := [(true, LI)]
noncomputable def slices_Clone_LI_int_G (N : Nat) : GTab := gOf []
theorem slices_Clone_LI_int_gok (N : Nat) : GOk Try.prog (slices_Clone_LI_int_G N) := gOf_ok trivial
noncomputable def slices_Clone_LI_int_code : Code := (Try.f152.body).getD .skip
noncomputable def slices_Clone_LI_int (N : Nat) (s : (List Int)) : Option (((List Int) × Unit) × (Unit)) :=
  (br (ieq (tLen s) 0)
    ((amb
      (some (([], ()), ()))
      ((chk (room (α := Int) (β := Int) [] s)
        (some (((tApp [] s), ()), ()))))))
    ((chk (room (α := Int) (β := Int) [] s)
      (some (((tApp [] s), ()), ())))))
noncomputable def slices_Clone_LI_int_S (N : Nat) : FSum := ⟨slices_Clone_LI_int_ps, slices_Clone_LI_int_rs, fun x => slices_Clone_LI_int N x.1⟩
theorem slices_Clone_LI_int_run (N : Nat) (x : argsT slices_Clone_LI_int_ps) : slices_Clone_LI_int N x.1 = funF (slices_Clone_LI_int_G N) tab [] Try.f152 slices_Clone_LI_int_ps slices_Clone_LI_int_rs x := by kernel_rfl
theorem slices_Clone_LI_int_pc (N : Nat) : PC Try.prog 152 (slices_Clone_LI_int_S N) := by
  have e : slices_Clone_LI_int_S N = ⟨slices_Clone_LI_int_ps, slices_Clone_LI_int_rs, funF (slices_Clone_LI_int_G N) tab [] Try.f152 slices_Clone_LI_int_ps slices_Clone_LI_int_rs⟩ := congrArg (FSum.mk slices_Clone_LI_int_ps slices_Clone_LI_int_rs) (funext (slices_Clone_LI_int_run N))
  rw [e]
  exact fun_ok (c := slices_Clone_LI_int_code) progOk (slices_Clone_LI_int_gok N) (draw_ok progOk (slices_Clone_LI_int_gok N)) Try.call152 Try.func152 (by kernel_rfl) (lsOk_at (L := []) trivial) (by kernel_rfl) (by kernel_rfl) (by kernel_rfl) (by kernel_rfl) (by kernel_rfl)

/-! ### impl_pair -/
abbrev impl_pair_ps : List (PV.Mode × Ty) := [(.ro, I), (.ro, I)]
abbrev impl_pair_rs : List (Bool × Ty) := [(true, QII)]
noncomputable def impl_pair_G (N : Nat) : GTab := gOf []
theorem impl_pair_gok (N : Nat) : GOk Try.prog (impl_pair_G N) := gOf_ok trivial
noncomputable def impl_pair_code : Code := (Try.f72.body).getD .skip
noncomputable def impl_pair (N : Nat) (a : Int) (b : Int) : Option (((Int × Int) × Unit) × (Unit)) :=
  some ((((if b < a then b else a), (if b > a then b else a)), ()), ())
noncomputable def impl_pair_S (N : Nat) : FSum := ⟨impl_pair_ps, impl_pair_rs, fun x => impl_pair N x.1 x.2.1⟩
theorem impl_pair_run (N : Nat) (x : argsT impl_pair_ps) : impl_pair N x.1 x.2.1 = funF (impl_pair_G N) tab [] Try.f72 impl_pair_ps impl_pair_rs x := by kernel_rfl
theorem impl_pair_pc (N : Nat) : PC Try.prog 72 (impl_pair_S N) := by
  have e : impl_pair_S N = ⟨impl_pair_ps, impl_pair_rs, funF (impl_pair_G N) tab [] Try.f72 impl_pair_ps impl_pair_rs⟩ := congrArg (FSum.mk impl_pair_ps impl_pair_rs) (funext (impl_pair_run N))
  rw [e]
  exact fun_ok (c := impl_pair_code) progOk (impl_pair_gok N) (draw_ok progOk (impl_pair_gok N)) Try.call72 Try.func72 (by kernel_rfl) (lsOk_at (L := []) trivial) (by kernel_rfl) (by kernel_rfl) (by kernel_rfl) (by kernel_rfl) (by kernel_rfl)

/-! ### slices_Index_LP_P2 -/
abbrev slices_Index_LP_P2_ps : List (PV.Mode × Ty) := [(.ro, LQII), (.ro, QII)]
abbrev slices_Index_LP_P2_rs : List (Bool × Ty) := [(true, I)]
noncomputable def slices_Index_LP_P2_G (N : Nat) : GTab := gOf []
theorem slices_Index_LP_P2_gok (N : Nat) : GOk Try.prog (slices_Index_LP_P2_G N) := gOf_ok trivial
noncomputable def slices_Index_LP_P2_code : Code := (Try.f118.body).getD .skip
noncomputable def slices_Index_LP_P2_l0_sh : Sh := ⟨[(0, .one (.ro LQII)), (3, .one (.adr 0 0)), (7, .one (.ro I)), (8, .one (.ro I))], [.box [.ro I, .ro I]]⟩
noncomputable def slices_Index_LP_P2_l0_ex : List (Ex × Sh) := [(.ret, ⟨[(4, .one (.ro I))], []⟩), (.exit 0, ⟨[], []⟩)]
noncomputable def slices_Index_LP_P2_l0 {R : Type} (N : Nat) (k0 : Int → Option R) (k1 : Unit → Option R) : Nat → (List (Int × Int)) → Int → Int → Int → Int → Option R
  | 0, _, _, _, _, _ => none
  | K + 1, s1, x, x1, o, o1 =>
    (br (ilt x1 x)
      ((chk (inb s1 x1)
        (br (ieq o ((rdP s1 x1).1) && ieq o1 ((rdP s1 x1).2))
        (k0 x1)
        (slices_Index_LP_P2_l0 N k0 k1 K s1 x (IntKind.i64.wrap (x1 + 1)) o o1))))
      (k1 ()))
noncomputable def slices_Index_LP_P2_l0_again {R : Type} (N : Nat) (ks : (j : Nat) → ((slices_Index_LP_P2_l0_ex.getD j (.ret, Sh.none)).2).T → Option R) (k : Nat) (x : slices_Index_LP_P2_l0_sh.T) : Option R :=
  slices_Index_LP_P2_l0 N (fun y0 => ks 0 ((y0, ()), ())) (fun (_ : Unit) => ks 1 ((), ())) k x.1.1 x.1.2.2.1 x.1.2.2.2.1 x.2.1.1 x.2.1.2.1
noncomputable def slices_Index_LP_P2_l0_s (N : Nat) : LSum := ⟨slices_Index_LP_P2_l0_sh, slices_Index_LP_P2_l0_ex, fun x ks => slices_Index_LP_P2_l0_again N ks N x⟩
theorem slices_Index_LP_P2_l0_step (N : Nat) (R : Type) (k : Nat) (x : slices_Index_LP_P2_l0_sh.T) (ks : (j : Nat) → ((slices_Index_LP_P2_l0_ex.getD j (.ret, Sh.none)).2).T → Option R) : slices_Index_LP_P2_l0_again N ks (k + 1) x = roundF (slices_Index_LP_P2_G N) tab [] (loopAt slices_Index_LP_P2_code 0) slices_Index_LP_P2_l0_sh slices_Index_LP_P2_l0_ex (fun y => slices_Index_LP_P2_l0_again N ks k y) ks x := by kernel_rfl
theorem slices_Index_LP_P2_l0_ok (N : Nat) : LoopOk Try.prog Try.f118.ntmps (slices_Index_LP_P2_l0_s N) (loopAt slices_Index_LP_P2_code 0) :=
  loop_ok (l := slices_Index_LP_P2_l0_s N) progOk (slices_Index_LP_P2_gok N) (draw_ok progOk (slices_Index_LP_P2_gok N)) (fun R k x ks => slices_Index_LP_P2_l0_again N ks k x) (fun _ _ _ => rfl) (fun R k x ks => slices_Index_LP_P2_l0_step N R k x ks) (fun R x ks r h => ⟨N, h⟩) (lsOk_at (L := []) trivial) (by kernel_rfl) (by kernel_rfl)
noncomputable def slices_Index_LP_P2 (N : Nat) (s : (List (Int × Int))) (v : (Int × Int)) : Option ((Int × Unit) × (Unit)) :=
  slices_Index_LP_P2_l0 N (fun x => some ((x, ()), ())) (fun (_ : Unit) => some (((-1), ()), ())) N s (tLen s) 0 v.1 v.2
noncomputable def slices_Index_LP_P2_S (N : Nat) : FSum := ⟨slices_Index_LP_P2_ps, slices_Index_LP_P2_rs, fun x => slices_Index_LP_P2 N x.1 x.2.1⟩
theorem slices_Index_LP_P2_run (N : Nat) (x : argsT slices_Index_LP_P2_ps) : slices_Index_LP_P2 N x.1 x.2.1 = funF (slices_Index_LP_P2_G N) tab [slices_Index_LP_P2_l0_s N] Try.f118 slices_Index_LP_P2_ps slices_Index_LP_P2_rs x := by kernel_rfl
theorem slices_Index_LP_P2_pc (N : Nat) : PC Try.prog 118 (slices_Index_LP_P2_S N) := by
  have e : slices_Index_LP_P2_S N = ⟨slices_Index_LP_P2_ps, slices_Index_LP_P2_rs, funF (slices_Index_LP_P2_G N) tab [slices_Index_LP_P2_l0_s N] Try.f118 slices_Index_LP_P2_ps slices_Index_LP_P2_rs⟩ := congrArg (FSum.mk slices_Index_LP_P2_ps slices_Index_LP_P2_rs) (funext (slices_Index_LP_P2_run N))
  rw [e]
  exact fun_ok (c := slices_Index_LP_P2_code) progOk (slices_Index_LP_P2_gok N) (draw_ok progOk (slices_Index_LP_P2_gok N)) Try.call118 Try.func118 (by kernel_rfl) (lsOk_at (L := [slices_Index_LP_P2_l0_s N]) ⟨slices_Index_LP_P2_l0_ok N, trivial⟩) (by kernel_rfl) (by kernel_rfl) (by kernel_rfl) (by kernel_rfl) (by kernel_rfl)

/-! ### slices_Contains_LP_P2 -/
abbrev slices_Contains_LP_P2_ps : List (PV.Mode × Ty) := [(.ro, LQII), (.ro, QII)]
abbrev slices_Contains_LP_P2_rs : List (Bool × Ty) := [(true, .bool)]
noncomputable def slices_Contains_LP_P2_G (N : Nat) : GTab := gOf [(118, slices_Index_LP_P2_S N)]
theorem slices_Contains_LP_P2_gok (N : Nat) : GOk Try.prog (slices_Contains_LP_P2_G N) := gOf_ok ⟨slices_Index_LP_P2_pc N, trivial⟩
noncomputable def slices_Contains_LP_P2_code : Code := (Try.f71.body).getD .skip
noncomputable def slices_Contains_LP_P2 (N : Nat) (s : (List (Int × Int))) (v : (Int × Int)) : Option ((Bool × Unit) × (Unit)) :=
  ((slices_Index_LP_P2 N s (v.1, v.2)).bind fun r =>
    some (((ile 0 r.1.1), ()), ()))
noncomputable def slices_Contains_LP_P2_S (N : Nat) : FSum := ⟨slices_Contains_LP_P2_ps, slices_Contains_LP_P2_rs, fun x => slices_Contains_LP_P2 N x.1 x.2.1⟩
theorem slices_Contains_LP_P2_run (N : Nat) (x : argsT slices_Contains_LP_P2_ps) : slices_Contains_LP_P2 N x.1 x.2.1 = funF (slices_Contains_LP_P2_G N) tab [] Try.f71 slices_Contains_LP_P2_ps slices_Contains_LP_P2_rs x := by kernel_rfl
theorem slices_Contains_LP_P2_pc (N : Nat) : PC Try.prog 71 (slices_Contains_LP_P2_S N) := by
  have e : slices_Contains_LP_P2_S N = ⟨slices_Contains_LP_P2_ps, slices_Contains_LP_P2_rs, funF (slices_Contains_LP_P2_G N) tab [] Try.f71 slices_Contains_LP_P2_ps slices_Contains_LP_P2_rs⟩ := congrArg (FSum.mk slices_Contains_LP_P2_ps slices_Contains_LP_P2_rs) (funext (slices_Contains_LP_P2_run N))
  rw [e]
  exact fun_ok (c := slices_Contains_LP_P2_code) progOk (slices_Contains_LP_P2_gok N) (draw_ok progOk (slices_Contains_LP_P2_gok N)) Try.call71 Try.func71 (by kernel_rfl) (lsOk_at (L := []) trivial) (by kernel_rfl) (by kernel_rfl) (by kernel_rfl) (by kernel_rfl) (by kernel_rfl)

/-! ### impl_Graph_has -/
abbrev impl_Graph_has_ps : List (PV.Mode × Ty) := [(.ro, QILQII), (.ro, I), (.ro, I)]
abbrev impl_Graph_has_rs : List (Bool × Ty) := [(true, .bool)]
noncomputable def impl_Graph_has_G (N : Nat) : GTab := gOf [(72, impl_pair_S N), (71, slices_Contains_LP_P2_S N)]
theorem impl_Graph_has_gok (N : Nat) : GOk Try.prog (impl_Graph_has_G N) := gOf_ok ⟨impl_pair_pc N, slices_Contains_LP_P2_pc N, trivial⟩
noncomputable def impl_Graph_has_code : Code := (Try.f41.body).getD .skip
noncomputable def impl_Graph_has (N : Nat) (g : (Int × (List (Int × Int)))) (a : Int) (b : Int) : Option ((Bool × Unit) × (Unit)) :=
  ((impl_pair N a b).bind fun r =>
    ((slices_Contains_LP_P2 N g.2 (r.1.1.1, r.1.1.2)).bind fun r1 =>
      some ((r1.1.1, ()), ())))
noncomputable def impl_Graph_has_S (N : Nat) : FSum := ⟨impl_Graph_has_ps, impl_Graph_has_rs, fun x => impl_Graph_has N x.1 x.2.1 x.2.2.1⟩
theorem impl_Graph_has_run (N : Nat) (x : argsT impl_Graph_has_ps) : impl_Graph_has N x.1 x.2.1 x.2.2.1 = funF (impl_Graph_has_G N) tab [] Try.f41 impl_Graph_has_ps impl_Graph_has_rs x := by kernel_rfl
theorem impl_Graph_has_pc (N : Nat) : PC Try.prog 41 (impl_Graph_has_S N) := by
  have e : impl_Graph_has_S N = ⟨impl_Graph_has_ps, impl_Graph_has_rs, funF (impl_Graph_has_G N) tab [] Try.f41 impl_Graph_has_ps impl_Graph_has_rs⟩ := congrArg (FSum.mk impl_Graph_has_ps impl_Graph_has_rs) (funext (impl_Graph_has_run N))
  rw [e]
  exact fun_ok (c := impl_Graph_has_code) progOk (impl_Graph_has_gok N) (draw_ok progOk (impl_Graph_has_gok N)) Try.call41 Try.func41 (by kernel_rfl) (lsOk_at (L := []) trivial) (by kernel_rfl) (by kernel_rfl) (by kernel_rfl) (by kernel_rfl) (by kernel_rfl)

/-! ### impl_Graph_neighbors -/
abbrev impl_Graph_neighbors_ps : List (PV.Mode × Ty) := [(.ro, QILQII), (.ro, I)]
abbrev impl_Graph_neighbors_rs : List (Bool × Ty) := [(true, LI)]
noncomputable def impl_Graph_neighbors_G (N : Nat) : GTab := gOf [(41, impl_Graph_has_S N)]
theorem impl_Graph_neighbors_gok (N : Nat) : GOk Try.prog (impl_Graph_neighbors_G N) := gOf_ok ⟨impl_Graph_has_pc N, trivial⟩
noncomputable def impl_Graph_neighbors_code : Code := (Try.f40.body).getD .skip
noncomputable def impl_Graph_neighbors_l0_sh : Sh := ⟨[(1, .one (.ro I)), (2, .one (.adr 0 0)), (5, .one (.ref 1)), (9, .one (.ro I)), (10, .one (.ro I))], [.box [.ro I, .ro LQII], .sl 3 I .own]⟩
noncomputable def impl_Graph_neighbors_l0_ex : List (Ex × Sh) := [(.exit 0, ⟨[(5, .one (.ref 0))], [.sl 3 I .own]⟩)]
noncomputable def impl_Graph_neighbors_l0 {R : Type} (N : Nat) (k0 : (List Int) → Option R) : Nat → Int → Int → Int → Int → (List (Int × Int)) → (List Int) → Option R
  | 0, _, _, _, _, _, _ => none
  | K + 1, x1, x2, x3, o, o1, o2 =>
    (br (ilt x3 x2)
      ((br (ine x3 x1)
        (((impl_Graph_has N (o, o1) x1 x3).bind fun r =>
          (br r.1.1
            ((chk (room o2 [x3])
              (impl_Graph_neighbors_l0 N k0 K x1 x2 (IntKind.i64.wrap (x3 + 1)) o o1 (tApp o2 [x3]))))
            (impl_Graph_neighbors_l0 N k0 K x1 x2 (IntKind.i64.wrap (x3 + 1)) o o1 o2))))
        (impl_Graph_neighbors_l0 N k0 K x1 x2 (IntKind.i64.wrap (x3 + 1)) o o1 o2)))
      (k0 o2))
noncomputable def impl_Graph_neighbors_l0_again {R : Type} (N : Nat) (ks : (j : Nat) → ((impl_Graph_neighbors_l0_ex.getD j (.ret, Sh.none)).2).T → Option R) (k : Nat) (x : impl_Graph_neighbors_l0_sh.T) : Option R :=
  impl_Graph_neighbors_l0 N (fun y0 => ks 0 (((), ()), (y0, ()))) k x.1.1 x.1.2.2.2.1 x.1.2.2.2.2.1 x.2.1.1 x.2.1.2.1 x.2.2.1
noncomputable def impl_Graph_neighbors_l0_s (N : Nat) : LSum := ⟨impl_Graph_neighbors_l0_sh, impl_Graph_neighbors_l0_ex, fun x ks => impl_Graph_neighbors_l0_again N ks N x⟩
theorem impl_Graph_neighbors_l0_step (N : Nat) (R : Type) (k : Nat) (x : impl_Graph_neighbors_l0_sh.T) (ks : (j : Nat) → ((impl_Graph_neighbors_l0_ex.getD j (.ret, Sh.none)).2).T → Option R) : impl_Graph_neighbors_l0_again N ks (k + 1) x = roundF (impl_Graph_neighbors_G N) tab [] (loopAt impl_Graph_neighbors_code 0) impl_Graph_neighbors_l0_sh impl_Graph_neighbors_l0_ex (fun y => impl_Graph_neighbors_l0_again N ks k y) ks x := by kernel_rfl
theorem impl_Graph_neighbors_l0_ok (N : Nat) : LoopOk Try.prog Try.f40.ntmps (impl_Graph_neighbors_l0_s N) (loopAt impl_Graph_neighbors_code 0) :=
  loop_ok (l := impl_Graph_neighbors_l0_s N) progOk (impl_Graph_neighbors_gok N) (draw_ok progOk (impl_Graph_neighbors_gok N)) (fun R k x ks => impl_Graph_neighbors_l0_again N ks k x) (fun _ _ _ => rfl) (fun R k x ks => impl_Graph_neighbors_l0_step N R k x ks) (fun R x ks r h => ⟨N, h⟩) (lsOk_at (L := []) trivial) (by kernel_rfl) (by kernel_rfl)
noncomputable def impl_Graph_neighbors (N : Nat) (g : (Int × (List (Int × Int)))) (x : Int) : Option (((List Int) × Unit) × (Unit)) :=
  impl_Graph_neighbors_l0 N (fun o => some ((o, ()), ())) N x g.1 0 g.1 g.2 []
noncomputable def impl_Graph_neighbors_S (N : Nat) : FSum := ⟨impl_Graph_neighbors_ps, impl_Graph_neighbors_rs, fun x => impl_Graph_neighbors N x.1 x.2.1⟩
theorem impl_Graph_neighbors_run (N : Nat) (x : argsT impl_Graph_neighbors_ps) : impl_Graph_neighbors N x.1 x.2.1 = funF (impl_Graph_neighbors_G N) tab [impl_Graph_neighbors_l0_s N] Try.f40 impl_Graph_neighbors_ps impl_Graph_neighbors_rs x := by kernel_rfl
theorem impl_Graph_neighbors_pc (N : Nat) : PC Try.prog 40 (impl_Graph_neighbors_S N) := by
  have e : impl_Graph_neighbors_S N = ⟨impl_Graph_neighbors_ps, impl_Graph_neighbors_rs, funF (impl_Graph_neighbors_G N) tab [impl_Graph_neighbors_l0_s N] Try.f40 impl_Graph_neighbors_ps impl_Graph_neighbors_rs⟩ := congrArg (FSum.mk impl_Graph_neighbors_ps impl_Graph_neighbors_rs) (funext (impl_Graph_neighbors_run N))
  rw [e]
  exact fun_ok (c := impl_Graph_neighbors_code) progOk (impl_Graph_neighbors_gok N) (draw_ok progOk (impl_Graph_neighbors_gok N)) Try.call40 Try.func40 (by kernel_rfl) (lsOk_at (L := [impl_Graph_neighbors_l0_s N]) ⟨impl_Graph_neighbors_l0_ok N, trivial⟩) (by kernel_rfl) (by kernel_rfl) (by kernel_rfl) (by kernel_rfl) (by kernel_rfl)

/-! ### slices_IndexFunc_LI_int -/
abbrev slices_IndexFunc_LI_int_ps : List (PV.Mode × Ty) := [(.ro, LI), (.ro, FIBo)]
abbrev slices_IndexFunc_LI_int_rs : List (Bool × Ty) := [(true, I)]
noncomputable def slices_IndexFunc_LI_int_G (N : Nat) : GTab := gOf []
theorem slices_IndexFunc_LI_int_gok (N : Nat) : GOk Try.prog (slices_IndexFunc_LI_int_G N) := gOf_ok trivial
noncomputable def slices_IndexFunc_LI_int_code : Code := (Try.f195.body).getD .skip
noncomputable def slices_IndexFunc_LI_int_l0_sh : Sh := ⟨[(0, .one (.ro LI)), (1, .one (.ro FIBo)), (7, .one (.ro I)), (8, .one (.ro I))], []⟩
noncomputable def slices_IndexFunc_LI_int_l0_ex : List (Ex × Sh) := [(.ret, ⟨[(4, .one (.ro I))], []⟩), (.exit 0, ⟨[], []⟩)]
noncomputable def slices_IndexFunc_LI_int_l0 {R : Type} (N : Nat) (k0 : Int → Option R) (k1 : Unit → Option R) : Nat → (List Int) → (Int → Option Bool) → Int → Int → Option R
  | 0, _, _, _, _ => none
  | K + 1, s1, f1, x, x1 =>
    (br (ilt x1 x)
      ((chk (inb s1 x1)
        ((f1 (rdI s1 x1)).bind fun v =>
        (br v
        (k0 x1)
        (slices_IndexFunc_LI_int_l0 N k0 k1 K s1 f1 x (IntKind.i64.wrap (x1 + 1)))))))
      (k1 ()))
noncomputable def slices_IndexFunc_LI_int_l0_again {R : Type} (N : Nat) (ks : (j : Nat) → ((slices_IndexFunc_LI_int_l0_ex.getD j (.ret, Sh.none)).2).T → Option R) (k : Nat) (x : slices_IndexFunc_LI_int_l0_sh.T) : Option R :=
  slices_IndexFunc_LI_int_l0 N (fun y0 => ks 0 ((y0, ()), ())) (fun (_ : Unit) => ks 1 ((), ())) k x.1.1 x.1.2.1 x.1.2.2.1 x.1.2.2.2.1
noncomputable def slices_IndexFunc_LI_int_l0_s (N : Nat) : LSum := ⟨slices_IndexFunc_LI_int_l0_sh, slices_IndexFunc_LI_int_l0_ex, fun x ks => slices_IndexFunc_LI_int_l0_again N ks N x⟩
theorem slices_IndexFunc_LI_int_l0_step (N : Nat) (R : Type) (k : Nat) (x : slices_IndexFunc_LI_int_l0_sh.T) (ks : (j : Nat) → ((slices_IndexFunc_LI_int_l0_ex.getD j (.ret, Sh.none)).2).T → Option R) : slices_IndexFunc_LI_int_l0_again N ks (k + 1) x = roundF (slices_IndexFunc_LI_int_G N) tab [] (loopAt slices_IndexFunc_LI_int_code 0) slices_IndexFunc_LI_int_l0_sh slices_IndexFunc_LI_int_l0_ex (fun y => slices_IndexFunc_LI_int_l0_again N ks k y) ks x := by kernel_rfl
theorem slices_IndexFunc_LI_int_l0_ok (N : Nat) : LoopOk Try.prog Try.f195.ntmps (slices_IndexFunc_LI_int_l0_s N) (loopAt slices_IndexFunc_LI_int_code 0) :=
  loop_ok (l := slices_IndexFunc_LI_int_l0_s N) progOk (slices_IndexFunc_LI_int_gok N) (draw_ok progOk (slices_IndexFunc_LI_int_gok N)) (fun R k x ks => slices_IndexFunc_LI_int_l0_again N ks k x) (fun _ _ _ => rfl) (fun R k x ks => slices_IndexFunc_LI_int_l0_step N R k x ks) (fun R x ks r h => ⟨N, h⟩) (lsOk_at (L := []) trivial) (by kernel_rfl) (by kernel_rfl)
noncomputable def slices_IndexFunc_LI_int (N : Nat) (s : (List Int)) (f : (Int → Option Bool)) : Option ((Int × Unit) × (Unit)) :=
  slices_IndexFunc_LI_int_l0 N (fun x => some ((x, ()), ())) (fun (_ : Unit) => some (((-1), ()), ())) N s f (tLen s) 0
noncomputable def slices_IndexFunc_LI_int_S (N : Nat) : FSum := ⟨slices_IndexFunc_LI_int_ps, slices_IndexFunc_LI_int_rs, fun x => slices_IndexFunc_LI_int N x.1 x.2.1⟩
theorem slices_IndexFunc_LI_int_run (N : Nat) (x : argsT slices_IndexFunc_LI_int_ps) : slices_IndexFunc_LI_int N x.1 x.2.1 = funF (slices_IndexFunc_LI_int_G N) tab [slices_IndexFunc_LI_int_l0_s N] Try.f195 slices_IndexFunc_LI_int_ps slices_IndexFunc_LI_int_rs x := by kernel_rfl
theorem slices_IndexFunc_LI_int_pc (N : Nat) : PC Try.prog 195 (slices_IndexFunc_LI_int_S N) := by
  have e : slices_IndexFunc_LI_int_S N = ⟨slices_IndexFunc_LI_int_ps, slices_IndexFunc_LI_int_rs, funF (slices_IndexFunc_LI_int_G N) tab [slices_IndexFunc_LI_int_l0_s N] Try.f195 slices_IndexFunc_LI_int_ps slices_IndexFunc_LI_int_rs⟩ := congrArg (FSum.mk slices_IndexFunc_LI_int_ps slices_IndexFunc_LI_int_rs) (funext (slices_IndexFunc_LI_int_run N))
  rw [e]
  exact fun_ok (c := slices_IndexFunc_LI_int_code) progOk (slices_IndexFunc_LI_int_gok N) (draw_ok progOk (slices_IndexFunc_LI_int_gok N)) Try.call195 Try.func195 (by kernel_rfl) (lsOk_at (L := [slices_IndexFunc_LI_int_l0_s N]) ⟨slices_IndexFunc_LI_int_l0_ok N, trivial⟩) (by kernel_rfl) (by kernel_rfl) (by kernel_rfl) (by kernel_rfl) (by kernel_rfl)

/-! ### slices_ContainsFunc_LI_int -/
abbrev slices_ContainsFunc_LI_int_ps : List (PV.Mode × Ty) := [(.ro, LI), (.ro, FIBo)]
abbrev slices_ContainsFunc_LI_int_rs : List (Bool × Ty) := [(true, .bool)]
noncomputable def slices_ContainsFunc_LI_int_G (N : Nat) : GTab := gOf [(195, slices_IndexFunc_LI_int_S N)]
theorem slices_ContainsFunc_LI_int_gok (N : Nat) : GOk Try.prog (slices_ContainsFunc_LI_int_G N) := gOf_ok ⟨slices_IndexFunc_LI_int_pc N, trivial⟩
noncomputable def slices_ContainsFunc_LI_int_code : Code := (Try.f171.body).getD .skip
noncomputable def slices_ContainsFunc_LI_int (N : Nat) (s : (List Int)) (f : (Int → Option Bool)) : Option ((Bool × Unit) × (Unit)) :=
  ((slices_IndexFunc_LI_int N s f).bind fun r =>
    some (((ile 0 r.1.1), ()), ()))
noncomputable def slices_ContainsFunc_LI_int_S (N : Nat) : FSum := ⟨slices_ContainsFunc_LI_int_ps, slices_ContainsFunc_LI_int_rs, fun x => slices_ContainsFunc_LI_int N x.1 x.2.1⟩
theorem slices_ContainsFunc_LI_int_run (N : Nat) (x : argsT slices_ContainsFunc_LI_int_ps) : slices_ContainsFunc_LI_int N x.1 x.2.1 = funF (slices_ContainsFunc_LI_int_G N) tab [] Try.f171 slices_ContainsFunc_LI_int_ps slices_ContainsFunc_LI_int_rs x := by kernel_rfl
theorem slices_ContainsFunc_LI_int_pc (N : Nat) : PC Try.prog 171 (slices_ContainsFunc_LI_int_S N) := by
  have e : slices_ContainsFunc_LI_int_S N = ⟨slices_ContainsFunc_LI_int_ps, slices_ContainsFunc_LI_int_rs, funF (slices_ContainsFunc_LI_int_G N) tab [] Try.f171 slices_ContainsFunc_LI_int_ps slices_ContainsFunc_LI_int_rs⟩ := congrArg (FSum.mk slices_ContainsFunc_LI_int_ps slices_ContainsFunc_LI_int_rs) (funext (slices_ContainsFunc_LI_int_run N))
  rw [e]
  exact fun_ok (c := slices_ContainsFunc_LI_int_code) progOk (slices_ContainsFunc_LI_int_gok N) (draw_ok progOk (slices_ContainsFunc_LI_int_gok N)) Try.call171 Try.func171 (by kernel_rfl) (lsOk_at (L := []) trivial) (by kernel_rfl) (by kernel_rfl) (by kernel_rfl) (by kernel_rfl) (by kernel_rfl)

/-! ### impl_Graph_colourings_c1_c1 -/
abbrev impl_Graph_colourings_c1_c1_ps : List (PV.Mode × Ty) := [(.ro, I), (.ro, AI), (.ro, ALI), (.ro, AI)]
abbrev impl_Graph_colourings_c1_c1_rs : List (Bool × Ty) := [(true, .bool)]
noncomputable def impl_Graph_colourings_c1_c1_G (N : Nat) : GTab := gOf []
theorem impl_Graph_colourings_c1_c1_gok (N : Nat) : GOk Try.prog (impl_Graph_colourings_c1_c1_G N) := gOf_ok trivial
noncomputable def impl_Graph_colourings_c1_c1_code : Code := (Try.f172.body).getD .skip
noncomputable def impl_Graph_colourings_c1_c1 (N : Nat) (y : Int) (c : Int) (c1 : (List Int)) (c2 : Int) : Option ((Bool × Unit) × (Unit)) :=
  (br (ilt y c)
    ((chk (inb c1 y)
      (some (((ieq (rdI c1 y) c2), ()), ()))))
    (some ((false, ()), ())))
noncomputable def impl_Graph_colourings_c1_c1_S (N : Nat) : FSum := ⟨impl_Graph_colourings_c1_c1_ps, impl_Graph_colourings_c1_c1_rs, fun x => impl_Graph_colourings_c1_c1 N x.1 x.2.1 x.2.2.1 x.2.2.2.1⟩
theorem impl_Graph_colourings_c1_c1_run (N : Nat) (x : argsT impl_Graph_colourings_c1_c1_ps) : impl_Graph_colourings_c1_c1 N x.1 x.2.1 x.2.2.1 x.2.2.2.1 = funF (impl_Graph_colourings_c1_c1_G N) tab [] Try.f172 impl_Graph_colourings_c1_c1_ps impl_Graph_colourings_c1_c1_rs x := by kernel_rfl
theorem impl_Graph_colourings_c1_c1_pc (N : Nat) : PC Try.prog 172 (impl_Graph_colourings_c1_c1_S N) := by
  have e : impl_Graph_colourings_c1_c1_S N = ⟨impl_Graph_colourings_c1_c1_ps, impl_Graph_colourings_c1_c1_rs, funF (impl_Graph_colourings_c1_c1_G N) tab [] Try.f172 impl_Graph_colourings_c1_c1_ps impl_Graph_colourings_c1_c1_rs⟩ := congrArg (FSum.mk impl_Graph_colourings_c1_c1_ps impl_Graph_colourings_c1_c1_rs) (funext (impl_Graph_colourings_c1_c1_run N))
  rw [e]
  exact fun_ok (c := impl_Graph_colourings_c1_c1_code) progOk (impl_Graph_colourings_c1_c1_gok N) (draw_ok progOk (impl_Graph_colourings_c1_c1_gok N)) Try.call172 Try.func172 (by kernel_rfl) (lsOk_at (L := []) trivial) (by kernel_rfl) (by kernel_rfl) (by kernel_rfl) (by kernel_rfl) (by kernel_rfl)

/-! ### impl_Graph_colourings_c1 -/
abbrev impl_Graph_colourings_c1_ps : List (PV.Mode × Ty) := [(.ro, I), (.ro, AQILQII), (.mut, BLLI), (.mut, BLI), (.ro, AI), (.ro, S170)]
abbrev impl_Graph_colourings_c1_rs : List (Bool × Ty) := [(true, .bool)]
noncomputable def impl_Graph_colourings_c1_T (slf : (Int → (Int × (List (Int × Int))) → (List (List Int)) → (List Int) → Int → Unit → Option ((Bool × Unit) × ((List (List Int)) × (List Int) × Unit)))) : FSum := ⟨impl_Graph_colourings_c1_ps, impl_Graph_colourings_c1_rs, fun x => slf x.1 x.2.1 x.2.2.1 x.2.2.2.1 x.2.2.2.2.1 x.2.2.2.2.2.1⟩
noncomputable def impl_Graph_colourings_c1_G (N : Nat) (slf : (Int → (Int × (List (Int × Int))) → (List (List Int)) → (List Int) → Int → Unit → Option ((Bool × Unit) × ((List (List Int)) × (List Int) × Unit)))) : GTab := gOf [(170, impl_Graph_colourings_c1_T slf), (152, slices_Clone_LI_int_S N), (40, impl_Graph_neighbors_S N), (171, slices_ContainsFunc_LI_int_S N), (172, impl_Graph_colourings_c1_c1_S N)]
theorem impl_Graph_colourings_c1_gok (N : Nat) (slf : (Int → (Int × (List (Int × Int))) → (List (List Int)) → (List Int) → Int → Unit → Option ((Bool × Unit) × ((List (List Int)) × (List Int) × Unit)))) (hslf : PC Try.prog 170 (impl_Graph_colourings_c1_T slf)) : GOk Try.prog (impl_Graph_colourings_c1_G N slf) := gOf_ok ⟨hslf, slices_Clone_LI_int_pc N, impl_Graph_neighbors_pc N, slices_ContainsFunc_LI_int_pc N, impl_Graph_colourings_c1_c1_pc N, trivial⟩
noncomputable def impl_Graph_colourings_c1_code : Code := (Try.f170.body).getD .skip
noncomputable def impl_Graph_colourings_c1_l0_sh : Sh := ⟨[(1, .one (.ro AQILQII)), (2, .one (.adr 0 0)), (3, .one (.adr 1 0)), (5, .one (.sadr 170 [.ro QILQII, .id 0, .id 1, .ro I, .me])), (6, .one (.adr 2 0)), (22, .one (.ro I)), (23, .one (.ro I))], [.mbox LLI, .mbox LI, .box [.ro I]]⟩
noncomputable def impl_Graph_colourings_c1_l0_ex : List (Ex × Sh) := [(.ret, ⟨[(2, .one (.adr 0 0)), (3, .one (.adr 1 0)), (7, .one (.ro .bool))], [.mbox LLI, .mbox LI]⟩), (.exit 0, ⟨[(2, .one (.adr 0 0)), (3, .one (.adr 1 0))], [.mbox LLI, .mbox LI]⟩)]
noncomputable def impl_Graph_colourings_c1_l0 {R : Type} (N : Nat) (slf : (Int → (Int × (List (Int × Int))) → (List (List Int)) → (List Int) → Int → Unit → Option ((Bool × Unit) × ((List (List Int)) × (List Int) × Unit)))) (k0 : Bool → (List (List Int)) → (List Int) → Option R) (k1 : (List (List Int)) → (List Int) → Option R) : Nat → (Int × (List (Int × Int))) → (Int × (List (Int × Int))) → Int → Int → Int → (List (List Int)) → (List Int) → Int → Option R
  | 0, _, _, _, _, _, _, _, _ => none
  | K + 1, x1, x2, x3, x4, x5, o, o1, o2 =>
    (br (ilt x5 x4)
      (((impl_Graph_neighbors N x1 o2).bind fun r1 =>
        ((slices_ContainsFunc_LI_int N r1.1.1 (fun y0 => (impl_Graph_colourings_c1_c1 N y0 o2 o1 x5).bind fun z => some z.1.1)).bind fun r2 =>
          (chk (inb o1 o2)
            (br (!r2.1.1)
            (((slf (IntKind.i64.wrap (o2 + 1)) x2 o (tSet o1 o2 x5) x3 ()).bind fun r3 =>
              (br (!r3.1.1)
                (k0 false r3.2.1 r3.2.2.1)
                (impl_Graph_colourings_c1_l0 N slf k0 k1 K x1 x2 x3 x4 (IntKind.i64.wrap (x5 + 1)) r3.2.1 r3.2.2.1 o2))))
            (impl_Graph_colourings_c1_l0 N slf k0 k1 K x1 x2 x3 x4 (IntKind.i64.wrap (x5 + 1)) o (tSet o1 o2 x5) o2))))))
      (k1 o o1))
noncomputable def impl_Graph_colourings_c1_l0_again {R : Type} (N : Nat) (slf : (Int → (Int × (List (Int × Int))) → (List (List Int)) → (List Int) → Int → Unit → Option ((Bool × Unit) × ((List (List Int)) × (List Int) × Unit)))) (ks : (j : Nat) → ((impl_Graph_colourings_c1_l0_ex.getD j (.ret, Sh.none)).2).T → Option R) (k : Nat) (x : impl_Graph_colourings_c1_l0_sh.T) : Option R :=
  impl_Graph_colourings_c1_l0 N slf (fun y0 y1 y2 => ks 0 (((), (), y0, ()), (y1, y2, ()))) (fun y0 y1 => ks 1 (((), (), ()), (y0, y1, ()))) k x.1.1 x.1.2.2.2.1.1 x.1.2.2.2.1.2.2.2.1 x.1.2.2.2.2.2.1 x.1.2.2.2.2.2.2.1 x.2.1 x.2.2.1 x.2.2.2.1.1
noncomputable def impl_Graph_colourings_c1_l0_s (N : Nat) (slf : (Int → (Int × (List (Int × Int))) → (List (List Int)) → (List Int) → Int → Unit → Option ((Bool × Unit) × ((List (List Int)) × (List Int) × Unit)))) : LSum := ⟨impl_Graph_colourings_c1_l0_sh, impl_Graph_colourings_c1_l0_ex, fun x ks => impl_Graph_colourings_c1_l0_again N slf ks N x⟩
theorem impl_Graph_colourings_c1_l0_step (N : Nat) (slf : (Int → (Int × (List (Int × Int))) → (List (List Int)) → (List Int) → Int → Unit → Option ((Bool × Unit) × ((List (List Int)) × (List Int) × Unit)))) (R : Type) (k : Nat) (x : impl_Graph_colourings_c1_l0_sh.T) (ks : (j : Nat) → ((impl_Graph_colourings_c1_l0_ex.getD j (.ret, Sh.none)).2).T → Option R) : impl_Graph_colourings_c1_l0_again N slf ks (k + 1) x = roundF (impl_Graph_colourings_c1_G N slf) tab [] (loopAt impl_Graph_colourings_c1_code 0) impl_Graph_colourings_c1_l0_sh impl_Graph_colourings_c1_l0_ex (fun y => impl_Graph_colourings_c1_l0_again N slf ks k y) ks x := by kernel_rfl
theorem impl_Graph_colourings_c1_l0_ok (N : Nat) (slf : (Int → (Int × (List (Int × Int))) → (List (List Int)) → (List Int) → Int → Unit → Option ((Bool × Unit) × ((List (List Int)) × (List Int) × Unit)))) (hslf : PC Try.prog 170 (impl_Graph_colourings_c1_T slf)) : LoopOk Try.prog Try.f170.ntmps (impl_Graph_colourings_c1_l0_s N slf) (loopAt impl_Graph_colourings_c1_code 0) :=
  loop_ok (l := impl_Graph_colourings_c1_l0_s N slf) progOk (impl_Graph_colourings_c1_gok N slf hslf) (draw_ok progOk (impl_Graph_colourings_c1_gok N slf hslf)) (fun R k x ks => impl_Graph_colourings_c1_l0_again N slf ks k x) (fun _ _ _ => rfl) (fun R k x ks => impl_Graph_colourings_c1_l0_step N slf R k x ks) (fun R x ks r h => ⟨N, h⟩) (lsOk_at (L := []) trivial) (by kernel_rfl) (by kernel_rfl)
noncomputable def impl_Graph_colourings_c1_b (N : Nat) (slf : (Int → (Int × (List (Int × Int))) → (List (List Int)) → (List Int) → Int → Unit → Option ((Bool × Unit) × ((List (List Int)) × (List Int) × Unit)))) (x : Int) (c : (Int × (List (Int × Int)))) (c1 : (List (List Int))) (c2 : (List Int)) (c3 : Int) (c4 : Unit) : Option ((Bool × Unit) × ((List (List Int)) × (List Int) × Unit)) :=
  (br (ieq x c.1)
    (((slices_Clone_LI_int N c2).bind fun r =>
      (chk (room c1 [r.1.1])
        (some (((ile (tLen (tApp c1 [r.1.1])) 300), ()), ((tApp c1 [r.1.1]), c2, ()))))))
    (impl_Graph_colourings_c1_l0 N slf (fun x1 o o1 => some ((x1, ()), (o, o1, ()))) (fun o2 o3 => some ((true, ()), (o2, o3, ()))) N c c c3 c3 0 c1 c2 x))
theorem impl_Graph_colourings_c1_run (N : Nat) (slf : (Int → (Int × (List (Int × Int))) → (List (List Int)) → (List Int) → Int → Unit → Option ((Bool × Unit) × ((List (List Int)) × (List Int) × Unit)))) (x : argsT impl_Graph_colourings_c1_ps) : impl_Graph_colourings_c1_b N slf x.1 x.2.1 x.2.2.1 x.2.2.2.1 x.2.2.2.2.1 x.2.2.2.2.2.1 = funF (impl_Graph_colourings_c1_G N slf) tab [impl_Graph_colourings_c1_l0_s N slf] Try.f170 impl_Graph_colourings_c1_ps impl_Graph_colourings_c1_rs x := by kernel_rfl
theorem impl_Graph_colourings_c1_bpc (N : Nat) (slf : (Int → (Int × (List (Int × Int))) → (List (List Int)) → (List Int) → Int → Unit → Option ((Bool × Unit) × ((List (List Int)) × (List Int) × Unit)))) (hslf : PC Try.prog 170 (impl_Graph_colourings_c1_T slf)) : PC Try.prog 170 (impl_Graph_colourings_c1_T (impl_Graph_colourings_c1_b N slf)) := by
  have e : impl_Graph_colourings_c1_T (impl_Graph_colourings_c1_b N slf) = ⟨impl_Graph_colourings_c1_ps, impl_Graph_colourings_c1_rs, funF (impl_Graph_colourings_c1_G N slf) tab [impl_Graph_colourings_c1_l0_s N slf] Try.f170 impl_Graph_colourings_c1_ps impl_Graph_colourings_c1_rs⟩ := congrArg (FSum.mk impl_Graph_colourings_c1_ps impl_Graph_colourings_c1_rs) (funext (impl_Graph_colourings_c1_run N slf))
  rw [e]
  exact fun_ok (c := impl_Graph_colourings_c1_code) progOk (impl_Graph_colourings_c1_gok N slf hslf) (draw_ok progOk (impl_Graph_colourings_c1_gok N slf hslf)) Try.call170 Try.func170 (by kernel_rfl) (lsOk_at (L := [impl_Graph_colourings_c1_l0_s N slf]) ⟨impl_Graph_colourings_c1_l0_ok N slf hslf, trivial⟩) (by kernel_rfl) (by kernel_rfl) (by kernel_rfl) (by kernel_rfl) (by kernel_rfl)
noncomputable def impl_Graph_colourings_c1_r (N : Nat) : Nat → (Int → (Int × (List (Int × Int))) → (List (List Int)) → (List Int) → Int → Unit → Option ((Bool × Unit) × ((List (List Int)) × (List Int) × Unit)))
  | 0 => fun _ _ _ _ _ _ => none
  | K + 1 => impl_Graph_colourings_c1_b N (impl_Graph_colourings_c1_r N K)
theorem impl_Graph_colourings_c1_rpc (N : Nat) : ∀ K, PC Try.prog 170 (impl_Graph_colourings_c1_T (impl_Graph_colourings_c1_r N K))
  | 0 => pc_none Try.call170
  | K + 1 => impl_Graph_colourings_c1_bpc N (impl_Graph_colourings_c1_r N K) (impl_Graph_colourings_c1_rpc N K)
noncomputable def impl_Graph_colourings_c1 (N : Nat) (x : Int) (c : (Int × (List (Int × Int)))) (c1 : (List (List Int))) (c2 : (List Int)) (c3 : Int) (c4 : Unit) : Option ((Bool × Unit) × ((List (List Int)) × (List Int) × Unit)) := impl_Graph_colourings_c1_r N N x c c1 c2 c3 c4
noncomputable def impl_Graph_colourings_c1_S (N : Nat) : FSum := ⟨impl_Graph_colourings_c1_ps, impl_Graph_colourings_c1_rs, fun x => impl_Graph_colourings_c1 N x.1 x.2.1 x.2.2.1 x.2.2.2.1 x.2.2.2.2.1 x.2.2.2.2.2.1⟩
theorem impl_Graph_colourings_c1_pc (N : Nat) : PC Try.prog 170 (impl_Graph_colourings_c1_S N) := impl_Graph_colourings_c1_rpc N N

/-! ### impl_Graph_colourings -/
abbrev impl_Graph_colourings_ps : List (PV.Mode × Ty) := [(.ro, QILQII), (.ro, I)]
abbrev impl_Graph_colourings_rs : List (Bool × Ty) := [(true, LLI), (true, .bool)]
noncomputable def impl_Graph_colourings_G (N : Nat) : GTab := gOf [(170, impl_Graph_colourings_c1_S N)]
theorem impl_Graph_colourings_gok (N : Nat) : GOk Try.prog (impl_Graph_colourings_G N) := gOf_ok ⟨impl_Graph_colourings_c1_pc N, trivial⟩
noncomputable def impl_Graph_colourings_code : Code := (Try.f142.body).getD .skip
noncomputable def impl_Graph_colourings (N : Nat) (g : (Int × (List (Int × Int)))) (kv : Int) : Option (((List (List Int)) × Bool × Unit) × (Unit)) :=
  (chk (ile 0 g.1 && ile g.1 g.1 && fits g.1)
    ((impl_Graph_colourings_c1 N 0 (g.1, g.2) [] (tRep g.1 (0 : Int)) kv ()).bind fun r =>
    (br (!r.1.1)
      (some (([], false, ()), ()))
      (some ((r.2.1, true, ()), ())))))
noncomputable def impl_Graph_colourings_S (N : Nat) : FSum := ⟨impl_Graph_colourings_ps, impl_Graph_colourings_rs, fun x => impl_Graph_colourings N x.1 x.2.1⟩
theorem impl_Graph_colourings_run (N : Nat) (x : argsT impl_Graph_colourings_ps) : impl_Graph_colourings N x.1 x.2.1 = funF (impl_Graph_colourings_G N) tab [] Try.f142 impl_Graph_colourings_ps impl_Graph_colourings_rs x := by kernel_rfl
theorem impl_Graph_colourings_pc (N : Nat) : PC Try.prog 142 (impl_Graph_colourings_S N) := by
  have e : impl_Graph_colourings_S N = ⟨impl_Graph_colourings_ps, impl_Graph_colourings_rs, funF (impl_Graph_colourings_G N) tab [] Try.f142 impl_Graph_colourings_ps impl_Graph_colourings_rs⟩ := congrArg (FSum.mk impl_Graph_colourings_ps impl_Graph_colourings_rs) (funext (impl_Graph_colourings_run N))
  rw [e]
  exact fun_ok (c := impl_Graph_colourings_code) progOk (impl_Graph_colourings_gok N) (draw_ok progOk (impl_Graph_colourings_gok N)) Try.call142 Try.func142 (by kernel_rfl) (lsOk_at (L := []) trivial) (by kernel_rfl) (by kernel_rfl) (by kernel_rfl) (by kernel_rfl) (by kernel_rfl)

/-! ### impl_Colourings -/
abbrev impl_Colourings_ps : List (PV.Mode × Ty) := [(.ro, QILQII), (.ro, I)]
abbrev impl_Colourings_rs : List (Bool × Ty) := [(true, LLI), (true, .bool)]
noncomputable def impl_Colourings_G (N : Nat) : GTab := gOf [(141, impl_isColourCase_S N), (142, impl_Graph_colourings_S N)]
theorem impl_Colourings_gok (N : Nat) : GOk Try.prog (impl_Colourings_G N) := gOf_ok ⟨impl_isColourCase_pc N, impl_Graph_colourings_pc N, trivial⟩
noncomputable def impl_Colourings_code : Code := (Try.f100.body).getD .skip
noncomputable def impl_Colourings (N : Nat) (g : (Int × (List (Int × Int)))) (kv : Int) : Option (((List (List Int)) × Bool × Unit) × (Unit)) :=
  ((impl_isColourCase N (g.1, g.2) kv).bind fun r =>
    (br (!r.1.1)
      (some (([], false, ()), ()))
      (((impl_Graph_colourings N (g.1, g.2) kv).bind fun r1 =>
        some ((r1.1.1, r1.1.2.1, ()), ())))))
noncomputable def impl_Colourings_S (N : Nat) : FSum := ⟨impl_Colourings_ps, impl_Colourings_rs, fun x => impl_Colourings N x.1 x.2.1⟩
theorem impl_Colourings_run (N : Nat) (x : argsT impl_Colourings_ps) : impl_Colourings N x.1 x.2.1 = funF (impl_Colourings_G N) tab [] Try.f100 impl_Colourings_ps impl_Colourings_rs x := by kernel_rfl
theorem impl_Colourings_pc (N : Nat) : PC Try.prog 100 (impl_Colourings_S N) := by
  have e : impl_Colourings_S N = ⟨impl_Colourings_ps, impl_Colourings_rs, funF (impl_Colourings_G N) tab [] Try.f100 impl_Colourings_ps impl_Colourings_rs⟩ := congrArg (FSum.mk impl_Colourings_ps impl_Colourings_rs) (funext (impl_Colourings_run N))
  rw [e]
  exact fun_ok (c := impl_Colourings_code) progOk (impl_Colourings_gok N) (draw_ok progOk (impl_Colourings_gok N)) Try.call100 Try.func100 (by kernel_rfl) (lsOk_at (L := []) trivial) (by kernel_rfl) (by kernel_rfl) (by kernel_rfl) (by kernel_rfl) (by kernel_rfl)

/-! ### slices_Compare_LI_int -/
abbrev slices_Compare_LI_int_ps : List (PV.Mode × Ty) := [(.ro, LI), (.ro, LI)]
abbrev slices_Compare_LI_int_rs : List (Bool × Ty) := [(true, I)]
noncomputable def slices_Compare_LI_int_G (N : Nat) : GTab := gOf [(128, cmp_Compare_int_S N)]
theorem slices_Compare_LI_int_gok (N : Nat) : GOk Try.prog (slices_Compare_LI_int_G N) := gOf_ok ⟨cmp_Compare_int_pc N, trivial⟩
noncomputable def slices_Compare_LI_int_code : Code := (Try.f81.body).getD .skip
noncomputable def slices_Compare_LI_int_l0_sh : Sh := ⟨[(0, .one (.ro LI)), (1, .one (.ro LI)), (9, .one (.ro LI)), (10, .one (.ro I)), (11, .one (.ro I))], []⟩
noncomputable def slices_Compare_LI_int_l0_ex : List (Ex × Sh) := [(.ret, ⟨[(4, .one (.ro I))], []⟩), (.exit 0, ⟨[(0, .one (.ro LI)), (1, .one (.ro LI))], []⟩)]
noncomputable def slices_Compare_LI_int_l0 {R : Type} (N : Nat) (k0 : Int → Option R) (k1 : (List Int) → (List Int) → Option R) : Nat → (List Int) → (List Int) → (List Int) → Int → Int → Option R
  | 0, _, _, _, _, _ => none
  | K + 1, s11, s21, x, x1, x2 =>
    (br (ilt x2 x1)
      ((chk (inb x x2)
        (br (ile (tLen s21) x2)
        (k0 1)
        ((chk (inb s21 x2)
          ((cmp_Compare_int N (rdI x x2) (rdI s21 x2)).bind fun r =>
          (br (ine r.1.1 0)
            (k0 r.1.1)
            (slices_Compare_LI_int_l0 N k0 k1 K s11 s21 x x1 (IntKind.i64.wrap (x2 + 1))))))))))
      (k1 s11 s21))
noncomputable def slices_Compare_LI_int_l0_again {R : Type} (N : Nat) (ks : (j : Nat) → ((slices_Compare_LI_int_l0_ex.getD j (.ret, Sh.none)).2).T → Option R) (k : Nat) (x : slices_Compare_LI_int_l0_sh.T) : Option R :=
  slices_Compare_LI_int_l0 N (fun y0 => ks 0 ((y0, ()), ())) (fun y0 y1 => ks 1 ((y0, y1, ()), ())) k x.1.1 x.1.2.1 x.1.2.2.1 x.1.2.2.2.1 x.1.2.2.2.2.1
noncomputable def slices_Compare_LI_int_l0_s (N : Nat) : LSum := ⟨slices_Compare_LI_int_l0_sh, slices_Compare_LI_int_l0_ex, fun x ks => slices_Compare_LI_int_l0_again N ks N x⟩
theorem slices_Compare_LI_int_l0_step (N : Nat) (R : Type) (k : Nat) (x : slices_Compare_LI_int_l0_sh.T) (ks : (j : Nat) → ((slices_Compare_LI_int_l0_ex.getD j (.ret, Sh.none)).2).T → Option R) : slices_Compare_LI_int_l0_again N ks (k + 1) x = roundF (slices_Compare_LI_int_G N) tab [] (loopAt slices_Compare_LI_int_code 0) slices_Compare_LI_int_l0_sh slices_Compare_LI_int_l0_ex (fun y => slices_Compare_LI_int_l0_again N ks k y) ks x := by kernel_rfl
theorem slices_Compare_LI_int_l0_ok (N : Nat) : LoopOk Try.prog Try.f81.ntmps (slices_Compare_LI_int_l0_s N) (loopAt slices_Compare_LI_int_code 0) :=
  loop_ok (l := slices_Compare_LI_int_l0_s N) progOk (slices_Compare_LI_int_gok N) (draw_ok progOk (slices_Compare_LI_int_gok N)) (fun R k x ks => slices_Compare_LI_int_l0_again N ks k x) (fun _ _ _ => rfl) (fun R k x ks => slices_Compare_LI_int_l0_step N R k x ks) (fun R x ks r h => ⟨N, h⟩) (lsOk_at (L := []) trivial) (by kernel_rfl) (by kernel_rfl)
noncomputable def slices_Compare_LI_int (N : Nat) (s1 : (List Int)) (s2 : (List Int)) : Option ((Int × Unit) × (Unit)) :=
  slices_Compare_LI_int_l0 N (fun x => some ((x, ()), ())) (fun s11 s21 => (br (ilt (tLen s11) (tLen s21))
    (some (((-1), ()), ()))
    (some ((0, ()), ())))) N s1 s2 s1 (tLen s1) 0
noncomputable def slices_Compare_LI_int_S (N : Nat) : FSum := ⟨slices_Compare_LI_int_ps, slices_Compare_LI_int_rs, fun x => slices_Compare_LI_int N x.1 x.2.1⟩
theorem slices_Compare_LI_int_run (N : Nat) (x : argsT slices_Compare_LI_int_ps) : slices_Compare_LI_int N x.1 x.2.1 = funF (slices_Compare_LI_int_G N) tab [slices_Compare_LI_int_l0_s N] Try.f81 slices_Compare_LI_int_ps slices_Compare_LI_int_rs x := by kernel_rfl
theorem slices_Compare_LI_int_pc (N : Nat) : PC Try.prog 81 (slices_Compare_LI_int_S N) := by
  have e : slices_Compare_LI_int_S N = ⟨slices_Compare_LI_int_ps, slices_Compare_LI_int_rs, funF (slices_Compare_LI_int_G N) tab [slices_Compare_LI_int_l0_s N] Try.f81 slices_Compare_LI_int_ps slices_Compare_LI_int_rs⟩ := congrArg (FSum.mk slices_Compare_LI_int_ps slices_Compare_LI_int_rs) (funext (slices_Compare_LI_int_run N))
  rw [e]
  exact fun_ok (c := slices_Compare_LI_int_code) progOk (slices_Compare_LI_int_gok N) (draw_ok progOk (slices_Compare_LI_int_gok N)) Try.call81 Try.func81 (by kernel_rfl) (lsOk_at (L := [slices_Compare_LI_int_l0_s N]) ⟨slices_Compare_LI_int_l0_ok N, trivial⟩) (by kernel_rfl) (by kernel_rfl) (by kernel_rfl) (by kernel_rfl) (by kernel_rfl)

/-! ### slices_SortFunc_LLI_LI_kslices_Compare_LI_int -/
abbrev slices_SortFunc_LLI_LI_kslices_Compare_LI_int_ps : List (PV.Mode × Ty) := [(.mut, LLI), (.own, K81Un)]
abbrev slices_SortFunc_LLI_LI_kslices_Compare_LI_int_rs : List (Bool × Ty) := []
noncomputable def slices_SortFunc_LLI_LI_kslices_Compare_LI_int (N : Nat) (x : List (List Int)) (_ : Unit) : Option (Unit × (List (List Int) × Unit)) := sortF (fun a b => (slices_Compare_LI_int N a b).map fun z => z.1.1) x
noncomputable def slices_SortFunc_LLI_LI_kslices_Compare_LI_int_S (N : Nat) : FSum := ⟨slices_SortFunc_LLI_LI_kslices_Compare_LI_int_ps, slices_SortFunc_LLI_LI_kslices_Compare_LI_int_rs, fun x => slices_SortFunc_LLI_LI_kslices_Compare_LI_int N x.1 x.2.1⟩
theorem slices_SortFunc_LLI_LI_kslices_Compare_LI_int_pc (N : Nat) : PC Try.prog 80 (slices_SortFunc_LLI_LI_kslices_Compare_LI_int_S N) := sortRows_pc (fc := fun a b => slices_Compare_LI_int N a b) (sortsAt Try.sortL) (sortsNone Try.sortL) Try.call80 (slices_Compare_LI_int_pc N)

/-! ### impl_spaceOf -/
abbrev impl_spaceOf_ps : List (PV.Mode × Ty) := [(.own, LLI), (.ro, GLILIBo)]
abbrev impl_spaceOf_rs : List (Bool × Ty) := [(true, QLLILQII)]
noncomputable def impl_spaceOf_G (N : Nat) : GTab := gOf [(80, slices_SortFunc_LLI_LI_kslices_Compare_LI_int_S N)]
theorem impl_spaceOf_gok (N : Nat) : GOk Try.prog (impl_spaceOf_G N) := gOf_ok ⟨slices_SortFunc_LLI_LI_kslices_Compare_LI_int_pc N, trivial⟩
noncomputable def impl_spaceOf_code : Code := (Try.f46.body).getD .skip
noncomputable def impl_spaceOf_l0_0_sh : Sh := ⟨[(1, .one (.ro GLILIBo)), (4, .one (.adr 0 0)), (5, .one (.adr 1 0)), (6, .one (.ro I)), (7, .one (.el 2)), (16, .one (.ref 2)), (17, .one (.ro I)), (18, .one (.ro I)), (27, .one (.sub 2 1)), (28, .one (.ro I)), (29, .one (.ro I))], [.box [.nilsl, .nilsl], .box [.ref 2, .ref 3], .sl 43 LI .deep, .sl 80 QII .own]⟩
noncomputable def impl_spaceOf_l0_0_ex : List (Ex × Sh) := [(.exit 2, ⟨[(1, .one (.ro GLILIBo)), (4, .one (.adr 0 0)), (5, .one (.adr 1 0)), (16, .one (.ref 2)), (17, .one (.ro I)), (18, .one (.ro I))], [.box [.nilsl, .nilsl], .box [.ref 2, .ref 3], .sl 43 LI .deep, .sl 80 QII .own]⟩)]
noncomputable def impl_spaceOf_l0_0 {R : Type} (N : Nat) (k0 : ((List Int) → (List Int) → Option Bool) → Int → Int → (List (List Int)) → (List (Int × Int)) → Option R) : Nat → ((List Int) → (List Int) → Option Bool) → Int → Int → Int → Int → Int → Int → Int → Int → (List (List Int)) → (List (Int × Int)) → Option R
  | 0, _, _, _, _, _, _, _, _, _, _, _ => none
  | K + 1, isStep2, i, a, x2, x3, x4, x5, x6, x7, o2, o3 =>
    (br (ilt x7 x6)
      ((chk (ile 0 x7 && ilt x7 (x5 - x4))
        ((isStep2 (rdL o2 a) (rdL o2 (x4 + x7))).bind fun v =>
        (br v
        ((chk (room o3 [(i, (IntKind.i64.wrap ((IntKind.i64.wrap (i + 1)) + x7)))])
          (impl_spaceOf_l0_0 N k0 K isStep2 i a x2 x3 x4 x5 x6 (IntKind.i64.wrap (x7 + 1)) o2 (tApp o3 [(i, (IntKind.i64.wrap ((IntKind.i64.wrap (i + 1)) + x7)))]))))
        (impl_spaceOf_l0_0 N k0 K isStep2 i a x2 x3 x4 x5 x6 (IntKind.i64.wrap (x7 + 1)) o2 o3)))))
      (k0 isStep2 x2 x3 o2 o3))
noncomputable def impl_spaceOf_l0_0_again {R : Type} (N : Nat) (ks : (j : Nat) → ((impl_spaceOf_l0_0_ex.getD j (.ret, Sh.none)).2).T → Option R) (k : Nat) (x : impl_spaceOf_l0_0_sh.T) : Option R :=
  impl_spaceOf_l0_0 N (fun y0 y1 y2 y3 y4 => ks 0 ((y0, (), (), (), y1, y2, ()), (((), (), ()), ((), (), ()), y3, y4, ()))) k x.1.1 x.1.2.2.2.1 x.1.2.2.2.2.1 x.1.2.2.2.2.2.2.1 x.1.2.2.2.2.2.2.2.1 x.1.2.2.2.2.2.2.2.2.1.1 x.1.2.2.2.2.2.2.2.2.1.2 x.1.2.2.2.2.2.2.2.2.2.1 x.1.2.2.2.2.2.2.2.2.2.2.1 x.2.2.2.1 x.2.2.2.2.1
noncomputable def impl_spaceOf_l0_0_s (N : Nat) : LSum := ⟨impl_spaceOf_l0_0_sh, impl_spaceOf_l0_0_ex, fun x ks => impl_spaceOf_l0_0_again N ks N x⟩
theorem impl_spaceOf_l0_0_step (N : Nat) (R : Type) (k : Nat) (x : impl_spaceOf_l0_0_sh.T) (ks : (j : Nat) → ((impl_spaceOf_l0_0_ex.getD j (.ret, Sh.none)).2).T → Option R) : impl_spaceOf_l0_0_again N ks (k + 1) x = roundF (impl_spaceOf_G N) tab [] (loopAt (loopAt impl_spaceOf_code 0) 0) impl_spaceOf_l0_0_sh impl_spaceOf_l0_0_ex (fun y => impl_spaceOf_l0_0_again N ks k y) ks x := by kernel_rfl
theorem impl_spaceOf_l0_0_ok (N : Nat) : LoopOk Try.prog Try.f46.ntmps (impl_spaceOf_l0_0_s N) (loopAt (loopAt impl_spaceOf_code 0) 0) :=
  loop_ok (l := impl_spaceOf_l0_0_s N) progOk (impl_spaceOf_gok N) (draw_ok progOk (impl_spaceOf_gok N)) (fun R k x ks => impl_spaceOf_l0_0_again N ks k x) (fun _ _ _ => rfl) (fun R k x ks => impl_spaceOf_l0_0_step N R k x ks) (fun R x ks r h => ⟨N, h⟩) (lsOk_at (L := []) trivial) (by kernel_rfl) (by kernel_rfl)
noncomputable def impl_spaceOf_l0_sh : Sh := ⟨[(1, .one (.ro GLILIBo)), (4, .one (.adr 0 0)), (5, .one (.adr 1 0)), (16, .one (.ref 2)), (17, .one (.ro I)), (18, .one (.ro I))], [.box [.nilsl, .nilsl], .box [.ref 2, .ref 3], .sl 43 LI .deep, .sl 80 QII .own]⟩
noncomputable def impl_spaceOf_l0_ex : List (Ex × Sh) := [(.exit 0, ⟨[(4, .one (.adr 0 0)), (5, .one (.adr 1 0))], [.box [.nilsl, .nilsl], .box [.ref 2, .ref 3], .sl 43 LI .deep, .sl 80 QII .own]⟩)]
noncomputable def impl_spaceOf_l0 {R : Type} (N : Nat) (k0 : (List (List Int)) → (List (Int × Int)) → Option R) : Nat → ((List Int) → (List Int) → Option Bool) → Int → Int → (List (List Int)) → (List (Int × Int)) → Option R
  | 0, _, _, _, _, _ => none
  | K + 1, isStep1, x, x1, o, o1 =>
    (br (ilt x1 x)
      ((chk (inb o x1)
        (chk (ile 0 (IntKind.i64.wrap (x1 + 1)) && ile (IntKind.i64.wrap (x1 + 1)) (tLen o) && ile (tLen o) (tLen o))
        (impl_spaceOf_l0_0 N (fun isStep2 x2 x3 o2 o3 => impl_spaceOf_l0 N k0 K isStep2 x2 (IntKind.i64.wrap (x3 + 1)) o2 o3) N isStep1 x1 x1 x x1 (IntKind.i64.wrap (x1 + 1)) (tLen o) ((tLen o) - (IntKind.i64.wrap (x1 + 1))) 0 o o1))))
      (k0 o o1))
noncomputable def impl_spaceOf_l0_again {R : Type} (N : Nat) (ks : (j : Nat) → ((impl_spaceOf_l0_ex.getD j (.ret, Sh.none)).2).T → Option R) (k : Nat) (x : impl_spaceOf_l0_sh.T) : Option R :=
  impl_spaceOf_l0 N (fun y0 y1 => ks 0 (((), (), ()), (((), (), ()), ((), (), ()), y0, y1, ()))) k x.1.1 x.1.2.2.2.2.1 x.1.2.2.2.2.2.1 x.2.2.2.1 x.2.2.2.2.1
noncomputable def impl_spaceOf_l0_s (N : Nat) : LSum := ⟨impl_spaceOf_l0_sh, impl_spaceOf_l0_ex, fun x ks => impl_spaceOf_l0_again N ks N x⟩
theorem impl_spaceOf_l0_step (N : Nat) (R : Type) (k : Nat) (x : impl_spaceOf_l0_sh.T) (ks : (j : Nat) → ((impl_spaceOf_l0_ex.getD j (.ret, Sh.none)).2).T → Option R) : impl_spaceOf_l0_again N ks (k + 1) x = roundF (impl_spaceOf_G N) tab [impl_spaceOf_l0_0_s N] (loopAt impl_spaceOf_code 0) impl_spaceOf_l0_sh impl_spaceOf_l0_ex (fun y => impl_spaceOf_l0_again N ks k y) ks x := by kernel_rfl
theorem impl_spaceOf_l0_ok (N : Nat) : LoopOk Try.prog Try.f46.ntmps (impl_spaceOf_l0_s N) (loopAt impl_spaceOf_code 0) :=
  loop_ok (l := impl_spaceOf_l0_s N) progOk (impl_spaceOf_gok N) (draw_ok progOk (impl_spaceOf_gok N)) (fun R k x ks => impl_spaceOf_l0_again N ks k x) (fun _ _ _ => rfl) (fun R k x ks => impl_spaceOf_l0_step N R k x ks) (fun R x ks r h => ⟨N, h⟩) (lsOk_at (L := [impl_spaceOf_l0_0_s N]) ⟨impl_spaceOf_l0_0_ok N, trivial⟩) (by kernel_rfl) (by kernel_rfl)
noncomputable def impl_spaceOf (N : Nat) (states : (List (List Int))) (isStep : ((List Int) → (List Int) → Option Bool)) : Option ((((List (List Int)) × (List (Int × Int))) × Unit) × (Unit)) :=
  ((slices_SortFunc_LLI_LI_kslices_Compare_LI_int N states ()).bind fun r =>
    impl_spaceOf_l0 N (fun o o1 => some (((o, o1), ()), ())) N isStep (tLen r.2.1) 0 r.2.1 [])
noncomputable def impl_spaceOf_S (N : Nat) : FSum := ⟨impl_spaceOf_ps, impl_spaceOf_rs, fun x => impl_spaceOf N x.1 x.2.1⟩
theorem impl_spaceOf_run (N : Nat) (x : argsT impl_spaceOf_ps) : impl_spaceOf N x.1 x.2.1 = funF (impl_spaceOf_G N) tab [impl_spaceOf_l0_s N] Try.f46 impl_spaceOf_ps impl_spaceOf_rs x := by kernel_rfl
theorem impl_spaceOf_pc (N : Nat) : PC Try.prog 46 (impl_spaceOf_S N) := by
  have e : impl_spaceOf_S N = ⟨impl_spaceOf_ps, impl_spaceOf_rs, funF (impl_spaceOf_G N) tab [impl_spaceOf_l0_s N] Try.f46 impl_spaceOf_ps impl_spaceOf_rs⟩ := congrArg (FSum.mk impl_spaceOf_ps impl_spaceOf_rs) (funext (impl_spaceOf_run N))
  rw [e]
  exact fun_ok (c := impl_spaceOf_code) progOk (impl_spaceOf_gok N) (draw_ok progOk (impl_spaceOf_gok N)) Try.call46 Try.func46 (by kernel_rfl) (lsOk_at (L := [impl_spaceOf_l0_s N]) ⟨impl_spaceOf_l0_ok N, trivial⟩) (by kernel_rfl) (by kernel_rfl) (by kernel_rfl) (by kernel_rfl) (by kernel_rfl)
end Go.Proofs.Ytgelipdkheahdaa
