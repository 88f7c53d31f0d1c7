/- Functions of the program as functions on data. -/
import Derived.Test.YtgelipdkheahdaaGreatFixedNodesFa
set_option linter.all false
namespace Go.Proofs.YtgelipdkheahdaaGreat
open Go Go.PV
/-! ### spec_l5Space -/
abbrev spec_l5Space_ps : List (PV.Mode × Ty) := [(.ro, QILQII), (.ro, I), (.ro, .bool)]
abbrev spec_l5Space_rs : List (Bool × Ty) := [(true, QLLILQII), (true, .bool)]
noncomputable def spec_l5Space_G (N : Nat) : GTab := gOf [(77, spec_l5All_S N), (78, spec_l5Step_S N)]
theorem spec_l5Space_gok (N : Nat) : GOk Tryz.prog (spec_l5Space_G N) := gOf_ok ⟨spec_l5All_pc N, spec_l5Step_pc N, trivial⟩
noncomputable def spec_l5Space_code : Code := (Tryz.f40.body).getD .skip
noncomputable def spec_l5Space_l0_0_sh : Sh := ⟨[(2, .one (.ro .bool)), (3, .one (.adr 0 0)), (6, .one (.adr 1 0)), (8, .one (.ref 2)), (10, .one (.adr 3 0)), (11, .one (.ro I)), (12, .one (.ro I))], [.box [.ro I, .ro LQII], .box [.nilsl, .nilsl], .sl 40 LI .deep, .box [.ref 2, .ref 4], .sl 93 QII .own]⟩
noncomputable def spec_l5Space_l0_0_ex : List (Ex × Sh) := [(.exit 2, ⟨[(2, .one (.ro .bool)), (3, .one (.adr 0 0)), (6, .one (.adr 1 0)), (8, .one (.ref 2)), (10, .one (.adr 3 0)), (11, .one (.ro I))], [.box [.ro I, .ro LQII], .box [.nilsl, .nilsl], .sl 40 LI .deep, .box [.ref 2, .ref 4], .sl 93 QII .own]⟩)]
noncomputable def spec_l5Space_l0_0 {R : Type} (N : Nat) (k0 : Bool → Int → Int → (List (Int × Int)) → (List (List Int)) → (List (Int × Int)) → Option R) : Nat → Bool → Int → Int → Int → (List (Int × Int)) → (List (List Int)) → (List (Int × Int)) → Option R
  | 0, _, _, _, _, _, _, _ => none
  | K + 1, kempe2, i1, j, o4, o5, o6, o7 =>
    (br (ilt j (tLen o6))
      ((chk (inb o6 i1)
        (chk (inb o6 j)
        ((spec_l5Step N (o4, o5) kempe2 (rdL o6 i1) (rdL o6 j)).bind fun r1 =>
        (br r1.1.1
          ((chk (room o7 [(i1, j)])
            (spec_l5Space_l0_0 N k0 K kempe2 i1 (IntKind.i64.wrap (j + 1)) o4 o5 o6 (tApp o7 [(i1, j)]))))
          (spec_l5Space_l0_0 N k0 K kempe2 i1 (IntKind.i64.wrap (j + 1)) o4 o5 o6 o7))))))
      (k0 kempe2 i1 o4 o5 o6 o7))
noncomputable def spec_l5Space_l0_0_again {R : Type} (N : Nat) (ks : (j : Nat) → ((spec_l5Space_l0_0_ex.getD j (.ret, Sh.none)).2).T → Option R) (k : Nat) (x : spec_l5Space_l0_0_sh.T) : Option R :=
  spec_l5Space_l0_0 N (fun y0 y1 y2 y3 y4 y5 => ks 0 ((y0, (), (), (), (), y1, ()), ((y2, y3, ()), ((), (), ()), y4, ((), (), ()), y5, ()))) k x.1.1 x.1.2.2.2.2.2.1 x.1.2.2.2.2.2.2.1 x.2.1.1 x.2.1.2.1 x.2.2.2.1 x.2.2.2.2.2.1
noncomputable def spec_l5Space_l0_0_s (N : Nat) : LSum := ⟨spec_l5Space_l0_0_sh, spec_l5Space_l0_0_ex, fun x ks => spec_l5Space_l0_0_again N ks N x⟩
theorem spec_l5Space_l0_0_step (N : Nat) (R : Type) (k : Nat) (x : spec_l5Space_l0_0_sh.T) (ks : (j : Nat) → ((spec_l5Space_l0_0_ex.getD j (.ret, Sh.none)).2).T → Option R) : spec_l5Space_l0_0_again N ks (k + 1) x = roundF (spec_l5Space_G N) tab [] (loopAt (loopAt spec_l5Space_code 0) 0) spec_l5Space_l0_0_sh spec_l5Space_l0_0_ex (fun y => spec_l5Space_l0_0_again N ks k y) ks x := by kernel_rfl
theorem spec_l5Space_l0_0_ok (N : Nat) : LoopOk Tryz.prog Tryz.f40.ntmps (spec_l5Space_l0_0_s N) (loopAt (loopAt spec_l5Space_code 0) 0) :=
  loop_ok (l := spec_l5Space_l0_0_s N) progOk (spec_l5Space_gok N) (draw_ok progOk (spec_l5Space_gok N)) (fun R k x ks => spec_l5Space_l0_0_again N ks k x) (fun _ _ _ => rfl) (fun R k x ks => spec_l5Space_l0_0_step N R k x ks) (fun R x ks r h => ⟨N, h⟩) (lsOk_at (L := []) trivial) (by kernel_rfl) (by kernel_rfl)
noncomputable def spec_l5Space_l0_sh : Sh := ⟨[(2, .one (.ro .bool)), (3, .one (.adr 0 0)), (6, .one (.adr 1 0)), (8, .one (.ref 2)), (10, .one (.adr 3 0)), (11, .one (.ro I))], [.box [.ro I, .ro LQII], .box [.nilsl, .nilsl], .sl 40 LI .deep, .box [.ref 2, .ref 4], .sl 93 QII .own]⟩
noncomputable def spec_l5Space_l0_ex : List (Ex × Sh) := [(.exit 0, ⟨[(6, .one (.adr 0 0)), (10, .one (.adr 1 0))], [.box [.nilsl, .nilsl], .box [.ref 2, .ref 3], .sl 40 LI .deep, .sl 93 QII .own]⟩)]
noncomputable def spec_l5Space_l0 {R : Type} (N : Nat) (k0 : (List (List Int)) → (List (Int × Int)) → Option R) : Nat → Bool → Int → Int → (List (Int × Int)) → (List (List Int)) → (List (Int × Int)) → Option R
  | 0, _, _, _, _, _, _ => none
  | K + 1, kempe1, i, o, o1, o2, o3 =>
    (br (ilt i (tLen o2))
      (spec_l5Space_l0_0 N (fun kempe2 i1 o4 o5 o6 o7 => spec_l5Space_l0 N k0 K kempe2 (IntKind.i64.wrap (i1 + 1)) o4 o5 o6 o7) N kempe1 i (IntKind.i64.wrap (i + 1)) o o1 o2 o3)
      (k0 o2 o3))
noncomputable def spec_l5Space_l0_again {R : Type} (N : Nat) (ks : (j : Nat) → ((spec_l5Space_l0_ex.getD j (.ret, Sh.none)).2).T → Option R) (k : Nat) (x : spec_l5Space_l0_sh.T) : Option R :=
  spec_l5Space_l0 N (fun y0 y1 => ks 0 (((), (), ()), (((), (), ()), ((), (), ()), y0, y1, ()))) k x.1.1 x.1.2.2.2.2.2.1 x.2.1.1 x.2.1.2.1 x.2.2.2.1 x.2.2.2.2.2.1
noncomputable def spec_l5Space_l0_s (N : Nat) : LSum := ⟨spec_l5Space_l0_sh, spec_l5Space_l0_ex, fun x ks => spec_l5Space_l0_again N ks N x⟩
theorem spec_l5Space_l0_step (N : Nat) (R : Type) (k : Nat) (x : spec_l5Space_l0_sh.T) (ks : (j : Nat) → ((spec_l5Space_l0_ex.getD j (.ret, Sh.none)).2).T → Option R) : spec_l5Space_l0_again N ks (k + 1) x = roundF (spec_l5Space_G N) tab [spec_l5Space_l0_0_s N] (loopAt spec_l5Space_code 0) spec_l5Space_l0_sh spec_l5Space_l0_ex (fun y => spec_l5Space_l0_again N ks k y) ks x := by kernel_rfl
theorem spec_l5Space_l0_ok (N : Nat) : LoopOk Tryz.prog Tryz.f40.ntmps (spec_l5Space_l0_s N) (loopAt spec_l5Space_code 0) :=
  loop_ok (l := spec_l5Space_l0_s N) progOk (spec_l5Space_gok N) (draw_ok progOk (spec_l5Space_gok N)) (fun R k x ks => spec_l5Space_l0_again N ks k x) (fun _ _ _ => rfl) (fun R k x ks => spec_l5Space_l0_step N R k x ks) (fun R x ks r h => ⟨N, h⟩) (lsOk_at (L := [spec_l5Space_l0_0_s N]) ⟨spec_l5Space_l0_0_ok N, trivial⟩) (by kernel_rfl) (by kernel_rfl)
noncomputable def spec_l5Space (N : Nat) (g : (Int × (List (Int × Int)))) (kv : Int) (kempe : Bool) : Option ((((List (List Int)) × (List (Int × Int))) × Bool × Unit) × (Unit)) :=
  ((spec_l5All N (g.1, g.2) kv).bind fun r =>
    (br (!r.1.2.1)
      (some ((([], []), false, ()), ()))
      (spec_l5Space_l0 N (fun o o1 => some (((o, o1), true, ()), ())) N kempe 0 g.1 g.2 r.1.1 [])))
noncomputable def spec_l5Space_S (N : Nat) : FSum := ⟨spec_l5Space_ps, spec_l5Space_rs, fun x => spec_l5Space N x.1 x.2.1 x.2.2.1⟩
theorem spec_l5Space_run (N : Nat) (x : argsT spec_l5Space_ps) : spec_l5Space N x.1 x.2.1 x.2.2.1 = funF (spec_l5Space_G N) tab [spec_l5Space_l0_s N] Tryz.f40 spec_l5Space_ps spec_l5Space_rs x := by kernel_rfl
theorem spec_l5Space_pc (N : Nat) : PC Tryz.prog 40 (spec_l5Space_S N) := by
  have e : spec_l5Space_S N = ⟨spec_l5Space_ps, spec_l5Space_rs, funF (spec_l5Space_G N) tab [spec_l5Space_l0_s N] Tryz.f40 spec_l5Space_ps spec_l5Space_rs⟩ := congrArg (FSum.mk spec_l5Space_ps spec_l5Space_rs) (funext (spec_l5Space_run N))
  rw [e]
  exact fun_ok (c := spec_l5Space_code) progOk (spec_l5Space_gok N) (draw_ok progOk (spec_l5Space_gok N)) Tryz.call40 Tryz.func40 (by kernel_rfl) (lsOk_at (L := [spec_l5Space_l0_s N]) ⟨spec_l5Space_l0_ok N, trivial⟩) (by kernel_rfl) (by kernel_rfl) (by kernel_rfl) (by kernel_rfl) (by kernel_rfl)

/-! ### spec_l2Index -/
abbrev spec_l2Index_ps : List (PV.Mode × Ty) := [(.ro, QLLILQII), (.ro, LI)]
abbrev spec_l2Index_rs : List (Bool × Ty) := [(true, I)]
noncomputable def spec_l2Index_G (N : Nat) : GTab := gOf [(101, spec_l1Same_S N)]
theorem spec_l2Index_gok (N : Nat) : GOk Tryz.prog (spec_l2Index_G N) := gOf_ok ⟨spec_l1Same_pc N, trivial⟩
noncomputable def spec_l2Index_code : Code := (Tryz.f61.body).getD .skip
noncomputable def spec_l2Index_l0_sh : Sh := ⟨[(1, .one (.ro LI)), (2, .one (.adr 0 0)), (5, .one (.ro I))], [.box [.ro LLI, .ro LQII]]⟩
noncomputable def spec_l2Index_l0_ex : List (Ex × Sh) := [(.ret, ⟨[(4, .one (.ro I))], []⟩), (.exit 0, ⟨[], []⟩)]
noncomputable def spec_l2Index_l0 {R : Type} (N : Nat) (k0 : Int → Option R) (k1 : Unit → Option R) : Nat → (List Int) → Int → (List (List Int)) → (List (Int × Int)) → Option R
  | 0, _, _, _, _ => none
  | K + 1, state1, i, o, o1 =>
    (br (ilt i (tLen o))
      ((chk (inb o i)
        ((spec_l1Same N (rdL o i) state1).bind fun r =>
        (br r.1.1
          (k0 i)
          (spec_l2Index_l0 N k0 k1 K state1 (IntKind.i64.wrap (i + 1)) o o1)))))
      (k1 ()))
noncomputable def spec_l2Index_l0_again {R : Type} (N : Nat) (ks : (j : Nat) → ((spec_l2Index_l0_ex.getD j (.ret, Sh.none)).2).T → Option R) (k : Nat) (x : spec_l2Index_l0_sh.T) : Option R :=
  spec_l2Index_l0 N (fun y0 => ks 0 ((y0, ()), ())) (fun (_ : Unit) => ks 1 ((), ())) k x.1.1 x.1.2.2.1 x.2.1.1 x.2.1.2.1
noncomputable def spec_l2Index_l0_s (N : Nat) : LSum := ⟨spec_l2Index_l0_sh, spec_l2Index_l0_ex, fun x ks => spec_l2Index_l0_again N ks N x⟩
theorem spec_l2Index_l0_step (N : Nat) (R : Type) (k : Nat) (x : spec_l2Index_l0_sh.T) (ks : (j : Nat) → ((spec_l2Index_l0_ex.getD j (.ret, Sh.none)).2).T → Option R) : spec_l2Index_l0_again N ks (k + 1) x = roundF (spec_l2Index_G N) tab [] (loopAt spec_l2Index_code 0) spec_l2Index_l0_sh spec_l2Index_l0_ex (fun y => spec_l2Index_l0_again N ks k y) ks x := by kernel_rfl
theorem spec_l2Index_l0_ok (N : Nat) : LoopOk Tryz.prog Tryz.f61.ntmps (spec_l2Index_l0_s N) (loopAt spec_l2Index_code 0) :=
  loop_ok (l := spec_l2Index_l0_s N) progOk (spec_l2Index_gok N) (draw_ok progOk (spec_l2Index_gok N)) (fun R k x ks => spec_l2Index_l0_again N ks k x) (fun _ _ _ => rfl) (fun R k x ks => spec_l2Index_l0_step N R k x ks) (fun R x ks r h => ⟨N, h⟩) (lsOk_at (L := []) trivial) (by kernel_rfl) (by kernel_rfl)
noncomputable def spec_l2Index (N : Nat) (x : ((List (List Int)) × (List (Int × Int)))) (state : (List Int)) : Option ((Int × Unit) × (Unit)) :=
  spec_l2Index_l0 N (fun x1 => some ((x1, ()), ())) (fun (_ : Unit) => some (((-1), ()), ())) N state 0 x.1 x.2
noncomputable def spec_l2Index_S (N : Nat) : FSum := ⟨spec_l2Index_ps, spec_l2Index_rs, fun x => spec_l2Index N x.1 x.2.1⟩
theorem spec_l2Index_run (N : Nat) (x : argsT spec_l2Index_ps) : spec_l2Index N x.1 x.2.1 = funF (spec_l2Index_G N) tab [spec_l2Index_l0_s N] Tryz.f61 spec_l2Index_ps spec_l2Index_rs x := by kernel_rfl
theorem spec_l2Index_pc (N : Nat) : PC Tryz.prog 61 (spec_l2Index_S N) := by
  have e : spec_l2Index_S N = ⟨spec_l2Index_ps, spec_l2Index_rs, funF (spec_l2Index_G N) tab [spec_l2Index_l0_s N] Tryz.f61 spec_l2Index_ps spec_l2Index_rs⟩ := congrArg (FSum.mk spec_l2Index_ps spec_l2Index_rs) (funext (spec_l2Index_run N))
  rw [e]
  exact fun_ok (c := spec_l2Index_code) progOk (spec_l2Index_gok N) (draw_ok progOk (spec_l2Index_gok N)) Tryz.call61 Tryz.func61 (by kernel_rfl) (lsOk_at (L := [spec_l2Index_l0_s N]) ⟨spec_l2Index_l0_ok N, trivial⟩) (by kernel_rfl) (by kernel_rfl) (by kernel_rfl) (by kernel_rfl) (by kernel_rfl)

/-! ### spec_l2Lists -/
abbrev spec_l2Lists_ps : List (PV.Mode × Ty) := [(.ro, QLLILQII)]
abbrev spec_l2Lists_rs : List (Bool × Ty) := [(true, LLI)]
noncomputable def spec_l2Lists_G (N : Nat) : GTab := gOf []
theorem spec_l2Lists_gok (N : Nat) : GOk Tryz.prog (spec_l2Lists_G N) := gOf_ok trivial
noncomputable def spec_l2Lists_code : Code := (Tryz.f100.body).getD .skip
noncomputable def spec_l2Lists_l0_sh : Sh := ⟨[(1, .one (.adr 0 0)), (3, .one (.ref 1)), (4, .one (.ro I))], [.box [.ro LLI, .ro LQII], .sl 40 LI .deep]⟩
noncomputable def spec_l2Lists_l0_ex : List (Ex × Sh) := [(.exit 0, ⟨[(1, .one (.adr 0 0)), (3, .one (.ref 1))], [.box [.ro LLI, .ro LQII], .sl 40 LI .deep]⟩)]
noncomputable def spec_l2Lists_l0 {R : Type} (N : Nat) (k0 : (List (List Int)) → (List (Int × Int)) → (List (List Int)) → Option R) : Nat → Int → (List (List Int)) → (List (Int × Int)) → (List (List Int)) → Option R
  | 0, _, _, _, _ => none
  | K + 1, x, o, o1, o2 =>
    (br (ilt x (tLen o1))
      ((chk (inb o1 x)
        (chk (inb o1 x)
        (chk (inb o2 ((rdP o1 x).2))
        (chk (room (rdL o2 ((rdP o1 x).2)) [(rdP o1 x).1])
        (chk (inb o2 ((rdP o1 x).2))
        (chk (ieq ((rdP o1 x).2) ((rdP o1 x).2))
        (spec_l2Lists_l0 N k0 K (IntKind.i64.wrap (x + 1)) o o1 (tSet o2 ((rdP o1 x).2) (tApp (rdL o2 ((rdP o1 x).2)) [(rdP o1 x).1]))))))))))
      (k0 o o1 o2))
noncomputable def spec_l2Lists_l0_again {R : Type} (N : Nat) (ks : (j : Nat) → ((spec_l2Lists_l0_ex.getD j (.ret, Sh.none)).2).T → Option R) (k : Nat) (x : spec_l2Lists_l0_sh.T) : Option R :=
  spec_l2Lists_l0 N (fun y0 y1 y2 => ks 0 (((), (), ()), ((y0, y1, ()), y2, ()))) k x.1.2.2.1 x.2.1.1 x.2.1.2.1 x.2.2.1
noncomputable def spec_l2Lists_l0_s (N : Nat) : LSum := ⟨spec_l2Lists_l0_sh, spec_l2Lists_l0_ex, fun x ks => spec_l2Lists_l0_again N ks N x⟩
theorem spec_l2Lists_l0_step (N : Nat) (R : Type) (k : Nat) (x : spec_l2Lists_l0_sh.T) (ks : (j : Nat) → ((spec_l2Lists_l0_ex.getD j (.ret, Sh.none)).2).T → Option R) : spec_l2Lists_l0_again N ks (k + 1) x = roundF (spec_l2Lists_G N) tab [] (loopAt spec_l2Lists_code 0) spec_l2Lists_l0_sh spec_l2Lists_l0_ex (fun y => spec_l2Lists_l0_again N ks k y) ks x := by kernel_rfl
theorem spec_l2Lists_l0_ok (N : Nat) : LoopOk Tryz.prog Tryz.f100.ntmps (spec_l2Lists_l0_s N) (loopAt spec_l2Lists_code 0) :=
  loop_ok (l := spec_l2Lists_l0_s N) progOk (spec_l2Lists_gok N) (draw_ok progOk (spec_l2Lists_gok N)) (fun R k x ks => spec_l2Lists_l0_again N ks k x) (fun _ _ _ => rfl) (fun R k x ks => spec_l2Lists_l0_step N R k x ks) (fun R x ks r h => ⟨N, h⟩) (lsOk_at (L := []) trivial) (by kernel_rfl) (by kernel_rfl)
noncomputable def spec_l2Lists_l1_sh : Sh := ⟨[(1, .one (.adr 0 0)), (3, .one (.ref 1)), (7, .one (.ro I))], [.box [.ro LLI, .ro LQII], .sl 40 LI .deep]⟩
noncomputable def spec_l2Lists_l1_ex : List (Ex × Sh) := [(.exit 2, ⟨[(3, .one (.ref 0))], [.sl 40 LI .deep]⟩)]
noncomputable def spec_l2Lists_l1 {R : Type} (N : Nat) (k0 : (List (List Int)) → Option R) : Nat → Int → (List (List Int)) → (List (Int × Int)) → (List (List Int)) → Option R
  | 0, _, _, _, _ => none
  | K + 1, x, o3, o4, o5 =>
    (br (ilt x (tLen o4))
      ((chk (inb o4 x)
        (chk (inb o4 x)
        (chk (inb o5 ((rdP o4 x).1))
        (chk (room (rdL o5 ((rdP o4 x).1)) [(rdP o4 x).2])
        (chk (inb o5 ((rdP o4 x).1))
        (chk (ieq ((rdP o4 x).1) ((rdP o4 x).1))
        (spec_l2Lists_l1 N k0 K (IntKind.i64.wrap (x + 1)) o3 o4 (tSet o5 ((rdP o4 x).1) (tApp (rdL o5 ((rdP o4 x).1)) [(rdP o4 x).2]))))))))))
      (k0 o5))
noncomputable def spec_l2Lists_l1_again {R : Type} (N : Nat) (ks : (j : Nat) → ((spec_l2Lists_l1_ex.getD j (.ret, Sh.none)).2).T → Option R) (k : Nat) (x : spec_l2Lists_l1_sh.T) : Option R :=
  spec_l2Lists_l1 N (fun y0 => ks 0 (((), ()), (y0, ()))) k x.1.2.2.1 x.2.1.1 x.2.1.2.1 x.2.2.1
noncomputable def spec_l2Lists_l1_s (N : Nat) : LSum := ⟨spec_l2Lists_l1_sh, spec_l2Lists_l1_ex, fun x ks => spec_l2Lists_l1_again N ks N x⟩
theorem spec_l2Lists_l1_step (N : Nat) (R : Type) (k : Nat) (x : spec_l2Lists_l1_sh.T) (ks : (j : Nat) → ((spec_l2Lists_l1_ex.getD j (.ret, Sh.none)).2).T → Option R) : spec_l2Lists_l1_again N ks (k + 1) x = roundF (spec_l2Lists_G N) tab [] (loopAt spec_l2Lists_code 1) spec_l2Lists_l1_sh spec_l2Lists_l1_ex (fun y => spec_l2Lists_l1_again N ks k y) ks x := by kernel_rfl
theorem spec_l2Lists_l1_ok (N : Nat) : LoopOk Tryz.prog Tryz.f100.ntmps (spec_l2Lists_l1_s N) (loopAt spec_l2Lists_code 1) :=
  loop_ok (l := spec_l2Lists_l1_s N) progOk (spec_l2Lists_gok N) (draw_ok progOk (spec_l2Lists_gok N)) (fun R k x ks => spec_l2Lists_l1_again N ks k x) (fun _ _ _ => rfl) (fun R k x ks => spec_l2Lists_l1_step N R k x ks) (fun R x ks r h => ⟨N, h⟩) (lsOk_at (L := []) trivial) (by kernel_rfl) (by kernel_rfl)
noncomputable def spec_l2Lists (N : Nat) (c : ((List (List Int)) × (List (Int × Int)))) : Option (((List (List Int)) × Unit) × (Unit)) :=
  (chk (ile 0 (tLen c.1) && ile (tLen c.1) (tLen c.1) && fits (tLen c.1))
    (spec_l2Lists_l0 N (fun o o1 o2 => spec_l2Lists_l1 N (fun o3 => some ((o3, ()), ())) N 0 o o1 o2) N 0 c.1 c.2 (tRep (tLen c.1) [])))
noncomputable def spec_l2Lists_S (N : Nat) : FSum := ⟨spec_l2Lists_ps, spec_l2Lists_rs, fun x => spec_l2Lists N x.1⟩
theorem spec_l2Lists_run (N : Nat) (x : argsT spec_l2Lists_ps) : spec_l2Lists N x.1 = funF (spec_l2Lists_G N) tab [spec_l2Lists_l0_s N, spec_l2Lists_l1_s N] Tryz.f100 spec_l2Lists_ps spec_l2Lists_rs x := by kernel_rfl
theorem spec_l2Lists_pc (N : Nat) : PC Tryz.prog 100 (spec_l2Lists_S N) := by
  have e : spec_l2Lists_S N = ⟨spec_l2Lists_ps, spec_l2Lists_rs, funF (spec_l2Lists_G N) tab [spec_l2Lists_l0_s N, spec_l2Lists_l1_s N] Tryz.f100 spec_l2Lists_ps spec_l2Lists_rs⟩ := congrArg (FSum.mk spec_l2Lists_ps spec_l2Lists_rs) (funext (spec_l2Lists_run N))
  rw [e]
  exact fun_ok (c := spec_l2Lists_code) progOk (spec_l2Lists_gok N) (draw_ok progOk (spec_l2Lists_gok N)) Tryz.call100 Tryz.func100 (by kernel_rfl) (lsOk_at (L := [spec_l2Lists_l0_s N, spec_l2Lists_l1_s N]) ⟨spec_l2Lists_l0_ok N, spec_l2Lists_l1_ok N, trivial⟩) (by kernel_rfl) (by kernel_rfl) (by kernel_rfl) (by kernel_rfl) (by kernel_rfl)

/-! ### spec_l2Spread -/
abbrev spec_l2Spread_ps : List (PV.Mode × Ty) := [(.ro, LLI), (.ro, I)]
abbrev spec_l2Spread_rs : List (Bool × Ty) := [(true, LI)]
noncomputable def spec_l2Spread_G (N : Nat) : GTab := gOf []
theorem spec_l2Spread_gok (N : Nat) : GOk Tryz.prog (spec_l2Spread_G N) := gOf_ok trivial
noncomputable def spec_l2Spread_code : Code := (Tryz.f99.body).getD .skip
noncomputable def spec_l2Spread_l0_sh : Sh := ⟨[(0, .one (.ro LLI)), (1, .one (.ro I)), (5, .one (.ref 0)), (6, .one (.ro I))], [.sl 3 I .own]⟩
noncomputable def spec_l2Spread_l0_ex : List (Ex × Sh) := [(.exit 0, ⟨[(0, .one (.ro LLI)), (1, .one (.ro I)), (5, .one (.ref 0))], [.sl 3 I .own]⟩)]
noncomputable def spec_l2Spread_l0 {R : Type} (N : Nat) (k0 : (List (List Int)) → Int → (List Int) → Option R) : Nat → (List (List Int)) → Int → Int → (List Int) → Option R
  | 0, _, _, _, _ => none
  | K + 1, x, x1, x2, o =>
    (br (ilt x2 (tLen o))
      ((chk (inb o x2)
        (spec_l2Spread_l0 N k0 K x x1 (IntKind.i64.wrap (x2 + 1)) (tSet o x2 (-1)))))
      (k0 x x1 o))
noncomputable def spec_l2Spread_l0_again {R : Type} (N : Nat) (ks : (j : Nat) → ((spec_l2Spread_l0_ex.getD j (.ret, Sh.none)).2).T → Option R) (k : Nat) (x : spec_l2Spread_l0_sh.T) : Option R :=
  spec_l2Spread_l0 N (fun y0 y1 y2 => ks 0 ((y0, y1, (), ()), (y2, ()))) k x.1.1 x.1.2.1 x.1.2.2.2.1 x.2.1
noncomputable def spec_l2Spread_l0_s (N : Nat) : LSum := ⟨spec_l2Spread_l0_sh, spec_l2Spread_l0_ex, fun x ks => spec_l2Spread_l0_again N ks N x⟩
theorem spec_l2Spread_l0_step (N : Nat) (R : Type) (k : Nat) (x : spec_l2Spread_l0_sh.T) (ks : (j : Nat) → ((spec_l2Spread_l0_ex.getD j (.ret, Sh.none)).2).T → Option R) : spec_l2Spread_l0_again N ks (k + 1) x = roundF (spec_l2Spread_G N) tab [] (loopAt spec_l2Spread_code 0) spec_l2Spread_l0_sh spec_l2Spread_l0_ex (fun y => spec_l2Spread_l0_again N ks k y) ks x := by kernel_rfl
theorem spec_l2Spread_l0_ok (N : Nat) : LoopOk Tryz.prog Tryz.f99.ntmps (spec_l2Spread_l0_s N) (loopAt spec_l2Spread_code 0) :=
  loop_ok (l := spec_l2Spread_l0_s N) progOk (spec_l2Spread_gok N) (draw_ok progOk (spec_l2Spread_gok N)) (fun R k x ks => spec_l2Spread_l0_again N ks k x) (fun _ _ _ => rfl) (fun R k x ks => spec_l2Spread_l0_step N R k x ks) (fun R x ks r h => ⟨N, h⟩) (lsOk_at (L := []) trivial) (by kernel_rfl) (by kernel_rfl)
noncomputable def spec_l2Spread_l1_0_sh : Sh := ⟨[(0, .one (.ro LLI)), (5, .one (.ref 0)), (7, .one (.ref 1)), (8, .one (.ro I)), (9, .one (.ro LI)), (10, .one (.ro I))], [.sl 3 I .own, .sl 3 I .own]⟩
noncomputable def spec_l2Spread_l1_0_ex : List (Ex × Sh) := [(.exit 4, ⟨[(0, .one (.ro LLI)), (5, .one (.ref 0)), (7, .one (.ref 1)), (8, .one (.ro I))], [.sl 3 I .own, .sl 3 I .own]⟩)]
noncomputable def spec_l2Spread_l1_0 {R : Type} (N : Nat) (k0 : (List (List Int)) → Int → (List Int) → (List Int) → Option R) : Nat → (List (List Int)) → Int → (List Int) → Int → (List Int) → (List Int) → Option R
  | 0, _, _, _, _, _, _ => none
  | K + 1, x4, x5, x6, x7, o3, o4 =>
    (br (ilt x7 (tLen x6))
      ((chk (inb x6 x7)
        (chk (inb o3 (rdI x6 x7))
        (br (ilt (rdI o3 (rdI x6 x7)) 0)
        ((chk (inb x6 x7)
          (chk (inb o4 x5)
          (chk (inb o3 (rdI o4 x5))
          (chk (inb o3 (rdI x6 x7))
          (chk (inb x6 x7)
          (chk (room o4 [(rdI x6 x7)])
          (spec_l2Spread_l1_0 N k0 K x4 x5 x6 (IntKind.i64.wrap (x7 + 1)) (tSet o3 (rdI x6 x7) (IntKind.i64.wrap ((rdI o3 (rdI o4 x5)) + 1))) (tApp o4 [(rdI x6 x7)])))))))))
        (spec_l2Spread_l1_0 N k0 K x4 x5 x6 (IntKind.i64.wrap (x7 + 1)) o3 o4)))))
      (k0 x4 x5 o3 o4))
noncomputable def spec_l2Spread_l1_0_again {R : Type} (N : Nat) (ks : (j : Nat) → ((spec_l2Spread_l1_0_ex.getD j (.ret, Sh.none)).2).T → Option R) (k : Nat) (x : spec_l2Spread_l1_0_sh.T) : Option R :=
  spec_l2Spread_l1_0 N (fun y0 y1 y2 y3 => ks 0 ((y0, (), (), y1, ()), (y2, y3, ()))) k x.1.1 x.1.2.2.2.1 x.1.2.2.2.2.1 x.1.2.2.2.2.2.1 x.2.1 x.2.2.1
noncomputable def spec_l2Spread_l1_0_s (N : Nat) : LSum := ⟨spec_l2Spread_l1_0_sh, spec_l2Spread_l1_0_ex, fun x ks => spec_l2Spread_l1_0_again N ks N x⟩
theorem spec_l2Spread_l1_0_step (N : Nat) (R : Type) (k : Nat) (x : spec_l2Spread_l1_0_sh.T) (ks : (j : Nat) → ((spec_l2Spread_l1_0_ex.getD j (.ret, Sh.none)).2).T → Option R) : spec_l2Spread_l1_0_again N ks (k + 1) x = roundF (spec_l2Spread_G N) tab [] (loopAt (loopAt spec_l2Spread_code 1) 0) spec_l2Spread_l1_0_sh spec_l2Spread_l1_0_ex (fun y => spec_l2Spread_l1_0_again N ks k y) ks x := by kernel_rfl
theorem spec_l2Spread_l1_0_ok (N : Nat) : LoopOk Tryz.prog Tryz.f99.ntmps (spec_l2Spread_l1_0_s N) (loopAt (loopAt spec_l2Spread_code 1) 0) :=
  loop_ok (l := spec_l2Spread_l1_0_s N) progOk (spec_l2Spread_gok N) (draw_ok progOk (spec_l2Spread_gok N)) (fun R k x ks => spec_l2Spread_l1_0_again N ks k x) (fun _ _ _ => rfl) (fun R k x ks => spec_l2Spread_l1_0_step N R k x ks) (fun R x ks r h => ⟨N, h⟩) (lsOk_at (L := []) trivial) (by kernel_rfl) (by kernel_rfl)
noncomputable def spec_l2Spread_l1_sh : Sh := ⟨[(0, .one (.ro LLI)), (5, .one (.ref 0)), (7, .one (.ref 1)), (8, .one (.ro I))], [.sl 3 I .own, .sl 3 I .own]⟩
noncomputable def spec_l2Spread_l1_ex : List (Ex × Sh) := [(.exit 2, ⟨[(5, .one (.ref 0))], [.sl 3 I .own]⟩)]
noncomputable def spec_l2Spread_l1 {R : Type} (N : Nat) (k0 : (List Int) → Option R) : Nat → (List (List Int)) → Int → (List Int) → (List Int) → Option R
  | 0, _, _, _, _ => none
  | K + 1, x2, x3, o1, o2 =>
    (br (ilt x3 (tLen o2))
      ((chk (inb o2 x3)
        (chk (inb x2 (rdI o2 x3))
        (spec_l2Spread_l1_0 N (fun x4 x5 o3 o4 => spec_l2Spread_l1 N k0 K x4 (IntKind.i64.wrap (x5 + 1)) o3 o4) N x2 x3 (rdL x2 (rdI o2 x3)) 0 o1 o2))))
      (k0 o1))
noncomputable def spec_l2Spread_l1_again {R : Type} (N : Nat) (ks : (j : Nat) → ((spec_l2Spread_l1_ex.getD j (.ret, Sh.none)).2).T → Option R) (k : Nat) (x : spec_l2Spread_l1_sh.T) : Option R :=
  spec_l2Spread_l1 N (fun y0 => ks 0 (((), ()), (y0, ()))) k x.1.1 x.1.2.2.2.1 x.2.1 x.2.2.1
noncomputable def spec_l2Spread_l1_s (N : Nat) : LSum := ⟨spec_l2Spread_l1_sh, spec_l2Spread_l1_ex, fun x ks => spec_l2Spread_l1_again N ks N x⟩
theorem spec_l2Spread_l1_step (N : Nat) (R : Type) (k : Nat) (x : spec_l2Spread_l1_sh.T) (ks : (j : Nat) → ((spec_l2Spread_l1_ex.getD j (.ret, Sh.none)).2).T → Option R) : spec_l2Spread_l1_again N ks (k + 1) x = roundF (spec_l2Spread_G N) tab [spec_l2Spread_l1_0_s N] (loopAt spec_l2Spread_code 1) spec_l2Spread_l1_sh spec_l2Spread_l1_ex (fun y => spec_l2Spread_l1_again N ks k y) ks x := by kernel_rfl
theorem spec_l2Spread_l1_ok (N : Nat) : LoopOk Tryz.prog Tryz.f99.ntmps (spec_l2Spread_l1_s N) (loopAt spec_l2Spread_code 1) :=
  loop_ok (l := spec_l2Spread_l1_s N) progOk (spec_l2Spread_gok N) (draw_ok progOk (spec_l2Spread_gok N)) (fun R k x ks => spec_l2Spread_l1_again N ks k x) (fun _ _ _ => rfl) (fun R k x ks => spec_l2Spread_l1_step N R k x ks) (fun R x ks r h => ⟨N, h⟩) (lsOk_at (L := [spec_l2Spread_l1_0_s N]) ⟨spec_l2Spread_l1_0_ok N, trivial⟩) (by kernel_rfl) (by kernel_rfl)
noncomputable def spec_l2Spread (N : Nat) (c : (List (List Int))) (c1 : Int) : Option (((List Int) × Unit) × (Unit)) :=
  (chk (ile 0 (tLen c) && ile (tLen c) (tLen c) && fits (tLen c))
    (spec_l2Spread_l0 N (fun x x1 o => (chk (inb o x1)
    (spec_l2Spread_l1 N (fun o1 => some ((o1, ()), ())) N x 0 (tSet o x1 0) [x1]))) N c c1 0 (tRep (tLen c) (0 : Int))))
noncomputable def spec_l2Spread_S (N : Nat) : FSum := ⟨spec_l2Spread_ps, spec_l2Spread_rs, fun x => spec_l2Spread N x.1 x.2.1⟩
theorem spec_l2Spread_run (N : Nat) (x : argsT spec_l2Spread_ps) : spec_l2Spread N x.1 x.2.1 = funF (spec_l2Spread_G N) tab [spec_l2Spread_l0_s N, spec_l2Spread_l1_s N] Tryz.f99 spec_l2Spread_ps spec_l2Spread_rs x := by kernel_rfl
theorem spec_l2Spread_pc (N : Nat) : PC Tryz.prog 99 (spec_l2Spread_S N) := by
  have e : spec_l2Spread_S N = ⟨spec_l2Spread_ps, spec_l2Spread_rs, funF (spec_l2Spread_G N) tab [spec_l2Spread_l0_s N, spec_l2Spread_l1_s N] Tryz.f99 spec_l2Spread_ps spec_l2Spread_rs⟩ := congrArg (FSum.mk spec_l2Spread_ps spec_l2Spread_rs) (funext (spec_l2Spread_run N))
  rw [e]
  exact fun_ok (c := spec_l2Spread_code) progOk (spec_l2Spread_gok N) (draw_ok progOk (spec_l2Spread_gok N)) Tryz.call99 Tryz.func99 (by kernel_rfl) (lsOk_at (L := [spec_l2Spread_l0_s N, spec_l2Spread_l1_s N]) ⟨spec_l2Spread_l0_ok N, spec_l2Spread_l1_ok N, trivial⟩) (by kernel_rfl) (by kernel_rfl) (by kernel_rfl) (by kernel_rfl) (by kernel_rfl)

/-! ### spec_l2Dist -/
abbrev spec_l2Dist_ps : List (PV.Mode × Ty) := [(.ro, QLLILQII), (.ro, I)]
abbrev spec_l2Dist_rs : List (Bool × Ty) := [(true, LI)]
noncomputable def spec_l2Dist_G (N : Nat) : GTab := gOf [(100, spec_l2Lists_S N), (99, spec_l2Spread_S N)]
theorem spec_l2Dist_gok (N : Nat) : GOk Tryz.prog (spec_l2Dist_G N) := gOf_ok ⟨spec_l2Lists_pc N, spec_l2Spread_pc N, trivial⟩
noncomputable def spec_l2Dist_code : Code := (Tryz.f60.body).getD .skip
noncomputable def spec_l2Dist (N : Nat) (x : ((List (List Int)) × (List (Int × Int)))) (i : Int) : Option (((List Int) × Unit) × (Unit)) :=
  ((spec_l2Lists N (x.1, x.2)).bind fun r =>
    ((spec_l2Spread N r.1.1 i).bind fun r1 =>
      some ((r1.1.1, ()), ())))
noncomputable def spec_l2Dist_S (N : Nat) : FSum := ⟨spec_l2Dist_ps, spec_l2Dist_rs, fun x => spec_l2Dist N x.1 x.2.1⟩
theorem spec_l2Dist_run (N : Nat) (x : argsT spec_l2Dist_ps) : spec_l2Dist N x.1 x.2.1 = funF (spec_l2Dist_G N) tab [] Tryz.f60 spec_l2Dist_ps spec_l2Dist_rs x := by kernel_rfl
theorem spec_l2Dist_pc (N : Nat) : PC Tryz.prog 60 (spec_l2Dist_S N) := by
  have e : spec_l2Dist_S N = ⟨spec_l2Dist_ps, spec_l2Dist_rs, funF (spec_l2Dist_G N) tab [] Tryz.f60 spec_l2Dist_ps spec_l2Dist_rs⟩ := congrArg (FSum.mk spec_l2Dist_ps spec_l2Dist_rs) (funext (spec_l2Dist_run N))
  rw [e]
  exact fun_ok (c := spec_l2Dist_code) progOk (spec_l2Dist_gok N) (draw_ok progOk (spec_l2Dist_gok N)) Tryz.call60 Tryz.func60 (by kernel_rfl) (lsOk_at (L := []) trivial) (by kernel_rfl) (by kernel_rfl) (by kernel_rfl) (by kernel_rfl) (by kernel_rfl)

/-! ### spec_FixedNodes -/
abbrev spec_FixedNodes_ps : List (PV.Mode × Ty) := [(.ro, QILQII), (.ro, I), (.ro, LI)]
abbrev spec_FixedNodes_rs : List (Bool × Ty) := [(true, LI), (true, .bool)]
noncomputable def spec_FixedNodes_G (N : Nat) : GTab := gOf [(59, spec_l5Given_S N), (40, spec_l5Space_S N), (61, spec_l2Index_S N), (60, spec_l2Dist_S N)]
theorem spec_FixedNodes_gok (N : Nat) : GOk Tryz.prog (spec_FixedNodes_G N) := gOf_ok ⟨spec_l5Given_pc N, spec_l5Space_pc N, spec_l2Index_pc N, spec_l2Dist_pc N, trivial⟩
noncomputable def spec_FixedNodes_code : Code := (Tryz.f28.body).getD .skip
noncomputable def spec_FixedNodes_l0_0_sh : Sh := ⟨[(2, .one (.ro LI)), (3, .one (.adr 0 0)), (8, .one (.ref 1)), (9, .one (.adr 2 0)), (11, .one (.ref 3)), (12, .one (.ro I)), (13, .one (.ro .bool)), (14, .one (.ro I))], [.box [.ro I, .ro LQII], .sl 3 I .own, .box [.ref 4, .ref 5], .sl 3 I .own, .sl 40 LI .deep, .sl 93 QII .own]⟩
noncomputable def spec_FixedNodes_l0_0_ex : List (Ex × Sh) := [(.exit 2, ⟨[(2, .one (.ro LI)), (3, .one (.adr 0 0)), (8, .one (.ref 1)), (9, .one (.adr 2 0)), (11, .one (.ref 3)), (12, .one (.ro I)), (13, .one (.ro .bool))], [.box [.ro I, .ro LQII], .sl 3 I .own, .box [.ref 4, .ref 5], .sl 3 I .own, .sl 40 LI .deep, .sl 93 QII .own]⟩)]
noncomputable def spec_FixedNodes_l0_0 {R : Type} (N : Nat) (k0 : (List Int) → Int → Bool → Int → (List (Int × Int)) → (List Int) → (List Int) → (List (List Int)) → (List (Int × Int)) → Option R) : Nat → (List Int) → Int → Bool → Int → Int → (List (Int × Int)) → (List Int) → (List Int) → (List (List Int)) → (List (Int × Int)) → Option R
  | 0, _, _, _, _, _, _, _, _, _, _ => none
  | K + 1, x2, x3, x4, x5, o6, o7, o8, o9, o10, o11 =>
    (br (ilt x5 (tLen o9))
      ((br x4
        ((chk (inb o9 x5)
          (br (ilt (rdI o9 x5) 0)
          (spec_FixedNodes_l0_0 N k0 K x2 x3 true (IntKind.i64.wrap (x5 + 1)) o6 o7 o8 o9 o10 o11)
          ((chk (inb o10 x5)
            (chk (inb (rdL o10 x5) x3)
            (chk (inb x2 x3)
            (spec_FixedNodes_l0_0 N k0 K x2 x3 (ieq (rdI (rdL o10 x5) x3) (rdI x2 x3)) (IntKind.i64.wrap (x5 + 1)) o6 o7 o8 o9 o10 o11))))))))
        (spec_FixedNodes_l0_0 N k0 K x2 x3 false (IntKind.i64.wrap (x5 + 1)) o6 o7 o8 o9 o10 o11)))
      (k0 x2 x3 x4 o6 o7 o8 o9 o10 o11))
noncomputable def spec_FixedNodes_l0_0_again {R : Type} (N : Nat) (ks : (j : Nat) → ((spec_FixedNodes_l0_0_ex.getD j (.ret, Sh.none)).2).T → Option R) (k : Nat) (x : spec_FixedNodes_l0_0_sh.T) : Option R :=
  spec_FixedNodes_l0_0 N (fun y0 y1 y2 y3 y4 y5 y6 y7 y8 => ks 0 ((y0, (), (), (), (), y1, y2, ()), ((y3, y4, ()), y5, ((), (), ()), y6, y7, y8, ()))) k x.1.1 x.1.2.2.2.2.2.1 x.1.2.2.2.2.2.2.1 x.1.2.2.2.2.2.2.2.1 x.2.1.1 x.2.1.2.1 x.2.2.1 x.2.2.2.2.1 x.2.2.2.2.2.1 x.2.2.2.2.2.2.1
noncomputable def spec_FixedNodes_l0_0_s (N : Nat) : LSum := ⟨spec_FixedNodes_l0_0_sh, spec_FixedNodes_l0_0_ex, fun x ks => spec_FixedNodes_l0_0_again N ks N x⟩
theorem spec_FixedNodes_l0_0_step (N : Nat) (R : Type) (k : Nat) (x : spec_FixedNodes_l0_0_sh.T) (ks : (j : Nat) → ((spec_FixedNodes_l0_0_ex.getD j (.ret, Sh.none)).2).T → Option R) : spec_FixedNodes_l0_0_again N ks (k + 1) x = roundF (spec_FixedNodes_G N) tab [] (loopAt (loopAt spec_FixedNodes_code 0) 0) spec_FixedNodes_l0_0_sh spec_FixedNodes_l0_0_ex (fun y => spec_FixedNodes_l0_0_again N ks k y) ks x := by kernel_rfl
theorem spec_FixedNodes_l0_0_ok (N : Nat) : LoopOk Tryz.prog Tryz.f28.ntmps (spec_FixedNodes_l0_0_s N) (loopAt (loopAt spec_FixedNodes_code 0) 0) :=
  loop_ok (l := spec_FixedNodes_l0_0_s N) progOk (spec_FixedNodes_gok N) (draw_ok progOk (spec_FixedNodes_gok N)) (fun R k x ks => spec_FixedNodes_l0_0_again N ks k x) (fun _ _ _ => rfl) (fun R k x ks => spec_FixedNodes_l0_0_step N R k x ks) (fun R x ks r h => ⟨N, h⟩) (lsOk_at (L := []) trivial) (by kernel_rfl) (by kernel_rfl)
noncomputable def spec_FixedNodes_l0_sh : Sh := ⟨[(2, .one (.ro LI)), (3, .one (.adr 0 0)), (8, .one (.ref 1)), (9, .one (.adr 2 0)), (11, .one (.ref 3)), (12, .one (.ro I))], [.box [.ro I, .ro LQII], .sl 3 I .own, .box [.ref 4, .ref 5], .sl 3 I .own, .sl 40 LI .deep, .sl 93 QII .own]⟩
noncomputable def spec_FixedNodes_l0_ex : List (Ex × Sh) := [(.exit 0, ⟨[(8, .one (.ref 0))], [.sl 3 I .own]⟩)]
noncomputable def spec_FixedNodes_l0 {R : Type} (N : Nat) (k0 : (List Int) → Option R) : Nat → (List Int) → Int → Int → (List (Int × Int)) → (List Int) → (List Int) → (List (List Int)) → (List (Int × Int)) → Option R
  | 0, _, _, _, _, _, _, _, _ => none
  | K + 1, x, x1, o, o1, o2, o3, o4, o5 =>
    (br (ilt x1 o)
      (spec_FixedNodes_l0_0 N (fun x2 x3 x4 o6 o7 o8 o9 o10 o11 => (br x4
        ((chk (room o8 [x3])
          (spec_FixedNodes_l0 N k0 K x2 (IntKind.i64.wrap (x3 + 1)) o6 o7 (tApp o8 [x3]) o9 o10 o11)))
        (spec_FixedNodes_l0 N k0 K x2 (IntKind.i64.wrap (x3 + 1)) o6 o7 o8 o9 o10 o11))) N x x1 true 0 o o1 o2 o3 o4 o5)
      (k0 o2))
noncomputable def spec_FixedNodes_l0_again {R : Type} (N : Nat) (ks : (j : Nat) → ((spec_FixedNodes_l0_ex.getD j (.ret, Sh.none)).2).T → Option R) (k : Nat) (x : spec_FixedNodes_l0_sh.T) : Option R :=
  spec_FixedNodes_l0 N (fun y0 => ks 0 (((), ()), (y0, ()))) k x.1.1 x.1.2.2.2.2.2.1 x.2.1.1 x.2.1.2.1 x.2.2.1 x.2.2.2.2.1 x.2.2.2.2.2.1 x.2.2.2.2.2.2.1
noncomputable def spec_FixedNodes_l0_s (N : Nat) : LSum := ⟨spec_FixedNodes_l0_sh, spec_FixedNodes_l0_ex, fun x ks => spec_FixedNodes_l0_again N ks N x⟩
theorem spec_FixedNodes_l0_step (N : Nat) (R : Type) (k : Nat) (x : spec_FixedNodes_l0_sh.T) (ks : (j : Nat) → ((spec_FixedNodes_l0_ex.getD j (.ret, Sh.none)).2).T → Option R) : spec_FixedNodes_l0_again N ks (k + 1) x = roundF (spec_FixedNodes_G N) tab [spec_FixedNodes_l0_0_s N] (loopAt spec_FixedNodes_code 0) spec_FixedNodes_l0_sh spec_FixedNodes_l0_ex (fun y => spec_FixedNodes_l0_again N ks k y) ks x := by kernel_rfl
theorem spec_FixedNodes_l0_ok (N : Nat) : LoopOk Tryz.prog Tryz.f28.ntmps (spec_FixedNodes_l0_s N) (loopAt spec_FixedNodes_code 0) :=
  loop_ok (l := spec_FixedNodes_l0_s N) progOk (spec_FixedNodes_gok N) (draw_ok progOk (spec_FixedNodes_gok N)) (fun R k x ks => spec_FixedNodes_l0_again N ks k x) (fun _ _ _ => rfl) (fun R k x ks => spec_FixedNodes_l0_step N R k x ks) (fun R x ks r h => ⟨N, h⟩) (lsOk_at (L := [spec_FixedNodes_l0_0_s N]) ⟨spec_FixedNodes_l0_0_ok N, trivial⟩) (by kernel_rfl) (by kernel_rfl)
noncomputable def spec_FixedNodes (N : Nat) (c : (Int × (List (Int × Int)))) (c1 : Int) (c2 : (List Int)) : Option (((List Int) × Bool × Unit) × (Unit)) :=
  ((spec_l5Given N (c.1, c.2) c1 c2).bind fun r =>
    (br (!r.1.1)
      (some (([], false, ()), ()))
      (((spec_l5Space N (c.1, c.2) c1 false).bind fun r1 =>
        (br (!r1.1.2.1)
          (some (([], false, ()), ()))
          (((spec_l2Index N (r1.1.1.1, r1.1.1.2) c2).bind fun r2 =>
            ((spec_l2Dist N (r1.1.1.1, r1.1.1.2) r2.1.1).bind fun r3 =>
              spec_FixedNodes_l0 N (fun o => some ((o, true, ()), ())) N c2 0 c.1 c.2 [] r3.1.1 r1.1.1.1 r1.1.1.2))))))))
noncomputable def spec_FixedNodes_S (N : Nat) : FSum := ⟨spec_FixedNodes_ps, spec_FixedNodes_rs, fun x => spec_FixedNodes N x.1 x.2.1 x.2.2.1⟩
theorem spec_FixedNodes_run (N : Nat) (x : argsT spec_FixedNodes_ps) : spec_FixedNodes N x.1 x.2.1 x.2.2.1 = funF (spec_FixedNodes_G N) tab [spec_FixedNodes_l0_s N] Tryz.f28 spec_FixedNodes_ps spec_FixedNodes_rs x := by kernel_rfl
theorem spec_FixedNodes_pc (N : Nat) : PC Tryz.prog 28 (spec_FixedNodes_S N) := by
  have e : spec_FixedNodes_S N = ⟨spec_FixedNodes_ps, spec_FixedNodes_rs, funF (spec_FixedNodes_G N) tab [spec_FixedNodes_l0_s N] Tryz.f28 spec_FixedNodes_ps spec_FixedNodes_rs⟩ := congrArg (FSum.mk spec_FixedNodes_ps spec_FixedNodes_rs) (funext (spec_FixedNodes_run N))
  rw [e]
  exact fun_ok (c := spec_FixedNodes_code) progOk (spec_FixedNodes_gok N) (draw_ok progOk (spec_FixedNodes_gok N)) Tryz.call28 Tryz.func28 (by kernel_rfl) (lsOk_at (L := [spec_FixedNodes_l0_s N]) ⟨spec_FixedNodes_l0_ok N, trivial⟩) (by kernel_rfl) (by kernel_rfl) (by kernel_rfl) (by kernel_rfl) (by kernel_rfl)

/-! ### impl_between -/
abbrev impl_between_ps : List (PV.Mode × Ty) := [(.ro, I), (.ro, I), (.ro, I)]
abbrev impl_between_rs : List (Bool × Ty) := [(true, .bool)]
noncomputable def impl_between_G (N : Nat) : GTab := gOf []
theorem impl_between_gok (N : Nat) : GOk Tryz.prog (impl_between_G N) := gOf_ok trivial
noncomputable def impl_between_code : Code := (Tryz.f124.body).getD .skip
noncomputable def impl_between (N : Nat) (n : Int) (low : Int) (high : Int) : Option ((Bool × Unit) × (Unit)) :=
  (br (ile low n)
    (some (((ile n high), ()), ()))
    (some ((false, ()), ())))
noncomputable def impl_between_S (N : Nat) : FSum := ⟨impl_between_ps, impl_between_rs, fun x => impl_between N x.1 x.2.1 x.2.2.1⟩
theorem impl_between_run (N : Nat) (x : argsT impl_between_ps) : impl_between N x.1 x.2.1 x.2.2.1 = funF (impl_between_G N) tab [] Tryz.f124 impl_between_ps impl_between_rs x := by kernel_rfl
theorem impl_between_pc (N : Nat) : PC Tryz.prog 124 (impl_between_S N) := by
  have e : impl_between_S N = ⟨impl_between_ps, impl_between_rs, funF (impl_between_G N) tab [] Tryz.f124 impl_between_ps impl_between_rs⟩ := congrArg (FSum.mk impl_between_ps impl_between_rs) (funext (impl_between_run N))
  rw [e]
  exact fun_ok (c := impl_between_code) progOk (impl_between_gok N) (draw_ok progOk (impl_between_gok N)) Tryz.call124 Tryz.func124 (by kernel_rfl) (lsOk_at (L := []) trivial) (by kernel_rfl) (by kernel_rfl) (by kernel_rfl) (by kernel_rfl) (by kernel_rfl)

/-! ### cmp_isNaN_int -/
abbrev cmp_isNaN_int_ps : List (PV.Mode × Ty) := [(.ro, I)]
abbrev cmp_isNaN_int_rs : List (Bool × Ty) := [(true, .bool)]
noncomputable def cmp_isNaN_int_G (N : Nat) : GTab := gOf []
theorem cmp_isNaN_int_gok (N : Nat) : GOk Tryz.prog (cmp_isNaN_int_G N) := gOf_ok trivial
noncomputable def cmp_isNaN_int_code : Code := (Tryz.f176.body).getD .skip
noncomputable def cmp_isNaN_int (N : Nat) (x : Int) : Option ((Bool × Unit) × (Unit)) :=
  some (((ine x x), ()), ())
noncomputable def cmp_isNaN_int_S (N : Nat) : FSum := ⟨cmp_isNaN_int_ps, cmp_isNaN_int_rs, fun x => cmp_isNaN_int N x.1⟩
theorem cmp_isNaN_int_run (N : Nat) (x : argsT cmp_isNaN_int_ps) : cmp_isNaN_int N x.1 = funF (cmp_isNaN_int_G N) tab [] Tryz.f176 cmp_isNaN_int_ps cmp_isNaN_int_rs x := by kernel_rfl
theorem cmp_isNaN_int_pc (N : Nat) : PC Tryz.prog 176 (cmp_isNaN_int_S N) := by
  have e : cmp_isNaN_int_S N = ⟨cmp_isNaN_int_ps, cmp_isNaN_int_rs, funF (cmp_isNaN_int_G N) tab [] Tryz.f176 cmp_isNaN_int_ps cmp_isNaN_int_rs⟩ := congrArg (FSum.mk cmp_isNaN_int_ps cmp_isNaN_int_rs) (funext (cmp_isNaN_int_run N))
  rw [e]
  exact fun_ok (c := cmp_isNaN_int_code) progOk (cmp_isNaN_int_gok N) (draw_ok progOk (cmp_isNaN_int_gok N)) Tryz.call176 Tryz.func176 (by kernel_rfl) (lsOk_at (L := []) trivial) (by kernel_rfl) (by kernel_rfl) (by kernel_rfl) (by kernel_rfl) (by kernel_rfl)

/-! ### cmp_Compare_int -/
abbrev cmp_Compare_int_ps : List (PV.Mode × Ty) := [(.ro, I), (.ro, I)]
abbrev cmp_Compare_int_rs : List (Bool × Ty) := [(true, I)]
noncomputable def cmp_Compare_int_G (N : Nat) : GTab := gOf [(176, cmp_isNaN_int_S N)]
theorem cmp_Compare_int_gok (N : Nat) : GOk Tryz.prog (cmp_Compare_int_G N) := gOf_ok ⟨cmp_isNaN_int_pc N, trivial⟩
noncomputable def cmp_Compare_int_code : Code := (Tryz.f131.body).getD .skip
noncomputable def cmp_Compare_int (N : Nat) (x : Int) (y : Int) : Option ((Int × Unit) × (Unit)) :=
  ((cmp_isNaN_int N x).bind fun r =>
    ((cmp_isNaN_int N y).bind fun r1 =>
      (br r.1.1
        ((br r1.1.1
          (some ((0, ()), ()))
          (some (((-1), ()), ()))))
        ((br r1.1.1
          (some ((1, ()), ()))
          ((br (ilt x y)
            (some (((-1), ()), ()))
            ((br (ilt y x)
              (some ((1, ()), ()))
              (some ((0, ()), ())))))))))))
noncomputable def cmp_Compare_int_S (N : Nat) : FSum := ⟨cmp_Compare_int_ps, cmp_Compare_int_rs, fun x => cmp_Compare_int N x.1 x.2.1⟩
theorem cmp_Compare_int_run (N : Nat) (x : argsT cmp_Compare_int_ps) : cmp_Compare_int N x.1 x.2.1 = funF (cmp_Compare_int_G N) tab [] Tryz.f131 cmp_Compare_int_ps cmp_Compare_int_rs x := by kernel_rfl
theorem cmp_Compare_int_pc (N : Nat) : PC Tryz.prog 131 (cmp_Compare_int_S N) := by
  have e : cmp_Compare_int_S N = ⟨cmp_Compare_int_ps, cmp_Compare_int_rs, funF (cmp_Compare_int_G N) tab [] Tryz.f131 cmp_Compare_int_ps cmp_Compare_int_rs⟩ := congrArg (FSum.mk cmp_Compare_int_ps cmp_Compare_int_rs) (funext (cmp_Compare_int_run N))
  rw [e]
  exact fun_ok (c := cmp_Compare_int_code) progOk (cmp_Compare_int_gok N) (draw_ok progOk (cmp_Compare_int_gok N)) Tryz.call131 Tryz.func131 (by kernel_rfl) (lsOk_at (L := []) trivial) (by kernel_rfl) (by kernel_rfl) (by kernel_rfl) (by kernel_rfl) (by kernel_rfl)

/-! ### cmp_Or_int -/
abbrev cmp_Or_int_ps : List (PV.Mode × Ty) := [(.ro, LI)]
abbrev cmp_Or_int_rs : List (Bool × Ty) := [(true, I)]
noncomputable def cmp_Or_int_G (N : Nat) : GTab := gOf []
theorem cmp_Or_int_gok (N : Nat) : GOk Tryz.prog (cmp_Or_int_G N) := gOf_ok trivial
noncomputable def cmp_Or_int_code : Code := (Tryz.f218.body).getD .skip
noncomputable def cmp_Or_int_l0_sh : Sh := ⟨[(3, .one (.ro I)), (6, .one (.ro LI)), (7, .one (.ro I)), (8, .one (.ro I))], []⟩
noncomputable def cmp_Or_int_l0_ex : List (Ex × Sh) := [(.ret, ⟨[(2, .one (.ro I))], []⟩), (.exit 0, ⟨[(3, .one (.ro I))], []⟩)]
noncomputable def cmp_Or_int_l0 {R : Type} (N : Nat) (k0 : Int → Option R) (k1 : Int → Option R) : Nat → Int → (List Int) → Int → Int → Option R
  | 0, _, _, _, _ => none
  | K + 1, zero, x, x1, x2 =>
    (br (ilt x2 x1)
      ((chk (inb x x2)
        (br (ine (rdI x x2) zero)
        (k0 (rdI x x2))
        (cmp_Or_int_l0 N k0 k1 K zero x x1 (IntKind.i64.wrap (x2 + 1))))))
      (k1 zero))
noncomputable def cmp_Or_int_l0_again {R : Type} (N : Nat) (ks : (j : Nat) → ((cmp_Or_int_l0_ex.getD j (.ret, Sh.none)).2).T → Option R) (k : Nat) (x : cmp_Or_int_l0_sh.T) : Option R :=
  cmp_Or_int_l0 N (fun y0 => ks 0 ((y0, ()), ())) (fun y0 => ks 1 ((y0, ()), ())) k x.1.1 x.1.2.1 x.1.2.2.1 x.1.2.2.2.1
noncomputable def cmp_Or_int_l0_s (N : Nat) : LSum := ⟨cmp_Or_int_l0_sh, cmp_Or_int_l0_ex, fun x ks => cmp_Or_int_l0_again N ks N x⟩
theorem cmp_Or_int_l0_step (N : Nat) (R : Type) (k : Nat) (x : cmp_Or_int_l0_sh.T) (ks : (j : Nat) → ((cmp_Or_int_l0_ex.getD j (.ret, Sh.none)).2).T → Option R) : cmp_Or_int_l0_again N ks (k + 1) x = roundF (cmp_Or_int_G N) tab [] (loopAt cmp_Or_int_code 0) cmp_Or_int_l0_sh cmp_Or_int_l0_ex (fun y => cmp_Or_int_l0_again N ks k y) ks x := by kernel_rfl
theorem cmp_Or_int_l0_ok (N : Nat) : LoopOk Tryz.prog Tryz.f218.ntmps (cmp_Or_int_l0_s N) (loopAt cmp_Or_int_code 0) :=
  loop_ok (l := cmp_Or_int_l0_s N) progOk (cmp_Or_int_gok N) (draw_ok progOk (cmp_Or_int_gok N)) (fun R k x ks => cmp_Or_int_l0_again N ks k x) (fun _ _ _ => rfl) (fun R k x ks => cmp_Or_int_l0_step N R k x ks) (fun R x ks r h => ⟨N, h⟩) (lsOk_at (L := []) trivial) (by kernel_rfl) (by kernel_rfl)
noncomputable def cmp_Or_int (N : Nat) (vals : (List Int)) : Option ((Int × Unit) × (Unit)) :=
  cmp_Or_int_l0 N (fun x => some ((x, ()), ())) (fun zero => some ((zero, ()), ())) N 0 vals (tLen vals) 0
noncomputable def cmp_Or_int_S (N : Nat) : FSum := ⟨cmp_Or_int_ps, cmp_Or_int_rs, fun x => cmp_Or_int N x.1⟩
theorem cmp_Or_int_run (N : Nat) (x : argsT cmp_Or_int_ps) : cmp_Or_int N x.1 = funF (cmp_Or_int_G N) tab [cmp_Or_int_l0_s N] Tryz.f218 cmp_Or_int_ps cmp_Or_int_rs x := by kernel_rfl
theorem cmp_Or_int_pc (N : Nat) : PC Tryz.prog 218 (cmp_Or_int_S N) := by
  have e : cmp_Or_int_S N = ⟨cmp_Or_int_ps, cmp_Or_int_rs, funF (cmp_Or_int_G N) tab [cmp_Or_int_l0_s N] Tryz.f218 cmp_Or_int_ps cmp_Or_int_rs⟩ := congrArg (FSum.mk cmp_Or_int_ps cmp_Or_int_rs) (funext (cmp_Or_int_run N))
  rw [e]
  exact fun_ok (c := cmp_Or_int_code) progOk (cmp_Or_int_gok N) (draw_ok progOk (cmp_Or_int_gok N)) Tryz.call218 Tryz.func218 (by kernel_rfl) (lsOk_at (L := [cmp_Or_int_l0_s N]) ⟨cmp_Or_int_l0_ok N, trivial⟩) (by kernel_rfl) (by kernel_rfl) (by kernel_rfl) (by kernel_rfl) (by kernel_rfl)

/-! ### impl_comparePairs -/
abbrev impl_comparePairs_ps : List (PV.Mode × Ty) := [(.ro, QII), (.ro, QII)]
abbrev impl_comparePairs_rs : List (Bool × Ty) := [(true, I)]
noncomputable def impl_comparePairs_G (N : Nat) : GTab := gOf [(131, cmp_Compare_int_S N), (218, cmp_Or_int_S N)]
theorem impl_comparePairs_gok (N : Nat) : GOk Tryz.prog (impl_comparePairs_G N) := gOf_ok ⟨cmp_Compare_int_pc N, cmp_Or_int_pc N, trivial⟩
noncomputable def impl_comparePairs_code : Code := (Tryz.f202.body).getD .skip
noncomputable def impl_comparePairs (N : Nat) (a : (Int × Int)) (b : (Int × Int)) : Option ((Int × Unit) × (Unit)) :=
  ((cmp_Compare_int N a.1 b.1).bind fun r =>
    ((cmp_Compare_int N a.2 b.2).bind fun r1 =>
      ((cmp_Or_int N [r.1.1, r1.1.1]).bind fun r2 =>
        some ((r2.1.1, ()), ()))))
noncomputable def impl_comparePairs_S (N : Nat) : FSum := ⟨impl_comparePairs_ps, impl_comparePairs_rs, fun x => impl_comparePairs N x.1 x.2.1⟩
theorem impl_comparePairs_run (N : Nat) (x : argsT impl_comparePairs_ps) : impl_comparePairs N x.1 x.2.1 = funF (impl_comparePairs_G N) tab [] Tryz.f202 impl_comparePairs_ps impl_comparePairs_rs x := by kernel_rfl
theorem impl_comparePairs_pc (N : Nat) : PC Tryz.prog 202 (impl_comparePairs_S N) := by
  have e : impl_comparePairs_S N = ⟨impl_comparePairs_ps, impl_comparePairs_rs, funF (impl_comparePairs_G N) tab [] Tryz.f202 impl_comparePairs_ps impl_comparePairs_rs⟩ := congrArg (FSum.mk impl_comparePairs_ps impl_comparePairs_rs) (funext (impl_comparePairs_run N))
  rw [e]
  exact fun_ok (c := impl_comparePairs_code) progOk (impl_comparePairs_gok N) (draw_ok progOk (impl_comparePairs_gok N)) Tryz.call202 Tryz.func202 (by kernel_rfl) (lsOk_at (L := []) trivial) (by kernel_rfl) (by kernel_rfl) (by kernel_rfl) (by kernel_rfl) (by kernel_rfl)

/-! ### impl_isPairs -/
abbrev impl_isPairs_ps : List (PV.Mode × Ty) := [(.ro, LQII), (.ro, I)]
abbrev impl_isPairs_rs : List (Bool × Ty) := [(true, .bool)]
noncomputable def impl_isPairs_G (N : Nat) : GTab := gOf [(202, impl_comparePairs_S N)]
theorem impl_isPairs_gok (N : Nat) : GOk Tryz.prog (impl_isPairs_G N) := gOf_ok ⟨impl_comparePairs_pc N, trivial⟩
noncomputable def impl_isPairs_code : Code := (Tryz.f163.body).getD .skip
noncomputable def impl_isPairs_l0_sh : Sh := ⟨[(0, .one (.ro LQII)), (1, .one (.ro I)), (7, .one (.ro LQII)), (8, .one (.ro I)), (9, .one (.ro I))], []⟩
noncomputable def impl_isPairs_l0_ex : List (Ex × Sh) := [(.ret, ⟨[(4, .one (.ro .bool))], []⟩), (.exit 0, ⟨[], []⟩)]
noncomputable def impl_isPairs_l0 {R : Type} (N : Nat) (k0 : Bool → Option R) (k1 : Unit → Option R) : Nat → (List (Int × Int)) → Int → (List (Int × Int)) → Int → Int → Option R
  | 0, _, _, _, _, _ => none
  | K + 1, list1, below1, x, x1, x2 =>
    (br (ilt x2 x1)
      ((chk (inb x x2)
        (br (ilt ((rdP x x2).1) 0)
        (k0 false)
        ((br (ile ((rdP x x2).2) ((rdP x x2).1))
          (k0 false)
          ((br (ile below1 ((rdP x x2).2))
            (k0 false)
            ((br (ilt 0 x2)
              ((chk (inb list1 (IntKind.i64.wrap (x2 - 1)))
                ((impl_comparePairs N (rdP list1 (IntKind.i64.wrap (x2 - 1))) ((rdP x x2).1, (rdP x x2).2)).bind fun r =>
                (br (ile 0 r.1.1)
                  (k0 false)
                  (impl_isPairs_l0 N k0 k1 K list1 below1 x x1 (IntKind.i64.wrap (x2 + 1)))))))
              (impl_isPairs_l0 N k0 k1 K list1 below1 x x1 (IntKind.i64.wrap (x2 + 1))))))))))))
      (k1 ()))
noncomputable def impl_isPairs_l0_again {R : Type} (N : Nat) (ks : (j : Nat) → ((impl_isPairs_l0_ex.getD j (.ret, Sh.none)).2).T → Option R) (k : Nat) (x : impl_isPairs_l0_sh.T) : Option R :=
  impl_isPairs_l0 N (fun y0 => ks 0 ((y0, ()), ())) (fun (_ : Unit) => ks 1 ((), ())) k x.1.1 x.1.2.1 x.1.2.2.1 x.1.2.2.2.1 x.1.2.2.2.2.1
noncomputable def impl_isPairs_l0_s (N : Nat) : LSum := ⟨impl_isPairs_l0_sh, impl_isPairs_l0_ex, fun x ks => impl_isPairs_l0_again N ks N x⟩
theorem impl_isPairs_l0_step (N : Nat) (R : Type) (k : Nat) (x : impl_isPairs_l0_sh.T) (ks : (j : Nat) → ((impl_isPairs_l0_ex.getD j (.ret, Sh.none)).2).T → Option R) : impl_isPairs_l0_again N ks (k + 1) x = roundF (impl_isPairs_G N) tab [] (loopAt impl_isPairs_code 0) impl_isPairs_l0_sh impl_isPairs_l0_ex (fun y => impl_isPairs_l0_again N ks k y) ks x := by kernel_rfl
theorem impl_isPairs_l0_ok (N : Nat) : LoopOk Tryz.prog Tryz.f163.ntmps (impl_isPairs_l0_s N) (loopAt impl_isPairs_code 0) :=
  loop_ok (l := impl_isPairs_l0_s N) progOk (impl_isPairs_gok N) (draw_ok progOk (impl_isPairs_gok N)) (fun R k x ks => impl_isPairs_l0_again N ks k x) (fun _ _ _ => rfl) (fun R k x ks => impl_isPairs_l0_step N R k x ks) (fun R x ks r h => ⟨N, h⟩) (lsOk_at (L := []) trivial) (by kernel_rfl) (by kernel_rfl)
noncomputable def impl_isPairs (N : Nat) (list : (List (Int × Int))) (below : Int) : Option ((Bool × Unit) × (Unit)) :=
  impl_isPairs_l0 N (fun x => some ((x, ()), ())) (fun (_ : Unit) => some ((true, ()), ())) N list below list (tLen list) 0
noncomputable def impl_isPairs_S (N : Nat) : FSum := ⟨impl_isPairs_ps, impl_isPairs_rs, fun x => impl_isPairs N x.1 x.2.1⟩
theorem impl_isPairs_run (N : Nat) (x : argsT impl_isPairs_ps) : impl_isPairs N x.1 x.2.1 = funF (impl_isPairs_G N) tab [impl_isPairs_l0_s N] Tryz.f163 impl_isPairs_ps impl_isPairs_rs x := by kernel_rfl
theorem impl_isPairs_pc (N : Nat) : PC Tryz.prog 163 (impl_isPairs_S N) := by
  have e : impl_isPairs_S N = ⟨impl_isPairs_ps, impl_isPairs_rs, funF (impl_isPairs_G N) tab [impl_isPairs_l0_s N] Tryz.f163 impl_isPairs_ps impl_isPairs_rs⟩ := congrArg (FSum.mk impl_isPairs_ps impl_isPairs_rs) (funext (impl_isPairs_run N))
  rw [e]
  exact fun_ok (c := impl_isPairs_code) progOk (impl_isPairs_gok N) (draw_ok progOk (impl_isPairs_gok N)) Tryz.call163 Tryz.func163 (by kernel_rfl) (lsOk_at (L := [impl_isPairs_l0_s N]) ⟨impl_isPairs_l0_ok N, trivial⟩) (by kernel_rfl) (by kernel_rfl) (by kernel_rfl) (by kernel_rfl) (by kernel_rfl)

/-! ### impl_IsGraph -/
abbrev impl_IsGraph_ps : List (PV.Mode × Ty) := [(.ro, QILQII)]
abbrev impl_IsGraph_rs : List (Bool × Ty) := [(true, .bool)]
noncomputable def impl_IsGraph_G (N : Nat) : GTab := gOf [(124, impl_between_S N), (163, impl_isPairs_S N)]
theorem impl_IsGraph_gok (N : Nat) : GOk Tryz.prog (impl_IsGraph_G N) := gOf_ok ⟨impl_between_pc N, impl_isPairs_pc N, trivial⟩
noncomputable def impl_IsGraph_code : Code := (Tryz.f123.body).getD .skip
noncomputable def impl_IsGraph (N : Nat) (g : (Int × (List (Int × Int)))) : Option ((Bool × Unit) × (Unit)) :=
  ((impl_between N g.1 0 8).bind fun r =>
    (br r.1.1
      (((impl_isPairs N g.2 g.1).bind fun r1 =>
        some ((r1.1.1, ()), ())))
      (some ((false, ()), ()))))
noncomputable def impl_IsGraph_S (N : Nat) : FSum := ⟨impl_IsGraph_ps, impl_IsGraph_rs, fun x => impl_IsGraph N x.1⟩
theorem impl_IsGraph_run (N : Nat) (x : argsT impl_IsGraph_ps) : impl_IsGraph N x.1 = funF (impl_IsGraph_G N) tab [] Tryz.f123 impl_IsGraph_ps impl_IsGraph_rs x := by kernel_rfl
theorem impl_IsGraph_pc (N : Nat) : PC Tryz.prog 123 (impl_IsGraph_S N) := by
  have e : impl_IsGraph_S N = ⟨impl_IsGraph_ps, impl_IsGraph_rs, funF (impl_IsGraph_G N) tab [] Tryz.f123 impl_IsGraph_ps impl_IsGraph_rs⟩ := congrArg (FSum.mk impl_IsGraph_ps impl_IsGraph_rs) (funext (impl_IsGraph_run N))
  rw [e]
  exact fun_ok (c := impl_IsGraph_code) progOk (impl_IsGraph_gok N) (draw_ok progOk (impl_IsGraph_gok N)) Tryz.call123 Tryz.func123 (by kernel_rfl) (lsOk_at (L := []) trivial) (by kernel_rfl) (by kernel_rfl) (by kernel_rfl) (by kernel_rfl) (by kernel_rfl)

/-! ### impl_isColourCase -/
abbrev impl_isColourCase_ps : List (PV.Mode × Ty) := [(.ro, QILQII), (.ro, I)]
abbrev impl_isColourCase_rs : List (Bool × Ty) := [(true, .bool)]
noncomputable def impl_isColourCase_G (N : Nat) : GTab := gOf [(123, impl_IsGraph_S N), (124, impl_between_S N)]
theorem impl_isColourCase_gok (N : Nat) : GOk Tryz.prog (impl_isColourCase_G N) := gOf_ok ⟨impl_IsGraph_pc N, impl_between_pc N, trivial⟩
noncomputable def impl_isColourCase_code : Code := (Tryz.f80.body).getD .skip
noncomputable def impl_isColourCase (N : Nat) (g : (Int × (List (Int × Int)))) (kv : Int) : Option ((Bool × Unit) × (Unit)) :=
  ((impl_IsGraph N (g.1, g.2)).bind fun r =>
    (br r.1.1
      (((impl_between N kv 1 5).bind fun r1 =>
        some ((r1.1.1, ()), ())))
      (some ((false, ()), ()))))
noncomputable def impl_isColourCase_S (N : Nat) : FSum := ⟨impl_isColourCase_ps, impl_isColourCase_rs, fun x => impl_isColourCase N x.1 x.2.1⟩
theorem impl_isColourCase_run (N : Nat) (x : argsT impl_isColourCase_ps) : impl_isColourCase N x.1 x.2.1 = funF (impl_isColourCase_G N) tab [] Tryz.f80 impl_isColourCase_ps impl_isColourCase_rs x := by kernel_rfl
theorem impl_isColourCase_pc (N : Nat) : PC Tryz.prog 80 (impl_isColourCase_S N) := by
  have e : impl_isColourCase_S N = ⟨impl_isColourCase_ps, impl_isColourCase_rs, funF (impl_isColourCase_G N) tab [] Tryz.f80 impl_isColourCase_ps impl_isColourCase_rs⟩ := congrArg (FSum.mk impl_isColourCase_ps impl_isColourCase_rs) (funext (impl_isColourCase_run N))
  rw [e]
  exact fun_ok (c := impl_isColourCase_code) progOk (impl_isColourCase_gok N) (draw_ok progOk (impl_isColourCase_gok N)) Tryz.call80 Tryz.func80 (by kernel_rfl) (lsOk_at (L := []) trivial) (by kernel_rfl) (by kernel_rfl) (by kernel_rfl) (by kernel_rfl) (by kernel_rfl)

/-! ### slices_Clone_LI_int -/
abbrev slices_Clone_LI_int_ps : List (PV.Mode × Ty) := [(.ro, LI)]
abbrev slices_Clone_LI_int_rs : List (Bool × Ty) := [(true, LI)]
noncomputable def slices_Clone_LI_int_G (N : Nat) : GTab := gOf []
theorem slices_Clone_LI_int_gok (N : Nat) : GOk Tryz.prog (slices_Clone_LI_int_G N) := gOf_ok trivial
noncomputable def slices_Clone_LI_int_code : Code := (Tryz.f84.body).getD .skip
noncomputable def slices_Clone_LI_int (N : Nat) (s : (List Int)) : Option (((List Int) × Unit) × (Unit)) :=
  (br (ieq (tLen s) 0)
    ((amb
      (some (([], ()), ()))
      ((chk (room (α := Int) (β := Int) [] s)
        (some (((tApp [] s), ()), ()))))))
    ((chk (room (α := Int) (β := Int) [] s)
      (some (((tApp [] s), ()), ())))))
noncomputable def slices_Clone_LI_int_S (N : Nat) : FSum := ⟨slices_Clone_LI_int_ps, slices_Clone_LI_int_rs, fun x => slices_Clone_LI_int N x.1⟩
theorem slices_Clone_LI_int_run (N : Nat) (x : argsT slices_Clone_LI_int_ps) : slices_Clone_LI_int N x.1 = funF (slices_Clone_LI_int_G N) tab [] Tryz.f84 slices_Clone_LI_int_ps slices_Clone_LI_int_rs x := by kernel_rfl
theorem slices_Clone_LI_int_pc (N : Nat) : PC Tryz.prog 84 (slices_Clone_LI_int_S N) := by
  have e : slices_Clone_LI_int_S N = ⟨slices_Clone_LI_int_ps, slices_Clone_LI_int_rs, funF (slices_Clone_LI_int_G N) tab [] Tryz.f84 slices_Clone_LI_int_ps slices_Clone_LI_int_rs⟩ := congrArg (FSum.mk slices_Clone_LI_int_ps slices_Clone_LI_int_rs) (funext (slices_Clone_LI_int_run N))
  rw [e]
  exact fun_ok (c := slices_Clone_LI_int_code) progOk (slices_Clone_LI_int_gok N) (draw_ok progOk (slices_Clone_LI_int_gok N)) Tryz.call84 Tryz.func84 (by kernel_rfl) (lsOk_at (L := []) trivial) (by kernel_rfl) (by kernel_rfl) (by kernel_rfl) (by kernel_rfl) (by kernel_rfl)

/-! ### impl_pair -/
abbrev impl_pair_ps : List (PV.Mode × Ty) := [(.ro, I), (.ro, I)]
abbrev impl_pair_rs : List (Bool × Ty) := [(true, QII)]
noncomputable def impl_pair_G (N : Nat) : GTab := gOf []
theorem impl_pair_gok (N : Nat) : GOk Tryz.prog (impl_pair_G N) := gOf_ok trivial
noncomputable def impl_pair_code : Code := (Tryz.f204.body).getD .skip
noncomputable def impl_pair (N : Nat) (a : Int) (b : Int) : Option (((Int × Int) × Unit) × (Unit)) :=
  some ((((if b < a then b else a), (if b > a then b else a)), ()), ())
noncomputable def impl_pair_S (N : Nat) : FSum := ⟨impl_pair_ps, impl_pair_rs, fun x => impl_pair N x.1 x.2.1⟩
theorem impl_pair_run (N : Nat) (x : argsT impl_pair_ps) : impl_pair N x.1 x.2.1 = funF (impl_pair_G N) tab [] Tryz.f204 impl_pair_ps impl_pair_rs x := by kernel_rfl
theorem impl_pair_pc (N : Nat) : PC Tryz.prog 204 (impl_pair_S N) := by
  have e : impl_pair_S N = ⟨impl_pair_ps, impl_pair_rs, funF (impl_pair_G N) tab [] Tryz.f204 impl_pair_ps impl_pair_rs⟩ := congrArg (FSum.mk impl_pair_ps impl_pair_rs) (funext (impl_pair_run N))
  rw [e]
  exact fun_ok (c := impl_pair_code) progOk (impl_pair_gok N) (draw_ok progOk (impl_pair_gok N)) Tryz.call204 Tryz.func204 (by kernel_rfl) (lsOk_at (L := []) trivial) (by kernel_rfl) (by kernel_rfl) (by kernel_rfl) (by kernel_rfl) (by kernel_rfl)

/-! ### slices_Index_LP_P2 -/
abbrev slices_Index_LP_P2_ps : List (PV.Mode × Ty) := [(.ro, LQII), (.ro, QII)]
abbrev slices_Index_LP_P2_rs : List (Bool × Ty) := [(true, I)]
noncomputable def slices_Index_LP_P2_G (N : Nat) : GTab := gOf []
theorem slices_Index_LP_P2_gok (N : Nat) : GOk Tryz.prog (slices_Index_LP_P2_G N) := gOf_ok trivial
noncomputable def slices_Index_LP_P2_code : Code := (Tryz.f219.body).getD .skip
noncomputable def slices_Index_LP_P2_l0_sh : Sh := ⟨[(0, .one (.ro LQII)), (3, .one (.adr 0 0)), (7, .one (.ro I)), (8, .one (.ro I))], [.box [.ro I, .ro I]]⟩
noncomputable def slices_Index_LP_P2_l0_ex : List (Ex × Sh) := [(.ret, ⟨[(4, .one (.ro I))], []⟩), (.exit 0, ⟨[], []⟩)]
noncomputable def slices_Index_LP_P2_l0 {R : Type} (N : Nat) (k0 : Int → Option R) (k1 : Unit → Option R) : Nat → (List (Int × Int)) → Int → Int → Int → Int → Option R
  | 0, _, _, _, _, _ => none
  | K + 1, s1, x, x1, o, o1 =>
    (br (ilt x1 x)
      ((chk (inb s1 x1)
        (br (ieq o ((rdP s1 x1).1) && ieq o1 ((rdP s1 x1).2))
        (k0 x1)
        (slices_Index_LP_P2_l0 N k0 k1 K s1 x (IntKind.i64.wrap (x1 + 1)) o o1))))
      (k1 ()))
noncomputable def slices_Index_LP_P2_l0_again {R : Type} (N : Nat) (ks : (j : Nat) → ((slices_Index_LP_P2_l0_ex.getD j (.ret, Sh.none)).2).T → Option R) (k : Nat) (x : slices_Index_LP_P2_l0_sh.T) : Option R :=
  slices_Index_LP_P2_l0 N (fun y0 => ks 0 ((y0, ()), ())) (fun (_ : Unit) => ks 1 ((), ())) k x.1.1 x.1.2.2.1 x.1.2.2.2.1 x.2.1.1 x.2.1.2.1
noncomputable def slices_Index_LP_P2_l0_s (N : Nat) : LSum := ⟨slices_Index_LP_P2_l0_sh, slices_Index_LP_P2_l0_ex, fun x ks => slices_Index_LP_P2_l0_again N ks N x⟩
theorem slices_Index_LP_P2_l0_step (N : Nat) (R : Type) (k : Nat) (x : slices_Index_LP_P2_l0_sh.T) (ks : (j : Nat) → ((slices_Index_LP_P2_l0_ex.getD j (.ret, Sh.none)).2).T → Option R) : slices_Index_LP_P2_l0_again N ks (k + 1) x = roundF (slices_Index_LP_P2_G N) tab [] (loopAt slices_Index_LP_P2_code 0) slices_Index_LP_P2_l0_sh slices_Index_LP_P2_l0_ex (fun y => slices_Index_LP_P2_l0_again N ks k y) ks x := by kernel_rfl
theorem slices_Index_LP_P2_l0_ok (N : Nat) : LoopOk Tryz.prog Tryz.f219.ntmps (slices_Index_LP_P2_l0_s N) (loopAt slices_Index_LP_P2_code 0) :=
  loop_ok (l := slices_Index_LP_P2_l0_s N) progOk (slices_Index_LP_P2_gok N) (draw_ok progOk (slices_Index_LP_P2_gok N)) (fun R k x ks => slices_Index_LP_P2_l0_again N ks k x) (fun _ _ _ => rfl) (fun R k x ks => slices_Index_LP_P2_l0_step N R k x ks) (fun R x ks r h => ⟨N, h⟩) (lsOk_at (L := []) trivial) (by kernel_rfl) (by kernel_rfl)
noncomputable def slices_Index_LP_P2 (N : Nat) (s : (List (Int × Int))) (v : (Int × Int)) : Option ((Int × Unit) × (Unit)) :=
  slices_Index_LP_P2_l0 N (fun x => some ((x, ()), ())) (fun (_ : Unit) => some (((-1), ()), ())) N s (tLen s) 0 v.1 v.2
noncomputable def slices_Index_LP_P2_S (N : Nat) : FSum := ⟨slices_Index_LP_P2_ps, slices_Index_LP_P2_rs, fun x => slices_Index_LP_P2 N x.1 x.2.1⟩
theorem slices_Index_LP_P2_run (N : Nat) (x : argsT slices_Index_LP_P2_ps) : slices_Index_LP_P2 N x.1 x.2.1 = funF (slices_Index_LP_P2_G N) tab [slices_Index_LP_P2_l0_s N] Tryz.f219 slices_Index_LP_P2_ps slices_Index_LP_P2_rs x := by kernel_rfl
theorem slices_Index_LP_P2_pc (N : Nat) : PC Tryz.prog 219 (slices_Index_LP_P2_S N) := by
  have e : slices_Index_LP_P2_S N = ⟨slices_Index_LP_P2_ps, slices_Index_LP_P2_rs, funF (slices_Index_LP_P2_G N) tab [slices_Index_LP_P2_l0_s N] Tryz.f219 slices_Index_LP_P2_ps slices_Index_LP_P2_rs⟩ := congrArg (FSum.mk slices_Index_LP_P2_ps slices_Index_LP_P2_rs) (funext (slices_Index_LP_P2_run N))
  rw [e]
  exact fun_ok (c := slices_Index_LP_P2_code) progOk (slices_Index_LP_P2_gok N) (draw_ok progOk (slices_Index_LP_P2_gok N)) Tryz.call219 Tryz.func219 (by kernel_rfl) (lsOk_at (L := [slices_Index_LP_P2_l0_s N]) ⟨slices_Index_LP_P2_l0_ok N, trivial⟩) (by kernel_rfl) (by kernel_rfl) (by kernel_rfl) (by kernel_rfl) (by kernel_rfl)

/-! ### slices_Contains_LP_P2 -/
abbrev slices_Contains_LP_P2_ps : List (PV.Mode × Ty) := [(.ro, LQII), (.ro, QII)]
abbrev slices_Contains_LP_P2_rs : List (Bool × Ty) := [(true, .bool)]
noncomputable def slices_Contains_LP_P2_G (N : Nat) : GTab := gOf [(219, slices_Index_LP_P2_S N)]
theorem slices_Contains_LP_P2_gok (N : Nat) : GOk Tryz.prog (slices_Contains_LP_P2_G N) := gOf_ok ⟨slices_Index_LP_P2_pc N, trivial⟩
noncomputable def slices_Contains_LP_P2_code : Code := (Tryz.f203.body).getD .skip
noncomputable def slices_Contains_LP_P2 (N : Nat) (s : (List (Int × Int))) (v : (Int × Int)) : Option ((Bool × Unit) × (Unit)) :=
  ((slices_Index_LP_P2 N s (v.1, v.2)).bind fun r =>
    some (((ile 0 r.1.1), ()), ()))
noncomputable def slices_Contains_LP_P2_S (N : Nat) : FSum := ⟨slices_Contains_LP_P2_ps, slices_Contains_LP_P2_rs, fun x => slices_Contains_LP_P2 N x.1 x.2.1⟩
theorem slices_Contains_LP_P2_run (N : Nat) (x : argsT slices_Contains_LP_P2_ps) : slices_Contains_LP_P2 N x.1 x.2.1 = funF (slices_Contains_LP_P2_G N) tab [] Tryz.f203 slices_Contains_LP_P2_ps slices_Contains_LP_P2_rs x := by kernel_rfl
theorem slices_Contains_LP_P2_pc (N : Nat) : PC Tryz.prog 203 (slices_Contains_LP_P2_S N) := by
  have e : slices_Contains_LP_P2_S N = ⟨slices_Contains_LP_P2_ps, slices_Contains_LP_P2_rs, funF (slices_Contains_LP_P2_G N) tab [] Tryz.f203 slices_Contains_LP_P2_ps slices_Contains_LP_P2_rs⟩ := congrArg (FSum.mk slices_Contains_LP_P2_ps slices_Contains_LP_P2_rs) (funext (slices_Contains_LP_P2_run N))
  rw [e]
  exact fun_ok (c := slices_Contains_LP_P2_code) progOk (slices_Contains_LP_P2_gok N) (draw_ok progOk (slices_Contains_LP_P2_gok N)) Tryz.call203 Tryz.func203 (by kernel_rfl) (lsOk_at (L := []) trivial) (by kernel_rfl) (by kernel_rfl) (by kernel_rfl) (by kernel_rfl) (by kernel_rfl)

/-! ### impl_Graph_has -/
abbrev impl_Graph_has_ps : List (PV.Mode × Ty) := [(.ro, QILQII), (.ro, I), (.ro, I)]
abbrev impl_Graph_has_rs : List (Bool × Ty) := [(true, .bool)]
noncomputable def impl_Graph_has_G (N : Nat) : GTab := gOf [(204, impl_pair_S N), (203, slices_Contains_LP_P2_S N)]
theorem impl_Graph_has_gok (N : Nat) : GOk Tryz.prog (impl_Graph_has_G N) := gOf_ok ⟨impl_pair_pc N, slices_Contains_LP_P2_pc N, trivial⟩
noncomputable def impl_Graph_has_code : Code := (Tryz.f165.body).getD .skip
noncomputable def impl_Graph_has (N : Nat) (g : (Int × (List (Int × Int)))) (a : Int) (b : Int) : Option ((Bool × Unit) × (Unit)) :=
  ((impl_pair N a b).bind fun r =>
    ((slices_Contains_LP_P2 N g.2 (r.1.1.1, r.1.1.2)).bind fun r1 =>
      some ((r1.1.1, ()), ())))
noncomputable def impl_Graph_has_S (N : Nat) : FSum := ⟨impl_Graph_has_ps, impl_Graph_has_rs, fun x => impl_Graph_has N x.1 x.2.1 x.2.2.1⟩
theorem impl_Graph_has_run (N : Nat) (x : argsT impl_Graph_has_ps) : impl_Graph_has N x.1 x.2.1 x.2.2.1 = funF (impl_Graph_has_G N) tab [] Tryz.f165 impl_Graph_has_ps impl_Graph_has_rs x := by kernel_rfl
theorem impl_Graph_has_pc (N : Nat) : PC Tryz.prog 165 (impl_Graph_has_S N) := by
  have e : impl_Graph_has_S N = ⟨impl_Graph_has_ps, impl_Graph_has_rs, funF (impl_Graph_has_G N) tab [] Tryz.f165 impl_Graph_has_ps impl_Graph_has_rs⟩ := congrArg (FSum.mk impl_Graph_has_ps impl_Graph_has_rs) (funext (impl_Graph_has_run N))
  rw [e]
  exact fun_ok (c := impl_Graph_has_code) progOk (impl_Graph_has_gok N) (draw_ok progOk (impl_Graph_has_gok N)) Tryz.call165 Tryz.func165 (by kernel_rfl) (lsOk_at (L := []) trivial) (by kernel_rfl) (by kernel_rfl) (by kernel_rfl) (by kernel_rfl) (by kernel_rfl)

/-! ### impl_Graph_neighbors -/
abbrev impl_Graph_neighbors_ps : List (PV.Mode × Ty) := [(.ro, QILQII), (.ro, I)]
abbrev impl_Graph_neighbors_rs : List (Bool × Ty) := [(true, LI)]
noncomputable def impl_Graph_neighbors_G (N : Nat) : GTab := gOf [(165, impl_Graph_has_S N)]
theorem impl_Graph_neighbors_gok (N : Nat) : GOk Tryz.prog (impl_Graph_neighbors_G N) := gOf_ok ⟨impl_Graph_has_pc N, trivial⟩
noncomputable def impl_Graph_neighbors_code : Code := (Tryz.f127.body).getD .skip
noncomputable def impl_Graph_neighbors_l0_sh : Sh := ⟨[(1, .one (.ro I)), (2, .one (.adr 0 0)), (5, .one (.ref 1)), (9, .one (.ro I)), (10, .one (.ro I))], [.box [.ro I, .ro LQII], .sl 3 I .own]⟩
noncomputable def impl_Graph_neighbors_l0_ex : List (Ex × Sh) := [(.exit 0, ⟨[(5, .one (.ref 0))], [.sl 3 I .own]⟩)]
noncomputable def impl_Graph_neighbors_l0 {R : Type} (N : Nat) (k0 : (List Int) → Option R) : Nat → Int → Int → Int → Int → (List (Int × Int)) → (List Int) → Option R
  | 0, _, _, _, _, _, _ => none
  | K + 1, x1, x2, x3, o, o1, o2 =>
    (br (ilt x3 x2)
      ((br (ine x3 x1)
        (((impl_Graph_has N (o, o1) x1 x3).bind fun r =>
          (br r.1.1
            ((chk (room o2 [x3])
              (impl_Graph_neighbors_l0 N k0 K x1 x2 (IntKind.i64.wrap (x3 + 1)) o o1 (tApp o2 [x3]))))
            (impl_Graph_neighbors_l0 N k0 K x1 x2 (IntKind.i64.wrap (x3 + 1)) o o1 o2))))
        (impl_Graph_neighbors_l0 N k0 K x1 x2 (IntKind.i64.wrap (x3 + 1)) o o1 o2)))
      (k0 o2))
noncomputable def impl_Graph_neighbors_l0_again {R : Type} (N : Nat) (ks : (j : Nat) → ((impl_Graph_neighbors_l0_ex.getD j (.ret, Sh.none)).2).T → Option R) (k : Nat) (x : impl_Graph_neighbors_l0_sh.T) : Option R :=
  impl_Graph_neighbors_l0 N (fun y0 => ks 0 (((), ()), (y0, ()))) k x.1.1 x.1.2.2.2.1 x.1.2.2.2.2.1 x.2.1.1 x.2.1.2.1 x.2.2.1
noncomputable def impl_Graph_neighbors_l0_s (N : Nat) : LSum := ⟨impl_Graph_neighbors_l0_sh, impl_Graph_neighbors_l0_ex, fun x ks => impl_Graph_neighbors_l0_again N ks N x⟩
theorem impl_Graph_neighbors_l0_step (N : Nat) (R : Type) (k : Nat) (x : impl_Graph_neighbors_l0_sh.T) (ks : (j : Nat) → ((impl_Graph_neighbors_l0_ex.getD j (.ret, Sh.none)).2).T → Option R) : impl_Graph_neighbors_l0_again N ks (k + 1) x = roundF (impl_Graph_neighbors_G N) tab [] (loopAt impl_Graph_neighbors_code 0) impl_Graph_neighbors_l0_sh impl_Graph_neighbors_l0_ex (fun y => impl_Graph_neighbors_l0_again N ks k y) ks x := by kernel_rfl
theorem impl_Graph_neighbors_l0_ok (N : Nat) : LoopOk Tryz.prog Tryz.f127.ntmps (impl_Graph_neighbors_l0_s N) (loopAt impl_Graph_neighbors_code 0) :=
  loop_ok (l := impl_Graph_neighbors_l0_s N) progOk (impl_Graph_neighbors_gok N) (draw_ok progOk (impl_Graph_neighbors_gok N)) (fun R k x ks => impl_Graph_neighbors_l0_again N ks k x) (fun _ _ _ => rfl) (fun R k x ks => impl_Graph_neighbors_l0_step N R k x ks) (fun R x ks r h => ⟨N, h⟩) (lsOk_at (L := []) trivial) (by kernel_rfl) (by kernel_rfl)
noncomputable def impl_Graph_neighbors (N : Nat) (g : (Int × (List (Int × Int)))) (x : Int) : Option (((List Int) × Unit) × (Unit)) :=
  impl_Graph_neighbors_l0 N (fun o => some ((o, ()), ())) N x g.1 0 g.1 g.2 []
noncomputable def impl_Graph_neighbors_S (N : Nat) : FSum := ⟨impl_Graph_neighbors_ps, impl_Graph_neighbors_rs, fun x => impl_Graph_neighbors N x.1 x.2.1⟩
theorem impl_Graph_neighbors_run (N : Nat) (x : argsT impl_Graph_neighbors_ps) : impl_Graph_neighbors N x.1 x.2.1 = funF (impl_Graph_neighbors_G N) tab [impl_Graph_neighbors_l0_s N] Tryz.f127 impl_Graph_neighbors_ps impl_Graph_neighbors_rs x := by kernel_rfl
theorem impl_Graph_neighbors_pc (N : Nat) : PC Tryz.prog 127 (impl_Graph_neighbors_S N) := by
  have e : impl_Graph_neighbors_S N = ⟨impl_Graph_neighbors_ps, impl_Graph_neighbors_rs, funF (impl_Graph_neighbors_G N) tab [impl_Graph_neighbors_l0_s N] Tryz.f127 impl_Graph_neighbors_ps impl_Graph_neighbors_rs⟩ := congrArg (FSum.mk impl_Graph_neighbors_ps impl_Graph_neighbors_rs) (funext (impl_Graph_neighbors_run N))
  rw [e]
  exact fun_ok (c := impl_Graph_neighbors_code) progOk (impl_Graph_neighbors_gok N) (draw_ok progOk (impl_Graph_neighbors_gok N)) Tryz.call127 Tryz.func127 (by kernel_rfl) (lsOk_at (L := [impl_Graph_neighbors_l0_s N]) ⟨impl_Graph_neighbors_l0_ok N, trivial⟩) (by kernel_rfl) (by kernel_rfl) (by kernel_rfl) (by kernel_rfl) (by kernel_rfl)

/-! ### slices_IndexFunc_LI_int -/
abbrev slices_IndexFunc_LI_int_ps : List (PV.Mode × Ty) := [(.ro, LI), (.ro, FIBo)]
abbrev slices_IndexFunc_LI_int_rs : List (Bool × Ty) := [(true, I)]
noncomputable def slices_IndexFunc_LI_int_G (N : Nat) : GTab := gOf []
theorem slices_IndexFunc_LI_int_gok (N : Nat) : GOk Tryz.prog (slices_IndexFunc_LI_int_G N) := gOf_ok trivial
noncomputable def slices_IndexFunc_LI_int_code : Code := (Tryz.f164.body).getD .skip
noncomputable def slices_IndexFunc_LI_int_l0_sh : Sh := ⟨[(0, .one (.ro LI)), (1, .one (.ro FIBo)), (7, .one (.ro I)), (8, .one (.ro I))], []⟩
noncomputable def slices_IndexFunc_LI_int_l0_ex : List (Ex × Sh) := [(.ret, ⟨[(4, .one (.ro I))], []⟩), (.exit 0, ⟨[], []⟩)]
noncomputable def slices_IndexFunc_LI_int_l0 {R : Type} (N : Nat) (k0 : Int → Option R) (k1 : Unit → Option R) : Nat → (List Int) → (Int → Option Bool) → Int → Int → Option R
  | 0, _, _, _, _ => none
  | K + 1, s1, f1, x, x1 =>
    (br (ilt x1 x)
      ((chk (inb s1 x1)
        ((f1 (rdI s1 x1)).bind fun v =>
        (br v
        (k0 x1)
        (slices_IndexFunc_LI_int_l0 N k0 k1 K s1 f1 x (IntKind.i64.wrap (x1 + 1)))))))
      (k1 ()))
noncomputable def slices_IndexFunc_LI_int_l0_again {R : Type} (N : Nat) (ks : (j : Nat) → ((slices_IndexFunc_LI_int_l0_ex.getD j (.ret, Sh.none)).2).T → Option R) (k : Nat) (x : slices_IndexFunc_LI_int_l0_sh.T) : Option R :=
  slices_IndexFunc_LI_int_l0 N (fun y0 => ks 0 ((y0, ()), ())) (fun (_ : Unit) => ks 1 ((), ())) k x.1.1 x.1.2.1 x.1.2.2.1 x.1.2.2.2.1
noncomputable def slices_IndexFunc_LI_int_l0_s (N : Nat) : LSum := ⟨slices_IndexFunc_LI_int_l0_sh, slices_IndexFunc_LI_int_l0_ex, fun x ks => slices_IndexFunc_LI_int_l0_again N ks N x⟩
theorem slices_IndexFunc_LI_int_l0_step (N : Nat) (R : Type) (k : Nat) (x : slices_IndexFunc_LI_int_l0_sh.T) (ks : (j : Nat) → ((slices_IndexFunc_LI_int_l0_ex.getD j (.ret, Sh.none)).2).T → Option R) : slices_IndexFunc_LI_int_l0_again N ks (k + 1) x = roundF (slices_IndexFunc_LI_int_G N) tab [] (loopAt slices_IndexFunc_LI_int_code 0) slices_IndexFunc_LI_int_l0_sh slices_IndexFunc_LI_int_l0_ex (fun y => slices_IndexFunc_LI_int_l0_again N ks k y) ks x := by kernel_rfl
theorem slices_IndexFunc_LI_int_l0_ok (N : Nat) : LoopOk Tryz.prog Tryz.f164.ntmps (slices_IndexFunc_LI_int_l0_s N) (loopAt slices_IndexFunc_LI_int_code 0) :=
  loop_ok (l := slices_IndexFunc_LI_int_l0_s N) progOk (slices_IndexFunc_LI_int_gok N) (draw_ok progOk (slices_IndexFunc_LI_int_gok N)) (fun R k x ks => slices_IndexFunc_LI_int_l0_again N ks k x) (fun _ _ _ => rfl) (fun R k x ks => slices_IndexFunc_LI_int_l0_step N R k x ks) (fun R x ks r h => ⟨N, h⟩) (lsOk_at (L := []) trivial) (by kernel_rfl) (by kernel_rfl)
noncomputable def slices_IndexFunc_LI_int (N : Nat) (s : (List Int)) (f : (Int → Option Bool)) : Option ((Int × Unit) × (Unit)) :=
  slices_IndexFunc_LI_int_l0 N (fun x => some ((x, ()), ())) (fun (_ : Unit) => some (((-1), ()), ())) N s f (tLen s) 0
noncomputable def slices_IndexFunc_LI_int_S (N : Nat) : FSum := ⟨slices_IndexFunc_LI_int_ps, slices_IndexFunc_LI_int_rs, fun x => slices_IndexFunc_LI_int N x.1 x.2.1⟩
theorem slices_IndexFunc_LI_int_run (N : Nat) (x : argsT slices_IndexFunc_LI_int_ps) : slices_IndexFunc_LI_int N x.1 x.2.1 = funF (slices_IndexFunc_LI_int_G N) tab [slices_IndexFunc_LI_int_l0_s N] Tryz.f164 slices_IndexFunc_LI_int_ps slices_IndexFunc_LI_int_rs x := by kernel_rfl
theorem slices_IndexFunc_LI_int_pc (N : Nat) : PC Tryz.prog 164 (slices_IndexFunc_LI_int_S N) := by
  have e : slices_IndexFunc_LI_int_S N = ⟨slices_IndexFunc_LI_int_ps, slices_IndexFunc_LI_int_rs, funF (slices_IndexFunc_LI_int_G N) tab [slices_IndexFunc_LI_int_l0_s N] Tryz.f164 slices_IndexFunc_LI_int_ps slices_IndexFunc_LI_int_rs⟩ := congrArg (FSum.mk slices_IndexFunc_LI_int_ps slices_IndexFunc_LI_int_rs) (funext (slices_IndexFunc_LI_int_run N))
  rw [e]
  exact fun_ok (c := slices_IndexFunc_LI_int_code) progOk (slices_IndexFunc_LI_int_gok N) (draw_ok progOk (slices_IndexFunc_LI_int_gok N)) Tryz.call164 Tryz.func164 (by kernel_rfl) (lsOk_at (L := [slices_IndexFunc_LI_int_l0_s N]) ⟨slices_IndexFunc_LI_int_l0_ok N, trivial⟩) (by kernel_rfl) (by kernel_rfl) (by kernel_rfl) (by kernel_rfl) (by kernel_rfl)

/-! ### slices_ContainsFunc_LI_int -/
abbrev slices_ContainsFunc_LI_int_ps : List (PV.Mode × Ty) := [(.ro, LI), (.ro, FIBo)]
abbrev slices_ContainsFunc_LI_int_rs : List (Bool × Ty) := [(true, .bool)]
noncomputable def slices_ContainsFunc_LI_int_G (N : Nat) : GTab := gOf [(164, slices_IndexFunc_LI_int_S N)]
theorem slices_ContainsFunc_LI_int_gok (N : Nat) : GOk Tryz.prog (slices_ContainsFunc_LI_int_G N) := gOf_ok ⟨slices_IndexFunc_LI_int_pc N, trivial⟩
noncomputable def slices_ContainsFunc_LI_int_code : Code := (Tryz.f126.body).getD .skip
noncomputable def slices_ContainsFunc_LI_int (N : Nat) (s : (List Int)) (f : (Int → Option Bool)) : Option ((Bool × Unit) × (Unit)) :=
  ((slices_IndexFunc_LI_int N s f).bind fun r =>
    some (((ile 0 r.1.1), ()), ()))
noncomputable def slices_ContainsFunc_LI_int_S (N : Nat) : FSum := ⟨slices_ContainsFunc_LI_int_ps, slices_ContainsFunc_LI_int_rs, fun x => slices_ContainsFunc_LI_int N x.1 x.2.1⟩
theorem slices_ContainsFunc_LI_int_run (N : Nat) (x : argsT slices_ContainsFunc_LI_int_ps) : slices_ContainsFunc_LI_int N x.1 x.2.1 = funF (slices_ContainsFunc_LI_int_G N) tab [] Tryz.f126 slices_ContainsFunc_LI_int_ps slices_ContainsFunc_LI_int_rs x := by kernel_rfl
theorem slices_ContainsFunc_LI_int_pc (N : Nat) : PC Tryz.prog 126 (slices_ContainsFunc_LI_int_S N) := by
  have e : slices_ContainsFunc_LI_int_S N = ⟨slices_ContainsFunc_LI_int_ps, slices_ContainsFunc_LI_int_rs, funF (slices_ContainsFunc_LI_int_G N) tab [] Tryz.f126 slices_ContainsFunc_LI_int_ps slices_ContainsFunc_LI_int_rs⟩ := congrArg (FSum.mk slices_ContainsFunc_LI_int_ps slices_ContainsFunc_LI_int_rs) (funext (slices_ContainsFunc_LI_int_run N))
  rw [e]
  exact fun_ok (c := slices_ContainsFunc_LI_int_code) progOk (slices_ContainsFunc_LI_int_gok N) (draw_ok progOk (slices_ContainsFunc_LI_int_gok N)) Tryz.call126 Tryz.func126 (by kernel_rfl) (lsOk_at (L := []) trivial) (by kernel_rfl) (by kernel_rfl) (by kernel_rfl) (by kernel_rfl) (by kernel_rfl)

/-! ### impl_Graph_colourings_c1_c1 -/
abbrev impl_Graph_colourings_c1_c1_ps : List (PV.Mode × Ty) := [(.ro, I), (.ro, AI), (.ro, ALI), (.ro, AI)]
abbrev impl_Graph_colourings_c1_c1_rs : List (Bool × Ty) := [(true, .bool)]
noncomputable def impl_Graph_colourings_c1_c1_G (N : Nat) : GTab := gOf []
theorem impl_Graph_colourings_c1_c1_gok (N : Nat) : GOk Tryz.prog (impl_Graph_colourings_c1_c1_G N) := gOf_ok trivial
noncomputable def impl_Graph_colourings_c1_c1_code : Code := (Tryz.f128.body).getD .skip
noncomputable def impl_Graph_colourings_c1_c1 (N : Nat) (y : Int) (c : Int) (c1 : (List Int)) (c2 : Int) : Option ((Bool × Unit) × (Unit)) :=
  (br (ilt y c)
    ((chk (inb c1 y)
      (some (((ieq (rdI c1 y) c2), ()), ()))))
    (some ((false, ()), ())))
noncomputable def impl_Graph_colourings_c1_c1_S (N : Nat) : FSum := ⟨impl_Graph_colourings_c1_c1_ps, impl_Graph_colourings_c1_c1_rs, fun x => impl_Graph_colourings_c1_c1 N x.1 x.2.1 x.2.2.1 x.2.2.2.1⟩
theorem impl_Graph_colourings_c1_c1_run (N : Nat) (x : argsT impl_Graph_colourings_c1_c1_ps) : impl_Graph_colourings_c1_c1 N x.1 x.2.1 x.2.2.1 x.2.2.2.1 = funF (impl_Graph_colourings_c1_c1_G N) tab [] Tryz.f128 impl_Graph_colourings_c1_c1_ps impl_Graph_colourings_c1_c1_rs x := by kernel_rfl
theorem impl_Graph_colourings_c1_c1_pc (N : Nat) : PC Tryz.prog 128 (impl_Graph_colourings_c1_c1_S N) := by
  have e : impl_Graph_colourings_c1_c1_S N = ⟨impl_Graph_colourings_c1_c1_ps, impl_Graph_colourings_c1_c1_rs, funF (impl_Graph_colourings_c1_c1_G N) tab [] Tryz.f128 impl_Graph_colourings_c1_c1_ps impl_Graph_colourings_c1_c1_rs⟩ := congrArg (FSum.mk impl_Graph_colourings_c1_c1_ps impl_Graph_colourings_c1_c1_rs) (funext (impl_Graph_colourings_c1_c1_run N))
  rw [e]
  exact fun_ok (c := impl_Graph_colourings_c1_c1_code) progOk (impl_Graph_colourings_c1_c1_gok N) (draw_ok progOk (impl_Graph_colourings_c1_c1_gok N)) Tryz.call128 Tryz.func128 (by kernel_rfl) (lsOk_at (L := []) trivial) (by kernel_rfl) (by kernel_rfl) (by kernel_rfl) (by kernel_rfl) (by kernel_rfl)

/-! ### impl_Graph_colourings_c1 -/
abbrev impl_Graph_colourings_c1_ps : List (PV.Mode × Ty) := [(.ro, I), (.ro, AQILQII), (.mut, BLLI), (.mut, BLI), (.ro, AI), (.ro, S125)]
abbrev impl_Graph_colourings_c1_rs : List (Bool × Ty) := [(true, .bool)]
noncomputable def impl_Graph_colourings_c1_T (slf : (Int → (Int × (List (Int × Int))) → (List (List Int)) → (List Int) → Int → Unit → Option ((Bool × Unit) × ((List (List Int)) × (List Int) × Unit)))) : FSum := ⟨impl_Graph_colourings_c1_ps, impl_Graph_colourings_c1_rs, fun x => slf x.1 x.2.1 x.2.2.1 x.2.2.2.1 x.2.2.2.2.1 x.2.2.2.2.2.1⟩
noncomputable def impl_Graph_colourings_c1_G (N : Nat) (slf : (Int → (Int × (List (Int × Int))) → (List (List Int)) → (List Int) → Int → Unit → Option ((Bool × Unit) × ((List (List Int)) × (List Int) × Unit)))) : GTab := gOf [(125, impl_Graph_colourings_c1_T slf), (84, slices_Clone_LI_int_S N), (127, impl_Graph_neighbors_S N), (126, slices_ContainsFunc_LI_int_S N), (128, impl_Graph_colourings_c1_c1_S N)]
theorem impl_Graph_colourings_c1_gok (N : Nat) (slf : (Int → (Int × (List (Int × Int))) → (List (List Int)) → (List Int) → Int → Unit → Option ((Bool × Unit) × ((List (List Int)) × (List Int) × Unit)))) (hslf : PC Tryz.prog 125 (impl_Graph_colourings_c1_T slf)) : GOk Tryz.prog (impl_Graph_colourings_c1_G N slf) := gOf_ok ⟨hslf, slices_Clone_LI_int_pc N, impl_Graph_neighbors_pc N, slices_ContainsFunc_LI_int_pc N, impl_Graph_colourings_c1_c1_pc N, trivial⟩
noncomputable def impl_Graph_colourings_c1_code : Code := (Tryz.f125.body).getD .skip
noncomputable def impl_Graph_colourings_c1_l0_sh : Sh := ⟨[(1, .one (.ro AQILQII)), (2, .one (.adr 0 0)), (3, .one (.adr 1 0)), (5, .one (.sadr 125 [.ro QILQII, .id 0, .id 1, .ro I, .me])), (6, .one (.adr 2 0)), (22, .one (.ro I)), (23, .one (.ro I))], [.mbox LLI, .mbox LI, .box [.ro I]]⟩
noncomputable def impl_Graph_colourings_c1_l0_ex : List (Ex × Sh) := [(.ret, ⟨[(2, .one (.adr 0 0)), (3, .one (.adr 1 0)), (7, .one (.ro .bool))], [.mbox LLI, .mbox LI]⟩), (.exit 0, ⟨[(2, .one (.adr 0 0)), (3, .one (.adr 1 0))], [.mbox LLI, .mbox LI]⟩)]
noncomputable def impl_Graph_colourings_c1_l0 {R : Type} (N : Nat) (slf : (Int → (Int × (List (Int × Int))) → (List (List Int)) → (List Int) → Int → Unit → Option ((Bool × Unit) × ((List (List Int)) × (List Int) × Unit)))) (k0 : Bool → (List (List Int)) → (List Int) → Option R) (k1 : (List (List Int)) → (List Int) → Option R) : Nat → (Int × (List (Int × Int))) → (Int × (List (Int × Int))) → Int → Int → Int → (List (List Int)) → (List Int) → Int → Option R
  | 0, _, _, _, _, _, _, _, _ => none
  | K + 1, x1, x2, x3, x4, x5, o, o1, o2 =>
    (br (ilt x5 x4)
      (((impl_Graph_neighbors N x1 o2).bind fun r1 =>
        ((slices_ContainsFunc_LI_int N r1.1.1 (fun y0 => (impl_Graph_colourings_c1_c1 N y0 o2 o1 x5).bind fun z => some z.1.1)).bind fun r2 =>
          (chk (inb o1 o2)
            (br (!r2.1.1)
            (((slf (IntKind.i64.wrap (o2 + 1)) x2 o (tSet o1 o2 x5) x3 ()).bind fun r3 =>
              (br (!r3.1.1)
                (k0 false r3.2.1 r3.2.2.1)
                (impl_Graph_colourings_c1_l0 N slf k0 k1 K x1 x2 x3 x4 (IntKind.i64.wrap (x5 + 1)) r3.2.1 r3.2.2.1 o2))))
            (impl_Graph_colourings_c1_l0 N slf k0 k1 K x1 x2 x3 x4 (IntKind.i64.wrap (x5 + 1)) o (tSet o1 o2 x5) o2))))))
      (k1 o o1))
noncomputable def impl_Graph_colourings_c1_l0_again {R : Type} (N : Nat) (slf : (Int → (Int × (List (Int × Int))) → (List (List Int)) → (List Int) → Int → Unit → Option ((Bool × Unit) × ((List (List Int)) × (List Int) × Unit)))) (ks : (j : Nat) → ((impl_Graph_colourings_c1_l0_ex.getD j (.ret, Sh.none)).2).T → Option R) (k : Nat) (x : impl_Graph_colourings_c1_l0_sh.T) : Option R :=
  impl_Graph_colourings_c1_l0 N slf (fun y0 y1 y2 => ks 0 (((), (), y0, ()), (y1, y2, ()))) (fun y0 y1 => ks 1 (((), (), ()), (y0, y1, ()))) k x.1.1 x.1.2.2.2.1.1 x.1.2.2.2.1.2.2.2.1 x.1.2.2.2.2.2.1 x.1.2.2.2.2.2.2.1 x.2.1 x.2.2.1 x.2.2.2.1.1
noncomputable def impl_Graph_colourings_c1_l0_s (N : Nat) (slf : (Int → (Int × (List (Int × Int))) → (List (List Int)) → (List Int) → Int → Unit → Option ((Bool × Unit) × ((List (List Int)) × (List Int) × Unit)))) : LSum := ⟨impl_Graph_colourings_c1_l0_sh, impl_Graph_colourings_c1_l0_ex, fun x ks => impl_Graph_colourings_c1_l0_again N slf ks N x⟩
theorem impl_Graph_colourings_c1_l0_step (N : Nat) (slf : (Int → (Int × (List (Int × Int))) → (List (List Int)) → (List Int) → Int → Unit → Option ((Bool × Unit) × ((List (List Int)) × (List Int) × Unit)))) (R : Type) (k : Nat) (x : impl_Graph_colourings_c1_l0_sh.T) (ks : (j : Nat) → ((impl_Graph_colourings_c1_l0_ex.getD j (.ret, Sh.none)).2).T → Option R) : impl_Graph_colourings_c1_l0_again N slf ks (k + 1) x = roundF (impl_Graph_colourings_c1_G N slf) tab [] (loopAt impl_Graph_colourings_c1_code 0) impl_Graph_colourings_c1_l0_sh impl_Graph_colourings_c1_l0_ex (fun y => impl_Graph_colourings_c1_l0_again N slf ks k y) ks x := by kernel_rfl
theorem impl_Graph_colourings_c1_l0_ok (N : Nat) (slf : (Int → (Int × (List (Int × Int))) → (List (List Int)) → (List Int) → Int → Unit → Option ((Bool × Unit) × ((List (List Int)) × (List Int) × Unit)))) (hslf : PC Tryz.prog 125 (impl_Graph_colourings_c1_T slf)) : LoopOk Tryz.prog Tryz.f125.ntmps (impl_Graph_colourings_c1_l0_s N slf) (loopAt impl_Graph_colourings_c1_code 0) :=
  loop_ok (l := impl_Graph_colourings_c1_l0_s N slf) progOk (impl_Graph_colourings_c1_gok N slf hslf) (draw_ok progOk (impl_Graph_colourings_c1_gok N slf hslf)) (fun R k x ks => impl_Graph_colourings_c1_l0_again N slf ks k x) (fun _ _ _ => rfl) (fun R k x ks => impl_Graph_colourings_c1_l0_step N slf R k x ks) (fun R x ks r h => ⟨N, h⟩) (lsOk_at (L := []) trivial) (by kernel_rfl) (by kernel_rfl)
noncomputable def impl_Graph_colourings_c1_b (N : Nat) (slf : (Int → (Int × (List (Int × Int))) → (List (List Int)) → (List Int) → Int → Unit → Option ((Bool × Unit) × ((List (List Int)) × (List Int) × Unit)))) (x : Int) (c : (Int × (List (Int × Int)))) (c1 : (List (List Int))) (c2 : (List Int)) (c3 : Int) (c4 : Unit) : Option ((Bool × Unit) × ((List (List Int)) × (List Int) × Unit)) :=
  (br (ieq x c.1)
    (((slices_Clone_LI_int N c2).bind fun r =>
      (chk (room c1 [r.1.1])
        (some (((ile (tLen (tApp c1 [r.1.1])) 300), ()), ((tApp c1 [r.1.1]), c2, ()))))))
    (impl_Graph_colourings_c1_l0 N slf (fun x1 o o1 => some ((x1, ()), (o, o1, ()))) (fun o2 o3 => some ((true, ()), (o2, o3, ()))) N c c c3 c3 0 c1 c2 x))
theorem impl_Graph_colourings_c1_run (N : Nat) (slf : (Int → (Int × (List (Int × Int))) → (List (List Int)) → (List Int) → Int → Unit → Option ((Bool × Unit) × ((List (List Int)) × (List Int) × Unit)))) (x : argsT impl_Graph_colourings_c1_ps) : impl_Graph_colourings_c1_b N slf x.1 x.2.1 x.2.2.1 x.2.2.2.1 x.2.2.2.2.1 x.2.2.2.2.2.1 = funF (impl_Graph_colourings_c1_G N slf) tab [impl_Graph_colourings_c1_l0_s N slf] Tryz.f125 impl_Graph_colourings_c1_ps impl_Graph_colourings_c1_rs x := by kernel_rfl
theorem impl_Graph_colourings_c1_bpc (N : Nat) (slf : (Int → (Int × (List (Int × Int))) → (List (List Int)) → (List Int) → Int → Unit → Option ((Bool × Unit) × ((List (List Int)) × (List Int) × Unit)))) (hslf : PC Tryz.prog 125 (impl_Graph_colourings_c1_T slf)) : PC Tryz.prog 125 (impl_Graph_colourings_c1_T (impl_Graph_colourings_c1_b N slf)) := by
  have e : impl_Graph_colourings_c1_T (impl_Graph_colourings_c1_b N slf) = ⟨impl_Graph_colourings_c1_ps, impl_Graph_colourings_c1_rs, funF (impl_Graph_colourings_c1_G N slf) tab [impl_Graph_colourings_c1_l0_s N slf] Tryz.f125 impl_Graph_colourings_c1_ps impl_Graph_colourings_c1_rs⟩ := congrArg (FSum.mk impl_Graph_colourings_c1_ps impl_Graph_colourings_c1_rs) (funext (impl_Graph_colourings_c1_run N slf))
  rw [e]
  exact fun_ok (c := impl_Graph_colourings_c1_code) progOk (impl_Graph_colourings_c1_gok N slf hslf) (draw_ok progOk (impl_Graph_colourings_c1_gok N slf hslf)) Tryz.call125 Tryz.func125 (by kernel_rfl) (lsOk_at (L := [impl_Graph_colourings_c1_l0_s N slf]) ⟨impl_Graph_colourings_c1_l0_ok N slf hslf, trivial⟩) (by kernel_rfl) (by kernel_rfl) (by kernel_rfl) (by kernel_rfl) (by kernel_rfl)
noncomputable def impl_Graph_colourings_c1_r (N : Nat) : Nat → (Int → (Int × (List (Int × Int))) → (List (List Int)) → (List Int) → Int → Unit → Option ((Bool × Unit) × ((List (List Int)) × (List Int) × Unit)))
  | 0 => fun _ _ _ _ _ _ => none
  | K + 1 => impl_Graph_colourings_c1_b N (impl_Graph_colourings_c1_r N K)
theorem impl_Graph_colourings_c1_rpc (N : Nat) : ∀ K, PC Tryz.prog 125 (impl_Graph_colourings_c1_T (impl_Graph_colourings_c1_r N K))
  | 0 => pc_none Tryz.call125
  | K + 1 => impl_Graph_colourings_c1_bpc N (impl_Graph_colourings_c1_r N K) (impl_Graph_colourings_c1_rpc N K)
noncomputable def impl_Graph_colourings_c1 (N : Nat) (x : Int) (c : (Int × (List (Int × Int)))) (c1 : (List (List Int))) (c2 : (List Int)) (c3 : Int) (c4 : Unit) : Option ((Bool × Unit) × ((List (List Int)) × (List Int) × Unit)) := impl_Graph_colourings_c1_r N N x c c1 c2 c3 c4
noncomputable def impl_Graph_colourings_c1_S (N : Nat) : FSum := ⟨impl_Graph_colourings_c1_ps, impl_Graph_colourings_c1_rs, fun x => impl_Graph_colourings_c1 N x.1 x.2.1 x.2.2.1 x.2.2.2.1 x.2.2.2.2.1 x.2.2.2.2.2.1⟩
theorem impl_Graph_colourings_c1_pc (N : Nat) : PC Tryz.prog 125 (impl_Graph_colourings_c1_S N) := impl_Graph_colourings_c1_rpc N N

/-! ### impl_Graph_colourings -/
abbrev impl_Graph_colourings_ps : List (PV.Mode × Ty) := [(.ro, QILQII), (.ro, I)]
abbrev impl_Graph_colourings_rs : List (Bool × Ty) := [(true, LLI), (true, .bool)]
noncomputable def impl_Graph_colourings_G (N : Nat) : GTab := gOf [(125, impl_Graph_colourings_c1_S N)]
theorem impl_Graph_colourings_gok (N : Nat) : GOk Tryz.prog (impl_Graph_colourings_G N) := gOf_ok ⟨impl_Graph_colourings_c1_pc N, trivial⟩
noncomputable def impl_Graph_colourings_code : Code := (Tryz.f81.body).getD .skip
noncomputable def impl_Graph_colourings (N : Nat) (g : (Int × (List (Int × Int)))) (kv : Int) : Option (((List (List Int)) × Bool × Unit) × (Unit)) :=
  (chk (ile 0 g.1 && ile g.1 g.1 && fits g.1)
    ((impl_Graph_colourings_c1 N 0 (g.1, g.2) [] (tRep g.1 (0 : Int)) kv ()).bind fun r =>
    (br (!r.1.1)
      (some (([], false, ()), ()))
      (some ((r.2.1, true, ()), ())))))
noncomputable def impl_Graph_colourings_S (N : Nat) : FSum := ⟨impl_Graph_colourings_ps, impl_Graph_colourings_rs, fun x => impl_Graph_colourings N x.1 x.2.1⟩
theorem impl_Graph_colourings_run (N : Nat) (x : argsT impl_Graph_colourings_ps) : impl_Graph_colourings N x.1 x.2.1 = funF (impl_Graph_colourings_G N) tab [] Tryz.f81 impl_Graph_colourings_ps impl_Graph_colourings_rs x := by kernel_rfl
theorem impl_Graph_colourings_pc (N : Nat) : PC Tryz.prog 81 (impl_Graph_colourings_S N) := by
  have e : impl_Graph_colourings_S N = ⟨impl_Graph_colourings_ps, impl_Graph_colourings_rs, funF (impl_Graph_colourings_G N) tab [] Tryz.f81 impl_Graph_colourings_ps impl_Graph_colourings_rs⟩ := congrArg (FSum.mk impl_Graph_colourings_ps impl_Graph_colourings_rs) (funext (impl_Graph_colourings_run N))
  rw [e]
  exact fun_ok (c := impl_Graph_colourings_code) progOk (impl_Graph_colourings_gok N) (draw_ok progOk (impl_Graph_colourings_gok N)) Tryz.call81 Tryz.func81 (by kernel_rfl) (lsOk_at (L := []) trivial) (by kernel_rfl) (by kernel_rfl) (by kernel_rfl) (by kernel_rfl) (by kernel_rfl)
end Go.Proofs.YtgelipdkheahdaaGreat
