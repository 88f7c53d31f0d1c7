/- Functions of the program as functions on data. -/
import Derived.Test.YtgelipdkheahdaaGreatExchangeWayFa
set_option linter.all false
namespace Go.Proofs.YtgelipdkheahdaaGreat
open Go Go.PV
/-! ### spec_l4Lone -/
abbrev spec_l4Lone_ps : List (PV.Mode × Ty) := [(.ro, LI), (.ro, LI)]
abbrev spec_l4Lone_rs : List (Bool × Ty) := [(true, LI)]
noncomputable def spec_l4Lone_G (N : Nat) : GTab := gOf [(154, spec_l1Has_S N)]
theorem spec_l4Lone_gok (N : Nat) : GOk Tryz.prog (spec_l4Lone_G N) := gOf_ok ⟨spec_l1Has_pc N, trivial⟩
noncomputable def spec_l4Lone_code : Code := (Tryz.f113.body).getD .skip
noncomputable def spec_l4Lone_l0_sh : Sh := ⟨[(0, .one (.ro LI)), (1, .one (.ro LI)), (5, .one (.ref 0)), (6, .one (.ro I))], [.sl 3 I .own]⟩
noncomputable def spec_l4Lone_l0_ex : List (Ex × Sh) := [(.exit 0, ⟨[(5, .one (.ref 0))], [.sl 3 I .own]⟩)]
noncomputable def spec_l4Lone_l0 {R : Type} (N : Nat) (k0 : (List Int) → Option R) : Nat → (List Int) → (List Int) → Int → (List Int) → Option R
  | 0, _, _, _, _ => none
  | K + 1, a1, b1, i, o =>
    (br (ilt i (tLen a1))
      ((chk (inb a1 i)
        ((spec_l1Has N b1 (rdI a1 i)).bind fun r =>
        (br (!r.1.1)
          ((chk (inb a1 i)
            (chk (room o [(rdI a1 i)])
            (spec_l4Lone_l0 N k0 K a1 b1 (IntKind.i64.wrap (i + 1)) (tApp o [(rdI a1 i)])))))
          (spec_l4Lone_l0 N k0 K a1 b1 (IntKind.i64.wrap (i + 1)) o)))))
      (k0 o))
noncomputable def spec_l4Lone_l0_again {R : Type} (N : Nat) (ks : (j : Nat) → ((spec_l4Lone_l0_ex.getD j (.ret, Sh.none)).2).T → Option R) (k : Nat) (x : spec_l4Lone_l0_sh.T) : Option R :=
  spec_l4Lone_l0 N (fun y0 => ks 0 (((), ()), (y0, ()))) k x.1.1 x.1.2.1 x.1.2.2.2.1 x.2.1
noncomputable def spec_l4Lone_l0_s (N : Nat) : LSum := ⟨spec_l4Lone_l0_sh, spec_l4Lone_l0_ex, fun x ks => spec_l4Lone_l0_again N ks N x⟩
theorem spec_l4Lone_l0_step (N : Nat) (R : Type) (k : Nat) (x : spec_l4Lone_l0_sh.T) (ks : (j : Nat) → ((spec_l4Lone_l0_ex.getD j (.ret, Sh.none)).2).T → Option R) : spec_l4Lone_l0_again N ks (k + 1) x = roundF (spec_l4Lone_G N) tab [] (loopAt spec_l4Lone_code 0) spec_l4Lone_l0_sh spec_l4Lone_l0_ex (fun y => spec_l4Lone_l0_again N ks k y) ks x := by kernel_rfl
theorem spec_l4Lone_l0_ok (N : Nat) : LoopOk Tryz.prog Tryz.f113.ntmps (spec_l4Lone_l0_s N) (loopAt spec_l4Lone_code 0) :=
  loop_ok (l := spec_l4Lone_l0_s N) progOk (spec_l4Lone_gok N) (draw_ok progOk (spec_l4Lone_gok N)) (fun R k x ks => spec_l4Lone_l0_again N ks k x) (fun _ _ _ => rfl) (fun R k x ks => spec_l4Lone_l0_step N R k x ks) (fun R x ks r h => ⟨N, h⟩) (lsOk_at (L := []) trivial) (by kernel_rfl) (by kernel_rfl)
noncomputable def spec_l4Lone (N : Nat) (a : (List Int)) (b : (List Int)) : Option (((List Int) × Unit) × (Unit)) :=
  spec_l4Lone_l0 N (fun o => some ((o, ()), ())) N a b 0 []
noncomputable def spec_l4Lone_S (N : Nat) : FSum := ⟨spec_l4Lone_ps, spec_l4Lone_rs, fun x => spec_l4Lone N x.1 x.2.1⟩
theorem spec_l4Lone_run (N : Nat) (x : argsT spec_l4Lone_ps) : spec_l4Lone N x.1 x.2.1 = funF (spec_l4Lone_G N) tab [spec_l4Lone_l0_s N] Tryz.f113 spec_l4Lone_ps spec_l4Lone_rs x := by kernel_rfl
theorem spec_l4Lone_pc (N : Nat) : PC Tryz.prog 113 (spec_l4Lone_S N) := by
  have e : spec_l4Lone_S N = ⟨spec_l4Lone_ps, spec_l4Lone_rs, funF (spec_l4Lone_G N) tab [spec_l4Lone_l0_s N] Tryz.f113 spec_l4Lone_ps spec_l4Lone_rs⟩ := congrArg (FSum.mk spec_l4Lone_ps spec_l4Lone_rs) (funext (spec_l4Lone_run N))
  rw [e]
  exact fun_ok (c := spec_l4Lone_code) progOk (spec_l4Lone_gok N) (draw_ok progOk (spec_l4Lone_gok N)) Tryz.call113 Tryz.func113 (by kernel_rfl) (lsOk_at (L := [spec_l4Lone_l0_s N]) ⟨spec_l4Lone_l0_ok N, trivial⟩) (by kernel_rfl) (by kernel_rfl) (by kernel_rfl) (by kernel_rfl) (by kernel_rfl)

/-! ### spec_l4Exchange -/
abbrev spec_l4Exchange_ps : List (PV.Mode × Ty) := [(.ro, QILQII), (.ro, I), (.ro, I), (.ro, .bool)]
abbrev spec_l4Exchange_rs : List (Bool × Ty) := [(false, QLLILQII)]
noncomputable def spec_l4Exchange_G (N : Nat) : GTab := gOf [(111, spec_l4Sets_S N), (112, spec_l2Sorted_S N), (113, spec_l4Lone_S N), (114, spec_l2Near_S N)]
theorem spec_l4Exchange_gok (N : Nat) : GOk Tryz.prog (spec_l4Exchange_G N) := gOf_ok ⟨spec_l4Sets_pc N, spec_l2Sorted_pc N, spec_l4Lone_pc N, spec_l2Near_pc N, trivial⟩
noncomputable def spec_l4Exchange_code : Code := (Tryz.f72.body).getD .skip
noncomputable def spec_l4Exchange_l0_sh : Sh := ⟨[(2, .one (.ro I)), (3, .one (.ro .bool)), (4, .one (.adr 0 0)), (8, .one (.adr 1 0)), (9, .one (.ro LLI)), (10, .one (.ref 2)), (11, .one (.ro I))], [.box [.ro I, .ro LQII], .box [.nilsl, .nilsl], .sl 40 LI .own]⟩
noncomputable def spec_l4Exchange_l0_ex : List (Ex × Sh) := [(.exit 0, ⟨[(3, .one (.ro .bool)), (4, .one (.adr 0 0)), (8, .one (.adr 1 0)), (10, .one (.ref 2))], [.box [.ro I, .ro LQII], .box [.nilsl, .nilsl], .sl 40 LI .own]⟩)]
noncomputable def spec_l4Exchange_l0 {R : Type} (N : Nat) (k0 : Bool → Int → (List (Int × Int)) → (List (List Int)) → Option R) : Nat → Int → Bool → (List (List Int)) → Int → Int → (List (Int × Int)) → (List (List Int)) → Option R
  | 0, _, _, _, _, _, _, _ => none
  | K + 1, x4, x5, x6, x7, o3, o4, o5 =>
    (br (ilt x7 (tLen x6))
      ((chk (inb x6 x7)
        (br (ieq (tLen (rdL x6 x7)) x4)
        ((chk (inb x6 x7)
          (chk (room o5 [(rdL x6 x7)])
          (spec_l4Exchange_l0 N k0 K x4 x5 x6 (IntKind.i64.wrap (x7 + 1)) o3 o4 (tApp o5 [(rdL x6 x7)])))))
        (spec_l4Exchange_l0 N k0 K x4 x5 x6 (IntKind.i64.wrap (x7 + 1)) o3 o4 o5))))
      (k0 x5 o3 o4 o5))
noncomputable def spec_l4Exchange_l0_again {R : Type} (N : Nat) (ks : (j : Nat) → ((spec_l4Exchange_l0_ex.getD j (.ret, Sh.none)).2).T → Option R) (k : Nat) (x : spec_l4Exchange_l0_sh.T) : Option R :=
  spec_l4Exchange_l0 N (fun y0 y1 y2 y3 => ks 0 ((y0, (), (), (), ()), ((y1, y2, ()), ((), (), ()), y3, ()))) k x.1.1 x.1.2.1 x.1.2.2.2.2.1 x.1.2.2.2.2.2.2.1 x.2.1.1 x.2.1.2.1 x.2.2.2.1
noncomputable def spec_l4Exchange_l0_s (N : Nat) : LSum := ⟨spec_l4Exchange_l0_sh, spec_l4Exchange_l0_ex, fun x ks => spec_l4Exchange_l0_again N ks N x⟩
theorem spec_l4Exchange_l0_step (N : Nat) (R : Type) (k : Nat) (x : spec_l4Exchange_l0_sh.T) (ks : (j : Nat) → ((spec_l4Exchange_l0_ex.getD j (.ret, Sh.none)).2).T → Option R) : spec_l4Exchange_l0_again N ks (k + 1) x = roundF (spec_l4Exchange_G N) tab [] (loopAt spec_l4Exchange_code 0) spec_l4Exchange_l0_sh spec_l4Exchange_l0_ex (fun y => spec_l4Exchange_l0_again N ks k y) ks x := by kernel_rfl
theorem spec_l4Exchange_l0_ok (N : Nat) : LoopOk Tryz.prog Tryz.f72.ntmps (spec_l4Exchange_l0_s N) (loopAt spec_l4Exchange_code 0) :=
  loop_ok (l := spec_l4Exchange_l0_s N) progOk (spec_l4Exchange_gok N) (draw_ok progOk (spec_l4Exchange_gok N)) (fun R k x ks => spec_l4Exchange_l0_again N ks k x) (fun _ _ _ => rfl) (fun R k x ks => spec_l4Exchange_l0_step N R k x ks) (fun R x ks r h => ⟨N, h⟩) (lsOk_at (L := []) trivial) (by kernel_rfl) (by kernel_rfl)
noncomputable def spec_l4Exchange_l1_0_sh : Sh := ⟨[(3, .one (.ro .bool)), (4, .one (.adr 0 0)), (8, .one (.adr 1 0)), (12, .one (.adr 2 0)), (13, .one (.ro I)), (14, .one (.ro I))], [.box [.ro I, .ro LQII], .box [.nilsl, .nilsl], .box [.ro LLI, .ref 3], .sl 93 QII .own]⟩
noncomputable def spec_l4Exchange_l1_0_ex : List (Ex × Sh) := [(.exit 4, ⟨[(3, .one (.ro .bool)), (4, .one (.adr 0 0)), (8, .one (.adr 1 0)), (12, .one (.adr 2 0)), (13, .one (.ro I))], [.box [.ro I, .ro LQII], .box [.nilsl, .nilsl], .box [.ro LLI, .ref 3], .sl 93 QII .own]⟩)]
noncomputable def spec_l4Exchange_l1_0 {R : Type} (N : Nat) (k0 : Bool → Int → Int → (List (Int × Int)) → (List (List Int)) → (List (Int × Int)) → Option R) : Nat → Bool → Int → Int → Int → (List (Int × Int)) → (List (List Int)) → (List (Int × Int)) → Option R
  | 0, _, _, _, _, _, _, _ => none
  | K + 1, x7, x8, x9, o10, o11, o12, o13 =>
    (br (ilt x9 (tLen o12))
      ((chk (inb o12 x8)
        (chk (inb o12 x9)
        ((spec_l4Lone N (rdL o12 x8) (rdL o12 x9)).bind fun r2 =>
        (chk (inb o12 x9)
          (chk (inb o12 x8)
          ((spec_l4Lone N (rdL o12 x9) (rdL o12 x8)).bind fun r3 =>
          (br (ieq (tLen r2.1.1) 1)
            ((br (!x7)
              ((chk (room o13 [(x8, x9)])
                (spec_l4Exchange_l1_0 N k0 K x7 x8 (IntKind.i64.wrap (x9 + 1)) o10 o11 o12 (tApp o13 [(x8, x9)]))))
              ((chk (inb r2.1.1 0)
                (chk (inb r3.1.1 0)
                ((spec_l2Near N (o10, o11) (rdI r2.1.1 0) (rdI r3.1.1 0)).bind fun r4 =>
                (br r4.1.1
                  ((chk (room o13 [(x8, x9)])
                    (spec_l4Exchange_l1_0 N k0 K x7 x8 (IntKind.i64.wrap (x9 + 1)) o10 o11 o12 (tApp o13 [(x8, x9)]))))
                  (spec_l4Exchange_l1_0 N k0 K x7 x8 (IntKind.i64.wrap (x9 + 1)) o10 o11 o12 o13))))))))
            (spec_l4Exchange_l1_0 N k0 K x7 x8 (IntKind.i64.wrap (x9 + 1)) o10 o11 o12 o13)))))))))
      (k0 x7 x8 o10 o11 o12 o13))
noncomputable def spec_l4Exchange_l1_0_again {R : Type} (N : Nat) (ks : (j : Nat) → ((spec_l4Exchange_l1_0_ex.getD j (.ret, Sh.none)).2).T → Option R) (k : Nat) (x : spec_l4Exchange_l1_0_sh.T) : Option R :=
  spec_l4Exchange_l1_0 N (fun y0 y1 y2 y3 y4 y5 => ks 0 ((y0, (), (), (), y1, ()), ((y2, y3, ()), ((), (), ()), (y4, (), ()), y5, ()))) k x.1.1 x.1.2.2.2.2.1 x.1.2.2.2.2.2.1 x.2.1.1 x.2.1.2.1 x.2.2.2.1.1 x.2.2.2.2.1
noncomputable def spec_l4Exchange_l1_0_s (N : Nat) : LSum := ⟨spec_l4Exchange_l1_0_sh, spec_l4Exchange_l1_0_ex, fun x ks => spec_l4Exchange_l1_0_again N ks N x⟩
theorem spec_l4Exchange_l1_0_step (N : Nat) (R : Type) (k : Nat) (x : spec_l4Exchange_l1_0_sh.T) (ks : (j : Nat) → ((spec_l4Exchange_l1_0_ex.getD j (.ret, Sh.none)).2).T → Option R) : spec_l4Exchange_l1_0_again N ks (k + 1) x = roundF (spec_l4Exchange_G N) tab [] (loopAt (loopAt spec_l4Exchange_code 1) 0) spec_l4Exchange_l1_0_sh spec_l4Exchange_l1_0_ex (fun y => spec_l4Exchange_l1_0_again N ks k y) ks x := by kernel_rfl
theorem spec_l4Exchange_l1_0_ok (N : Nat) : LoopOk Tryz.prog Tryz.f72.ntmps (spec_l4Exchange_l1_0_s N) (loopAt (loopAt spec_l4Exchange_code 1) 0) :=
  loop_ok (l := spec_l4Exchange_l1_0_s N) progOk (spec_l4Exchange_gok N) (draw_ok progOk (spec_l4Exchange_gok N)) (fun R k x ks => spec_l4Exchange_l1_0_again N ks k x) (fun _ _ _ => rfl) (fun R k x ks => spec_l4Exchange_l1_0_step N R k x ks) (fun R x ks r h => ⟨N, h⟩) (lsOk_at (L := []) trivial) (by kernel_rfl) (by kernel_rfl)
noncomputable def spec_l4Exchange_l1_sh : Sh := ⟨[(3, .one (.ro .bool)), (4, .one (.adr 0 0)), (8, .one (.adr 1 0)), (12, .one (.adr 2 0)), (13, .one (.ro I))], [.box [.ro I, .ro LQII], .box [.nilsl, .nilsl], .box [.ro LLI, .ref 3], .sl 93 QII .own]⟩
noncomputable def spec_l4Exchange_l1_ex : List (Ex × Sh) := [(.exit 2, ⟨[(8, .one (.adr 0 0)), (12, .one (.adr 1 0))], [.box [.nilsl, .nilsl], .box [.ro LLI, .ref 2], .sl 93 QII .own]⟩)]
noncomputable def spec_l4Exchange_l1 {R : Type} (N : Nat) (k0 : (List (List Int)) → (List (Int × Int)) → Option R) : Nat → Bool → Int → Int → (List (Int × Int)) → (List (List Int)) → (List (Int × Int)) → Option R
  | 0, _, _, _, _, _, _ => none
  | K + 1, x5, x6, o6, o7, o8, o9 =>
    (br (ilt x6 (tLen o8))
      (spec_l4Exchange_l1_0 N (fun x7 x8 o10 o11 o12 o13 => spec_l4Exchange_l1 N k0 K x7 (IntKind.i64.wrap (x8 + 1)) o10 o11 o12 o13) N x5 x6 (IntKind.i64.wrap (x6 + 1)) o6 o7 o8 o9)
      (k0 o8 o9))
noncomputable def spec_l4Exchange_l1_again {R : Type} (N : Nat) (ks : (j : Nat) → ((spec_l4Exchange_l1_ex.getD j (.ret, Sh.none)).2).T → Option R) (k : Nat) (x : spec_l4Exchange_l1_sh.T) : Option R :=
  spec_l4Exchange_l1 N (fun y0 y1 => ks 0 (((), (), ()), (((), (), ()), (y0, (), ()), y1, ()))) k x.1.1 x.1.2.2.2.2.1 x.2.1.1 x.2.1.2.1 x.2.2.2.1.1 x.2.2.2.2.1
noncomputable def spec_l4Exchange_l1_s (N : Nat) : LSum := ⟨spec_l4Exchange_l1_sh, spec_l4Exchange_l1_ex, fun x ks => spec_l4Exchange_l1_again N ks N x⟩
theorem spec_l4Exchange_l1_step (N : Nat) (R : Type) (k : Nat) (x : spec_l4Exchange_l1_sh.T) (ks : (j : Nat) → ((spec_l4Exchange_l1_ex.getD j (.ret, Sh.none)).2).T → Option R) : spec_l4Exchange_l1_again N ks (k + 1) x = roundF (spec_l4Exchange_G N) tab [spec_l4Exchange_l1_0_s N] (loopAt spec_l4Exchange_code 1) spec_l4Exchange_l1_sh spec_l4Exchange_l1_ex (fun y => spec_l4Exchange_l1_again N ks k y) ks x := by kernel_rfl
theorem spec_l4Exchange_l1_ok (N : Nat) : LoopOk Tryz.prog Tryz.f72.ntmps (spec_l4Exchange_l1_s N) (loopAt spec_l4Exchange_code 1) :=
  loop_ok (l := spec_l4Exchange_l1_s N) progOk (spec_l4Exchange_gok N) (draw_ok progOk (spec_l4Exchange_gok N)) (fun R k x ks => spec_l4Exchange_l1_again N ks k x) (fun _ _ _ => rfl) (fun R k x ks => spec_l4Exchange_l1_step N R k x ks) (fun R x ks r h => ⟨N, h⟩) (lsOk_at (L := [spec_l4Exchange_l1_0_s N]) ⟨spec_l4Exchange_l1_0_ok N, trivial⟩) (by kernel_rfl) (by kernel_rfl)
noncomputable def spec_l4Exchange (N : Nat) (c : (Int × (List (Int × Int)))) (c1 : Int) (c2 : Int) (c3 : Bool) : Option ((((List (List Int)) × (List (Int × Int))) × Unit) × (Unit)) :=
  ((spec_l4Sets N (c.1, c.2) c1).bind fun r =>
    spec_l4Exchange_l0 N (fun x4 o3 o4 o5 => ((spec_l2Sorted N o5).bind fun r1 =>
      spec_l4Exchange_l1 N (fun o6 o7 => some (((o6, o7), ()), ())) N x4 0 o3 o4 r1.1.1 [])) N c2 c3 r.1.1 0 c.1 c.2 [])
noncomputable def spec_l4Exchange_S (N : Nat) : FSum := ⟨spec_l4Exchange_ps, spec_l4Exchange_rs, fun x => spec_l4Exchange N x.1 x.2.1 x.2.2.1 x.2.2.2.1⟩
theorem spec_l4Exchange_run (N : Nat) (x : argsT spec_l4Exchange_ps) : spec_l4Exchange N x.1 x.2.1 x.2.2.1 x.2.2.2.1 = funF (spec_l4Exchange_G N) tab [spec_l4Exchange_l0_s N, spec_l4Exchange_l1_s N] Tryz.f72 spec_l4Exchange_ps spec_l4Exchange_rs x := by kernel_rfl
theorem spec_l4Exchange_pc (N : Nat) : PC Tryz.prog 72 (spec_l4Exchange_S N) := by
  have e : spec_l4Exchange_S N = ⟨spec_l4Exchange_ps, spec_l4Exchange_rs, funF (spec_l4Exchange_G N) tab [spec_l4Exchange_l0_s N, spec_l4Exchange_l1_s N] Tryz.f72 spec_l4Exchange_ps spec_l4Exchange_rs⟩ := congrArg (FSum.mk spec_l4Exchange_ps spec_l4Exchange_rs) (funext (spec_l4Exchange_run N))
  rw [e]
  exact fun_ok (c := spec_l4Exchange_code) progOk (spec_l4Exchange_gok N) (draw_ok progOk (spec_l4Exchange_gok N)) Tryz.call72 Tryz.func72 (by kernel_rfl) (lsOk_at (L := [spec_l4Exchange_l0_s N, spec_l4Exchange_l1_s N]) ⟨spec_l4Exchange_l0_ok N, spec_l4Exchange_l1_ok N, trivial⟩) (by kernel_rfl) (by kernel_rfl) (by kernel_rfl) (by kernel_rfl) (by kernel_rfl)

/-! ### spec_l2Index -/
abbrev spec_l2Index_ps : List (PV.Mode × Ty) := [(.ro, QLLILQII), (.ro, LI)]
abbrev spec_l2Index_rs : List (Bool × Ty) := [(true, I)]
noncomputable def spec_l2Index_G (N : Nat) : GTab := gOf [(101, spec_l1Same_S N)]
theorem spec_l2Index_gok (N : Nat) : GOk Tryz.prog (spec_l2Index_G N) := gOf_ok ⟨spec_l1Same_pc N, trivial⟩
noncomputable def spec_l2Index_code : Code := (Tryz.f61.body).getD .skip
noncomputable def spec_l2Index_l0_sh : Sh := ⟨[(1, .one (.ro LI)), (2, .one (.adr 0 0)), (5, .one (.ro I))], [.box [.ro LLI, .ro LQII]]⟩
noncomputable def spec_l2Index_l0_ex : List (Ex × Sh) := [(.ret, ⟨[(4, .one (.ro I))], []⟩), (.exit 0, ⟨[], []⟩)]
noncomputable def spec_l2Index_l0 {R : Type} (N : Nat) (k0 : Int → Option R) (k1 : Unit → Option R) : Nat → (List Int) → Int → (List (List Int)) → (List (Int × Int)) → Option R
  | 0, _, _, _, _ => none
  | K + 1, state1, i, o, o1 =>
    (br (ilt i (tLen o))
      ((chk (inb o i)
        ((spec_l1Same N (rdL o i) state1).bind fun r =>
        (br r.1.1
          (k0 i)
          (spec_l2Index_l0 N k0 k1 K state1 (IntKind.i64.wrap (i + 1)) o o1)))))
      (k1 ()))
noncomputable def spec_l2Index_l0_again {R : Type} (N : Nat) (ks : (j : Nat) → ((spec_l2Index_l0_ex.getD j (.ret, Sh.none)).2).T → Option R) (k : Nat) (x : spec_l2Index_l0_sh.T) : Option R :=
  spec_l2Index_l0 N (fun y0 => ks 0 ((y0, ()), ())) (fun (_ : Unit) => ks 1 ((), ())) k x.1.1 x.1.2.2.1 x.2.1.1 x.2.1.2.1
noncomputable def spec_l2Index_l0_s (N : Nat) : LSum := ⟨spec_l2Index_l0_sh, spec_l2Index_l0_ex, fun x ks => spec_l2Index_l0_again N ks N x⟩
theorem spec_l2Index_l0_step (N : Nat) (R : Type) (k : Nat) (x : spec_l2Index_l0_sh.T) (ks : (j : Nat) → ((spec_l2Index_l0_ex.getD j (.ret, Sh.none)).2).T → Option R) : spec_l2Index_l0_again N ks (k + 1) x = roundF (spec_l2Index_G N) tab [] (loopAt spec_l2Index_code 0) spec_l2Index_l0_sh spec_l2Index_l0_ex (fun y => spec_l2Index_l0_again N ks k y) ks x := by kernel_rfl
theorem spec_l2Index_l0_ok (N : Nat) : LoopOk Tryz.prog Tryz.f61.ntmps (spec_l2Index_l0_s N) (loopAt spec_l2Index_code 0) :=
  loop_ok (l := spec_l2Index_l0_s N) progOk (spec_l2Index_gok N) (draw_ok progOk (spec_l2Index_gok N)) (fun R k x ks => spec_l2Index_l0_again N ks k x) (fun _ _ _ => rfl) (fun R k x ks => spec_l2Index_l0_step N R k x ks) (fun R x ks r h => ⟨N, h⟩) (lsOk_at (L := []) trivial) (by kernel_rfl) (by kernel_rfl)
noncomputable def spec_l2Index (N : Nat) (x : ((List (List Int)) × (List (Int × Int)))) (state : (List Int)) : Option ((Int × Unit) × (Unit)) :=
  spec_l2Index_l0 N (fun x1 => some ((x1, ()), ())) (fun (_ : Unit) => some (((-1), ()), ())) N state 0 x.1 x.2
noncomputable def spec_l2Index_S (N : Nat) : FSum := ⟨spec_l2Index_ps, spec_l2Index_rs, fun x => spec_l2Index N x.1 x.2.1⟩
theorem spec_l2Index_run (N : Nat) (x : argsT spec_l2Index_ps) : spec_l2Index N x.1 x.2.1 = funF (spec_l2Index_G N) tab [spec_l2Index_l0_s N] Tryz.f61 spec_l2Index_ps spec_l2Index_rs x := by kernel_rfl
theorem spec_l2Index_pc (N : Nat) : PC Tryz.prog 61 (spec_l2Index_S N) := by
  have e : spec_l2Index_S N = ⟨spec_l2Index_ps, spec_l2Index_rs, funF (spec_l2Index_G N) tab [spec_l2Index_l0_s N] Tryz.f61 spec_l2Index_ps spec_l2Index_rs⟩ := congrArg (FSum.mk spec_l2Index_ps spec_l2Index_rs) (funext (spec_l2Index_run N))
  rw [e]
  exact fun_ok (c := spec_l2Index_code) progOk (spec_l2Index_gok N) (draw_ok progOk (spec_l2Index_gok N)) Tryz.call61 Tryz.func61 (by kernel_rfl) (lsOk_at (L := [spec_l2Index_l0_s N]) ⟨spec_l2Index_l0_ok N, trivial⟩) (by kernel_rfl) (by kernel_rfl) (by kernel_rfl) (by kernel_rfl) (by kernel_rfl)

/-! ### spec_l2Lists -/
abbrev spec_l2Lists_ps : List (PV.Mode × Ty) := [(.ro, QLLILQII)]
abbrev spec_l2Lists_rs : List (Bool × Ty) := [(true, LLI)]
noncomputable def spec_l2Lists_G (N : Nat) : GTab := gOf []
theorem spec_l2Lists_gok (N : Nat) : GOk Tryz.prog (spec_l2Lists_G N) := gOf_ok trivial
noncomputable def spec_l2Lists_code : Code := (Tryz.f100.body).getD .skip
noncomputable def spec_l2Lists_l0_sh : Sh := ⟨[(1, .one (.adr 0 0)), (3, .one (.ref 1)), (4, .one (.ro I))], [.box [.ro LLI, .ro LQII], .sl 40 LI .deep]⟩
noncomputable def spec_l2Lists_l0_ex : List (Ex × Sh) := [(.exit 0, ⟨[(1, .one (.adr 0 0)), (3, .one (.ref 1))], [.box [.ro LLI, .ro LQII], .sl 40 LI .deep]⟩)]
noncomputable def spec_l2Lists_l0 {R : Type} (N : Nat) (k0 : (List (List Int)) → (List (Int × Int)) → (List (List Int)) → Option R) : Nat → Int → (List (List Int)) → (List (Int × Int)) → (List (List Int)) → Option R
  | 0, _, _, _, _ => none
  | K + 1, x, o, o1, o2 =>
    (br (ilt x (tLen o1))
      ((chk (inb o1 x)
        (chk (inb o1 x)
        (chk (inb o2 ((rdP o1 x).2))
        (chk (room (rdL o2 ((rdP o1 x).2)) [(rdP o1 x).1])
        (chk (inb o2 ((rdP o1 x).2))
        (chk (ieq ((rdP o1 x).2) ((rdP o1 x).2))
        (spec_l2Lists_l0 N k0 K (IntKind.i64.wrap (x + 1)) o o1 (tSet o2 ((rdP o1 x).2) (tApp (rdL o2 ((rdP o1 x).2)) [(rdP o1 x).1]))))))))))
      (k0 o o1 o2))
noncomputable def spec_l2Lists_l0_again {R : Type} (N : Nat) (ks : (j : Nat) → ((spec_l2Lists_l0_ex.getD j (.ret, Sh.none)).2).T → Option R) (k : Nat) (x : spec_l2Lists_l0_sh.T) : Option R :=
  spec_l2Lists_l0 N (fun y0 y1 y2 => ks 0 (((), (), ()), ((y0, y1, ()), y2, ()))) k x.1.2.2.1 x.2.1.1 x.2.1.2.1 x.2.2.1
noncomputable def spec_l2Lists_l0_s (N : Nat) : LSum := ⟨spec_l2Lists_l0_sh, spec_l2Lists_l0_ex, fun x ks => spec_l2Lists_l0_again N ks N x⟩
theorem spec_l2Lists_l0_step (N : Nat) (R : Type) (k : Nat) (x : spec_l2Lists_l0_sh.T) (ks : (j : Nat) → ((spec_l2Lists_l0_ex.getD j (.ret, Sh.none)).2).T → Option R) : spec_l2Lists_l0_again N ks (k + 1) x = roundF (spec_l2Lists_G N) tab [] (loopAt spec_l2Lists_code 0) spec_l2Lists_l0_sh spec_l2Lists_l0_ex (fun y => spec_l2Lists_l0_again N ks k y) ks x := by kernel_rfl
theorem spec_l2Lists_l0_ok (N : Nat) : LoopOk Tryz.prog Tryz.f100.ntmps (spec_l2Lists_l0_s N) (loopAt spec_l2Lists_code 0) :=
  loop_ok (l := spec_l2Lists_l0_s N) progOk (spec_l2Lists_gok N) (draw_ok progOk (spec_l2Lists_gok N)) (fun R k x ks => spec_l2Lists_l0_again N ks k x) (fun _ _ _ => rfl) (fun R k x ks => spec_l2Lists_l0_step N R k x ks) (fun R x ks r h => ⟨N, h⟩) (lsOk_at (L := []) trivial) (by kernel_rfl) (by kernel_rfl)
noncomputable def spec_l2Lists_l1_sh : Sh := ⟨[(1, .one (.adr 0 0)), (3, .one (.ref 1)), (7, .one (.ro I))], [.box [.ro LLI, .ro LQII], .sl 40 LI .deep]⟩
noncomputable def spec_l2Lists_l1_ex : List (Ex × Sh) := [(.exit 2, ⟨[(3, .one (.ref 0))], [.sl 40 LI .deep]⟩)]
noncomputable def spec_l2Lists_l1 {R : Type} (N : Nat) (k0 : (List (List Int)) → Option R) : Nat → Int → (List (List Int)) → (List (Int × Int)) → (List (List Int)) → Option R
  | 0, _, _, _, _ => none
  | K + 1, x, o3, o4, o5 =>
    (br (ilt x (tLen o4))
      ((chk (inb o4 x)
        (chk (inb o4 x)
        (chk (inb o5 ((rdP o4 x).1))
        (chk (room (rdL o5 ((rdP o4 x).1)) [(rdP o4 x).2])
        (chk (inb o5 ((rdP o4 x).1))
        (chk (ieq ((rdP o4 x).1) ((rdP o4 x).1))
        (spec_l2Lists_l1 N k0 K (IntKind.i64.wrap (x + 1)) o3 o4 (tSet o5 ((rdP o4 x).1) (tApp (rdL o5 ((rdP o4 x).1)) [(rdP o4 x).2]))))))))))
      (k0 o5))
noncomputable def spec_l2Lists_l1_again {R : Type} (N : Nat) (ks : (j : Nat) → ((spec_l2Lists_l1_ex.getD j (.ret, Sh.none)).2).T → Option R) (k : Nat) (x : spec_l2Lists_l1_sh.T) : Option R :=
  spec_l2Lists_l1 N (fun y0 => ks 0 (((), ()), (y0, ()))) k x.1.2.2.1 x.2.1.1 x.2.1.2.1 x.2.2.1
noncomputable def spec_l2Lists_l1_s (N : Nat) : LSum := ⟨spec_l2Lists_l1_sh, spec_l2Lists_l1_ex, fun x ks => spec_l2Lists_l1_again N ks N x⟩
theorem spec_l2Lists_l1_step (N : Nat) (R : Type) (k : Nat) (x : spec_l2Lists_l1_sh.T) (ks : (j : Nat) → ((spec_l2Lists_l1_ex.getD j (.ret, Sh.none)).2).T → Option R) : spec_l2Lists_l1_again N ks (k + 1) x = roundF (spec_l2Lists_G N) tab [] (loopAt spec_l2Lists_code 1) spec_l2Lists_l1_sh spec_l2Lists_l1_ex (fun y => spec_l2Lists_l1_again N ks k y) ks x := by kernel_rfl
theorem spec_l2Lists_l1_ok (N : Nat) : LoopOk Tryz.prog Tryz.f100.ntmps (spec_l2Lists_l1_s N) (loopAt spec_l2Lists_code 1) :=
  loop_ok (l := spec_l2Lists_l1_s N) progOk (spec_l2Lists_gok N) (draw_ok progOk (spec_l2Lists_gok N)) (fun R k x ks => spec_l2Lists_l1_again N ks k x) (fun _ _ _ => rfl) (fun R k x ks => spec_l2Lists_l1_step N R k x ks) (fun R x ks r h => ⟨N, h⟩) (lsOk_at (L := []) trivial) (by kernel_rfl) (by kernel_rfl)
noncomputable def spec_l2Lists (N : Nat) (c : ((List (List Int)) × (List (Int × Int)))) : Option (((List (List Int)) × Unit) × (Unit)) :=
  (chk (ile 0 (tLen c.1) && ile (tLen c.1) (tLen c.1) && fits (tLen c.1))
    (spec_l2Lists_l0 N (fun o o1 o2 => spec_l2Lists_l1 N (fun o3 => some ((o3, ()), ())) N 0 o o1 o2) N 0 c.1 c.2 (tRep (tLen c.1) [])))
noncomputable def spec_l2Lists_S (N : Nat) : FSum := ⟨spec_l2Lists_ps, spec_l2Lists_rs, fun x => spec_l2Lists N x.1⟩
theorem spec_l2Lists_run (N : Nat) (x : argsT spec_l2Lists_ps) : spec_l2Lists N x.1 = funF (spec_l2Lists_G N) tab [spec_l2Lists_l0_s N, spec_l2Lists_l1_s N] Tryz.f100 spec_l2Lists_ps spec_l2Lists_rs x := by kernel_rfl
theorem spec_l2Lists_pc (N : Nat) : PC Tryz.prog 100 (spec_l2Lists_S N) := by
  have e : spec_l2Lists_S N = ⟨spec_l2Lists_ps, spec_l2Lists_rs, funF (spec_l2Lists_G N) tab [spec_l2Lists_l0_s N, spec_l2Lists_l1_s N] Tryz.f100 spec_l2Lists_ps spec_l2Lists_rs⟩ := congrArg (FSum.mk spec_l2Lists_ps spec_l2Lists_rs) (funext (spec_l2Lists_run N))
  rw [e]
  exact fun_ok (c := spec_l2Lists_code) progOk (spec_l2Lists_gok N) (draw_ok progOk (spec_l2Lists_gok N)) Tryz.call100 Tryz.func100 (by kernel_rfl) (lsOk_at (L := [spec_l2Lists_l0_s N, spec_l2Lists_l1_s N]) ⟨spec_l2Lists_l0_ok N, spec_l2Lists_l1_ok N, trivial⟩) (by kernel_rfl) (by kernel_rfl) (by kernel_rfl) (by kernel_rfl) (by kernel_rfl)

/-! ### spec_l2Spread -/
abbrev spec_l2Spread_ps : List (PV.Mode × Ty) := [(.ro, LLI), (.ro, I)]
abbrev spec_l2Spread_rs : List (Bool × Ty) := [(true, LI)]
noncomputable def spec_l2Spread_G (N : Nat) : GTab := gOf []
theorem spec_l2Spread_gok (N : Nat) : GOk Tryz.prog (spec_l2Spread_G N) := gOf_ok trivial
noncomputable def spec_l2Spread_code : Code := (Tryz.f99.body).getD .skip
noncomputable def spec_l2Spread_l0_sh : Sh := ⟨[(0, .one (.ro LLI)), (1, .one (.ro I)), (5, .one (.ref 0)), (6, .one (.ro I))], [.sl 3 I .own]⟩
noncomputable def spec_l2Spread_l0_ex : List (Ex × Sh) := [(.exit 0, ⟨[(0, .one (.ro LLI)), (1, .one (.ro I)), (5, .one (.ref 0))], [.sl 3 I .own]⟩)]
noncomputable def spec_l2Spread_l0 {R : Type} (N : Nat) (k0 : (List (List Int)) → Int → (List Int) → Option R) : Nat → (List (List Int)) → Int → Int → (List Int) → Option R
  | 0, _, _, _, _ => none
  | K + 1, x, x1, x2, o =>
    (br (ilt x2 (tLen o))
      ((chk (inb o x2)
        (spec_l2Spread_l0 N k0 K x x1 (IntKind.i64.wrap (x2 + 1)) (tSet o x2 (-1)))))
      (k0 x x1 o))
noncomputable def spec_l2Spread_l0_again {R : Type} (N : Nat) (ks : (j : Nat) → ((spec_l2Spread_l0_ex.getD j (.ret, Sh.none)).2).T → Option R) (k : Nat) (x : spec_l2Spread_l0_sh.T) : Option R :=
  spec_l2Spread_l0 N (fun y0 y1 y2 => ks 0 ((y0, y1, (), ()), (y2, ()))) k x.1.1 x.1.2.1 x.1.2.2.2.1 x.2.1
noncomputable def spec_l2Spread_l0_s (N : Nat) : LSum := ⟨spec_l2Spread_l0_sh, spec_l2Spread_l0_ex, fun x ks => spec_l2Spread_l0_again N ks N x⟩
theorem spec_l2Spread_l0_step (N : Nat) (R : Type) (k : Nat) (x : spec_l2Spread_l0_sh.T) (ks : (j : Nat) → ((spec_l2Spread_l0_ex.getD j (.ret, Sh.none)).2).T → Option R) : spec_l2Spread_l0_again N ks (k + 1) x = roundF (spec_l2Spread_G N) tab [] (loopAt spec_l2Spread_code 0) spec_l2Spread_l0_sh spec_l2Spread_l0_ex (fun y => spec_l2Spread_l0_again N ks k y) ks x := by kernel_rfl
theorem spec_l2Spread_l0_ok (N : Nat) : LoopOk Tryz.prog Tryz.f99.ntmps (spec_l2Spread_l0_s N) (loopAt spec_l2Spread_code 0) :=
  loop_ok (l := spec_l2Spread_l0_s N) progOk (spec_l2Spread_gok N) (draw_ok progOk (spec_l2Spread_gok N)) (fun R k x ks => spec_l2Spread_l0_again N ks k x) (fun _ _ _ => rfl) (fun R k x ks => spec_l2Spread_l0_step N R k x ks) (fun R x ks r h => ⟨N, h⟩) (lsOk_at (L := []) trivial) (by kernel_rfl) (by kernel_rfl)
noncomputable def spec_l2Spread_l1_0_sh : Sh := ⟨[(0, .one (.ro LLI)), (5, .one (.ref 0)), (7, .one (.ref 1)), (8, .one (.ro I)), (9, .one (.ro LI)), (10, .one (.ro I))], [.sl 3 I .own, .sl 3 I .own]⟩
noncomputable def spec_l2Spread_l1_0_ex : List (Ex × Sh) := [(.exit 4, ⟨[(0, .one (.ro LLI)), (5, .one (.ref 0)), (7, .one (.ref 1)), (8, .one (.ro I))], [.sl 3 I .own, .sl 3 I .own]⟩)]
noncomputable def spec_l2Spread_l1_0 {R : Type} (N : Nat) (k0 : (List (List Int)) → Int → (List Int) → (List Int) → Option R) : Nat → (List (List Int)) → Int → (List Int) → Int → (List Int) → (List Int) → Option R
  | 0, _, _, _, _, _, _ => none
  | K + 1, x4, x5, x6, x7, o3, o4 =>
    (br (ilt x7 (tLen x6))
      ((chk (inb x6 x7)
        (chk (inb o3 (rdI x6 x7))
        (br (ilt (rdI o3 (rdI x6 x7)) 0)
        ((chk (inb x6 x7)
          (chk (inb o4 x5)
          (chk (inb o3 (rdI o4 x5))
          (chk (inb o3 (rdI x6 x7))
          (chk (inb x6 x7)
          (chk (room o4 [(rdI x6 x7)])
          (spec_l2Spread_l1_0 N k0 K x4 x5 x6 (IntKind.i64.wrap (x7 + 1)) (tSet o3 (rdI x6 x7) (IntKind.i64.wrap ((rdI o3 (rdI o4 x5)) + 1))) (tApp o4 [(rdI x6 x7)])))))))))
        (spec_l2Spread_l1_0 N k0 K x4 x5 x6 (IntKind.i64.wrap (x7 + 1)) o3 o4)))))
      (k0 x4 x5 o3 o4))
noncomputable def spec_l2Spread_l1_0_again {R : Type} (N : Nat) (ks : (j : Nat) → ((spec_l2Spread_l1_0_ex.getD j (.ret, Sh.none)).2).T → Option R) (k : Nat) (x : spec_l2Spread_l1_0_sh.T) : Option R :=
  spec_l2Spread_l1_0 N (fun y0 y1 y2 y3 => ks 0 ((y0, (), (), y1, ()), (y2, y3, ()))) k x.1.1 x.1.2.2.2.1 x.1.2.2.2.2.1 x.1.2.2.2.2.2.1 x.2.1 x.2.2.1
noncomputable def spec_l2Spread_l1_0_s (N : Nat) : LSum := ⟨spec_l2Spread_l1_0_sh, spec_l2Spread_l1_0_ex, fun x ks => spec_l2Spread_l1_0_again N ks N x⟩
theorem spec_l2Spread_l1_0_step (N : Nat) (R : Type) (k : Nat) (x : spec_l2Spread_l1_0_sh.T) (ks : (j : Nat) → ((spec_l2Spread_l1_0_ex.getD j (.ret, Sh.none)).2).T → Option R) : spec_l2Spread_l1_0_again N ks (k + 1) x = roundF (spec_l2Spread_G N) tab [] (loopAt (loopAt spec_l2Spread_code 1) 0) spec_l2Spread_l1_0_sh spec_l2Spread_l1_0_ex (fun y => spec_l2Spread_l1_0_again N ks k y) ks x := by kernel_rfl
theorem spec_l2Spread_l1_0_ok (N : Nat) : LoopOk Tryz.prog Tryz.f99.ntmps (spec_l2Spread_l1_0_s N) (loopAt (loopAt spec_l2Spread_code 1) 0) :=
  loop_ok (l := spec_l2Spread_l1_0_s N) progOk (spec_l2Spread_gok N) (draw_ok progOk (spec_l2Spread_gok N)) (fun R k x ks => spec_l2Spread_l1_0_again N ks k x) (fun _ _ _ => rfl) (fun R k x ks => spec_l2Spread_l1_0_step N R k x ks) (fun R x ks r h => ⟨N, h⟩) (lsOk_at (L := []) trivial) (by kernel_rfl) (by kernel_rfl)
noncomputable def spec_l2Spread_l1_sh : Sh := ⟨[(0, .one (.ro LLI)), (5, .one (.ref 0)), (7, .one (.ref 1)), (8, .one (.ro I))], [.sl 3 I .own, .sl 3 I .own]⟩
noncomputable def spec_l2Spread_l1_ex : List (Ex × Sh) := [(.exit 2, ⟨[(5, .one (.ref 0))], [.sl 3 I .own]⟩)]
noncomputable def spec_l2Spread_l1 {R : Type} (N : Nat) (k0 : (List Int) → Option R) : Nat → (List (List Int)) → Int → (List Int) → (List Int) → Option R
  | 0, _, _, _, _ => none
  | K + 1, x2, x3, o1, o2 =>
    (br (ilt x3 (tLen o2))
      ((chk (inb o2 x3)
        (chk (inb x2 (rdI o2 x3))
        (spec_l2Spread_l1_0 N (fun x4 x5 o3 o4 => spec_l2Spread_l1 N k0 K x4 (IntKind.i64.wrap (x5 + 1)) o3 o4) N x2 x3 (rdL x2 (rdI o2 x3)) 0 o1 o2))))
      (k0 o1))
noncomputable def spec_l2Spread_l1_again {R : Type} (N : Nat) (ks : (j : Nat) → ((spec_l2Spread_l1_ex.getD j (.ret, Sh.none)).2).T → Option R) (k : Nat) (x : spec_l2Spread_l1_sh.T) : Option R :=
  spec_l2Spread_l1 N (fun y0 => ks 0 (((), ()), (y0, ()))) k x.1.1 x.1.2.2.2.1 x.2.1 x.2.2.1
noncomputable def spec_l2Spread_l1_s (N : Nat) : LSum := ⟨spec_l2Spread_l1_sh, spec_l2Spread_l1_ex, fun x ks => spec_l2Spread_l1_again N ks N x⟩
theorem spec_l2Spread_l1_step (N : Nat) (R : Type) (k : Nat) (x : spec_l2Spread_l1_sh.T) (ks : (j : Nat) → ((spec_l2Spread_l1_ex.getD j (.ret, Sh.none)).2).T → Option R) : spec_l2Spread_l1_again N ks (k + 1) x = roundF (spec_l2Spread_G N) tab [spec_l2Spread_l1_0_s N] (loopAt spec_l2Spread_code 1) spec_l2Spread_l1_sh spec_l2Spread_l1_ex (fun y => spec_l2Spread_l1_again N ks k y) ks x := by kernel_rfl
theorem spec_l2Spread_l1_ok (N : Nat) : LoopOk Tryz.prog Tryz.f99.ntmps (spec_l2Spread_l1_s N) (loopAt spec_l2Spread_code 1) :=
  loop_ok (l := spec_l2Spread_l1_s N) progOk (spec_l2Spread_gok N) (draw_ok progOk (spec_l2Spread_gok N)) (fun R k x ks => spec_l2Spread_l1_again N ks k x) (fun _ _ _ => rfl) (fun R k x ks => spec_l2Spread_l1_step N R k x ks) (fun R x ks r h => ⟨N, h⟩) (lsOk_at (L := [spec_l2Spread_l1_0_s N]) ⟨spec_l2Spread_l1_0_ok N, trivial⟩) (by kernel_rfl) (by kernel_rfl)
noncomputable def spec_l2Spread (N : Nat) (c : (List (List Int))) (c1 : Int) : Option (((List Int) × Unit) × (Unit)) :=
  (chk (ile 0 (tLen c) && ile (tLen c) (tLen c) && fits (tLen c))
    (spec_l2Spread_l0 N (fun x x1 o => (chk (inb o x1)
    (spec_l2Spread_l1 N (fun o1 => some ((o1, ()), ())) N x 0 (tSet o x1 0) [x1]))) N c c1 0 (tRep (tLen c) (0 : Int))))
noncomputable def spec_l2Spread_S (N : Nat) : FSum := ⟨spec_l2Spread_ps, spec_l2Spread_rs, fun x => spec_l2Spread N x.1 x.2.1⟩
theorem spec_l2Spread_run (N : Nat) (x : argsT spec_l2Spread_ps) : spec_l2Spread N x.1 x.2.1 = funF (spec_l2Spread_G N) tab [spec_l2Spread_l0_s N, spec_l2Spread_l1_s N] Tryz.f99 spec_l2Spread_ps spec_l2Spread_rs x := by kernel_rfl
theorem spec_l2Spread_pc (N : Nat) : PC Tryz.prog 99 (spec_l2Spread_S N) := by
  have e : spec_l2Spread_S N = ⟨spec_l2Spread_ps, spec_l2Spread_rs, funF (spec_l2Spread_G N) tab [spec_l2Spread_l0_s N, spec_l2Spread_l1_s N] Tryz.f99 spec_l2Spread_ps spec_l2Spread_rs⟩ := congrArg (FSum.mk spec_l2Spread_ps spec_l2Spread_rs) (funext (spec_l2Spread_run N))
  rw [e]
  exact fun_ok (c := spec_l2Spread_code) progOk (spec_l2Spread_gok N) (draw_ok progOk (spec_l2Spread_gok N)) Tryz.call99 Tryz.func99 (by kernel_rfl) (lsOk_at (L := [spec_l2Spread_l0_s N, spec_l2Spread_l1_s N]) ⟨spec_l2Spread_l0_ok N, spec_l2Spread_l1_ok N, trivial⟩) (by kernel_rfl) (by kernel_rfl) (by kernel_rfl) (by kernel_rfl) (by kernel_rfl)

/-! ### spec_l2Walk -/
abbrev spec_l2Walk_ps : List (PV.Mode × Ty) := [(.ro, QLLILQII), (.ro, I), (.ro, I)]
abbrev spec_l2Walk_rs : List (Bool × Ty) := [(true, LI)]
noncomputable def spec_l2Walk_G (N : Nat) : GTab := gOf [(100, spec_l2Lists_S N), (99, spec_l2Spread_S N)]
theorem spec_l2Walk_gok (N : Nat) : GOk Tryz.prog (spec_l2Walk_G N) := gOf_ok ⟨spec_l2Lists_pc N, spec_l2Spread_pc N, trivial⟩
noncomputable def spec_l2Walk_code : Code := (Tryz.f73.body).getD .skip
noncomputable def spec_l2Walk_l0_0_sh : Sh := ⟨[(1, .one (.ro I)), (2, .one (.ro I)), (7, .one (.ref 0)), (8, .one (.ref 1)), (9, .one (.ref 2)), (10, .one (.ro I))], [.sl 40 LI .deep, .sl 3 I .own, .sl 3 I .own]⟩
noncomputable def spec_l2Walk_l0_0_ex : List (Ex × Sh) := [(.exit 2, ⟨[(1, .one (.ro I)), (2, .one (.ro I)), (7, .one (.ref 0)), (8, .one (.ref 1)), (9, .one (.ref 2)), (10, .one (.ro I))], [.sl 40 LI .deep, .sl 3 I .own, .sl 3 I .own]⟩)]
noncomputable def spec_l2Walk_l0_0 {R : Type} (N : Nat) (k0 : Int → Int → Int → (List (List Int)) → (List Int) → (List Int) → Option R) : Nat → Int → Int → Int → (List (List Int)) → (List Int) → (List Int) → Option R
  | 0, _, _, _, _, _, _ => none
  | K + 1, i2, j2, kv, o3, o4, o5 =>
    (chk (inb o3 i2)
      (chk (inb (rdL o3 i2) kv)
      (chk (inb o4 (rdI (rdL o3 i2) kv))
      (chk (inb o4 i2)
      (br (ine (rdI o4 (rdI (rdL o3 i2) kv)) (IntKind.i64.wrap ((rdI o4 i2) - 1)))
      (spec_l2Walk_l0_0 N k0 K i2 j2 (IntKind.i64.wrap (kv + 1)) o3 o4 o5)
      (k0 i2 j2 kv o3 o4 o5))))))
noncomputable def spec_l2Walk_l0_0_again {R : Type} (N : Nat) (ks : (j : Nat) → ((spec_l2Walk_l0_0_ex.getD j (.ret, Sh.none)).2).T → Option R) (k : Nat) (x : spec_l2Walk_l0_0_sh.T) : Option R :=
  spec_l2Walk_l0_0 N (fun y0 y1 y2 y3 y4 y5 => ks 0 ((y0, y1, (), (), (), y2, ()), (y3, y4, y5, ()))) k x.1.1 x.1.2.1 x.1.2.2.2.2.2.1 x.2.1 x.2.2.1 x.2.2.2.1
noncomputable def spec_l2Walk_l0_0_s (N : Nat) : LSum := ⟨spec_l2Walk_l0_0_sh, spec_l2Walk_l0_0_ex, fun x ks => spec_l2Walk_l0_0_again N ks N x⟩
theorem spec_l2Walk_l0_0_step (N : Nat) (R : Type) (k : Nat) (x : spec_l2Walk_l0_0_sh.T) (ks : (j : Nat) → ((spec_l2Walk_l0_0_ex.getD j (.ret, Sh.none)).2).T → Option R) : spec_l2Walk_l0_0_again N ks (k + 1) x = roundF (spec_l2Walk_G N) tab [] (loopAt (loopAt spec_l2Walk_code 0) 0) spec_l2Walk_l0_0_sh spec_l2Walk_l0_0_ex (fun y => spec_l2Walk_l0_0_again N ks k y) ks x := by kernel_rfl
theorem spec_l2Walk_l0_0_ok (N : Nat) : LoopOk Tryz.prog Tryz.f73.ntmps (spec_l2Walk_l0_0_s N) (loopAt (loopAt spec_l2Walk_code 0) 0) :=
  loop_ok (l := spec_l2Walk_l0_0_s N) progOk (spec_l2Walk_gok N) (draw_ok progOk (spec_l2Walk_gok N)) (fun R k x ks => spec_l2Walk_l0_0_again N ks k x) (fun _ _ _ => rfl) (fun R k x ks => spec_l2Walk_l0_0_step N R k x ks) (fun R x ks r h => ⟨N, h⟩) (lsOk_at (L := []) trivial) (by kernel_rfl) (by kernel_rfl)
noncomputable def spec_l2Walk_l0_sh : Sh := ⟨[(1, .one (.ro I)), (2, .one (.ro I)), (7, .one (.ref 0)), (8, .one (.ref 1)), (9, .one (.ref 2))], [.sl 40 LI .deep, .sl 3 I .own, .sl 3 I .own]⟩
noncomputable def spec_l2Walk_l0_ex : List (Ex × Sh) := [(.exit 0, ⟨[(9, .one (.ref 0))], [.sl 3 I .own]⟩)]
noncomputable def spec_l2Walk_l0 {R : Type} (N : Nat) (k0 : (List Int) → Option R) : Nat → Int → Int → (List (List Int)) → (List Int) → (List Int) → Option R
  | 0, _, _, _, _, _ => none
  | K + 1, i1, j1, o, o1, o2 =>
    (br (ine i1 j1)
      (spec_l2Walk_l0_0 N (fun i2 j2 kv o3 o4 o5 => (chk (inb o3 i2)
        (chk (inb (rdL o3 i2) kv)
        (chk (room o5 [(rdI (rdL o3 i2) kv)])
        (spec_l2Walk_l0 N k0 K (rdI (rdL o3 i2) kv) j2 o3 o4 (tApp o5 [(rdI (rdL o3 i2) kv)])))))) N i1 j1 0 o o1 o2)
      (k0 o2))
noncomputable def spec_l2Walk_l0_again {R : Type} (N : Nat) (ks : (j : Nat) → ((spec_l2Walk_l0_ex.getD j (.ret, Sh.none)).2).T → Option R) (k : Nat) (x : spec_l2Walk_l0_sh.T) : Option R :=
  spec_l2Walk_l0 N (fun y0 => ks 0 (((), ()), (y0, ()))) k x.1.1 x.1.2.1 x.2.1 x.2.2.1 x.2.2.2.1
noncomputable def spec_l2Walk_l0_s (N : Nat) : LSum := ⟨spec_l2Walk_l0_sh, spec_l2Walk_l0_ex, fun x ks => spec_l2Walk_l0_again N ks N x⟩
theorem spec_l2Walk_l0_step (N : Nat) (R : Type) (k : Nat) (x : spec_l2Walk_l0_sh.T) (ks : (j : Nat) → ((spec_l2Walk_l0_ex.getD j (.ret, Sh.none)).2).T → Option R) : spec_l2Walk_l0_again N ks (k + 1) x = roundF (spec_l2Walk_G N) tab [spec_l2Walk_l0_0_s N] (loopAt spec_l2Walk_code 0) spec_l2Walk_l0_sh spec_l2Walk_l0_ex (fun y => spec_l2Walk_l0_again N ks k y) ks x := by kernel_rfl
theorem spec_l2Walk_l0_ok (N : Nat) : LoopOk Tryz.prog Tryz.f73.ntmps (spec_l2Walk_l0_s N) (loopAt spec_l2Walk_code 0) :=
  loop_ok (l := spec_l2Walk_l0_s N) progOk (spec_l2Walk_gok N) (draw_ok progOk (spec_l2Walk_gok N)) (fun R k x ks => spec_l2Walk_l0_again N ks k x) (fun _ _ _ => rfl) (fun R k x ks => spec_l2Walk_l0_step N R k x ks) (fun R x ks r h => ⟨N, h⟩) (lsOk_at (L := [spec_l2Walk_l0_0_s N]) ⟨spec_l2Walk_l0_0_ok N, trivial⟩) (by kernel_rfl) (by kernel_rfl)
noncomputable def spec_l2Walk (N : Nat) (x : ((List (List Int)) × (List (Int × Int)))) (i : Int) (j : Int) : Option (((List Int) × Unit) × (Unit)) :=
  ((spec_l2Lists N (x.1, x.2)).bind fun r =>
    ((spec_l2Spread N r.1.1 j).bind fun r1 =>
      (chk (inb r1.1.1 i)
        (br (ilt (rdI r1.1.1 i) 0)
        (some (([], ()), ()))
        (spec_l2Walk_l0 N (fun o => some ((o, ()), ())) N i j r.1.1 r1.1.1 [i])))))
noncomputable def spec_l2Walk_S (N : Nat) : FSum := ⟨spec_l2Walk_ps, spec_l2Walk_rs, fun x => spec_l2Walk N x.1 x.2.1 x.2.2.1⟩
theorem spec_l2Walk_run (N : Nat) (x : argsT spec_l2Walk_ps) : spec_l2Walk N x.1 x.2.1 x.2.2.1 = funF (spec_l2Walk_G N) tab [spec_l2Walk_l0_s N] Tryz.f73 spec_l2Walk_ps spec_l2Walk_rs x := by kernel_rfl
theorem spec_l2Walk_pc (N : Nat) : PC Tryz.prog 73 (spec_l2Walk_S N) := by
  have e : spec_l2Walk_S N = ⟨spec_l2Walk_ps, spec_l2Walk_rs, funF (spec_l2Walk_G N) tab [spec_l2Walk_l0_s N] Tryz.f73 spec_l2Walk_ps spec_l2Walk_rs⟩ := congrArg (FSum.mk spec_l2Walk_ps spec_l2Walk_rs) (funext (spec_l2Walk_run N))
  rw [e]
  exact fun_ok (c := spec_l2Walk_code) progOk (spec_l2Walk_gok N) (draw_ok progOk (spec_l2Walk_gok N)) Tryz.call73 Tryz.func73 (by kernel_rfl) (lsOk_at (L := [spec_l2Walk_l0_s N]) ⟨spec_l2Walk_l0_ok N, trivial⟩) (by kernel_rfl) (by kernel_rfl) (by kernel_rfl) (by kernel_rfl) (by kernel_rfl)

/-! ### spec_l1Own -/
abbrev spec_l1Own_ps : List (PV.Mode × Ty) := [(.ro, LI)]
abbrev spec_l1Own_rs : List (Bool × Ty) := [(true, LI)]
noncomputable def spec_l1Own_G (N : Nat) : GTab := gOf []
theorem spec_l1Own_gok (N : Nat) : GOk Tryz.prog (spec_l1Own_G N) := gOf_ok trivial
noncomputable def spec_l1Own_code : Code := (Tryz.f115.body).getD .skip
noncomputable def spec_l1Own (N : Nat) (l : (List Int)) : Option (((List Int) × Unit) × (Unit)) :=
  (chk (room (α := Int) (β := Int) [] l)
    (some (((tApp [] l), ()), ())))
noncomputable def spec_l1Own_S (N : Nat) : FSum := ⟨spec_l1Own_ps, spec_l1Own_rs, fun x => spec_l1Own N x.1⟩
theorem spec_l1Own_run (N : Nat) (x : argsT spec_l1Own_ps) : spec_l1Own N x.1 = funF (spec_l1Own_G N) tab [] Tryz.f115 spec_l1Own_ps spec_l1Own_rs x := by kernel_rfl
theorem spec_l1Own_pc (N : Nat) : PC Tryz.prog 115 (spec_l1Own_S N) := by
  have e : spec_l1Own_S N = ⟨spec_l1Own_ps, spec_l1Own_rs, funF (spec_l1Own_G N) tab [] Tryz.f115 spec_l1Own_ps spec_l1Own_rs⟩ := congrArg (FSum.mk spec_l1Own_ps spec_l1Own_rs) (funext (spec_l1Own_run N))
  rw [e]
  exact fun_ok (c := spec_l1Own_code) progOk (spec_l1Own_gok N) (draw_ok progOk (spec_l1Own_gok N)) Tryz.call115 Tryz.func115 (by kernel_rfl) (lsOk_at (L := []) trivial) (by kernel_rfl) (by kernel_rfl) (by kernel_rfl) (by kernel_rfl) (by kernel_rfl)

/-! ### spec_l4Named -/
abbrev spec_l4Named_ps : List (PV.Mode × Ty) := [(.ro, QLLILQII), (.ro, LI)]
abbrev spec_l4Named_rs : List (Bool × Ty) := [(true, LLI)]
noncomputable def spec_l4Named_G (N : Nat) : GTab := gOf [(115, spec_l1Own_S N)]
theorem spec_l4Named_gok (N : Nat) : GOk Tryz.prog (spec_l4Named_G N) := gOf_ok ⟨spec_l1Own_pc N, trivial⟩
noncomputable def spec_l4Named_code : Code := (Tryz.f74.body).getD .skip
noncomputable def spec_l4Named_l0_sh : Sh := ⟨[(1, .one (.ro LI)), (2, .one (.adr 0 0)), (5, .one (.ref 1)), (6, .one (.ro I))], [.box [.ro LLI, .ro LQII], .sl 40 LI .deep]⟩
noncomputable def spec_l4Named_l0_ex : List (Ex × Sh) := [(.exit 0, ⟨[(5, .one (.ref 0))], [.sl 40 LI .deep]⟩)]
noncomputable def spec_l4Named_l0 {R : Type} (N : Nat) (k0 : (List (List Int)) → Option R) : Nat → (List Int) → Int → (List (List Int)) → (List (Int × Int)) → (List (List Int)) → Option R
  | 0, _, _, _, _, _ => none
  | K + 1, walk1, i, o, o1, o2 =>
    (br (ilt i (tLen walk1))
      ((chk (inb walk1 i)
        (chk (inb o (rdI walk1 i))
        ((spec_l1Own N (rdL o (rdI walk1 i))).bind fun r =>
        (chk (room o2 [r.1.1])
          (spec_l4Named_l0 N k0 K walk1 (IntKind.i64.wrap (i + 1)) o o1 (tApp o2 [r.1.1])))))))
      (k0 o2))
noncomputable def spec_l4Named_l0_again {R : Type} (N : Nat) (ks : (j : Nat) → ((spec_l4Named_l0_ex.getD j (.ret, Sh.none)).2).T → Option R) (k : Nat) (x : spec_l4Named_l0_sh.T) : Option R :=
  spec_l4Named_l0 N (fun y0 => ks 0 (((), ()), (y0, ()))) k x.1.1 x.1.2.2.2.1 x.2.1.1 x.2.1.2.1 x.2.2.1
noncomputable def spec_l4Named_l0_s (N : Nat) : LSum := ⟨spec_l4Named_l0_sh, spec_l4Named_l0_ex, fun x ks => spec_l4Named_l0_again N ks N x⟩
theorem spec_l4Named_l0_step (N : Nat) (R : Type) (k : Nat) (x : spec_l4Named_l0_sh.T) (ks : (j : Nat) → ((spec_l4Named_l0_ex.getD j (.ret, Sh.none)).2).T → Option R) : spec_l4Named_l0_again N ks (k + 1) x = roundF (spec_l4Named_G N) tab [] (loopAt spec_l4Named_code 0) spec_l4Named_l0_sh spec_l4Named_l0_ex (fun y => spec_l4Named_l0_again N ks k y) ks x := by kernel_rfl
theorem spec_l4Named_l0_ok (N : Nat) : LoopOk Tryz.prog Tryz.f74.ntmps (spec_l4Named_l0_s N) (loopAt spec_l4Named_code 0) :=
  loop_ok (l := spec_l4Named_l0_s N) progOk (spec_l4Named_gok N) (draw_ok progOk (spec_l4Named_gok N)) (fun R k x ks => spec_l4Named_l0_again N ks k x) (fun _ _ _ => rfl) (fun R k x ks => spec_l4Named_l0_step N R k x ks) (fun R x ks r h => ⟨N, h⟩) (lsOk_at (L := []) trivial) (by kernel_rfl) (by kernel_rfl)
noncomputable def spec_l4Named (N : Nat) (x : ((List (List Int)) × (List (Int × Int)))) (walk : (List Int)) : Option (((List (List Int)) × Unit) × (Unit)) :=
  spec_l4Named_l0 N (fun o => some ((o, ()), ())) N walk 0 x.1 x.2 []
noncomputable def spec_l4Named_S (N : Nat) : FSum := ⟨spec_l4Named_ps, spec_l4Named_rs, fun x => spec_l4Named N x.1 x.2.1⟩
theorem spec_l4Named_run (N : Nat) (x : argsT spec_l4Named_ps) : spec_l4Named N x.1 x.2.1 = funF (spec_l4Named_G N) tab [spec_l4Named_l0_s N] Tryz.f74 spec_l4Named_ps spec_l4Named_rs x := by kernel_rfl
theorem spec_l4Named_pc (N : Nat) : PC Tryz.prog 74 (spec_l4Named_S N) := by
  have e : spec_l4Named_S N = ⟨spec_l4Named_ps, spec_l4Named_rs, funF (spec_l4Named_G N) tab [spec_l4Named_l0_s N] Tryz.f74 spec_l4Named_ps spec_l4Named_rs⟩ := congrArg (FSum.mk spec_l4Named_ps spec_l4Named_rs) (funext (spec_l4Named_run N))
  rw [e]
  exact fun_ok (c := spec_l4Named_code) progOk (spec_l4Named_gok N) (draw_ok progOk (spec_l4Named_gok N)) Tryz.call74 Tryz.func74 (by kernel_rfl) (lsOk_at (L := [spec_l4Named_l0_s N]) ⟨spec_l4Named_l0_ok N, trivial⟩) (by kernel_rfl) (by kernel_rfl) (by kernel_rfl) (by kernel_rfl) (by kernel_rfl)

/-! ### spec_ExchangeWay -/
abbrev spec_ExchangeWay_ps : List (PV.Mode × Ty) := [(.ro, QILQII), (.ro, I), (.ro, LI), (.ro, LI)]
abbrev spec_ExchangeWay_rs : List (Bool × Ty) := [(true, LLI), (true, .bool)]
noncomputable def spec_ExchangeWay_G (N : Nat) : GTab := gOf [(71, spec_l4One_S N), (72, spec_l4Exchange_S N), (61, spec_l2Index_S N), (73, spec_l2Walk_S N), (74, spec_l4Named_S N)]
theorem spec_ExchangeWay_gok (N : Nat) : GOk Tryz.prog (spec_ExchangeWay_G N) := gOf_ok ⟨spec_l4One_pc N, spec_l4Exchange_pc N, spec_l2Index_pc N, spec_l2Walk_pc N, spec_l4Named_pc N, trivial⟩
noncomputable def spec_ExchangeWay_code : Code := (Tryz.f37.body).getD .skip
noncomputable def spec_ExchangeWay (N : Nat) (g : (Int × (List (Int × Int)))) (kind : Int) (a : (List Int)) (b : (List Int)) : Option (((List (List Int)) × Bool × Unit) × (Unit)) :=
  ((spec_l4One N (g.1, g.2) kind a).bind fun r =>
    (br (!r.1.1)
      (some (([], false, ()), ()))
      (((spec_l4One N (g.1, g.2) kind b).bind fun r1 =>
        (br (!r1.1.1)
          (some (([], false, ()), ()))
          ((br (ine (tLen a) (tLen b))
            (some (([], false, ()), ()))
            (((spec_l4Exchange N (g.1, g.2) kind (tLen a) false).bind fun r2 =>
              ((spec_l2Index N (r2.1.1.1, r2.1.1.2) a).bind fun r3 =>
                ((spec_l2Index N (r2.1.1.1, r2.1.1.2) b).bind fun r4 =>
                  ((spec_l2Walk N (r2.1.1.1, r2.1.1.2) r3.1.1 r4.1.1).bind fun r5 =>
                    ((spec_l4Named N (r2.1.1.1, r2.1.1.2) r5.1.1).bind fun r6 =>
                      some ((r6.1.1, (ilt 0 (tLen r5.1.1)), ()), ()))))))))))))))
noncomputable def spec_ExchangeWay_S (N : Nat) : FSum := ⟨spec_ExchangeWay_ps, spec_ExchangeWay_rs, fun x => spec_ExchangeWay N x.1 x.2.1 x.2.2.1 x.2.2.2.1⟩
theorem spec_ExchangeWay_run (N : Nat) (x : argsT spec_ExchangeWay_ps) : spec_ExchangeWay N x.1 x.2.1 x.2.2.1 x.2.2.2.1 = funF (spec_ExchangeWay_G N) tab [] Tryz.f37 spec_ExchangeWay_ps spec_ExchangeWay_rs x := by kernel_rfl
theorem spec_ExchangeWay_pc (N : Nat) : PC Tryz.prog 37 (spec_ExchangeWay_S N) := by
  have e : spec_ExchangeWay_S N = ⟨spec_ExchangeWay_ps, spec_ExchangeWay_rs, funF (spec_ExchangeWay_G N) tab [] Tryz.f37 spec_ExchangeWay_ps spec_ExchangeWay_rs⟩ := congrArg (FSum.mk spec_ExchangeWay_ps spec_ExchangeWay_rs) (funext (spec_ExchangeWay_run N))
  rw [e]
  exact fun_ok (c := spec_ExchangeWay_code) progOk (spec_ExchangeWay_gok N) (draw_ok progOk (spec_ExchangeWay_gok N)) Tryz.call37 Tryz.func37 (by kernel_rfl) (lsOk_at (L := []) trivial) (by kernel_rfl) (by kernel_rfl) (by kernel_rfl) (by kernel_rfl) (by kernel_rfl)

/-! ### impl_between -/
abbrev impl_between_ps : List (PV.Mode × Ty) := [(.ro, I), (.ro, I), (.ro, I)]
abbrev impl_between_rs : List (Bool × Ty) := [(true, .bool)]
noncomputable def impl_between_G (N : Nat) : GTab := gOf []
theorem impl_between_gok (N : Nat) : GOk Tryz.prog (impl_between_G N) := gOf_ok trivial
noncomputable def impl_between_code : Code := (Tryz.f124.body).getD .skip
noncomputable def impl_between (N : Nat) (n : Int) (low : Int) (high : Int) : Option ((Bool × Unit) × (Unit)) :=
  (br (ile low n)
    (some (((ile n high), ()), ()))
    (some ((false, ()), ())))
noncomputable def impl_between_S (N : Nat) : FSum := ⟨impl_between_ps, impl_between_rs, fun x => impl_between N x.1 x.2.1 x.2.2.1⟩
theorem impl_between_run (N : Nat) (x : argsT impl_between_ps) : impl_between N x.1 x.2.1 x.2.2.1 = funF (impl_between_G N) tab [] Tryz.f124 impl_between_ps impl_between_rs x := by kernel_rfl
theorem impl_between_pc (N : Nat) : PC Tryz.prog 124 (impl_between_S N) := by
  have e : impl_between_S N = ⟨impl_between_ps, impl_between_rs, funF (impl_between_G N) tab [] Tryz.f124 impl_between_ps impl_between_rs⟩ := congrArg (FSum.mk impl_between_ps impl_between_rs) (funext (impl_between_run N))
  rw [e]
  exact fun_ok (c := impl_between_code) progOk (impl_between_gok N) (draw_ok progOk (impl_between_gok N)) Tryz.call124 Tryz.func124 (by kernel_rfl) (lsOk_at (L := []) trivial) (by kernel_rfl) (by kernel_rfl) (by kernel_rfl) (by kernel_rfl) (by kernel_rfl)

/-! ### cmp_isNaN_int -/
abbrev cmp_isNaN_int_ps : List (PV.Mode × Ty) := [(.ro, I)]
abbrev cmp_isNaN_int_rs : List (Bool × Ty) := [(true, .bool)]
noncomputable def cmp_isNaN_int_G (N : Nat) : GTab := gOf []
theorem cmp_isNaN_int_gok (N : Nat) : GOk Tryz.prog (cmp_isNaN_int_G N) := gOf_ok trivial
noncomputable def cmp_isNaN_int_code : Code := (Tryz.f176.body).getD .skip
noncomputable def cmp_isNaN_int (N : Nat) (x : Int) : Option ((Bool × Unit) × (Unit)) :=
  some (((ine x x), ()), ())
noncomputable def cmp_isNaN_int_S (N : Nat) : FSum := ⟨cmp_isNaN_int_ps, cmp_isNaN_int_rs, fun x => cmp_isNaN_int N x.1⟩
theorem cmp_isNaN_int_run (N : Nat) (x : argsT cmp_isNaN_int_ps) : cmp_isNaN_int N x.1 = funF (cmp_isNaN_int_G N) tab [] Tryz.f176 cmp_isNaN_int_ps cmp_isNaN_int_rs x := by kernel_rfl
theorem cmp_isNaN_int_pc (N : Nat) : PC Tryz.prog 176 (cmp_isNaN_int_S N) := by
  have e : cmp_isNaN_int_S N = ⟨cmp_isNaN_int_ps, cmp_isNaN_int_rs, funF (cmp_isNaN_int_G N) tab [] Tryz.f176 cmp_isNaN_int_ps cmp_isNaN_int_rs⟩ := congrArg (FSum.mk cmp_isNaN_int_ps cmp_isNaN_int_rs) (funext (cmp_isNaN_int_run N))
  rw [e]
  exact fun_ok (c := cmp_isNaN_int_code) progOk (cmp_isNaN_int_gok N) (draw_ok progOk (cmp_isNaN_int_gok N)) Tryz.call176 Tryz.func176 (by kernel_rfl) (lsOk_at (L := []) trivial) (by kernel_rfl) (by kernel_rfl) (by kernel_rfl) (by kernel_rfl) (by kernel_rfl)

/-! ### cmp_Compare_int -/
abbrev cmp_Compare_int_ps : List (PV.Mode × Ty) := [(.ro, I), (.ro, I)]
abbrev cmp_Compare_int_rs : List (Bool × Ty) := [(true, I)]
noncomputable def cmp_Compare_int_G (N : Nat) : GTab := gOf [(176, cmp_isNaN_int_S N)]
theorem cmp_Compare_int_gok (N : Nat) : GOk Tryz.prog (cmp_Compare_int_G N) := gOf_ok ⟨cmp_isNaN_int_pc N, trivial⟩
noncomputable def cmp_Compare_int_code : Code := (Tryz.f131.body).getD .skip
noncomputable def cmp_Compare_int (N : Nat) (x : Int) (y : Int) : Option ((Int × Unit) × (Unit)) :=
  ((cmp_isNaN_int N x).bind fun r =>
    ((cmp_isNaN_int N y).bind fun r1 =>
      (br r.1.1
        ((br r1.1.1
          (some ((0, ()), ()))
          (some (((-1), ()), ()))))
        ((br r1.1.1
          (some ((1, ()), ()))
          ((br (ilt x y)
            (some (((-1), ()), ()))
            ((br (ilt y x)
              (some ((1, ()), ()))
              (some ((0, ()), ())))))))))))
noncomputable def cmp_Compare_int_S (N : Nat) : FSum := ⟨cmp_Compare_int_ps, cmp_Compare_int_rs, fun x => cmp_Compare_int N x.1 x.2.1⟩
theorem cmp_Compare_int_run (N : Nat) (x : argsT cmp_Compare_int_ps) : cmp_Compare_int N x.1 x.2.1 = funF (cmp_Compare_int_G N) tab [] Tryz.f131 cmp_Compare_int_ps cmp_Compare_int_rs x := by kernel_rfl
theorem cmp_Compare_int_pc (N : Nat) : PC Tryz.prog 131 (cmp_Compare_int_S N) := by
  have e : cmp_Compare_int_S N = ⟨cmp_Compare_int_ps, cmp_Compare_int_rs, funF (cmp_Compare_int_G N) tab [] Tryz.f131 cmp_Compare_int_ps cmp_Compare_int_rs⟩ := congrArg (FSum.mk cmp_Compare_int_ps cmp_Compare_int_rs) (funext (cmp_Compare_int_run N))
  rw [e]
  exact fun_ok (c := cmp_Compare_int_code) progOk (cmp_Compare_int_gok N) (draw_ok progOk (cmp_Compare_int_gok N)) Tryz.call131 Tryz.func131 (by kernel_rfl) (lsOk_at (L := []) trivial) (by kernel_rfl) (by kernel_rfl) (by kernel_rfl) (by kernel_rfl) (by kernel_rfl)

/-! ### cmp_Or_int -/
abbrev cmp_Or_int_ps : List (PV.Mode × Ty) := [(.ro, LI)]
abbrev cmp_Or_int_rs : List (Bool × Ty) := [(true, I)]
noncomputable def cmp_Or_int_G (N : Nat) : GTab := gOf []
theorem cmp_Or_int_gok (N : Nat) : GOk Tryz.prog (cmp_Or_int_G N) := gOf_ok trivial
noncomputable def cmp_Or_int_code : Code := (Tryz.f218.body).getD .skip
noncomputable def cmp_Or_int_l0_sh : Sh := ⟨[(3, .one (.ro I)), (6, .one (.ro LI)), (7, .one (.ro I)), (8, .one (.ro I))], []⟩
noncomputable def cmp_Or_int_l0_ex : List (Ex × Sh) := [(.ret, ⟨[(2, .one (.ro I))], []⟩), (.exit 0, ⟨[(3, .one (.ro I))], []⟩)]
noncomputable def cmp_Or_int_l0 {R : Type} (N : Nat) (k0 : Int → Option R) (k1 : Int → Option R) : Nat → Int → (List Int) → Int → Int → Option R
  | 0, _, _, _, _ => none
  | K + 1, zero, x, x1, x2 =>
    (br (ilt x2 x1)
      ((chk (inb x x2)
        (br (ine (rdI x x2) zero)
        (k0 (rdI x x2))
        (cmp_Or_int_l0 N k0 k1 K zero x x1 (IntKind.i64.wrap (x2 + 1))))))
      (k1 zero))
noncomputable def cmp_Or_int_l0_again {R : Type} (N : Nat) (ks : (j : Nat) → ((cmp_Or_int_l0_ex.getD j (.ret, Sh.none)).2).T → Option R) (k : Nat) (x : cmp_Or_int_l0_sh.T) : Option R :=
  cmp_Or_int_l0 N (fun y0 => ks 0 ((y0, ()), ())) (fun y0 => ks 1 ((y0, ()), ())) k x.1.1 x.1.2.1 x.1.2.2.1 x.1.2.2.2.1
noncomputable def cmp_Or_int_l0_s (N : Nat) : LSum := ⟨cmp_Or_int_l0_sh, cmp_Or_int_l0_ex, fun x ks => cmp_Or_int_l0_again N ks N x⟩
theorem cmp_Or_int_l0_step (N : Nat) (R : Type) (k : Nat) (x : cmp_Or_int_l0_sh.T) (ks : (j : Nat) → ((cmp_Or_int_l0_ex.getD j (.ret, Sh.none)).2).T → Option R) : cmp_Or_int_l0_again N ks (k + 1) x = roundF (cmp_Or_int_G N) tab [] (loopAt cmp_Or_int_code 0) cmp_Or_int_l0_sh cmp_Or_int_l0_ex (fun y => cmp_Or_int_l0_again N ks k y) ks x := by kernel_rfl
theorem cmp_Or_int_l0_ok (N : Nat) : LoopOk Tryz.prog Tryz.f218.ntmps (cmp_Or_int_l0_s N) (loopAt cmp_Or_int_code 0) :=
  loop_ok (l := cmp_Or_int_l0_s N) progOk (cmp_Or_int_gok N) (draw_ok progOk (cmp_Or_int_gok N)) (fun R k x ks => cmp_Or_int_l0_again N ks k x) (fun _ _ _ => rfl) (fun R k x ks => cmp_Or_int_l0_step N R k x ks) (fun R x ks r h => ⟨N, h⟩) (lsOk_at (L := []) trivial) (by kernel_rfl) (by kernel_rfl)
noncomputable def cmp_Or_int (N : Nat) (vals : (List Int)) : Option ((Int × Unit) × (Unit)) :=
  cmp_Or_int_l0 N (fun x => some ((x, ()), ())) (fun zero => some ((zero, ()), ())) N 0 vals (tLen vals) 0
noncomputable def cmp_Or_int_S (N : Nat) : FSum := ⟨cmp_Or_int_ps, cmp_Or_int_rs, fun x => cmp_Or_int N x.1⟩
theorem cmp_Or_int_run (N : Nat) (x : argsT cmp_Or_int_ps) : cmp_Or_int N x.1 = funF (cmp_Or_int_G N) tab [cmp_Or_int_l0_s N] Tryz.f218 cmp_Or_int_ps cmp_Or_int_rs x := by kernel_rfl
theorem cmp_Or_int_pc (N : Nat) : PC Tryz.prog 218 (cmp_Or_int_S N) := by
  have e : cmp_Or_int_S N = ⟨cmp_Or_int_ps, cmp_Or_int_rs, funF (cmp_Or_int_G N) tab [cmp_Or_int_l0_s N] Tryz.f218 cmp_Or_int_ps cmp_Or_int_rs⟩ := congrArg (FSum.mk cmp_Or_int_ps cmp_Or_int_rs) (funext (cmp_Or_int_run N))
  rw [e]
  exact fun_ok (c := cmp_Or_int_code) progOk (cmp_Or_int_gok N) (draw_ok progOk (cmp_Or_int_gok N)) Tryz.call218 Tryz.func218 (by kernel_rfl) (lsOk_at (L := [cmp_Or_int_l0_s N]) ⟨cmp_Or_int_l0_ok N, trivial⟩) (by kernel_rfl) (by kernel_rfl) (by kernel_rfl) (by kernel_rfl) (by kernel_rfl)

/-! ### impl_comparePairs -/
abbrev impl_comparePairs_ps : List (PV.Mode × Ty) := [(.ro, QII), (.ro, QII)]
abbrev impl_comparePairs_rs : List (Bool × Ty) := [(true, I)]
noncomputable def impl_comparePairs_G (N : Nat) : GTab := gOf [(131, cmp_Compare_int_S N), (218, cmp_Or_int_S N)]
theorem impl_comparePairs_gok (N : Nat) : GOk Tryz.prog (impl_comparePairs_G N) := gOf_ok ⟨cmp_Compare_int_pc N, cmp_Or_int_pc N, trivial⟩
noncomputable def impl_comparePairs_code : Code := (Tryz.f202.body).getD .skip
noncomputable def impl_comparePairs (N : Nat) (a : (Int × Int)) (b : (Int × Int)) : Option ((Int × Unit) × (Unit)) :=
  ((cmp_Compare_int N a.1 b.1).bind fun r =>
    ((cmp_Compare_int N a.2 b.2).bind fun r1 =>
      ((cmp_Or_int N [r.1.1, r1.1.1]).bind fun r2 =>
        some ((r2.1.1, ()), ()))))
noncomputable def impl_comparePairs_S (N : Nat) : FSum := ⟨impl_comparePairs_ps, impl_comparePairs_rs, fun x => impl_comparePairs N x.1 x.2.1⟩
theorem impl_comparePairs_run (N : Nat) (x : argsT impl_comparePairs_ps) : impl_comparePairs N x.1 x.2.1 = funF (impl_comparePairs_G N) tab [] Tryz.f202 impl_comparePairs_ps impl_comparePairs_rs x := by kernel_rfl
theorem impl_comparePairs_pc (N : Nat) : PC Tryz.prog 202 (impl_comparePairs_S N) := by
  have e : impl_comparePairs_S N = ⟨impl_comparePairs_ps, impl_comparePairs_rs, funF (impl_comparePairs_G N) tab [] Tryz.f202 impl_comparePairs_ps impl_comparePairs_rs⟩ := congrArg (FSum.mk impl_comparePairs_ps impl_comparePairs_rs) (funext (impl_comparePairs_run N))
  rw [e]
  exact fun_ok (c := impl_comparePairs_code) progOk (impl_comparePairs_gok N) (draw_ok progOk (impl_comparePairs_gok N)) Tryz.call202 Tryz.func202 (by kernel_rfl) (lsOk_at (L := []) trivial) (by kernel_rfl) (by kernel_rfl) (by kernel_rfl) (by kernel_rfl) (by kernel_rfl)

/-! ### impl_isPairs -/
abbrev impl_isPairs_ps : List (PV.Mode × Ty) := [(.ro, LQII), (.ro, I)]
abbrev impl_isPairs_rs : List (Bool × Ty) := [(true, .bool)]
noncomputable def impl_isPairs_G (N : Nat) : GTab := gOf [(202, impl_comparePairs_S N)]
theorem impl_isPairs_gok (N : Nat) : GOk Tryz.prog (impl_isPairs_G N) := gOf_ok ⟨impl_comparePairs_pc N, trivial⟩
noncomputable def impl_isPairs_code : Code := (Tryz.f163.body).getD .skip
noncomputable def impl_isPairs_l0_sh : Sh := ⟨[(0, .one (.ro LQII)), (1, .one (.ro I)), (7, .one (.ro LQII)), (8, .one (.ro I)), (9, .one (.ro I))], []⟩
noncomputable def impl_isPairs_l0_ex : List (Ex × Sh) := [(.ret, ⟨[(4, .one (.ro .bool))], []⟩), (.exit 0, ⟨[], []⟩)]
noncomputable def impl_isPairs_l0 {R : Type} (N : Nat) (k0 : Bool → Option R) (k1 : Unit → Option R) : Nat → (List (Int × Int)) → Int → (List (Int × Int)) → Int → Int → Option R
  | 0, _, _, _, _, _ => none
  | K + 1, list1, below1, x, x1, x2 =>
    (br (ilt x2 x1)
      ((chk (inb x x2)
        (br (ilt ((rdP x x2).1) 0)
        (k0 false)
        ((br (ile ((rdP x x2).2) ((rdP x x2).1))
          (k0 false)
          ((br (ile below1 ((rdP x x2).2))
            (k0 false)
            ((br (ilt 0 x2)
              ((chk (inb list1 (IntKind.i64.wrap (x2 - 1)))
                ((impl_comparePairs N (rdP list1 (IntKind.i64.wrap (x2 - 1))) ((rdP x x2).1, (rdP x x2).2)).bind fun r =>
                (br (ile 0 r.1.1)
                  (k0 false)
                  (impl_isPairs_l0 N k0 k1 K list1 below1 x x1 (IntKind.i64.wrap (x2 + 1)))))))
              (impl_isPairs_l0 N k0 k1 K list1 below1 x x1 (IntKind.i64.wrap (x2 + 1))))))))))))
      (k1 ()))
noncomputable def impl_isPairs_l0_again {R : Type} (N : Nat) (ks : (j : Nat) → ((impl_isPairs_l0_ex.getD j (.ret, Sh.none)).2).T → Option R) (k : Nat) (x : impl_isPairs_l0_sh.T) : Option R :=
  impl_isPairs_l0 N (fun y0 => ks 0 ((y0, ()), ())) (fun (_ : Unit) => ks 1 ((), ())) k x.1.1 x.1.2.1 x.1.2.2.1 x.1.2.2.2.1 x.1.2.2.2.2.1
noncomputable def impl_isPairs_l0_s (N : Nat) : LSum := ⟨impl_isPairs_l0_sh, impl_isPairs_l0_ex, fun x ks => impl_isPairs_l0_again N ks N x⟩
theorem impl_isPairs_l0_step (N : Nat) (R : Type) (k : Nat) (x : impl_isPairs_l0_sh.T) (ks : (j : Nat) → ((impl_isPairs_l0_ex.getD j (.ret, Sh.none)).2).T → Option R) : impl_isPairs_l0_again N ks (k + 1) x = roundF (impl_isPairs_G N) tab [] (loopAt impl_isPairs_code 0) impl_isPairs_l0_sh impl_isPairs_l0_ex (fun y => impl_isPairs_l0_again N ks k y) ks x := by kernel_rfl
theorem impl_isPairs_l0_ok (N : Nat) : LoopOk Tryz.prog Tryz.f163.ntmps (impl_isPairs_l0_s N) (loopAt impl_isPairs_code 0) :=
  loop_ok (l := impl_isPairs_l0_s N) progOk (impl_isPairs_gok N) (draw_ok progOk (impl_isPairs_gok N)) (fun R k x ks => impl_isPairs_l0_again N ks k x) (fun _ _ _ => rfl) (fun R k x ks => impl_isPairs_l0_step N R k x ks) (fun R x ks r h => ⟨N, h⟩) (lsOk_at (L := []) trivial) (by kernel_rfl) (by kernel_rfl)
noncomputable def impl_isPairs (N : Nat) (list : (List (Int × Int))) (below : Int) : Option ((Bool × Unit) × (Unit)) :=
  impl_isPairs_l0 N (fun x => some ((x, ()), ())) (fun (_ : Unit) => some ((true, ()), ())) N list below list (tLen list) 0
noncomputable def impl_isPairs_S (N : Nat) : FSum := ⟨impl_isPairs_ps, impl_isPairs_rs, fun x => impl_isPairs N x.1 x.2.1⟩
theorem impl_isPairs_run (N : Nat) (x : argsT impl_isPairs_ps) : impl_isPairs N x.1 x.2.1 = funF (impl_isPairs_G N) tab [impl_isPairs_l0_s N] Tryz.f163 impl_isPairs_ps impl_isPairs_rs x := by kernel_rfl
theorem impl_isPairs_pc (N : Nat) : PC Tryz.prog 163 (impl_isPairs_S N) := by
  have e : impl_isPairs_S N = ⟨impl_isPairs_ps, impl_isPairs_rs, funF (impl_isPairs_G N) tab [impl_isPairs_l0_s N] Tryz.f163 impl_isPairs_ps impl_isPairs_rs⟩ := congrArg (FSum.mk impl_isPairs_ps impl_isPairs_rs) (funext (impl_isPairs_run N))
  rw [e]
  exact fun_ok (c := impl_isPairs_code) progOk (impl_isPairs_gok N) (draw_ok progOk (impl_isPairs_gok N)) Tryz.call163 Tryz.func163 (by kernel_rfl) (lsOk_at (L := [impl_isPairs_l0_s N]) ⟨impl_isPairs_l0_ok N, trivial⟩) (by kernel_rfl) (by kernel_rfl) (by kernel_rfl) (by kernel_rfl) (by kernel_rfl)

/-! ### impl_IsGraph -/
abbrev impl_IsGraph_ps : List (PV.Mode × Ty) := [(.ro, QILQII)]
abbrev impl_IsGraph_rs : List (Bool × Ty) := [(true, .bool)]
noncomputable def impl_IsGraph_G (N : Nat) : GTab := gOf [(124, impl_between_S N), (163, impl_isPairs_S N)]
theorem impl_IsGraph_gok (N : Nat) : GOk Tryz.prog (impl_IsGraph_G N) := gOf_ok ⟨impl_between_pc N, impl_isPairs_pc N, trivial⟩
noncomputable def impl_IsGraph_code : Code := (Tryz.f123.body).getD .skip
noncomputable def impl_IsGraph (N : Nat) (g : (Int × (List (Int × Int)))) : Option ((Bool × Unit) × (Unit)) :=
  ((impl_between N g.1 0 8).bind fun r =>
    (br r.1.1
      (((impl_isPairs N g.2 g.1).bind fun r1 =>
        some ((r1.1.1, ()), ())))
      (some ((false, ()), ()))))
noncomputable def impl_IsGraph_S (N : Nat) : FSum := ⟨impl_IsGraph_ps, impl_IsGraph_rs, fun x => impl_IsGraph N x.1⟩
theorem impl_IsGraph_run (N : Nat) (x : argsT impl_IsGraph_ps) : impl_IsGraph N x.1 = funF (impl_IsGraph_G N) tab [] Tryz.f123 impl_IsGraph_ps impl_IsGraph_rs x := by kernel_rfl
theorem impl_IsGraph_pc (N : Nat) : PC Tryz.prog 123 (impl_IsGraph_S N) := by
  have e : impl_IsGraph_S N = ⟨impl_IsGraph_ps, impl_IsGraph_rs, funF (impl_IsGraph_G N) tab [] Tryz.f123 impl_IsGraph_ps impl_IsGraph_rs⟩ := congrArg (FSum.mk impl_IsGraph_ps impl_IsGraph_rs) (funext (impl_IsGraph_run N))
  rw [e]
  exact fun_ok (c := impl_IsGraph_code) progOk (impl_IsGraph_gok N) (draw_ok progOk (impl_IsGraph_gok N)) Tryz.call123 Tryz.func123 (by kernel_rfl) (lsOk_at (L := []) trivial) (by kernel_rfl) (by kernel_rfl) (by kernel_rfl) (by kernel_rfl) (by kernel_rfl)

/-! ### impl_isKind -/
abbrev impl_isKind_ps : List (PV.Mode × Ty) := [(.ro, I)]
abbrev impl_isKind_rs : List (Bool × Ty) := [(true, .bool)]
noncomputable def impl_isKind_G (N : Nat) : GTab := gOf [(124, impl_between_S N)]
theorem impl_isKind_gok (N : Nat) : GOk Tryz.prog (impl_isKind_G N) := gOf_ok ⟨impl_between_pc N, trivial⟩
noncomputable def impl_isKind_code : Code := (Tryz.f157.body).getD .skip
noncomputable def impl_isKind (N : Nat) (kind : Int) : Option ((Bool × Unit) × (Unit)) :=
  ((impl_between N kind 1 3).bind fun r =>
    some ((r.1.1, ()), ()))
noncomputable def impl_isKind_S (N : Nat) : FSum := ⟨impl_isKind_ps, impl_isKind_rs, fun x => impl_isKind N x.1⟩
theorem impl_isKind_run (N : Nat) (x : argsT impl_isKind_ps) : impl_isKind N x.1 = funF (impl_isKind_G N) tab [] Tryz.f157 impl_isKind_ps impl_isKind_rs x := by kernel_rfl
theorem impl_isKind_pc (N : Nat) : PC Tryz.prog 157 (impl_isKind_S N) := by
  have e : impl_isKind_S N = ⟨impl_isKind_ps, impl_isKind_rs, funF (impl_isKind_G N) tab [] Tryz.f157 impl_isKind_ps impl_isKind_rs⟩ := congrArg (FSum.mk impl_isKind_ps impl_isKind_rs) (funext (impl_isKind_run N))
  rw [e]
  exact fun_ok (c := impl_isKind_code) progOk (impl_isKind_gok N) (draw_ok progOk (impl_isKind_gok N)) Tryz.call157 Tryz.func157 (by kernel_rfl) (lsOk_at (L := []) trivial) (by kernel_rfl) (by kernel_rfl) (by kernel_rfl) (by kernel_rfl) (by kernel_rfl)

/-! ### impl_isRising -/
abbrev impl_isRising_ps : List (PV.Mode × Ty) := [(.ro, LI), (.ro, I)]
abbrev impl_isRising_rs : List (Bool × Ty) := [(true, .bool)]
noncomputable def impl_isRising_G (N : Nat) : GTab := gOf [(124, impl_between_S N)]
theorem impl_isRising_gok (N : Nat) : GOk Tryz.prog (impl_isRising_G N) := gOf_ok ⟨impl_between_pc N, trivial⟩
noncomputable def impl_isRising_code : Code := (Tryz.f197.body).getD .skip
noncomputable def impl_isRising_l0_sh : Sh := ⟨[(0, .one (.ro LI)), (1, .one (.ro I)), (7, .one (.ro LI)), (8, .one (.ro I)), (9, .one (.ro I))], []⟩
noncomputable def impl_isRising_l0_ex : List (Ex × Sh) := [(.ret, ⟨[(4, .one (.ro .bool))], []⟩), (.exit 0, ⟨[], []⟩)]
noncomputable def impl_isRising_l0 {R : Type} (N : Nat) (k0 : Bool → Option R) (k1 : Unit → Option R) : Nat → (List Int) → Int → (List Int) → Int → Int → Option R
  | 0, _, _, _, _, _ => none
  | K + 1, list1, below1, x, x1, x2 =>
    (br (ilt x2 x1)
      ((chk (inb x x2)
        ((impl_between N (rdI x x2) 0 (IntKind.i64.wrap (below1 - 1))).bind fun r =>
        (br (!r.1.1)
          (k0 false)
          ((br (ilt 0 x2)
            ((chk (inb list1 (IntKind.i64.wrap (x2 - 1)))
              (br (ile (rdI x x2) (rdI list1 (IntKind.i64.wrap (x2 - 1))))
              (k0 false)
              (impl_isRising_l0 N k0 k1 K list1 below1 x x1 (IntKind.i64.wrap (x2 + 1))))))
            (impl_isRising_l0 N k0 k1 K list1 below1 x x1 (IntKind.i64.wrap (x2 + 1)))))))))
      (k1 ()))
noncomputable def impl_isRising_l0_again {R : Type} (N : Nat) (ks : (j : Nat) → ((impl_isRising_l0_ex.getD j (.ret, Sh.none)).2).T → Option R) (k : Nat) (x : impl_isRising_l0_sh.T) : Option R :=
  impl_isRising_l0 N (fun y0 => ks 0 ((y0, ()), ())) (fun (_ : Unit) => ks 1 ((), ())) k x.1.1 x.1.2.1 x.1.2.2.1 x.1.2.2.2.1 x.1.2.2.2.2.1
noncomputable def impl_isRising_l0_s (N : Nat) : LSum := ⟨impl_isRising_l0_sh, impl_isRising_l0_ex, fun x ks => impl_isRising_l0_again N ks N x⟩
theorem impl_isRising_l0_step (N : Nat) (R : Type) (k : Nat) (x : impl_isRising_l0_sh.T) (ks : (j : Nat) → ((impl_isRising_l0_ex.getD j (.ret, Sh.none)).2).T → Option R) : impl_isRising_l0_again N ks (k + 1) x = roundF (impl_isRising_G N) tab [] (loopAt impl_isRising_code 0) impl_isRising_l0_sh impl_isRising_l0_ex (fun y => impl_isRising_l0_again N ks k y) ks x := by kernel_rfl
theorem impl_isRising_l0_ok (N : Nat) : LoopOk Tryz.prog Tryz.f197.ntmps (impl_isRising_l0_s N) (loopAt impl_isRising_code 0) :=
  loop_ok (l := impl_isRising_l0_s N) progOk (impl_isRising_gok N) (draw_ok progOk (impl_isRising_gok N)) (fun R k x ks => impl_isRising_l0_again N ks k x) (fun _ _ _ => rfl) (fun R k x ks => impl_isRising_l0_step N R k x ks) (fun R x ks r h => ⟨N, h⟩) (lsOk_at (L := []) trivial) (by kernel_rfl) (by kernel_rfl)
noncomputable def impl_isRising (N : Nat) (list : (List Int)) (below : Int) : Option ((Bool × Unit) × (Unit)) :=
  impl_isRising_l0 N (fun x => some ((x, ()), ())) (fun (_ : Unit) => some ((true, ()), ())) N list below list (tLen list) 0
noncomputable def impl_isRising_S (N : Nat) : FSum := ⟨impl_isRising_ps, impl_isRising_rs, fun x => impl_isRising N x.1 x.2.1⟩
theorem impl_isRising_run (N : Nat) (x : argsT impl_isRising_ps) : impl_isRising N x.1 x.2.1 = funF (impl_isRising_G N) tab [impl_isRising_l0_s N] Tryz.f197 impl_isRising_ps impl_isRising_rs x := by kernel_rfl
theorem impl_isRising_pc (N : Nat) : PC Tryz.prog 197 (impl_isRising_S N) := by
  have e : impl_isRising_S N = ⟨impl_isRising_ps, impl_isRising_rs, funF (impl_isRising_G N) tab [impl_isRising_l0_s N] Tryz.f197 impl_isRising_ps impl_isRising_rs⟩ := congrArg (FSum.mk impl_isRising_ps impl_isRising_rs) (funext (impl_isRising_run N))
  rw [e]
  exact fun_ok (c := impl_isRising_code) progOk (impl_isRising_gok N) (draw_ok progOk (impl_isRising_gok N)) Tryz.call197 Tryz.func197 (by kernel_rfl) (lsOk_at (L := [impl_isRising_l0_s N]) ⟨impl_isRising_l0_ok N, trivial⟩) (by kernel_rfl) (by kernel_rfl) (by kernel_rfl) (by kernel_rfl) (by kernel_rfl)

/-! ### impl_isSetCase -/
abbrev impl_isSetCase_ps : List (PV.Mode × Ty) := [(.ro, QILQII), (.ro, I), (.ro, LI)]
abbrev impl_isSetCase_rs : List (Bool × Ty) := [(true, .bool)]
noncomputable def impl_isSetCase_G (N : Nat) : GTab := gOf [(123, impl_IsGraph_S N), (157, impl_isKind_S N), (197, impl_isRising_S N)]
theorem impl_isSetCase_gok (N : Nat) : GOk Tryz.prog (impl_isSetCase_G N) := gOf_ok ⟨impl_IsGraph_pc N, impl_isKind_pc N, impl_isRising_pc N, trivial⟩
noncomputable def impl_isSetCase_code : Code := (Tryz.f155.body).getD .skip
noncomputable def impl_isSetCase (N : Nat) (g : (Int × (List (Int × Int)))) (kind : Int) (setv : (List Int)) : Option ((Bool × Unit) × (Unit)) :=
  ((impl_IsGraph N (g.1, g.2)).bind fun r =>
    (br r.1.1
      (((impl_isKind N kind).bind fun r1 =>
        (br r1.1.1
          (((impl_isRising N setv g.1).bind fun r2 =>
            some ((r2.1.1, ()), ())))
          (some ((false, ()), ())))))
      (some ((false, ()), ()))))
noncomputable def impl_isSetCase_S (N : Nat) : FSum := ⟨impl_isSetCase_ps, impl_isSetCase_rs, fun x => impl_isSetCase N x.1 x.2.1 x.2.2.1⟩
theorem impl_isSetCase_run (N : Nat) (x : argsT impl_isSetCase_ps) : impl_isSetCase N x.1 x.2.1 x.2.2.1 = funF (impl_isSetCase_G N) tab [] Tryz.f155 impl_isSetCase_ps impl_isSetCase_rs x := by kernel_rfl
theorem impl_isSetCase_pc (N : Nat) : PC Tryz.prog 155 (impl_isSetCase_S N) := by
  have e : impl_isSetCase_S N = ⟨impl_isSetCase_ps, impl_isSetCase_rs, funF (impl_isSetCase_G N) tab [] Tryz.f155 impl_isSetCase_ps impl_isSetCase_rs⟩ := congrArg (FSum.mk impl_isSetCase_ps impl_isSetCase_rs) (funext (impl_isSetCase_run N))
  rw [e]
  exact fun_ok (c := impl_isSetCase_code) progOk (impl_isSetCase_gok N) (draw_ok progOk (impl_isSetCase_gok N)) Tryz.call155 Tryz.func155 (by kernel_rfl) (lsOk_at (L := []) trivial) (by kernel_rfl) (by kernel_rfl) (by kernel_rfl) (by kernel_rfl) (by kernel_rfl)

/-! ### impl_bagOf -/
abbrev impl_bagOf_ps : List (PV.Mode × Ty) := [(.ro, LI)]
abbrev impl_bagOf_rs : List (Bool × Ty) := [(true, U64)]
noncomputable def impl_bagOf_G (N : Nat) : GTab := gOf []
theorem impl_bagOf_gok (N : Nat) : GOk Tryz.prog (impl_bagOf_G N) := gOf_ok trivial
noncomputable def impl_bagOf_code : Code := (Tryz.f67.body).getD .skip
noncomputable def impl_bagOf_l0_sh : Sh := ⟨[(3, .one (.ro U64)), (6, .one (.ro LI)), (7, .one (.ro I)), (8, .one (.ro I))], []⟩
noncomputable def impl_bagOf_l0_ex : List (Ex × Sh) := [(.exit 0, ⟨[(3, .one (.ro U64))], []⟩)]
noncomputable def impl_bagOf_l0 {R : Type} (N : Nat) (k0 : Int → Option R) : Nat → Int → (List Int) → Int → Int → Option R
  | 0, _, _, _, _ => none
  | K + 1, out, x, x1, x2 =>
    (br (ilt x2 x1)
      ((chk (inb x x2)
        (chk (ile 0 (rdI x x2))
        (impl_bagOf_l0 N k0 K (bitop .or .u64 out (shlI .u64 1 (rdI x x2))) x x1 (IntKind.i64.wrap (x2 + 1))))))
      (k0 out))
noncomputable def impl_bagOf_l0_again {R : Type} (N : Nat) (ks : (j : Nat) → ((impl_bagOf_l0_ex.getD j (.ret, Sh.none)).2).T → Option R) (k : Nat) (x : impl_bagOf_l0_sh.T) : Option R :=
  impl_bagOf_l0 N (fun y0 => ks 0 ((y0, ()), ())) k x.1.1 x.1.2.1 x.1.2.2.1 x.1.2.2.2.1
noncomputable def impl_bagOf_l0_s (N : Nat) : LSum := ⟨impl_bagOf_l0_sh, impl_bagOf_l0_ex, fun x ks => impl_bagOf_l0_again N ks N x⟩
theorem impl_bagOf_l0_step (N : Nat) (R : Type) (k : Nat) (x : impl_bagOf_l0_sh.T) (ks : (j : Nat) → ((impl_bagOf_l0_ex.getD j (.ret, Sh.none)).2).T → Option R) : impl_bagOf_l0_again N ks (k + 1) x = roundF (impl_bagOf_G N) tab [] (loopAt impl_bagOf_code 0) impl_bagOf_l0_sh impl_bagOf_l0_ex (fun y => impl_bagOf_l0_again N ks k y) ks x := by kernel_rfl
theorem impl_bagOf_l0_ok (N : Nat) : LoopOk Tryz.prog Tryz.f67.ntmps (impl_bagOf_l0_s N) (loopAt impl_bagOf_code 0) :=
  loop_ok (l := impl_bagOf_l0_s N) progOk (impl_bagOf_gok N) (draw_ok progOk (impl_bagOf_gok N)) (fun R k x ks => impl_bagOf_l0_again N ks k x) (fun _ _ _ => rfl) (fun R k x ks => impl_bagOf_l0_step N R k x ks) (fun R x ks r h => ⟨N, h⟩) (lsOk_at (L := []) trivial) (by kernel_rfl) (by kernel_rfl)
noncomputable def impl_bagOf (N : Nat) (list : (List Int)) : Option ((Int × Unit) × (Unit)) :=
  impl_bagOf_l0 N (fun out => some ((out, ()), ())) N 0 list (tLen list) 0
noncomputable def impl_bagOf_S (N : Nat) : FSum := ⟨impl_bagOf_ps, impl_bagOf_rs, fun x => impl_bagOf N x.1⟩
theorem impl_bagOf_run (N : Nat) (x : argsT impl_bagOf_ps) : impl_bagOf N x.1 = funF (impl_bagOf_G N) tab [impl_bagOf_l0_s N] Tryz.f67 impl_bagOf_ps impl_bagOf_rs x := by kernel_rfl
theorem impl_bagOf_pc (N : Nat) : PC Tryz.prog 67 (impl_bagOf_S N) := by
  have e : impl_bagOf_S N = ⟨impl_bagOf_ps, impl_bagOf_rs, funF (impl_bagOf_G N) tab [impl_bagOf_l0_s N] Tryz.f67 impl_bagOf_ps impl_bagOf_rs⟩ := congrArg (FSum.mk impl_bagOf_ps impl_bagOf_rs) (funext (impl_bagOf_run N))
  rw [e]
  exact fun_ok (c := impl_bagOf_code) progOk (impl_bagOf_gok N) (draw_ok progOk (impl_bagOf_gok N)) Tryz.call67 Tryz.func67 (by kernel_rfl) (lsOk_at (L := [impl_bagOf_l0_s N]) ⟨impl_bagOf_l0_ok N, trivial⟩) (by kernel_rfl) (by kernel_rfl) (by kernel_rfl) (by kernel_rfl) (by kernel_rfl)

/-! ### impl_Graph_all -/
abbrev impl_Graph_all_ps : List (PV.Mode × Ty) := [(.ro, QILQII)]
abbrev impl_Graph_all_rs : List (Bool × Ty) := [(true, U64)]
noncomputable def impl_Graph_all_G (N : Nat) : GTab := gOf []
theorem impl_Graph_all_gok (N : Nat) : GOk Tryz.prog (impl_Graph_all_G N) := gOf_ok trivial
noncomputable def impl_Graph_all_code : Code := (Tryz.f68.body).getD .skip
noncomputable def impl_Graph_all (N : Nat) (g : (Int × (List (Int × Int)))) : Option ((Int × Unit) × (Unit)) :=
  (chk (ile 0 g.1)
    (some (((IntKind.u64.wrap ((shlI .u64 1 g.1) - 1)), ()), ())))
noncomputable def impl_Graph_all_S (N : Nat) : FSum := ⟨impl_Graph_all_ps, impl_Graph_all_rs, fun x => impl_Graph_all N x.1⟩
theorem impl_Graph_all_run (N : Nat) (x : argsT impl_Graph_all_ps) : impl_Graph_all N x.1 = funF (impl_Graph_all_G N) tab [] Tryz.f68 impl_Graph_all_ps impl_Graph_all_rs x := by kernel_rfl
theorem impl_Graph_all_pc (N : Nat) : PC Tryz.prog 68 (impl_Graph_all_S N) := by
  have e : impl_Graph_all_S N = ⟨impl_Graph_all_ps, impl_Graph_all_rs, funF (impl_Graph_all_G N) tab [] Tryz.f68 impl_Graph_all_ps impl_Graph_all_rs⟩ := congrArg (FSum.mk impl_Graph_all_ps impl_Graph_all_rs) (funext (impl_Graph_all_run N))
  rw [e]
  exact fun_ok (c := impl_Graph_all_code) progOk (impl_Graph_all_gok N) (draw_ok progOk (impl_Graph_all_gok N)) Tryz.call68 Tryz.func68 (by kernel_rfl) (lsOk_at (L := []) trivial) (by kernel_rfl) (by kernel_rfl) (by kernel_rfl) (by kernel_rfl) (by kernel_rfl)

/-! ### slices_IndexFunc_LP_P2 -/
abbrev slices_IndexFunc_LP_P2_ps : List (PV.Mode × Ty) := [(.ro, LQII), (.ro, FQIIBo)]
abbrev slices_IndexFunc_LP_P2_rs : List (Bool × Ty) := [(true, I)]
noncomputable def slices_IndexFunc_LP_P2_G (N : Nat) : GTab := gOf []
theorem slices_IndexFunc_LP_P2_gok (N : Nat) : GOk Tryz.prog (slices_IndexFunc_LP_P2_G N) := gOf_ok trivial
noncomputable def slices_IndexFunc_LP_P2_code : Code := (Tryz.f183.body).getD .skip
noncomputable def slices_IndexFunc_LP_P2_l0_sh : Sh := ⟨[(0, .one (.ro LQII)), (1, .one (.ro FQIIBo)), (7, .one (.ro I)), (8, .one (.ro I))], []⟩
noncomputable def slices_IndexFunc_LP_P2_l0_ex : List (Ex × Sh) := [(.ret, ⟨[(4, .one (.ro I))], []⟩), (.exit 0, ⟨[], []⟩)]
noncomputable def slices_IndexFunc_LP_P2_l0 {R : Type} (N : Nat) (k0 : Int → Option R) (k1 : Unit → Option R) : Nat → (List (Int × Int)) → ((Int × Int) → Option Bool) → Int → Int → Option R
  | 0, _, _, _, _ => none
  | K + 1, s1, f1, x, x1 =>
    (br (ilt x1 x)
      ((chk (inb s1 x1)
        ((f1 (rdP s1 x1)).bind fun v =>
        (br v
        (k0 x1)
        (slices_IndexFunc_LP_P2_l0 N k0 k1 K s1 f1 x (IntKind.i64.wrap (x1 + 1)))))))
      (k1 ()))
noncomputable def slices_IndexFunc_LP_P2_l0_again {R : Type} (N : Nat) (ks : (j : Nat) → ((slices_IndexFunc_LP_P2_l0_ex.getD j (.ret, Sh.none)).2).T → Option R) (k : Nat) (x : slices_IndexFunc_LP_P2_l0_sh.T) : Option R :=
  slices_IndexFunc_LP_P2_l0 N (fun y0 => ks 0 ((y0, ()), ())) (fun (_ : Unit) => ks 1 ((), ())) k x.1.1 x.1.2.1 x.1.2.2.1 x.1.2.2.2.1
noncomputable def slices_IndexFunc_LP_P2_l0_s (N : Nat) : LSum := ⟨slices_IndexFunc_LP_P2_l0_sh, slices_IndexFunc_LP_P2_l0_ex, fun x ks => slices_IndexFunc_LP_P2_l0_again N ks N x⟩
theorem slices_IndexFunc_LP_P2_l0_step (N : Nat) (R : Type) (k : Nat) (x : slices_IndexFunc_LP_P2_l0_sh.T) (ks : (j : Nat) → ((slices_IndexFunc_LP_P2_l0_ex.getD j (.ret, Sh.none)).2).T → Option R) : slices_IndexFunc_LP_P2_l0_again N ks (k + 1) x = roundF (slices_IndexFunc_LP_P2_G N) tab [] (loopAt slices_IndexFunc_LP_P2_code 0) slices_IndexFunc_LP_P2_l0_sh slices_IndexFunc_LP_P2_l0_ex (fun y => slices_IndexFunc_LP_P2_l0_again N ks k y) ks x := by kernel_rfl
theorem slices_IndexFunc_LP_P2_l0_ok (N : Nat) : LoopOk Tryz.prog Tryz.f183.ntmps (slices_IndexFunc_LP_P2_l0_s N) (loopAt slices_IndexFunc_LP_P2_code 0) :=
  loop_ok (l := slices_IndexFunc_LP_P2_l0_s N) progOk (slices_IndexFunc_LP_P2_gok N) (draw_ok progOk (slices_IndexFunc_LP_P2_gok N)) (fun R k x ks => slices_IndexFunc_LP_P2_l0_again N ks k x) (fun _ _ _ => rfl) (fun R k x ks => slices_IndexFunc_LP_P2_l0_step N R k x ks) (fun R x ks r h => ⟨N, h⟩) (lsOk_at (L := []) trivial) (by kernel_rfl) (by kernel_rfl)
noncomputable def slices_IndexFunc_LP_P2 (N : Nat) (s : (List (Int × Int))) (f : ((Int × Int) → Option Bool)) : Option ((Int × Unit) × (Unit)) :=
  slices_IndexFunc_LP_P2_l0 N (fun x => some ((x, ()), ())) (fun (_ : Unit) => some (((-1), ()), ())) N s f (tLen s) 0
noncomputable def slices_IndexFunc_LP_P2_S (N : Nat) : FSum := ⟨slices_IndexFunc_LP_P2_ps, slices_IndexFunc_LP_P2_rs, fun x => slices_IndexFunc_LP_P2 N x.1 x.2.1⟩
theorem slices_IndexFunc_LP_P2_run (N : Nat) (x : argsT slices_IndexFunc_LP_P2_ps) : slices_IndexFunc_LP_P2 N x.1 x.2.1 = funF (slices_IndexFunc_LP_P2_G N) tab [slices_IndexFunc_LP_P2_l0_s N] Tryz.f183 slices_IndexFunc_LP_P2_ps slices_IndexFunc_LP_P2_rs x := by kernel_rfl
theorem slices_IndexFunc_LP_P2_pc (N : Nat) : PC Tryz.prog 183 (slices_IndexFunc_LP_P2_S N) := by
  have e : slices_IndexFunc_LP_P2_S N = ⟨slices_IndexFunc_LP_P2_ps, slices_IndexFunc_LP_P2_rs, funF (slices_IndexFunc_LP_P2_G N) tab [slices_IndexFunc_LP_P2_l0_s N] Tryz.f183 slices_IndexFunc_LP_P2_ps slices_IndexFunc_LP_P2_rs⟩ := congrArg (FSum.mk slices_IndexFunc_LP_P2_ps slices_IndexFunc_LP_P2_rs) (funext (slices_IndexFunc_LP_P2_run N))
  rw [e]
  exact fun_ok (c := slices_IndexFunc_LP_P2_code) progOk (slices_IndexFunc_LP_P2_gok N) (draw_ok progOk (slices_IndexFunc_LP_P2_gok N)) Tryz.call183 Tryz.func183 (by kernel_rfl) (lsOk_at (L := [slices_IndexFunc_LP_P2_l0_s N]) ⟨slices_IndexFunc_LP_P2_l0_ok N, trivial⟩) (by kernel_rfl) (by kernel_rfl) (by kernel_rfl) (by kernel_rfl) (by kernel_rfl)

/-! ### slices_ContainsFunc_LP_P2 -/
abbrev slices_ContainsFunc_LP_P2_ps : List (PV.Mode × Ty) := [(.ro, LQII), (.ro, FQIIBo)]
abbrev slices_ContainsFunc_LP_P2_rs : List (Bool × Ty) := [(true, .bool)]
noncomputable def slices_ContainsFunc_LP_P2_G (N : Nat) : GTab := gOf [(183, slices_IndexFunc_LP_P2_S N)]
theorem slices_ContainsFunc_LP_P2_gok (N : Nat) : GOk Tryz.prog (slices_ContainsFunc_LP_P2_G N) := gOf_ok ⟨slices_IndexFunc_LP_P2_pc N, trivial⟩
noncomputable def slices_ContainsFunc_LP_P2_code : Code := (Tryz.f145.body).getD .skip
noncomputable def slices_ContainsFunc_LP_P2 (N : Nat) (s : (List (Int × Int))) (f : ((Int × Int) → Option Bool)) : Option ((Bool × Unit) × (Unit)) :=
  ((slices_IndexFunc_LP_P2 N s f).bind fun r =>
    some (((ile 0 r.1.1), ()), ()))
noncomputable def slices_ContainsFunc_LP_P2_S (N : Nat) : FSum := ⟨slices_ContainsFunc_LP_P2_ps, slices_ContainsFunc_LP_P2_rs, fun x => slices_ContainsFunc_LP_P2 N x.1 x.2.1⟩
theorem slices_ContainsFunc_LP_P2_run (N : Nat) (x : argsT slices_ContainsFunc_LP_P2_ps) : slices_ContainsFunc_LP_P2 N x.1 x.2.1 = funF (slices_ContainsFunc_LP_P2_G N) tab [] Tryz.f145 slices_ContainsFunc_LP_P2_ps slices_ContainsFunc_LP_P2_rs x := by kernel_rfl
theorem slices_ContainsFunc_LP_P2_pc (N : Nat) : PC Tryz.prog 145 (slices_ContainsFunc_LP_P2_S N) := by
  have e : slices_ContainsFunc_LP_P2_S N = ⟨slices_ContainsFunc_LP_P2_ps, slices_ContainsFunc_LP_P2_rs, funF (slices_ContainsFunc_LP_P2_G N) tab [] Tryz.f145 slices_ContainsFunc_LP_P2_ps slices_ContainsFunc_LP_P2_rs⟩ := congrArg (FSum.mk slices_ContainsFunc_LP_P2_ps slices_ContainsFunc_LP_P2_rs) (funext (slices_ContainsFunc_LP_P2_run N))
  rw [e]
  exact fun_ok (c := slices_ContainsFunc_LP_P2_code) progOk (slices_ContainsFunc_LP_P2_gok N) (draw_ok progOk (slices_ContainsFunc_LP_P2_gok N)) Tryz.call145 Tryz.func145 (by kernel_rfl) (lsOk_at (L := []) trivial) (by kernel_rfl) (by kernel_rfl) (by kernel_rfl) (by kernel_rfl) (by kernel_rfl)

/-! ### impl_bag_has -/
abbrev impl_bag_has_ps : List (PV.Mode × Ty) := [(.ro, U64), (.ro, I)]
abbrev impl_bag_has_rs : List (Bool × Ty) := [(true, .bool)]
noncomputable def impl_bag_has_G (N : Nat) : GTab := gOf []
theorem impl_bag_has_gok (N : Nat) : GOk Tryz.prog (impl_bag_has_G N) := gOf_ok trivial
noncomputable def impl_bag_has_code : Code := (Tryz.f199.body).getD .skip
noncomputable def impl_bag_has (N : Nat) (b : Int) (x : Int) : Option ((Bool × Unit) × (Unit)) :=
  (chk (ile 0 x)
    (some (((ieq (bitop .and .u64 (shrI .u64 b x) 1) 1), ()), ())))
noncomputable def impl_bag_has_S (N : Nat) : FSum := ⟨impl_bag_has_ps, impl_bag_has_rs, fun x => impl_bag_has N x.1 x.2.1⟩
theorem impl_bag_has_run (N : Nat) (x : argsT impl_bag_has_ps) : impl_bag_has N x.1 x.2.1 = funF (impl_bag_has_G N) tab [] Tryz.f199 impl_bag_has_ps impl_bag_has_rs x := by kernel_rfl
theorem impl_bag_has_pc (N : Nat) : PC Tryz.prog 199 (impl_bag_has_S N) := by
  have e : impl_bag_has_S N = ⟨impl_bag_has_ps, impl_bag_has_rs, funF (impl_bag_has_G N) tab [] Tryz.f199 impl_bag_has_ps impl_bag_has_rs⟩ := congrArg (FSum.mk impl_bag_has_ps impl_bag_has_rs) (funext (impl_bag_has_run N))
  rw [e]
  exact fun_ok (c := impl_bag_has_code) progOk (impl_bag_has_gok N) (draw_ok progOk (impl_bag_has_gok N)) Tryz.call199 Tryz.func199 (by kernel_rfl) (lsOk_at (L := []) trivial) (by kernel_rfl) (by kernel_rfl) (by kernel_rfl) (by kernel_rfl) (by kernel_rfl)

/-! ### impl_Graph_isFree_c1 -/
abbrev impl_Graph_isFree_c1_ps : List (PV.Mode × Ty) := [(.ro, QII), (.ro, AU64)]
abbrev impl_Graph_isFree_c1_rs : List (Bool × Ty) := [(true, .bool)]
noncomputable def impl_Graph_isFree_c1_G (N : Nat) : GTab := gOf [(199, impl_bag_has_S N)]
theorem impl_Graph_isFree_c1_gok (N : Nat) : GOk Tryz.prog (impl_Graph_isFree_c1_G N) := gOf_ok ⟨impl_bag_has_pc N, trivial⟩
noncomputable def impl_Graph_isFree_c1_code : Code := (Tryz.f214.body).getD .skip
noncomputable def impl_Graph_isFree_c1 (N : Nat) (e : (Int × Int)) (c : Int) : Option ((Bool × Unit) × (Unit)) :=
  ((impl_bag_has N c e.1).bind fun r =>
    (br r.1.1
      (((impl_bag_has N c e.2).bind fun r1 =>
        some ((r1.1.1, ()), ())))
      (some ((false, ()), ()))))
noncomputable def impl_Graph_isFree_c1_S (N : Nat) : FSum := ⟨impl_Graph_isFree_c1_ps, impl_Graph_isFree_c1_rs, fun x => impl_Graph_isFree_c1 N x.1 x.2.1⟩
theorem impl_Graph_isFree_c1_run (N : Nat) (x : argsT impl_Graph_isFree_c1_ps) : impl_Graph_isFree_c1 N x.1 x.2.1 = funF (impl_Graph_isFree_c1_G N) tab [] Tryz.f214 impl_Graph_isFree_c1_ps impl_Graph_isFree_c1_rs x := by kernel_rfl
theorem impl_Graph_isFree_c1_pc (N : Nat) : PC Tryz.prog 214 (impl_Graph_isFree_c1_S N) := by
  have e : impl_Graph_isFree_c1_S N = ⟨impl_Graph_isFree_c1_ps, impl_Graph_isFree_c1_rs, funF (impl_Graph_isFree_c1_G N) tab [] Tryz.f214 impl_Graph_isFree_c1_ps impl_Graph_isFree_c1_rs⟩ := congrArg (FSum.mk impl_Graph_isFree_c1_ps impl_Graph_isFree_c1_rs) (funext (impl_Graph_isFree_c1_run N))
  rw [e]
  exact fun_ok (c := impl_Graph_isFree_c1_code) progOk (impl_Graph_isFree_c1_gok N) (draw_ok progOk (impl_Graph_isFree_c1_gok N)) Tryz.call214 Tryz.func214 (by kernel_rfl) (lsOk_at (L := []) trivial) (by kernel_rfl) (by kernel_rfl) (by kernel_rfl) (by kernel_rfl) (by kernel_rfl)
end Go.Proofs.YtgelipdkheahdaaGreat
