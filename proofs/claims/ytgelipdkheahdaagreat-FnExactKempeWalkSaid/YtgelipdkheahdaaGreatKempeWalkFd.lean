/- Functions of the program as functions on data. -/
import Derived.Test.YtgelipdkheahdaaGreatKempeWalkFc
set_option linter.all false
namespace Go.Proofs.YtgelipdkheahdaaGreat
open Go Go.PV
/-! ### slices_partialInsertionSortOrdered_int -/
abbrev slices_partialInsertionSortOrdered_int_ps : List (PV.Mode × Ty) := [(.mut, LI), (.ro, I), (.ro, I)]
abbrev slices_partialInsertionSortOrdered_int_rs : List (Bool × Ty) := [(true, .bool)]
noncomputable def slices_partialInsertionSortOrdered_int_G (N : Nat) : GTab := gOf [(192, cmp_Less_int_S N)]
theorem slices_partialInsertionSortOrdered_int_gok (N : Nat) : GOk Tryz.prog (slices_partialInsertionSortOrdered_int_G N) := gOf_ok ⟨cmp_Less_int_pc N, trivial⟩
noncomputable def slices_partialInsertionSortOrdered_int_code : Code := (Tryz.f191.body).getD .skip
noncomputable def slices_partialInsertionSortOrdered_int_l0_0_sh : Sh := ⟨[(0, .one (.ref 0)), (1, .one (.ro I)), (2, .one (.ro I)), (7, .one (.ro I)), (8, .one (.ro I))], [.sl 3 I .own]⟩
noncomputable def slices_partialInsertionSortOrdered_int_l0_0_ex : List (Ex × Sh) := [(.exit 2, ⟨[(0, .one (.ref 0)), (1, .one (.ro I)), (2, .one (.ro I)), (7, .one (.ro I)), (8, .one (.ro I))], [.sl 3 I .own]⟩)]
noncomputable def slices_partialInsertionSortOrdered_int_l0_0 {R : Type} (N : Nat) (k0 : Int → Int → Int → Int → (List Int) → Option R) : Nat → Int → Int → Int → Int → (List Int) → Option R
  | 0, _, _, _, _, _ => none
  | K + 1, x4, x5, x6, x7, o1 =>
    (br (ilt x6 x5)
      ((chk (inb o1 x6)
        (chk (inb o1 (IntKind.i64.wrap (x6 - 1)))
        ((cmp_Less_int N (rdI o1 x6) (rdI o1 (IntKind.i64.wrap (x6 - 1)))).bind fun r =>
        (br (!r.1.1)
          (slices_partialInsertionSortOrdered_int_l0_0 N k0 K x4 x5 (IntKind.i64.wrap (x6 + 1)) x7 o1)
          (k0 x4 x5 x6 x7 o1))))))
      (k0 x4 x5 x6 x7 o1))
noncomputable def slices_partialInsertionSortOrdered_int_l0_0_again {R : Type} (N : Nat) (ks : (j : Nat) → ((slices_partialInsertionSortOrdered_int_l0_0_ex.getD j (.ret, Sh.none)).2).T → Option R) (k : Nat) (x : slices_partialInsertionSortOrdered_int_l0_0_sh.T) : Option R :=
  slices_partialInsertionSortOrdered_int_l0_0 N (fun y0 y1 y2 y3 y4 => ks 0 (((), y0, y1, y2, y3, ()), (y4, ()))) k x.1.2.1 x.1.2.2.1 x.1.2.2.2.1 x.1.2.2.2.2.1 x.2.1
noncomputable def slices_partialInsertionSortOrdered_int_l0_0_s (N : Nat) : LSum := ⟨slices_partialInsertionSortOrdered_int_l0_0_sh, slices_partialInsertionSortOrdered_int_l0_0_ex, fun x ks => slices_partialInsertionSortOrdered_int_l0_0_again N ks N x⟩
theorem slices_partialInsertionSortOrdered_int_l0_0_step (N : Nat) (R : Type) (k : Nat) (x : slices_partialInsertionSortOrdered_int_l0_0_sh.T) (ks : (j : Nat) → ((slices_partialInsertionSortOrdered_int_l0_0_ex.getD j (.ret, Sh.none)).2).T → Option R) : slices_partialInsertionSortOrdered_int_l0_0_again N ks (k + 1) x = roundF (slices_partialInsertionSortOrdered_int_G N) tab [] (loopAt (loopAt slices_partialInsertionSortOrdered_int_code 0) 0) slices_partialInsertionSortOrdered_int_l0_0_sh slices_partialInsertionSortOrdered_int_l0_0_ex (fun y => slices_partialInsertionSortOrdered_int_l0_0_again N ks k y) ks x := by kernel_rfl
theorem slices_partialInsertionSortOrdered_int_l0_0_ok (N : Nat) : LoopOk Tryz.prog Tryz.f191.ntmps (slices_partialInsertionSortOrdered_int_l0_0_s N) (loopAt (loopAt slices_partialInsertionSortOrdered_int_code 0) 0) :=
  loop_ok (l := slices_partialInsertionSortOrdered_int_l0_0_s N) progOk (slices_partialInsertionSortOrdered_int_gok N) (draw_ok progOk (slices_partialInsertionSortOrdered_int_gok N)) (fun R k x ks => slices_partialInsertionSortOrdered_int_l0_0_again N ks k x) (fun _ _ _ => rfl) (fun R k x ks => slices_partialInsertionSortOrdered_int_l0_0_step N R k x ks) (fun R x ks r h => ⟨N, h⟩) (lsOk_at (L := []) trivial) (by kernel_rfl) (by kernel_rfl)
noncomputable def slices_partialInsertionSortOrdered_int_l0_1_sh : Sh := ⟨[(0, .one (.ref 0)), (1, .one (.ro I)), (2, .one (.ro I)), (7, .one (.ro I)), (8, .one (.ro I)), (9, .one (.ro I))], [.sl 3 I .own]⟩
noncomputable def slices_partialInsertionSortOrdered_int_l0_1_ex : List (Ex × Sh) := [(.exit 4, ⟨[(0, .one (.ref 0)), (1, .one (.ro I)), (2, .one (.ro I)), (7, .one (.ro I)), (8, .one (.ro I))], [.sl 3 I .own]⟩)]
noncomputable def slices_partialInsertionSortOrdered_int_l0_1 {R : Type} (N : Nat) (k0 : Int → Int → Int → Int → (List Int) → Option R) : Nat → Int → Int → Int → Int → Int → (List Int) → Option R
  | 0, _, _, _, _, _, _ => none
  | K + 1, x8, x9, x10, x11, x12, o2 =>
    (br (ile 1 x12)
      ((chk (inb o2 x12)
        (chk (inb o2 (IntKind.i64.wrap (x12 - 1)))
        ((cmp_Less_int N (rdI o2 x12) (rdI o2 (IntKind.i64.wrap (x12 - 1)))).bind fun r =>
        (br (!r.1.1)
          (k0 x8 x9 x10 x11 o2)
          ((chk (inb o2 (IntKind.i64.wrap (x12 - 1)))
            (chk (inb o2 x12)
            (chk (inb o2 x12)
            (chk (inb (tSet o2 x12 (rdI o2 (IntKind.i64.wrap (x12 - 1)))) (IntKind.i64.wrap (x12 - 1)))
            (slices_partialInsertionSortOrdered_int_l0_1 N k0 K x8 x9 x10 x11 (IntKind.i64.wrap (x12 - 1)) (tSet (tSet o2 x12 (rdI o2 (IntKind.i64.wrap (x12 - 1)))) (IntKind.i64.wrap (x12 - 1)) (rdI o2 x12)))))))))))))
      (k0 x8 x9 x10 x11 o2))
noncomputable def slices_partialInsertionSortOrdered_int_l0_1_again {R : Type} (N : Nat) (ks : (j : Nat) → ((slices_partialInsertionSortOrdered_int_l0_1_ex.getD j (.ret, Sh.none)).2).T → Option R) (k : Nat) (x : slices_partialInsertionSortOrdered_int_l0_1_sh.T) : Option R :=
  slices_partialInsertionSortOrdered_int_l0_1 N (fun y0 y1 y2 y3 y4 => ks 0 (((), y0, y1, y2, y3, ()), (y4, ()))) k x.1.2.1 x.1.2.2.1 x.1.2.2.2.1 x.1.2.2.2.2.1 x.1.2.2.2.2.2.1 x.2.1
noncomputable def slices_partialInsertionSortOrdered_int_l0_1_s (N : Nat) : LSum := ⟨slices_partialInsertionSortOrdered_int_l0_1_sh, slices_partialInsertionSortOrdered_int_l0_1_ex, fun x ks => slices_partialInsertionSortOrdered_int_l0_1_again N ks N x⟩
theorem slices_partialInsertionSortOrdered_int_l0_1_step (N : Nat) (R : Type) (k : Nat) (x : slices_partialInsertionSortOrdered_int_l0_1_sh.T) (ks : (j : Nat) → ((slices_partialInsertionSortOrdered_int_l0_1_ex.getD j (.ret, Sh.none)).2).T → Option R) : slices_partialInsertionSortOrdered_int_l0_1_again N ks (k + 1) x = roundF (slices_partialInsertionSortOrdered_int_G N) tab [] (loopAt (loopAt slices_partialInsertionSortOrdered_int_code 0) 1) slices_partialInsertionSortOrdered_int_l0_1_sh slices_partialInsertionSortOrdered_int_l0_1_ex (fun y => slices_partialInsertionSortOrdered_int_l0_1_again N ks k y) ks x := by kernel_rfl
theorem slices_partialInsertionSortOrdered_int_l0_1_ok (N : Nat) : LoopOk Tryz.prog Tryz.f191.ntmps (slices_partialInsertionSortOrdered_int_l0_1_s N) (loopAt (loopAt slices_partialInsertionSortOrdered_int_code 0) 1) :=
  loop_ok (l := slices_partialInsertionSortOrdered_int_l0_1_s N) progOk (slices_partialInsertionSortOrdered_int_gok N) (draw_ok progOk (slices_partialInsertionSortOrdered_int_gok N)) (fun R k x ks => slices_partialInsertionSortOrdered_int_l0_1_again N ks k x) (fun _ _ _ => rfl) (fun R k x ks => slices_partialInsertionSortOrdered_int_l0_1_step N R k x ks) (fun R x ks r h => ⟨N, h⟩) (lsOk_at (L := []) trivial) (by kernel_rfl) (by kernel_rfl)
noncomputable def slices_partialInsertionSortOrdered_int_l0_2_sh : Sh := ⟨[(0, .one (.ref 0)), (1, .one (.ro I)), (2, .one (.ro I)), (7, .one (.ro I)), (8, .one (.ro I)), (10, .one (.ro I))], [.sl 3 I .own]⟩
noncomputable def slices_partialInsertionSortOrdered_int_l0_2_ex : List (Ex × Sh) := [(.exit 6, ⟨[(0, .one (.ref 0)), (1, .one (.ro I)), (2, .one (.ro I)), (7, .one (.ro I)), (8, .one (.ro I))], [.sl 3 I .own]⟩)]
noncomputable def slices_partialInsertionSortOrdered_int_l0_2 {R : Type} (N : Nat) (k0 : Int → Int → Int → Int → (List Int) → Option R) : Nat → Int → Int → Int → Int → Int → (List Int) → Option R
  | 0, _, _, _, _, _, _ => none
  | K + 1, x12, x13, x14, x15, x16, o3 =>
    (br (ilt x16 x13)
      ((chk (inb o3 x16)
        (chk (inb o3 (IntKind.i64.wrap (x16 - 1)))
        ((cmp_Less_int N (rdI o3 x16) (rdI o3 (IntKind.i64.wrap (x16 - 1)))).bind fun r =>
        (br (!r.1.1)
          (k0 x12 x13 x14 x15 o3)
          ((chk (inb o3 (IntKind.i64.wrap (x16 - 1)))
            (chk (inb o3 x16)
            (chk (inb o3 x16)
            (chk (inb (tSet o3 x16 (rdI o3 (IntKind.i64.wrap (x16 - 1)))) (IntKind.i64.wrap (x16 - 1)))
            (slices_partialInsertionSortOrdered_int_l0_2 N k0 K x12 x13 x14 x15 (IntKind.i64.wrap (x16 + 1)) (tSet (tSet o3 x16 (rdI o3 (IntKind.i64.wrap (x16 - 1)))) (IntKind.i64.wrap (x16 - 1)) (rdI o3 x16)))))))))))))
      (k0 x12 x13 x14 x15 o3))
noncomputable def slices_partialInsertionSortOrdered_int_l0_2_again {R : Type} (N : Nat) (ks : (j : Nat) → ((slices_partialInsertionSortOrdered_int_l0_2_ex.getD j (.ret, Sh.none)).2).T → Option R) (k : Nat) (x : slices_partialInsertionSortOrdered_int_l0_2_sh.T) : Option R :=
  slices_partialInsertionSortOrdered_int_l0_2 N (fun y0 y1 y2 y3 y4 => ks 0 (((), y0, y1, y2, y3, ()), (y4, ()))) k x.1.2.1 x.1.2.2.1 x.1.2.2.2.1 x.1.2.2.2.2.1 x.1.2.2.2.2.2.1 x.2.1
noncomputable def slices_partialInsertionSortOrdered_int_l0_2_s (N : Nat) : LSum := ⟨slices_partialInsertionSortOrdered_int_l0_2_sh, slices_partialInsertionSortOrdered_int_l0_2_ex, fun x ks => slices_partialInsertionSortOrdered_int_l0_2_again N ks N x⟩
theorem slices_partialInsertionSortOrdered_int_l0_2_step (N : Nat) (R : Type) (k : Nat) (x : slices_partialInsertionSortOrdered_int_l0_2_sh.T) (ks : (j : Nat) → ((slices_partialInsertionSortOrdered_int_l0_2_ex.getD j (.ret, Sh.none)).2).T → Option R) : slices_partialInsertionSortOrdered_int_l0_2_again N ks (k + 1) x = roundF (slices_partialInsertionSortOrdered_int_G N) tab [] (loopAt (loopAt slices_partialInsertionSortOrdered_int_code 0) 2) slices_partialInsertionSortOrdered_int_l0_2_sh slices_partialInsertionSortOrdered_int_l0_2_ex (fun y => slices_partialInsertionSortOrdered_int_l0_2_again N ks k y) ks x := by kernel_rfl
theorem slices_partialInsertionSortOrdered_int_l0_2_ok (N : Nat) : LoopOk Tryz.prog Tryz.f191.ntmps (slices_partialInsertionSortOrdered_int_l0_2_s N) (loopAt (loopAt slices_partialInsertionSortOrdered_int_code 0) 2) :=
  loop_ok (l := slices_partialInsertionSortOrdered_int_l0_2_s N) progOk (slices_partialInsertionSortOrdered_int_gok N) (draw_ok progOk (slices_partialInsertionSortOrdered_int_gok N)) (fun R k x ks => slices_partialInsertionSortOrdered_int_l0_2_again N ks k x) (fun _ _ _ => rfl) (fun R k x ks => slices_partialInsertionSortOrdered_int_l0_2_step N R k x ks) (fun R x ks r h => ⟨N, h⟩) (lsOk_at (L := []) trivial) (by kernel_rfl) (by kernel_rfl)
noncomputable def slices_partialInsertionSortOrdered_int_l0_sh : Sh := ⟨[(0, .one (.ref 0)), (1, .one (.ro I)), (2, .one (.ro I)), (7, .one (.ro I)), (8, .one (.ro I))], [.sl 3 I .own]⟩
noncomputable def slices_partialInsertionSortOrdered_int_l0_ex : List (Ex × Sh) := [(.ret, ⟨[(0, .one (.ref 0)), (6, .one (.ro .bool))], [.sl 3 I .own]⟩), (.exit 0, ⟨[(0, .one (.ref 0))], [.sl 3 I .own]⟩)]
noncomputable def slices_partialInsertionSortOrdered_int_l0 {R : Type} (N : Nat) (k0 : Bool → (List Int) → Option R) (k1 : (List Int) → Option R) : Nat → Int → Int → Int → Int → (List Int) → Option R
  | 0, _, _, _, _, _ => none
  | K + 1, x, x1, x2, x3, o =>
    (br (ilt x3 5)
      (slices_partialInsertionSortOrdered_int_l0_0 N (fun x4 x5 x6 x7 o1 => (br (ieq x6 x5)
        (k0 true o1)
        ((br (ilt (IntKind.i64.wrap (x5 - x4)) 50)
          (k0 false o1)
          ((chk (inb o1 (IntKind.i64.wrap (x6 - 1)))
            (chk (inb o1 x6)
            (chk (inb o1 x6)
            (chk (inb (tSet o1 x6 (rdI o1 (IntKind.i64.wrap (x6 - 1)))) (IntKind.i64.wrap (x6 - 1)))
            (br (ile 2 (IntKind.i64.wrap (x6 - x4)))
            (slices_partialInsertionSortOrdered_int_l0_1 N (fun x8 x9 x10 x11 o2 => (br (ile 2 (IntKind.i64.wrap (x9 - x10)))
              (slices_partialInsertionSortOrdered_int_l0_2 N (fun x12 x13 x14 x15 o3 => slices_partialInsertionSortOrdered_int_l0 N k0 k1 K x12 x13 x14 (IntKind.i64.wrap (x15 + 1)) o3) N x8 x9 x10 x11 (IntKind.i64.wrap (x10 + 1)) o2)
              (slices_partialInsertionSortOrdered_int_l0 N k0 k1 K x8 x9 x10 (IntKind.i64.wrap (x11 + 1)) o2))) N x4 x5 x6 x7 (IntKind.i64.wrap (x6 - 1)) (tSet (tSet o1 x6 (rdI o1 (IntKind.i64.wrap (x6 - 1)))) (IntKind.i64.wrap (x6 - 1)) (rdI o1 x6)))
            ((br (ile 2 (IntKind.i64.wrap (x5 - x6)))
              (slices_partialInsertionSortOrdered_int_l0_2 N (fun x16 x17 x18 x19 o4 => slices_partialInsertionSortOrdered_int_l0 N k0 k1 K x16 x17 x18 (IntKind.i64.wrap (x19 + 1)) o4) N x4 x5 x6 x7 (IntKind.i64.wrap (x6 + 1)) (tSet (tSet o1 x6 (rdI o1 (IntKind.i64.wrap (x6 - 1)))) (IntKind.i64.wrap (x6 - 1)) (rdI o1 x6)))
              (slices_partialInsertionSortOrdered_int_l0 N k0 k1 K x4 x5 x6 (IntKind.i64.wrap (x7 + 1)) (tSet (tSet o1 x6 (rdI o1 (IntKind.i64.wrap (x6 - 1)))) (IntKind.i64.wrap (x6 - 1)) (rdI o1 x6))))))))))))))) N x x1 x2 x3 o)
      (k1 o))
noncomputable def slices_partialInsertionSortOrdered_int_l0_again {R : Type} (N : Nat) (ks : (j : Nat) → ((slices_partialInsertionSortOrdered_int_l0_ex.getD j (.ret, Sh.none)).2).T → Option R) (k : Nat) (x : slices_partialInsertionSortOrdered_int_l0_sh.T) : Option R :=
  slices_partialInsertionSortOrdered_int_l0 N (fun y0 y1 => ks 0 (((), y0, ()), (y1, ()))) (fun y0 => ks 1 (((), ()), (y0, ()))) k x.1.2.1 x.1.2.2.1 x.1.2.2.2.1 x.1.2.2.2.2.1 x.2.1
noncomputable def slices_partialInsertionSortOrdered_int_l0_s (N : Nat) : LSum := ⟨slices_partialInsertionSortOrdered_int_l0_sh, slices_partialInsertionSortOrdered_int_l0_ex, fun x ks => slices_partialInsertionSortOrdered_int_l0_again N ks N x⟩
theorem slices_partialInsertionSortOrdered_int_l0_step (N : Nat) (R : Type) (k : Nat) (x : slices_partialInsertionSortOrdered_int_l0_sh.T) (ks : (j : Nat) → ((slices_partialInsertionSortOrdered_int_l0_ex.getD j (.ret, Sh.none)).2).T → Option R) : slices_partialInsertionSortOrdered_int_l0_again N ks (k + 1) x = roundF (slices_partialInsertionSortOrdered_int_G N) tab [slices_partialInsertionSortOrdered_int_l0_0_s N, slices_partialInsertionSortOrdered_int_l0_1_s N, slices_partialInsertionSortOrdered_int_l0_2_s N] (loopAt slices_partialInsertionSortOrdered_int_code 0) slices_partialInsertionSortOrdered_int_l0_sh slices_partialInsertionSortOrdered_int_l0_ex (fun y => slices_partialInsertionSortOrdered_int_l0_again N ks k y) ks x := by kernel_rfl
theorem slices_partialInsertionSortOrdered_int_l0_ok (N : Nat) : LoopOk Tryz.prog Tryz.f191.ntmps (slices_partialInsertionSortOrdered_int_l0_s N) (loopAt slices_partialInsertionSortOrdered_int_code 0) :=
  loop_ok (l := slices_partialInsertionSortOrdered_int_l0_s N) progOk (slices_partialInsertionSortOrdered_int_gok N) (draw_ok progOk (slices_partialInsertionSortOrdered_int_gok N)) (fun R k x ks => slices_partialInsertionSortOrdered_int_l0_again N ks k x) (fun _ _ _ => rfl) (fun R k x ks => slices_partialInsertionSortOrdered_int_l0_step N R k x ks) (fun R x ks r h => ⟨N, h⟩) (lsOk_at (L := [slices_partialInsertionSortOrdered_int_l0_0_s N, slices_partialInsertionSortOrdered_int_l0_1_s N, slices_partialInsertionSortOrdered_int_l0_2_s N]) ⟨slices_partialInsertionSortOrdered_int_l0_0_ok N, slices_partialInsertionSortOrdered_int_l0_1_ok N, slices_partialInsertionSortOrdered_int_l0_2_ok N, trivial⟩) (by kernel_rfl) (by kernel_rfl)
noncomputable def slices_partialInsertionSortOrdered_int (N : Nat) (c : (List Int)) (c1 : Int) (c2 : Int) : Option ((Bool × Unit) × ((List Int) × Unit)) :=
  slices_partialInsertionSortOrdered_int_l0 N (fun x o => some ((x, ()), (o, ()))) (fun o1 => some ((false, ()), (o1, ()))) N c1 c2 (IntKind.i64.wrap (c1 + 1)) 0 c
noncomputable def slices_partialInsertionSortOrdered_int_S (N : Nat) : FSum := ⟨slices_partialInsertionSortOrdered_int_ps, slices_partialInsertionSortOrdered_int_rs, fun x => slices_partialInsertionSortOrdered_int N x.1 x.2.1 x.2.2.1⟩
theorem slices_partialInsertionSortOrdered_int_run (N : Nat) (x : argsT slices_partialInsertionSortOrdered_int_ps) : slices_partialInsertionSortOrdered_int N x.1 x.2.1 x.2.2.1 = funF (slices_partialInsertionSortOrdered_int_G N) tab [slices_partialInsertionSortOrdered_int_l0_s N] Tryz.f191 slices_partialInsertionSortOrdered_int_ps slices_partialInsertionSortOrdered_int_rs x := by kernel_rfl
theorem slices_partialInsertionSortOrdered_int_pc (N : Nat) : PC Tryz.prog 191 (slices_partialInsertionSortOrdered_int_S N) := by
  have e : slices_partialInsertionSortOrdered_int_S N = ⟨slices_partialInsertionSortOrdered_int_ps, slices_partialInsertionSortOrdered_int_rs, funF (slices_partialInsertionSortOrdered_int_G N) tab [slices_partialInsertionSortOrdered_int_l0_s N] Tryz.f191 slices_partialInsertionSortOrdered_int_ps slices_partialInsertionSortOrdered_int_rs⟩ := congrArg (FSum.mk slices_partialInsertionSortOrdered_int_ps slices_partialInsertionSortOrdered_int_rs) (funext (slices_partialInsertionSortOrdered_int_run N))
  rw [e]
  exact fun_ok (c := slices_partialInsertionSortOrdered_int_code) progOk (slices_partialInsertionSortOrdered_int_gok N) (draw_ok progOk (slices_partialInsertionSortOrdered_int_gok N)) Tryz.call191 Tryz.func191 (by kernel_rfl) (lsOk_at (L := [slices_partialInsertionSortOrdered_int_l0_s N]) ⟨slices_partialInsertionSortOrdered_int_l0_ok N, trivial⟩) (by kernel_rfl) (by kernel_rfl) (by kernel_rfl) (by kernel_rfl) (by kernel_rfl)

/-! ### slices_pdqsortOrdered_int -/
abbrev slices_pdqsortOrdered_int_ps : List (PV.Mode × Ty) := [(.mut, LI), (.ro, I), (.ro, I), (.ro, I)]
abbrev slices_pdqsortOrdered_int_rs : List (Bool × Ty) := []
noncomputable def slices_pdqsortOrdered_int_G (N : Nat) : GTab := gOf [(186, slices_insertionSortOrdered_int_S N), (189, slices_choosePivotOrdered_int_S N), (191, slices_partialInsertionSortOrdered_int_S N), (192, cmp_Less_int_S N)]
theorem slices_pdqsortOrdered_int_gok (N : Nat) : GOk Tryz.prog (slices_pdqsortOrdered_int_G N) := gOf_ok ⟨slices_insertionSortOrdered_int_pc N, slices_choosePivotOrdered_int_pc N, slices_partialInsertionSortOrdered_int_pc N, cmp_Less_int_pc N, trivial⟩
noncomputable def slices_pdqsortOrdered_int_code : Code := (Tryz.f148.body).getD .skip
noncomputable def slices_pdqsortOrdered_int_l0_sh : Sh := ⟨[(0, .one (.ref 0)), (1, .one (.ro I)), (2, .one (.ro I)), (3, .one (.ro I)), (8, .one (.ro .bool)), (9, .one (.ro .bool))], [.sl 3 I .own]⟩
noncomputable def slices_pdqsortOrdered_int_l0_ex : List (Ex × Sh) := [(.ret, ⟨[(0, .one (.ref 0))], [.sl 3 I .own]⟩)]
noncomputable def slices_pdqsortOrdered_int_l0 {R : Type} (N : Nat) (k0 : (List Int) → Option R) : Nat → Int → Int → Int → Bool → Bool → (List Int) → Option R
  | 0, _, _, _, _, _, _ => none
  | K + 1, x, x1, x2, x3, x4, o =>
    (br (ile (IntKind.i64.wrap (x1 - x)) 12)
      (((slices_insertionSortOrdered_int N o x x1).bind fun r =>
        k0 r.2.1))
      ((br (ieq x2 0)
        (none)
        ((br (!x3)
          (none)
          (((slices_choosePivotOrdered_int N o x x1).bind fun r1 =>
            (br (ieq r1.1.2.1 2)
              (none)
              ((br x3
                ((br x4
                  ((br (ieq r1.1.2.1 1)
                    (((slices_partialInsertionSortOrdered_int N o x x1).bind fun r2 =>
                      (br r2.1.1
                        (k0 r2.2.1)
                        ((br (ilt 0 x)
                          ((chk (inb r2.2.1 (IntKind.i64.wrap (x - 1)))
                            (chk (inb r2.2.1 r1.1.1)
                            ((cmp_Less_int N (rdI r2.2.1 (IntKind.i64.wrap (x - 1))) (rdI r2.2.1 r1.1.1)).bind fun r3 =>
                            (br (!r3.1.1)
                              (none)
                              (none))))))
                          (none))))))
                    ((br (ilt 0 x)
                      ((chk (inb o (IntKind.i64.wrap (x - 1)))
                        (chk (inb o r1.1.1)
                        ((cmp_Less_int N (rdI o (IntKind.i64.wrap (x - 1))) (rdI o r1.1.1)).bind fun r4 =>
                        (br (!r4.1.1)
                          (none)
                          (none))))))
                      (none)))))
                  ((br (ilt 0 x)
                    ((chk (inb o (IntKind.i64.wrap (x - 1)))
                      (chk (inb o r1.1.1)
                      ((cmp_Less_int N (rdI o (IntKind.i64.wrap (x - 1))) (rdI o r1.1.1)).bind fun r5 =>
                      (br (!r5.1.1)
                        (none)
                        (none))))))
                    (none)))))
                ((br (ilt 0 x)
                  ((chk (inb o (IntKind.i64.wrap (x - 1)))
                    (chk (inb o r1.1.1)
                    ((cmp_Less_int N (rdI o (IntKind.i64.wrap (x - 1))) (rdI o r1.1.1)).bind fun r6 =>
                    (br (!r6.1.1)
                      (none)
                      (none))))))
                  (none)))))))))))))
noncomputable def slices_pdqsortOrdered_int_l0_again {R : Type} (N : Nat) (ks : (j : Nat) → ((slices_pdqsortOrdered_int_l0_ex.getD j (.ret, Sh.none)).2).T → Option R) (k : Nat) (x : slices_pdqsortOrdered_int_l0_sh.T) : Option R :=
  slices_pdqsortOrdered_int_l0 N (fun y0 => ks 0 (((), ()), (y0, ()))) k x.1.2.1 x.1.2.2.1 x.1.2.2.2.1 x.1.2.2.2.2.1 x.1.2.2.2.2.2.1 x.2.1
noncomputable def slices_pdqsortOrdered_int_l0_s (N : Nat) : LSum := ⟨slices_pdqsortOrdered_int_l0_sh, slices_pdqsortOrdered_int_l0_ex, fun x ks => slices_pdqsortOrdered_int_l0_again N ks N x⟩
theorem slices_pdqsortOrdered_int_l0_step (N : Nat) (R : Type) (k : Nat) (x : slices_pdqsortOrdered_int_l0_sh.T) (ks : (j : Nat) → ((slices_pdqsortOrdered_int_l0_ex.getD j (.ret, Sh.none)).2).T → Option R) : slices_pdqsortOrdered_int_l0_again N ks (k + 1) x = roundF (slices_pdqsortOrdered_int_G N) tab [] (loopAt slices_pdqsortOrdered_int_code 0) slices_pdqsortOrdered_int_l0_sh slices_pdqsortOrdered_int_l0_ex (fun y => slices_pdqsortOrdered_int_l0_again N ks k y) ks x := by kernel_rfl
theorem slices_pdqsortOrdered_int_l0_ok (N : Nat) : LoopOk Tryz.prog Tryz.f148.ntmps (slices_pdqsortOrdered_int_l0_s N) (loopAt slices_pdqsortOrdered_int_code 0) :=
  loop_ok (l := slices_pdqsortOrdered_int_l0_s N) progOk (slices_pdqsortOrdered_int_gok N) (draw_ok progOk (slices_pdqsortOrdered_int_gok N)) (fun R k x ks => slices_pdqsortOrdered_int_l0_again N ks k x) (fun _ _ _ => rfl) (fun R k x ks => slices_pdqsortOrdered_int_l0_step N R k x ks) (fun R x ks r h => ⟨N, h⟩) (lsOk_at (L := []) trivial) (by kernel_rfl) (by kernel_rfl)
noncomputable def slices_pdqsortOrdered_int (N : Nat) (c : (List Int)) (c1 : Int) (c2 : Int) (c3 : Int) : Option ((Unit) × ((List Int) × Unit)) :=
  slices_pdqsortOrdered_int_l0 N (fun o => some ((), (o, ()))) N c1 c2 c3 true true c
noncomputable def slices_pdqsortOrdered_int_S (N : Nat) : FSum := ⟨slices_pdqsortOrdered_int_ps, slices_pdqsortOrdered_int_rs, fun x => slices_pdqsortOrdered_int N x.1 x.2.1 x.2.2.1 x.2.2.2.1⟩
theorem slices_pdqsortOrdered_int_run (N : Nat) (x : argsT slices_pdqsortOrdered_int_ps) : slices_pdqsortOrdered_int N x.1 x.2.1 x.2.2.1 x.2.2.2.1 = funF (slices_pdqsortOrdered_int_G N) tab [slices_pdqsortOrdered_int_l0_s N] Tryz.f148 slices_pdqsortOrdered_int_ps slices_pdqsortOrdered_int_rs x := by kernel_rfl
theorem slices_pdqsortOrdered_int_pc (N : Nat) : PC Tryz.prog 148 (slices_pdqsortOrdered_int_S N) := by
  have e : slices_pdqsortOrdered_int_S N = ⟨slices_pdqsortOrdered_int_ps, slices_pdqsortOrdered_int_rs, funF (slices_pdqsortOrdered_int_G N) tab [slices_pdqsortOrdered_int_l0_s N] Tryz.f148 slices_pdqsortOrdered_int_ps slices_pdqsortOrdered_int_rs⟩ := congrArg (FSum.mk slices_pdqsortOrdered_int_ps slices_pdqsortOrdered_int_rs) (funext (slices_pdqsortOrdered_int_run N))
  rw [e]
  exact fun_ok (c := slices_pdqsortOrdered_int_code) progOk (slices_pdqsortOrdered_int_gok N) (draw_ok progOk (slices_pdqsortOrdered_int_gok N)) Tryz.call148 Tryz.func148 (by kernel_rfl) (lsOk_at (L := [slices_pdqsortOrdered_int_l0_s N]) ⟨slices_pdqsortOrdered_int_l0_ok N, trivial⟩) (by kernel_rfl) (by kernel_rfl) (by kernel_rfl) (by kernel_rfl) (by kernel_rfl)

/-! ### slices_Sort_LI_int -/
abbrev slices_Sort_LI_int_ps : List (PV.Mode × Ty) := [(.mut, LI)]
abbrev slices_Sort_LI_int_rs : List (Bool × Ty) := []
noncomputable def slices_Sort_LI_int_G (N : Nat) : GTab := gOf [(130, math_bits_Len_S N), (148, slices_pdqsortOrdered_int_S N)]
theorem slices_Sort_LI_int_gok (N : Nat) : GOk Tryz.prog (slices_Sort_LI_int_G N) := gOf_ok ⟨math_bits_Len_pc N, slices_pdqsortOrdered_int_pc N, trivial⟩
noncomputable def slices_Sort_LI_int_code : Code := (Tryz.f107.body).getD .skip
noncomputable def slices_Sort_LI_int (N : Nat) (x : (List Int)) : Option ((Unit) × ((List Int) × Unit)) :=
  ((math_bits_Len N (IntKind.u64.wrap ((tLen x)))).bind fun r =>
    ((slices_pdqsortOrdered_int N x 0 (tLen x) r.1.1).bind fun r1 =>
      some ((), (r1.2.1, ()))))
noncomputable def slices_Sort_LI_int_S (N : Nat) : FSum := ⟨slices_Sort_LI_int_ps, slices_Sort_LI_int_rs, fun x => slices_Sort_LI_int N x.1⟩
theorem slices_Sort_LI_int_run (N : Nat) (x : argsT slices_Sort_LI_int_ps) : slices_Sort_LI_int N x.1 = funF (slices_Sort_LI_int_G N) tab [] Tryz.f107 slices_Sort_LI_int_ps slices_Sort_LI_int_rs x := by kernel_rfl
theorem slices_Sort_LI_int_pc (N : Nat) : PC Tryz.prog 107 (slices_Sort_LI_int_S N) := by
  have e : slices_Sort_LI_int_S N = ⟨slices_Sort_LI_int_ps, slices_Sort_LI_int_rs, funF (slices_Sort_LI_int_G N) tab [] Tryz.f107 slices_Sort_LI_int_ps slices_Sort_LI_int_rs⟩ := congrArg (FSum.mk slices_Sort_LI_int_ps slices_Sort_LI_int_rs) (funext (slices_Sort_LI_int_run N))
  rw [e]
  exact fun_ok (c := slices_Sort_LI_int_code) progOk (slices_Sort_LI_int_gok N) (draw_ok progOk (slices_Sort_LI_int_gok N)) Tryz.call107 Tryz.func107 (by kernel_rfl) (lsOk_at (L := []) trivial) (by kernel_rfl) (by kernel_rfl) (by kernel_rfl) (by kernel_rfl) (by kernel_rfl)

/-! ### impl_Graph_chain -/
abbrev impl_Graph_chain_ps : List (PV.Mode × Ty) := [(.ro, QILQII), (.ro, LI), (.ro, I), (.ro, I)]
abbrev impl_Graph_chain_rs : List (Bool × Ty) := [(true, LI)]
noncomputable def impl_Graph_chain_G (N : Nat) : GTab := gOf [(127, impl_Graph_neighbors_S N), (132, slices_Contains_LI_int_S N), (107, slices_Sort_LI_int_S N)]
theorem impl_Graph_chain_gok (N : Nat) : GOk Tryz.prog (impl_Graph_chain_G N) := gOf_ok ⟨impl_Graph_neighbors_pc N, slices_Contains_LI_int_pc N, slices_Sort_LI_int_pc N, trivial⟩
noncomputable def impl_Graph_chain_code : Code := (Tryz.f85.body).getD .skip
noncomputable def impl_Graph_chain_l0_0_sh : Sh := ⟨[(1, .one (.ro LI)), (3, .one (.ro I)), (4, .one (.adr 0 0)), (9, .one (.ro I)), (10, .one (.ref 1)), (11, .one (.ro I)), (31, .one (.ref 2)), (32, .one (.ro I)), (33, .one (.ro I))], [.box [.ro I, .ro LQII], .sl 3 I .own, .sl 3 I .own]⟩
noncomputable def impl_Graph_chain_l0_0_ex : List (Ex × Sh) := [(.exit 2, ⟨[(1, .one (.ro LI)), (3, .one (.ro I)), (4, .one (.adr 0 0)), (9, .one (.ro I)), (10, .one (.ref 1)), (11, .one (.ro I))], [.box [.ro I, .ro LQII], .sl 3 I .own]⟩)]
noncomputable def impl_Graph_chain_l0_0 {R : Type} (N : Nat) (k0 : (List Int) → Int → Int → Int → Int → (List (Int × Int)) → (List Int) → Option R) : Nat → (List Int) → Int → Int → Int → Int → Int → Int → (List (Int × Int)) → (List Int) → (List Int) → Option R
  | 0, _, _, _, _, _, _, _, _, _, _ => none
  | K + 1, x4, x5, x6, x7, x8, x9, o3, o4, o5, o6 =>
    (br (ilt x9 x8)
      ((chk (inb o6 x9)
        (chk (inb x4 (rdI o6 x9))
        (br (ieq (rdI x4 (rdI o6 x9)) x6)
        (((slices_Contains_LI_int N o5 (rdI o6 x9)).bind fun r1 =>
          (br (!r1.1.1)
            ((chk (room o5 [(rdI o6 x9)])
              (impl_Graph_chain_l0_0 N k0 K x4 x5 x6 x7 x8 (IntKind.i64.wrap (x9 + 1)) o3 o4 (tApp o5 [(rdI o6 x9)]) o6)))
            (impl_Graph_chain_l0_0 N k0 K x4 x5 x6 x7 x8 (IntKind.i64.wrap (x9 + 1)) o3 o4 o5 o6))))
        ((chk (inb x4 (rdI o6 x9))
          (br (ieq (rdI x4 (rdI o6 x9)) x5)
          (((slices_Contains_LI_int N o5 (rdI o6 x9)).bind fun r2 =>
            (br (!r2.1.1)
              ((chk (room o5 [(rdI o6 x9)])
                (impl_Graph_chain_l0_0 N k0 K x4 x5 x6 x7 x8 (IntKind.i64.wrap (x9 + 1)) o3 o4 (tApp o5 [(rdI o6 x9)]) o6)))
              (impl_Graph_chain_l0_0 N k0 K x4 x5 x6 x7 x8 (IntKind.i64.wrap (x9 + 1)) o3 o4 o5 o6))))
          (impl_Graph_chain_l0_0 N k0 K x4 x5 x6 x7 x8 (IntKind.i64.wrap (x9 + 1)) o3 o4 o5 o6))))))))
      (k0 x4 x5 x6 x7 o3 o4 o5))
noncomputable def impl_Graph_chain_l0_0_again {R : Type} (N : Nat) (ks : (j : Nat) → ((impl_Graph_chain_l0_0_ex.getD j (.ret, Sh.none)).2).T → Option R) (k : Nat) (x : impl_Graph_chain_l0_0_sh.T) : Option R :=
  impl_Graph_chain_l0_0 N (fun y0 y1 y2 y3 y4 y5 y6 => ks 0 ((y0, y1, (), y2, (), y3, ()), ((y4, y5, ()), y6, ()))) k x.1.1 x.1.2.1 x.1.2.2.2.1 x.1.2.2.2.2.2.1 x.1.2.2.2.2.2.2.2.1 x.1.2.2.2.2.2.2.2.2.1 x.2.1.1 x.2.1.2.1 x.2.2.1 x.2.2.2.1
noncomputable def impl_Graph_chain_l0_0_s (N : Nat) : LSum := ⟨impl_Graph_chain_l0_0_sh, impl_Graph_chain_l0_0_ex, fun x ks => impl_Graph_chain_l0_0_again N ks N x⟩
theorem impl_Graph_chain_l0_0_step (N : Nat) (R : Type) (k : Nat) (x : impl_Graph_chain_l0_0_sh.T) (ks : (j : Nat) → ((impl_Graph_chain_l0_0_ex.getD j (.ret, Sh.none)).2).T → Option R) : impl_Graph_chain_l0_0_again N ks (k + 1) x = roundF (impl_Graph_chain_G N) tab [] (loopAt (loopAt impl_Graph_chain_code 0) 0) impl_Graph_chain_l0_0_sh impl_Graph_chain_l0_0_ex (fun y => impl_Graph_chain_l0_0_again N ks k y) ks x := by kernel_rfl
theorem impl_Graph_chain_l0_0_ok (N : Nat) : LoopOk Tryz.prog Tryz.f85.ntmps (impl_Graph_chain_l0_0_s N) (loopAt (loopAt impl_Graph_chain_code 0) 0) :=
  loop_ok (l := impl_Graph_chain_l0_0_s N) progOk (impl_Graph_chain_gok N) (draw_ok progOk (impl_Graph_chain_gok N)) (fun R k x ks => impl_Graph_chain_l0_0_again N ks k x) (fun _ _ _ => rfl) (fun R k x ks => impl_Graph_chain_l0_0_step N R k x ks) (fun R x ks r h => ⟨N, h⟩) (lsOk_at (L := []) trivial) (by kernel_rfl) (by kernel_rfl)
noncomputable def impl_Graph_chain_l0_sh : Sh := ⟨[(1, .one (.ro LI)), (3, .one (.ro I)), (4, .one (.adr 0 0)), (9, .one (.ro I)), (10, .one (.ref 1)), (11, .one (.ro I))], [.box [.ro I, .ro LQII], .sl 3 I .own]⟩
noncomputable def impl_Graph_chain_l0_ex : List (Ex × Sh) := [(.exit 0, ⟨[(10, .one (.ref 0))], [.sl 3 I .own]⟩)]
noncomputable def impl_Graph_chain_l0 {R : Type} (N : Nat) (k0 : (List Int) → Option R) : Nat → (List Int) → Int → Int → Int → Int → (List (Int × Int)) → (List Int) → Option R
  | 0, _, _, _, _, _, _, _ => none
  | K + 1, x, x1, x2, x3, o, o1, o2 =>
    (br (ilt x3 (tLen o2))
      ((chk (inb o2 x3)
        ((impl_Graph_neighbors N (o, o1) (rdI o2 x3)).bind fun r =>
        impl_Graph_chain_l0_0 N (fun x4 x5 x6 x7 o3 o4 o5 => impl_Graph_chain_l0 N k0 K x4 x5 x6 (IntKind.i64.wrap (x7 + 1)) o3 o4 o5) N x x1 x2 x3 (tLen r.1.1) 0 o o1 o2 r.1.1)))
      (k0 o2))
noncomputable def impl_Graph_chain_l0_again {R : Type} (N : Nat) (ks : (j : Nat) → ((impl_Graph_chain_l0_ex.getD j (.ret, Sh.none)).2).T → Option R) (k : Nat) (x : impl_Graph_chain_l0_sh.T) : Option R :=
  impl_Graph_chain_l0 N (fun y0 => ks 0 (((), ()), (y0, ()))) k x.1.1 x.1.2.1 x.1.2.2.2.1 x.1.2.2.2.2.2.1 x.2.1.1 x.2.1.2.1 x.2.2.1
noncomputable def impl_Graph_chain_l0_s (N : Nat) : LSum := ⟨impl_Graph_chain_l0_sh, impl_Graph_chain_l0_ex, fun x ks => impl_Graph_chain_l0_again N ks N x⟩
theorem impl_Graph_chain_l0_step (N : Nat) (R : Type) (k : Nat) (x : impl_Graph_chain_l0_sh.T) (ks : (j : Nat) → ((impl_Graph_chain_l0_ex.getD j (.ret, Sh.none)).2).T → Option R) : impl_Graph_chain_l0_again N ks (k + 1) x = roundF (impl_Graph_chain_G N) tab [impl_Graph_chain_l0_0_s N] (loopAt impl_Graph_chain_code 0) impl_Graph_chain_l0_sh impl_Graph_chain_l0_ex (fun y => impl_Graph_chain_l0_again N ks k y) ks x := by kernel_rfl
theorem impl_Graph_chain_l0_ok (N : Nat) : LoopOk Tryz.prog Tryz.f85.ntmps (impl_Graph_chain_l0_s N) (loopAt impl_Graph_chain_code 0) :=
  loop_ok (l := impl_Graph_chain_l0_s N) progOk (impl_Graph_chain_gok N) (draw_ok progOk (impl_Graph_chain_gok N)) (fun R k x ks => impl_Graph_chain_l0_again N ks k x) (fun _ _ _ => rfl) (fun R k x ks => impl_Graph_chain_l0_step N R k x ks) (fun R x ks r h => ⟨N, h⟩) (lsOk_at (L := [impl_Graph_chain_l0_0_s N]) ⟨impl_Graph_chain_l0_0_ok N, trivial⟩) (by kernel_rfl) (by kernel_rfl)
noncomputable def impl_Graph_chain (N : Nat) (c : (Int × (List (Int × Int)))) (c1 : (List Int)) (c2 : Int) (c3 : Int) : Option (((List Int) × Unit) × (Unit)) :=
  (chk (inb c1 c2)
    (impl_Graph_chain_l0 N (fun o => ((slices_Sort_LI_int N o).bind fun r =>
    some ((r.2.1, ()), ()))) N c1 c3 (rdI c1 c2) 0 c.1 c.2 [c2]))
noncomputable def impl_Graph_chain_S (N : Nat) : FSum := ⟨impl_Graph_chain_ps, impl_Graph_chain_rs, fun x => impl_Graph_chain N x.1 x.2.1 x.2.2.1 x.2.2.2.1⟩
theorem impl_Graph_chain_run (N : Nat) (x : argsT impl_Graph_chain_ps) : impl_Graph_chain N x.1 x.2.1 x.2.2.1 x.2.2.2.1 = funF (impl_Graph_chain_G N) tab [impl_Graph_chain_l0_s N] Tryz.f85 impl_Graph_chain_ps impl_Graph_chain_rs x := by kernel_rfl
theorem impl_Graph_chain_pc (N : Nat) : PC Tryz.prog 85 (impl_Graph_chain_S N) := by
  have e : impl_Graph_chain_S N = ⟨impl_Graph_chain_ps, impl_Graph_chain_rs, funF (impl_Graph_chain_G N) tab [impl_Graph_chain_l0_s N] Tryz.f85 impl_Graph_chain_ps impl_Graph_chain_rs⟩ := congrArg (FSum.mk impl_Graph_chain_ps impl_Graph_chain_rs) (funext (impl_Graph_chain_run N))
  rw [e]
  exact fun_ok (c := impl_Graph_chain_code) progOk (impl_Graph_chain_gok N) (draw_ok progOk (impl_Graph_chain_gok N)) Tryz.call85 Tryz.func85 (by kernel_rfl) (lsOk_at (L := [impl_Graph_chain_l0_s N]) ⟨impl_Graph_chain_l0_ok N, trivial⟩) (by kernel_rfl) (by kernel_rfl) (by kernel_rfl) (by kernel_rfl) (by kernel_rfl)

/-! ### impl_Graph_kempe -/
abbrev impl_Graph_kempe_ps : List (PV.Mode × Ty) := [(.ro, QILQII), (.ro, LI), (.ro, I), (.ro, I)]
abbrev impl_Graph_kempe_rs : List (Bool × Ty) := [(true, LI)]
noncomputable def impl_Graph_kempe_G (N : Nat) : GTab := gOf [(84, slices_Clone_LI_int_S N), (85, impl_Graph_chain_S N)]
theorem impl_Graph_kempe_gok (N : Nat) : GOk Tryz.prog (impl_Graph_kempe_G N) := gOf_ok ⟨slices_Clone_LI_int_pc N, impl_Graph_chain_pc N, trivial⟩
noncomputable def impl_Graph_kempe_code : Code := (Tryz.f48.body).getD .skip
noncomputable def impl_Graph_kempe_l0_sh : Sh := ⟨[(1, .one (.ro LI)), (3, .one (.ro I)), (9, .one (.ref 0)), (10, .one (.ro I)), (23, .one (.ref 1)), (24, .one (.ro I)), (25, .one (.ro I))], [.sl 3 I .own, .sl 3 I .own]⟩
noncomputable def impl_Graph_kempe_l0_ex : List (Ex × Sh) := [(.exit 0, ⟨[(9, .one (.ref 0))], [.sl 3 I .own]⟩)]
noncomputable def impl_Graph_kempe_l0 {R : Type} (N : Nat) (k0 : (List Int) → Option R) : Nat → (List Int) → Int → Int → Int → Int → (List Int) → (List Int) → Option R
  | 0, _, _, _, _, _, _, _ => none
  | K + 1, colours1, c1, own, x1, x2, o, o1 =>
    (br (ilt x2 x1)
      ((chk (inb o1 x2)
        (chk (inb colours1 (rdI o1 x2))
        (br (ieq (rdI colours1 (rdI o1 x2)) own)
        ((chk (inb o (rdI o1 x2))
          (impl_Graph_kempe_l0 N k0 K colours1 c1 own x1 (IntKind.i64.wrap (x2 + 1)) (tSet o (rdI o1 x2) c1) o1)))
        ((chk (inb o (rdI o1 x2))
          (impl_Graph_kempe_l0 N k0 K colours1 c1 own x1 (IntKind.i64.wrap (x2 + 1)) (tSet o (rdI o1 x2) own) o1)))))))
      (k0 o))
noncomputable def impl_Graph_kempe_l0_again {R : Type} (N : Nat) (ks : (j : Nat) → ((impl_Graph_kempe_l0_ex.getD j (.ret, Sh.none)).2).T → Option R) (k : Nat) (x : impl_Graph_kempe_l0_sh.T) : Option R :=
  impl_Graph_kempe_l0 N (fun y0 => ks 0 (((), ()), (y0, ()))) k x.1.1 x.1.2.1 x.1.2.2.2.1 x.1.2.2.2.2.2.1 x.1.2.2.2.2.2.2.1 x.2.1 x.2.2.1
noncomputable def impl_Graph_kempe_l0_s (N : Nat) : LSum := ⟨impl_Graph_kempe_l0_sh, impl_Graph_kempe_l0_ex, fun x ks => impl_Graph_kempe_l0_again N ks N x⟩
theorem impl_Graph_kempe_l0_step (N : Nat) (R : Type) (k : Nat) (x : impl_Graph_kempe_l0_sh.T) (ks : (j : Nat) → ((impl_Graph_kempe_l0_ex.getD j (.ret, Sh.none)).2).T → Option R) : impl_Graph_kempe_l0_again N ks (k + 1) x = roundF (impl_Graph_kempe_G N) tab [] (loopAt impl_Graph_kempe_code 0) impl_Graph_kempe_l0_sh impl_Graph_kempe_l0_ex (fun y => impl_Graph_kempe_l0_again N ks k y) ks x := by kernel_rfl
theorem impl_Graph_kempe_l0_ok (N : Nat) : LoopOk Tryz.prog Tryz.f48.ntmps (impl_Graph_kempe_l0_s N) (loopAt impl_Graph_kempe_code 0) :=
  loop_ok (l := impl_Graph_kempe_l0_s N) progOk (impl_Graph_kempe_gok N) (draw_ok progOk (impl_Graph_kempe_gok N)) (fun R k x ks => impl_Graph_kempe_l0_again N ks k x) (fun _ _ _ => rfl) (fun R k x ks => impl_Graph_kempe_l0_step N R k x ks) (fun R x ks r h => ⟨N, h⟩) (lsOk_at (L := []) trivial) (by kernel_rfl) (by kernel_rfl)
noncomputable def impl_Graph_kempe (N : Nat) (g : (Int × (List (Int × Int)))) (colours : (List Int)) (x : Int) (c : Int) : Option (((List Int) × Unit) × (Unit)) :=
  ((slices_Clone_LI_int N colours).bind fun r =>
    (chk (inb colours x)
      ((impl_Graph_chain N (g.1, g.2) colours x c).bind fun r1 =>
      impl_Graph_kempe_l0 N (fun o => some ((o, ()), ())) N colours c (rdI colours x) (tLen r1.1.1) 0 r.1.1 r1.1.1)))
noncomputable def impl_Graph_kempe_S (N : Nat) : FSum := ⟨impl_Graph_kempe_ps, impl_Graph_kempe_rs, fun x => impl_Graph_kempe N x.1 x.2.1 x.2.2.1 x.2.2.2.1⟩
theorem impl_Graph_kempe_run (N : Nat) (x : argsT impl_Graph_kempe_ps) : impl_Graph_kempe N x.1 x.2.1 x.2.2.1 x.2.2.2.1 = funF (impl_Graph_kempe_G N) tab [impl_Graph_kempe_l0_s N] Tryz.f48 impl_Graph_kempe_ps impl_Graph_kempe_rs x := by kernel_rfl
theorem impl_Graph_kempe_pc (N : Nat) : PC Tryz.prog 48 (impl_Graph_kempe_S N) := by
  have e : impl_Graph_kempe_S N = ⟨impl_Graph_kempe_ps, impl_Graph_kempe_rs, funF (impl_Graph_kempe_G N) tab [impl_Graph_kempe_l0_s N] Tryz.f48 impl_Graph_kempe_ps impl_Graph_kempe_rs⟩ := congrArg (FSum.mk impl_Graph_kempe_ps impl_Graph_kempe_rs) (funext (impl_Graph_kempe_run N))
  rw [e]
  exact fun_ok (c := impl_Graph_kempe_code) progOk (impl_Graph_kempe_gok N) (draw_ok progOk (impl_Graph_kempe_gok N)) Tryz.call48 Tryz.func48 (by kernel_rfl) (lsOk_at (L := [impl_Graph_kempe_l0_s N]) ⟨impl_Graph_kempe_l0_ok N, trivial⟩) (by kernel_rfl) (by kernel_rfl) (by kernel_rfl) (by kernel_rfl) (by kernel_rfl)

/-! ### slices_Equal_LI_int -/
abbrev slices_Equal_LI_int_ps : List (PV.Mode × Ty) := [(.ro, LI), (.ro, LI)]
abbrev slices_Equal_LI_int_rs : List (Bool × Ty) := [(true, .bool)]
noncomputable def slices_Equal_LI_int_G (N : Nat) : GTab := gOf []
theorem slices_Equal_LI_int_gok (N : Nat) : GOk Tryz.prog (slices_Equal_LI_int_G N) := gOf_ok trivial
noncomputable def slices_Equal_LI_int_code : Code := (Tryz.f47.body).getD .skip
noncomputable def slices_Equal_LI_int_l0_sh : Sh := ⟨[(0, .one (.ro LI)), (1, .one (.ro LI)), (12, .one (.ro I)), (13, .one (.ro I))], []⟩
noncomputable def slices_Equal_LI_int_l0_ex : List (Ex × Sh) := [(.ret, ⟨[(4, .one (.ro .bool))], []⟩), (.exit 0, ⟨[], []⟩)]
noncomputable def slices_Equal_LI_int_l0 {R : Type} (N : Nat) (k0 : Bool → Option R) (k1 : Unit → Option R) : Nat → (List Int) → (List Int) → Int → Int → Option R
  | 0, _, _, _, _ => none
  | K + 1, s11, s21, x, x1 =>
    (br (ilt x1 x)
      ((chk (inb s11 x1)
        (chk (inb s21 x1)
        (br (ine (rdI s11 x1) (rdI s21 x1))
        (k0 false)
        (slices_Equal_LI_int_l0 N k0 k1 K s11 s21 x (IntKind.i64.wrap (x1 + 1)))))))
      (k1 ()))
noncomputable def slices_Equal_LI_int_l0_again {R : Type} (N : Nat) (ks : (j : Nat) → ((slices_Equal_LI_int_l0_ex.getD j (.ret, Sh.none)).2).T → Option R) (k : Nat) (x : slices_Equal_LI_int_l0_sh.T) : Option R :=
  slices_Equal_LI_int_l0 N (fun y0 => ks 0 ((y0, ()), ())) (fun (_ : Unit) => ks 1 ((), ())) k x.1.1 x.1.2.1 x.1.2.2.1 x.1.2.2.2.1
noncomputable def slices_Equal_LI_int_l0_s (N : Nat) : LSum := ⟨slices_Equal_LI_int_l0_sh, slices_Equal_LI_int_l0_ex, fun x ks => slices_Equal_LI_int_l0_again N ks N x⟩
theorem slices_Equal_LI_int_l0_step (N : Nat) (R : Type) (k : Nat) (x : slices_Equal_LI_int_l0_sh.T) (ks : (j : Nat) → ((slices_Equal_LI_int_l0_ex.getD j (.ret, Sh.none)).2).T → Option R) : slices_Equal_LI_int_l0_again N ks (k + 1) x = roundF (slices_Equal_LI_int_G N) tab [] (loopAt slices_Equal_LI_int_code 0) slices_Equal_LI_int_l0_sh slices_Equal_LI_int_l0_ex (fun y => slices_Equal_LI_int_l0_again N ks k y) ks x := by kernel_rfl
theorem slices_Equal_LI_int_l0_ok (N : Nat) : LoopOk Tryz.prog Tryz.f47.ntmps (slices_Equal_LI_int_l0_s N) (loopAt slices_Equal_LI_int_code 0) :=
  loop_ok (l := slices_Equal_LI_int_l0_s N) progOk (slices_Equal_LI_int_gok N) (draw_ok progOk (slices_Equal_LI_int_gok N)) (fun R k x ks => slices_Equal_LI_int_l0_again N ks k x) (fun _ _ _ => rfl) (fun R k x ks => slices_Equal_LI_int_l0_step N R k x ks) (fun R x ks r h => ⟨N, h⟩) (lsOk_at (L := []) trivial) (by kernel_rfl) (by kernel_rfl)
noncomputable def slices_Equal_LI_int (N : Nat) (s1 : (List Int)) (s2 : (List Int)) : Option ((Bool × Unit) × (Unit)) :=
  (br (ine (tLen s1) (tLen s2))
    (some ((false, ()), ()))
    (slices_Equal_LI_int_l0 N (fun x => some ((x, ()), ())) (fun (_ : Unit) => some ((true, ()), ())) N s1 s2 (tLen s1) 0))
noncomputable def slices_Equal_LI_int_S (N : Nat) : FSum := ⟨slices_Equal_LI_int_ps, slices_Equal_LI_int_rs, fun x => slices_Equal_LI_int N x.1 x.2.1⟩
theorem slices_Equal_LI_int_run (N : Nat) (x : argsT slices_Equal_LI_int_ps) : slices_Equal_LI_int N x.1 x.2.1 = funF (slices_Equal_LI_int_G N) tab [slices_Equal_LI_int_l0_s N] Tryz.f47 slices_Equal_LI_int_ps slices_Equal_LI_int_rs x := by kernel_rfl
theorem slices_Equal_LI_int_pc (N : Nat) : PC Tryz.prog 47 (slices_Equal_LI_int_S N) := by
  have e : slices_Equal_LI_int_S N = ⟨slices_Equal_LI_int_ps, slices_Equal_LI_int_rs, funF (slices_Equal_LI_int_G N) tab [slices_Equal_LI_int_l0_s N] Tryz.f47 slices_Equal_LI_int_ps slices_Equal_LI_int_rs⟩ := congrArg (FSum.mk slices_Equal_LI_int_ps slices_Equal_LI_int_rs) (funext (slices_Equal_LI_int_run N))
  rw [e]
  exact fun_ok (c := slices_Equal_LI_int_code) progOk (slices_Equal_LI_int_gok N) (draw_ok progOk (slices_Equal_LI_int_gok N)) Tryz.call47 Tryz.func47 (by kernel_rfl) (lsOk_at (L := [slices_Equal_LI_int_l0_s N]) ⟨slices_Equal_LI_int_l0_ok N, trivial⟩) (by kernel_rfl) (by kernel_rfl) (by kernel_rfl) (by kernel_rfl) (by kernel_rfl)

/-! ### impl_KempeSpace_c1 -/
abbrev impl_KempeSpace_c1_ps : List (PV.Mode × Ty) := [(.ro, LI), (.ro, LI), (.ro, AQILQII)]
abbrev impl_KempeSpace_c1_rs : List (Bool × Ty) := [(true, .bool)]
noncomputable def impl_KempeSpace_c1_G (N : Nat) : GTab := gOf [(46, impl_places_S N), (48, impl_Graph_kempe_S N), (47, slices_Equal_LI_int_S N)]
theorem impl_KempeSpace_c1_gok (N : Nat) : GOk Tryz.prog (impl_KempeSpace_c1_G N) := gOf_ok ⟨impl_places_pc N, impl_Graph_kempe_pc N, slices_Equal_LI_int_pc N, trivial⟩
noncomputable def impl_KempeSpace_c1_code : Code := (Tryz.f45.body).getD .skip
noncomputable def impl_KempeSpace_c1 (N : Nat) (a : (List Int)) (b : (List Int)) (c : (Int × (List (Int × Int)))) : Option ((Bool × Unit) × (Unit)) :=
  ((impl_places N a b).bind fun r =>
    (chk (inb r.1.1 0)
      (chk (inb r.1.1 0)
      (chk (inb b (rdI r.1.1 0))
      ((impl_Graph_kempe N c a (rdI r.1.1 0) (rdI b (rdI r.1.1 0))).bind fun r1 =>
      ((slices_Equal_LI_int N r1.1.1 b).bind fun r2 =>
        some ((r2.1.1, ()), ())))))))
noncomputable def impl_KempeSpace_c1_S (N : Nat) : FSum := ⟨impl_KempeSpace_c1_ps, impl_KempeSpace_c1_rs, fun x => impl_KempeSpace_c1 N x.1 x.2.1 x.2.2.1⟩
theorem impl_KempeSpace_c1_run (N : Nat) (x : argsT impl_KempeSpace_c1_ps) : impl_KempeSpace_c1 N x.1 x.2.1 x.2.2.1 = funF (impl_KempeSpace_c1_G N) tab [] Tryz.f45 impl_KempeSpace_c1_ps impl_KempeSpace_c1_rs x := by kernel_rfl
theorem impl_KempeSpace_c1_pc (N : Nat) : PC Tryz.prog 45 (impl_KempeSpace_c1_S N) := by
  have e : impl_KempeSpace_c1_S N = ⟨impl_KempeSpace_c1_ps, impl_KempeSpace_c1_rs, funF (impl_KempeSpace_c1_G N) tab [] Tryz.f45 impl_KempeSpace_c1_ps impl_KempeSpace_c1_rs⟩ := congrArg (FSum.mk impl_KempeSpace_c1_ps impl_KempeSpace_c1_rs) (funext (impl_KempeSpace_c1_run N))
  rw [e]
  exact fun_ok (c := impl_KempeSpace_c1_code) progOk (impl_KempeSpace_c1_gok N) (draw_ok progOk (impl_KempeSpace_c1_gok N)) Tryz.call45 Tryz.func45 (by kernel_rfl) (lsOk_at (L := []) trivial) (by kernel_rfl) (by kernel_rfl) (by kernel_rfl) (by kernel_rfl) (by kernel_rfl)

/-! ### impl_orNone -/
abbrev impl_orNone_ps : List (PV.Mode × Ty) := [(.own, QLLILQII)]
abbrev impl_orNone_rs : List (Bool × Ty) := [(true, QLLILQII), (true, .bool)]
noncomputable def impl_orNone_G (N : Nat) : GTab := gOf []
theorem impl_orNone_gok (N : Nat) : GOk Tryz.prog (impl_orNone_G N) := gOf_ok trivial
noncomputable def impl_orNone_code : Code := (Tryz.f43.body).getD .skip
noncomputable def impl_orNone (N : Nat) (x : ((List (List Int)) × (List (Int × Int)))) : Option ((((List (List Int)) × (List (Int × Int))) × Bool × Unit) × (Unit)) :=
  (br (ilt 300 (tLen x.1))
    (some ((([], []), false, ()), ()))
    ((br (ilt 6000 (tLen x.2))
      (some ((([], []), false, ()), ()))
      (some (((x.1, x.2), true, ()), ())))))
noncomputable def impl_orNone_S (N : Nat) : FSum := ⟨impl_orNone_ps, impl_orNone_rs, fun x => impl_orNone N x.1⟩
theorem impl_orNone_run (N : Nat) (x : argsT impl_orNone_ps) : impl_orNone N x.1 = funF (impl_orNone_G N) tab [] Tryz.f43 impl_orNone_ps impl_orNone_rs x := by kernel_rfl
theorem impl_orNone_pc (N : Nat) : PC Tryz.prog 43 (impl_orNone_S N) := by
  have e : impl_orNone_S N = ⟨impl_orNone_ps, impl_orNone_rs, funF (impl_orNone_G N) tab [] Tryz.f43 impl_orNone_ps impl_orNone_rs⟩ := congrArg (FSum.mk impl_orNone_ps impl_orNone_rs) (funext (impl_orNone_run N))
  rw [e]
  exact fun_ok (c := impl_orNone_code) progOk (impl_orNone_gok N) (draw_ok progOk (impl_orNone_gok N)) Tryz.call43 Tryz.func43 (by kernel_rfl) (lsOk_at (L := []) trivial) (by kernel_rfl) (by kernel_rfl) (by kernel_rfl) (by kernel_rfl) (by kernel_rfl)

/-! ### impl_KempeSpace -/
abbrev impl_KempeSpace_ps : List (PV.Mode × Ty) := [(.ro, QILQII), (.ro, I)]
abbrev impl_KempeSpace_rs : List (Bool × Ty) := [(true, QLLILQII), (true, .bool)]
noncomputable def impl_KempeSpace_G (N : Nat) : GTab := gOf [(42, impl_Colourings_S N), (44, impl_spaceOf_S N), (45, impl_KempeSpace_c1_S N), (43, impl_orNone_S N)]
theorem impl_KempeSpace_gok (N : Nat) : GOk Tryz.prog (impl_KempeSpace_G N) := gOf_ok ⟨impl_Colourings_pc N, impl_spaceOf_pc N, impl_KempeSpace_c1_pc N, impl_orNone_pc N, trivial⟩
noncomputable def impl_KempeSpace_code : Code := (Tryz.f12.body).getD .skip
noncomputable def impl_KempeSpace (N : Nat) (g : (Int × (List (Int × Int)))) (kv : Int) : Option ((((List (List Int)) × (List (Int × Int))) × Bool × Unit) × (Unit)) :=
  ((impl_Colourings N (g.1, g.2) kv).bind fun r =>
    (br (!r.1.2.1)
      (some ((([], []), false, ()), ()))
      (((impl_spaceOf N r.1.1 (fun y0 y1 => (impl_KempeSpace_c1 N y0 y1 (g.1, g.2)).bind fun z => some z.1.1)).bind fun r1 =>
        ((impl_orNone N (r1.1.1.1, r1.1.1.2)).bind fun r2 =>
          some (((r2.1.1.1, r2.1.1.2), r2.1.2.1, ()), ()))))))
noncomputable def impl_KempeSpace_S (N : Nat) : FSum := ⟨impl_KempeSpace_ps, impl_KempeSpace_rs, fun x => impl_KempeSpace N x.1 x.2.1⟩
theorem impl_KempeSpace_run (N : Nat) (x : argsT impl_KempeSpace_ps) : impl_KempeSpace N x.1 x.2.1 = funF (impl_KempeSpace_G N) tab [] Tryz.f12 impl_KempeSpace_ps impl_KempeSpace_rs x := by kernel_rfl
theorem impl_KempeSpace_pc (N : Nat) : PC Tryz.prog 12 (impl_KempeSpace_S N) := by
  have e : impl_KempeSpace_S N = ⟨impl_KempeSpace_ps, impl_KempeSpace_rs, funF (impl_KempeSpace_G N) tab [] Tryz.f12 impl_KempeSpace_ps impl_KempeSpace_rs⟩ := congrArg (FSum.mk impl_KempeSpace_ps impl_KempeSpace_rs) (funext (impl_KempeSpace_run N))
  rw [e]
  exact fun_ok (c := impl_KempeSpace_code) progOk (impl_KempeSpace_gok N) (draw_ok progOk (impl_KempeSpace_gok N)) Tryz.call12 Tryz.func12 (by kernel_rfl) (lsOk_at (L := []) trivial) (by kernel_rfl) (by kernel_rfl) (by kernel_rfl) (by kernel_rfl) (by kernel_rfl)

/-! ### slices_IndexFunc_LLI_LI -/
abbrev slices_IndexFunc_LLI_LI_ps : List (PV.Mode × Ty) := [(.ro, LLI), (.ro, FLIBo)]
abbrev slices_IndexFunc_LLI_LI_rs : List (Bool × Ty) := [(true, I)]
noncomputable def slices_IndexFunc_LLI_LI_G (N : Nat) : GTab := gOf []
theorem slices_IndexFunc_LLI_LI_gok (N : Nat) : GOk Tryz.prog (slices_IndexFunc_LLI_LI_G N) := gOf_ok trivial
noncomputable def slices_IndexFunc_LLI_LI_code : Code := (Tryz.f143.body).getD .skip
noncomputable def slices_IndexFunc_LLI_LI_l0_sh : Sh := ⟨[(0, .one (.ro LLI)), (1, .one (.ro FLIBo)), (7, .one (.ro I)), (8, .one (.ro I))], []⟩
noncomputable def slices_IndexFunc_LLI_LI_l0_ex : List (Ex × Sh) := [(.ret, ⟨[(4, .one (.ro I))], []⟩), (.exit 0, ⟨[], []⟩)]
noncomputable def slices_IndexFunc_LLI_LI_l0 {R : Type} (N : Nat) (k0 : Int → Option R) (k1 : Unit → Option R) : Nat → (List (List Int)) → ((List Int) → Option Bool) → Int → Int → Option R
  | 0, _, _, _, _ => none
  | K + 1, s1, f1, x, x1 =>
    (br (ilt x1 x)
      ((chk (inb s1 x1)
        ((f1 (rdL s1 x1)).bind fun v =>
        (br v
        (k0 x1)
        (slices_IndexFunc_LLI_LI_l0 N k0 k1 K s1 f1 x (IntKind.i64.wrap (x1 + 1)))))))
      (k1 ()))
noncomputable def slices_IndexFunc_LLI_LI_l0_again {R : Type} (N : Nat) (ks : (j : Nat) → ((slices_IndexFunc_LLI_LI_l0_ex.getD j (.ret, Sh.none)).2).T → Option R) (k : Nat) (x : slices_IndexFunc_LLI_LI_l0_sh.T) : Option R :=
  slices_IndexFunc_LLI_LI_l0 N (fun y0 => ks 0 ((y0, ()), ())) (fun (_ : Unit) => ks 1 ((), ())) k x.1.1 x.1.2.1 x.1.2.2.1 x.1.2.2.2.1
noncomputable def slices_IndexFunc_LLI_LI_l0_s (N : Nat) : LSum := ⟨slices_IndexFunc_LLI_LI_l0_sh, slices_IndexFunc_LLI_LI_l0_ex, fun x ks => slices_IndexFunc_LLI_LI_l0_again N ks N x⟩
theorem slices_IndexFunc_LLI_LI_l0_step (N : Nat) (R : Type) (k : Nat) (x : slices_IndexFunc_LLI_LI_l0_sh.T) (ks : (j : Nat) → ((slices_IndexFunc_LLI_LI_l0_ex.getD j (.ret, Sh.none)).2).T → Option R) : slices_IndexFunc_LLI_LI_l0_again N ks (k + 1) x = roundF (slices_IndexFunc_LLI_LI_G N) tab [] (loopAt slices_IndexFunc_LLI_LI_code 0) slices_IndexFunc_LLI_LI_l0_sh slices_IndexFunc_LLI_LI_l0_ex (fun y => slices_IndexFunc_LLI_LI_l0_again N ks k y) ks x := by kernel_rfl
theorem slices_IndexFunc_LLI_LI_l0_ok (N : Nat) : LoopOk Tryz.prog Tryz.f143.ntmps (slices_IndexFunc_LLI_LI_l0_s N) (loopAt slices_IndexFunc_LLI_LI_code 0) :=
  loop_ok (l := slices_IndexFunc_LLI_LI_l0_s N) progOk (slices_IndexFunc_LLI_LI_gok N) (draw_ok progOk (slices_IndexFunc_LLI_LI_gok N)) (fun R k x ks => slices_IndexFunc_LLI_LI_l0_again N ks k x) (fun _ _ _ => rfl) (fun R k x ks => slices_IndexFunc_LLI_LI_l0_step N R k x ks) (fun R x ks r h => ⟨N, h⟩) (lsOk_at (L := []) trivial) (by kernel_rfl) (by kernel_rfl)
noncomputable def slices_IndexFunc_LLI_LI (N : Nat) (s : (List (List Int))) (f : ((List Int) → Option Bool)) : Option ((Int × Unit) × (Unit)) :=
  slices_IndexFunc_LLI_LI_l0 N (fun x => some ((x, ()), ())) (fun (_ : Unit) => some (((-1), ()), ())) N s f (tLen s) 0
noncomputable def slices_IndexFunc_LLI_LI_S (N : Nat) : FSum := ⟨slices_IndexFunc_LLI_LI_ps, slices_IndexFunc_LLI_LI_rs, fun x => slices_IndexFunc_LLI_LI N x.1 x.2.1⟩
theorem slices_IndexFunc_LLI_LI_run (N : Nat) (x : argsT slices_IndexFunc_LLI_LI_ps) : slices_IndexFunc_LLI_LI N x.1 x.2.1 = funF (slices_IndexFunc_LLI_LI_G N) tab [slices_IndexFunc_LLI_LI_l0_s N] Tryz.f143 slices_IndexFunc_LLI_LI_ps slices_IndexFunc_LLI_LI_rs x := by kernel_rfl
theorem slices_IndexFunc_LLI_LI_pc (N : Nat) : PC Tryz.prog 143 (slices_IndexFunc_LLI_LI_S N) := by
  have e : slices_IndexFunc_LLI_LI_S N = ⟨slices_IndexFunc_LLI_LI_ps, slices_IndexFunc_LLI_LI_rs, funF (slices_IndexFunc_LLI_LI_G N) tab [slices_IndexFunc_LLI_LI_l0_s N] Tryz.f143 slices_IndexFunc_LLI_LI_ps slices_IndexFunc_LLI_LI_rs⟩ := congrArg (FSum.mk slices_IndexFunc_LLI_LI_ps slices_IndexFunc_LLI_LI_rs) (funext (slices_IndexFunc_LLI_LI_run N))
  rw [e]
  exact fun_ok (c := slices_IndexFunc_LLI_LI_code) progOk (slices_IndexFunc_LLI_LI_gok N) (draw_ok progOk (slices_IndexFunc_LLI_LI_gok N)) Tryz.call143 Tryz.func143 (by kernel_rfl) (lsOk_at (L := [slices_IndexFunc_LLI_LI_l0_s N]) ⟨slices_IndexFunc_LLI_LI_l0_ok N, trivial⟩) (by kernel_rfl) (by kernel_rfl) (by kernel_rfl) (by kernel_rfl) (by kernel_rfl)

/-! ### slices_ContainsFunc_LLI_LI -/
abbrev slices_ContainsFunc_LLI_LI_ps : List (PV.Mode × Ty) := [(.ro, LLI), (.ro, FLIBo)]
abbrev slices_ContainsFunc_LLI_LI_rs : List (Bool × Ty) := [(true, .bool)]
noncomputable def slices_ContainsFunc_LLI_LI_G (N : Nat) : GTab := gOf [(143, slices_IndexFunc_LLI_LI_S N)]
theorem slices_ContainsFunc_LLI_LI_gok (N : Nat) : GOk Tryz.prog (slices_ContainsFunc_LLI_LI_G N) := gOf_ok ⟨slices_IndexFunc_LLI_LI_pc N, trivial⟩
noncomputable def slices_ContainsFunc_LLI_LI_code : Code := (Tryz.f102.body).getD .skip
noncomputable def slices_ContainsFunc_LLI_LI (N : Nat) (s : (List (List Int))) (f : ((List Int) → Option Bool)) : Option ((Bool × Unit) × (Unit)) :=
  ((slices_IndexFunc_LLI_LI N s f).bind fun r =>
    some (((ile 0 r.1.1), ()), ()))
noncomputable def slices_ContainsFunc_LLI_LI_S (N : Nat) : FSum := ⟨slices_ContainsFunc_LLI_LI_ps, slices_ContainsFunc_LLI_LI_rs, fun x => slices_ContainsFunc_LLI_LI N x.1 x.2.1⟩
theorem slices_ContainsFunc_LLI_LI_run (N : Nat) (x : argsT slices_ContainsFunc_LLI_LI_ps) : slices_ContainsFunc_LLI_LI N x.1 x.2.1 = funF (slices_ContainsFunc_LLI_LI_G N) tab [] Tryz.f102 slices_ContainsFunc_LLI_LI_ps slices_ContainsFunc_LLI_LI_rs x := by kernel_rfl
theorem slices_ContainsFunc_LLI_LI_pc (N : Nat) : PC Tryz.prog 102 (slices_ContainsFunc_LLI_LI_S N) := by
  have e : slices_ContainsFunc_LLI_LI_S N = ⟨slices_ContainsFunc_LLI_LI_ps, slices_ContainsFunc_LLI_LI_rs, funF (slices_ContainsFunc_LLI_LI_G N) tab [] Tryz.f102 slices_ContainsFunc_LLI_LI_ps slices_ContainsFunc_LLI_LI_rs⟩ := congrArg (FSum.mk slices_ContainsFunc_LLI_LI_ps slices_ContainsFunc_LLI_LI_rs) (funext (slices_ContainsFunc_LLI_LI_run N))
  rw [e]
  exact fun_ok (c := slices_ContainsFunc_LLI_LI_code) progOk (slices_ContainsFunc_LLI_LI_gok N) (draw_ok progOk (slices_ContainsFunc_LLI_LI_gok N)) Tryz.call102 Tryz.func102 (by kernel_rfl) (lsOk_at (L := []) trivial) (by kernel_rfl) (by kernel_rfl) (by kernel_rfl) (by kernel_rfl) (by kernel_rfl)

/-! ### impl_Graph_isColouring_c1 -/
abbrev impl_Graph_isColouring_c1_ps : List (PV.Mode × Ty) := [(.ro, I), (.ro, AI)]
abbrev impl_Graph_isColouring_c1_rs : List (Bool × Ty) := [(true, .bool)]
noncomputable def impl_Graph_isColouring_c1_G (N : Nat) : GTab := gOf [(124, impl_between_S N)]
theorem impl_Graph_isColouring_c1_gok (N : Nat) : GOk Tryz.prog (impl_Graph_isColouring_c1_G N) := gOf_ok ⟨impl_between_pc N, trivial⟩
noncomputable def impl_Graph_isColouring_c1_code : Code := (Tryz.f144.body).getD .skip
noncomputable def impl_Graph_isColouring_c1 (N : Nat) (c : Int) (c1 : Int) : Option ((Bool × Unit) × (Unit)) :=
  ((impl_between N c 0 (IntKind.i64.wrap (c1 - 1))).bind fun r =>
    some (((!r.1.1), ()), ()))
noncomputable def impl_Graph_isColouring_c1_S (N : Nat) : FSum := ⟨impl_Graph_isColouring_c1_ps, impl_Graph_isColouring_c1_rs, fun x => impl_Graph_isColouring_c1 N x.1 x.2.1⟩
theorem impl_Graph_isColouring_c1_run (N : Nat) (x : argsT impl_Graph_isColouring_c1_ps) : impl_Graph_isColouring_c1 N x.1 x.2.1 = funF (impl_Graph_isColouring_c1_G N) tab [] Tryz.f144 impl_Graph_isColouring_c1_ps impl_Graph_isColouring_c1_rs x := by kernel_rfl
theorem impl_Graph_isColouring_c1_pc (N : Nat) : PC Tryz.prog 144 (impl_Graph_isColouring_c1_S N) := by
  have e : impl_Graph_isColouring_c1_S N = ⟨impl_Graph_isColouring_c1_ps, impl_Graph_isColouring_c1_rs, funF (impl_Graph_isColouring_c1_G N) tab [] Tryz.f144 impl_Graph_isColouring_c1_ps impl_Graph_isColouring_c1_rs⟩ := congrArg (FSum.mk impl_Graph_isColouring_c1_ps impl_Graph_isColouring_c1_rs) (funext (impl_Graph_isColouring_c1_run N))
  rw [e]
  exact fun_ok (c := impl_Graph_isColouring_c1_code) progOk (impl_Graph_isColouring_c1_gok N) (draw_ok progOk (impl_Graph_isColouring_c1_gok N)) Tryz.call144 Tryz.func144 (by kernel_rfl) (lsOk_at (L := []) trivial) (by kernel_rfl) (by kernel_rfl) (by kernel_rfl) (by kernel_rfl) (by kernel_rfl)

/-! ### slices_IndexFunc_LP_P2 -/
abbrev slices_IndexFunc_LP_P2_ps : List (PV.Mode × Ty) := [(.ro, LQII), (.ro, FQIIBo)]
abbrev slices_IndexFunc_LP_P2_rs : List (Bool × Ty) := [(true, I)]
noncomputable def slices_IndexFunc_LP_P2_G (N : Nat) : GTab := gOf []
theorem slices_IndexFunc_LP_P2_gok (N : Nat) : GOk Tryz.prog (slices_IndexFunc_LP_P2_G N) := gOf_ok trivial
noncomputable def slices_IndexFunc_LP_P2_code : Code := (Tryz.f183.body).getD .skip
noncomputable def slices_IndexFunc_LP_P2_l0_sh : Sh := ⟨[(0, .one (.ro LQII)), (1, .one (.ro FQIIBo)), (7, .one (.ro I)), (8, .one (.ro I))], []⟩
noncomputable def slices_IndexFunc_LP_P2_l0_ex : List (Ex × Sh) := [(.ret, ⟨[(4, .one (.ro I))], []⟩), (.exit 0, ⟨[], []⟩)]
noncomputable def slices_IndexFunc_LP_P2_l0 {R : Type} (N : Nat) (k0 : Int → Option R) (k1 : Unit → Option R) : Nat → (List (Int × Int)) → ((Int × Int) → Option Bool) → Int → Int → Option R
  | 0, _, _, _, _ => none
  | K + 1, s1, f1, x, x1 =>
    (br (ilt x1 x)
      ((chk (inb s1 x1)
        ((f1 (rdP s1 x1)).bind fun v =>
        (br v
        (k0 x1)
        (slices_IndexFunc_LP_P2_l0 N k0 k1 K s1 f1 x (IntKind.i64.wrap (x1 + 1)))))))
      (k1 ()))
noncomputable def slices_IndexFunc_LP_P2_l0_again {R : Type} (N : Nat) (ks : (j : Nat) → ((slices_IndexFunc_LP_P2_l0_ex.getD j (.ret, Sh.none)).2).T → Option R) (k : Nat) (x : slices_IndexFunc_LP_P2_l0_sh.T) : Option R :=
  slices_IndexFunc_LP_P2_l0 N (fun y0 => ks 0 ((y0, ()), ())) (fun (_ : Unit) => ks 1 ((), ())) k x.1.1 x.1.2.1 x.1.2.2.1 x.1.2.2.2.1
noncomputable def slices_IndexFunc_LP_P2_l0_s (N : Nat) : LSum := ⟨slices_IndexFunc_LP_P2_l0_sh, slices_IndexFunc_LP_P2_l0_ex, fun x ks => slices_IndexFunc_LP_P2_l0_again N ks N x⟩
theorem slices_IndexFunc_LP_P2_l0_step (N : Nat) (R : Type) (k : Nat) (x : slices_IndexFunc_LP_P2_l0_sh.T) (ks : (j : Nat) → ((slices_IndexFunc_LP_P2_l0_ex.getD j (.ret, Sh.none)).2).T → Option R) : slices_IndexFunc_LP_P2_l0_again N ks (k + 1) x = roundF (slices_IndexFunc_LP_P2_G N) tab [] (loopAt slices_IndexFunc_LP_P2_code 0) slices_IndexFunc_LP_P2_l0_sh slices_IndexFunc_LP_P2_l0_ex (fun y => slices_IndexFunc_LP_P2_l0_again N ks k y) ks x := by kernel_rfl
theorem slices_IndexFunc_LP_P2_l0_ok (N : Nat) : LoopOk Tryz.prog Tryz.f183.ntmps (slices_IndexFunc_LP_P2_l0_s N) (loopAt slices_IndexFunc_LP_P2_code 0) :=
  loop_ok (l := slices_IndexFunc_LP_P2_l0_s N) progOk (slices_IndexFunc_LP_P2_gok N) (draw_ok progOk (slices_IndexFunc_LP_P2_gok N)) (fun R k x ks => slices_IndexFunc_LP_P2_l0_again N ks k x) (fun _ _ _ => rfl) (fun R k x ks => slices_IndexFunc_LP_P2_l0_step N R k x ks) (fun R x ks r h => ⟨N, h⟩) (lsOk_at (L := []) trivial) (by kernel_rfl) (by kernel_rfl)
noncomputable def slices_IndexFunc_LP_P2 (N : Nat) (s : (List (Int × Int))) (f : ((Int × Int) → Option Bool)) : Option ((Int × Unit) × (Unit)) :=
  slices_IndexFunc_LP_P2_l0 N (fun x => some ((x, ()), ())) (fun (_ : Unit) => some (((-1), ()), ())) N s f (tLen s) 0
noncomputable def slices_IndexFunc_LP_P2_S (N : Nat) : FSum := ⟨slices_IndexFunc_LP_P2_ps, slices_IndexFunc_LP_P2_rs, fun x => slices_IndexFunc_LP_P2 N x.1 x.2.1⟩
theorem slices_IndexFunc_LP_P2_run (N : Nat) (x : argsT slices_IndexFunc_LP_P2_ps) : slices_IndexFunc_LP_P2 N x.1 x.2.1 = funF (slices_IndexFunc_LP_P2_G N) tab [slices_IndexFunc_LP_P2_l0_s N] Tryz.f183 slices_IndexFunc_LP_P2_ps slices_IndexFunc_LP_P2_rs x := by kernel_rfl
theorem slices_IndexFunc_LP_P2_pc (N : Nat) : PC Tryz.prog 183 (slices_IndexFunc_LP_P2_S N) := by
  have e : slices_IndexFunc_LP_P2_S N = ⟨slices_IndexFunc_LP_P2_ps, slices_IndexFunc_LP_P2_rs, funF (slices_IndexFunc_LP_P2_G N) tab [slices_IndexFunc_LP_P2_l0_s N] Tryz.f183 slices_IndexFunc_LP_P2_ps slices_IndexFunc_LP_P2_rs⟩ := congrArg (FSum.mk slices_IndexFunc_LP_P2_ps slices_IndexFunc_LP_P2_rs) (funext (slices_IndexFunc_LP_P2_run N))
  rw [e]
  exact fun_ok (c := slices_IndexFunc_LP_P2_code) progOk (slices_IndexFunc_LP_P2_gok N) (draw_ok progOk (slices_IndexFunc_LP_P2_gok N)) Tryz.call183 Tryz.func183 (by kernel_rfl) (lsOk_at (L := [slices_IndexFunc_LP_P2_l0_s N]) ⟨slices_IndexFunc_LP_P2_l0_ok N, trivial⟩) (by kernel_rfl) (by kernel_rfl) (by kernel_rfl) (by kernel_rfl) (by kernel_rfl)

/-! ### slices_ContainsFunc_LP_P2 -/
abbrev slices_ContainsFunc_LP_P2_ps : List (PV.Mode × Ty) := [(.ro, LQII), (.ro, FQIIBo)]
abbrev slices_ContainsFunc_LP_P2_rs : List (Bool × Ty) := [(true, .bool)]
noncomputable def slices_ContainsFunc_LP_P2_G (N : Nat) : GTab := gOf [(183, slices_IndexFunc_LP_P2_S N)]
theorem slices_ContainsFunc_LP_P2_gok (N : Nat) : GOk Tryz.prog (slices_ContainsFunc_LP_P2_G N) := gOf_ok ⟨slices_IndexFunc_LP_P2_pc N, trivial⟩
noncomputable def slices_ContainsFunc_LP_P2_code : Code := (Tryz.f145.body).getD .skip
noncomputable def slices_ContainsFunc_LP_P2 (N : Nat) (s : (List (Int × Int))) (f : ((Int × Int) → Option Bool)) : Option ((Bool × Unit) × (Unit)) :=
  ((slices_IndexFunc_LP_P2 N s f).bind fun r =>
    some (((ile 0 r.1.1), ()), ()))
noncomputable def slices_ContainsFunc_LP_P2_S (N : Nat) : FSum := ⟨slices_ContainsFunc_LP_P2_ps, slices_ContainsFunc_LP_P2_rs, fun x => slices_ContainsFunc_LP_P2 N x.1 x.2.1⟩
theorem slices_ContainsFunc_LP_P2_run (N : Nat) (x : argsT slices_ContainsFunc_LP_P2_ps) : slices_ContainsFunc_LP_P2 N x.1 x.2.1 = funF (slices_ContainsFunc_LP_P2_G N) tab [] Tryz.f145 slices_ContainsFunc_LP_P2_ps slices_ContainsFunc_LP_P2_rs x := by kernel_rfl
theorem slices_ContainsFunc_LP_P2_pc (N : Nat) : PC Tryz.prog 145 (slices_ContainsFunc_LP_P2_S N) := by
  have e : slices_ContainsFunc_LP_P2_S N = ⟨slices_ContainsFunc_LP_P2_ps, slices_ContainsFunc_LP_P2_rs, funF (slices_ContainsFunc_LP_P2_G N) tab [] Tryz.f145 slices_ContainsFunc_LP_P2_ps slices_ContainsFunc_LP_P2_rs⟩ := congrArg (FSum.mk slices_ContainsFunc_LP_P2_ps slices_ContainsFunc_LP_P2_rs) (funext (slices_ContainsFunc_LP_P2_run N))
  rw [e]
  exact fun_ok (c := slices_ContainsFunc_LP_P2_code) progOk (slices_ContainsFunc_LP_P2_gok N) (draw_ok progOk (slices_ContainsFunc_LP_P2_gok N)) Tryz.call145 Tryz.func145 (by kernel_rfl) (lsOk_at (L := []) trivial) (by kernel_rfl) (by kernel_rfl) (by kernel_rfl) (by kernel_rfl) (by kernel_rfl)

/-! ### impl_Graph_isColouring_c2 -/
abbrev impl_Graph_isColouring_c2_ps : List (PV.Mode × Ty) := [(.ro, QII), (.ro, ALI)]
abbrev impl_Graph_isColouring_c2_rs : List (Bool × Ty) := [(true, .bool)]
noncomputable def impl_Graph_isColouring_c2_G (N : Nat) : GTab := gOf []
theorem impl_Graph_isColouring_c2_gok (N : Nat) : GOk Tryz.prog (impl_Graph_isColouring_c2_G N) := gOf_ok trivial
noncomputable def impl_Graph_isColouring_c2_code : Code := (Tryz.f146.body).getD .skip
noncomputable def impl_Graph_isColouring_c2 (N : Nat) (e : (Int × Int)) (c : (List Int)) : Option ((Bool × Unit) × (Unit)) :=
  (chk (inb c e.1)
    (chk (inb c e.2)
    (some (((ieq (rdI c e.1) (rdI c e.2)), ()), ()))))
noncomputable def impl_Graph_isColouring_c2_S (N : Nat) : FSum := ⟨impl_Graph_isColouring_c2_ps, impl_Graph_isColouring_c2_rs, fun x => impl_Graph_isColouring_c2 N x.1 x.2.1⟩
theorem impl_Graph_isColouring_c2_run (N : Nat) (x : argsT impl_Graph_isColouring_c2_ps) : impl_Graph_isColouring_c2 N x.1 x.2.1 = funF (impl_Graph_isColouring_c2_G N) tab [] Tryz.f146 impl_Graph_isColouring_c2_ps impl_Graph_isColouring_c2_rs x := by kernel_rfl
theorem impl_Graph_isColouring_c2_pc (N : Nat) : PC Tryz.prog 146 (impl_Graph_isColouring_c2_S N) := by
  have e : impl_Graph_isColouring_c2_S N = ⟨impl_Graph_isColouring_c2_ps, impl_Graph_isColouring_c2_rs, funF (impl_Graph_isColouring_c2_G N) tab [] Tryz.f146 impl_Graph_isColouring_c2_ps impl_Graph_isColouring_c2_rs⟩ := congrArg (FSum.mk impl_Graph_isColouring_c2_ps impl_Graph_isColouring_c2_rs) (funext (impl_Graph_isColouring_c2_run N))
  rw [e]
  exact fun_ok (c := impl_Graph_isColouring_c2_code) progOk (impl_Graph_isColouring_c2_gok N) (draw_ok progOk (impl_Graph_isColouring_c2_gok N)) Tryz.call146 Tryz.func146 (by kernel_rfl) (lsOk_at (L := []) trivial) (by kernel_rfl) (by kernel_rfl) (by kernel_rfl) (by kernel_rfl) (by kernel_rfl)

/-! ### impl_Graph_isColouring -/
abbrev impl_Graph_isColouring_ps : List (PV.Mode × Ty) := [(.ro, QILQII), (.ro, I), (.ro, LI)]
abbrev impl_Graph_isColouring_rs : List (Bool × Ty) := [(true, .bool)]
noncomputable def impl_Graph_isColouring_G (N : Nat) : GTab := gOf [(126, slices_ContainsFunc_LI_int_S N), (144, impl_Graph_isColouring_c1_S N), (145, slices_ContainsFunc_LP_P2_S N), (146, impl_Graph_isColouring_c2_S N)]
theorem impl_Graph_isColouring_gok (N : Nat) : GOk Tryz.prog (impl_Graph_isColouring_G N) := gOf_ok ⟨slices_ContainsFunc_LI_int_pc N, impl_Graph_isColouring_c1_pc N, slices_ContainsFunc_LP_P2_pc N, impl_Graph_isColouring_c2_pc N, trivial⟩
noncomputable def impl_Graph_isColouring_code : Code := (Tryz.f104.body).getD .skip
noncomputable def impl_Graph_isColouring (N : Nat) (g : (Int × (List (Int × Int)))) (kv : Int) (colours : (List Int)) : Option ((Bool × Unit) × (Unit)) :=
  (br (ine (tLen colours) g.1)
    (some ((false, ()), ()))
    (((slices_ContainsFunc_LI_int N colours (fun y0 => (impl_Graph_isColouring_c1 N y0 kv).bind fun z => some z.1.1)).bind fun r =>
      (br r.1.1
        (some ((false, ()), ()))
        (((slices_ContainsFunc_LP_P2 N g.2 (fun y0 => (impl_Graph_isColouring_c2 N y0 colours).bind fun z => some z.1.1)).bind fun r1 =>
          some (((!r1.1.1), ()), ())))))))
noncomputable def impl_Graph_isColouring_S (N : Nat) : FSum := ⟨impl_Graph_isColouring_ps, impl_Graph_isColouring_rs, fun x => impl_Graph_isColouring N x.1 x.2.1 x.2.2.1⟩
theorem impl_Graph_isColouring_run (N : Nat) (x : argsT impl_Graph_isColouring_ps) : impl_Graph_isColouring N x.1 x.2.1 x.2.2.1 = funF (impl_Graph_isColouring_G N) tab [] Tryz.f104 impl_Graph_isColouring_ps impl_Graph_isColouring_rs x := by kernel_rfl
theorem impl_Graph_isColouring_pc (N : Nat) : PC Tryz.prog 104 (impl_Graph_isColouring_S N) := by
  have e : impl_Graph_isColouring_S N = ⟨impl_Graph_isColouring_ps, impl_Graph_isColouring_rs, funF (impl_Graph_isColouring_G N) tab [] Tryz.f104 impl_Graph_isColouring_ps impl_Graph_isColouring_rs⟩ := congrArg (FSum.mk impl_Graph_isColouring_ps impl_Graph_isColouring_rs) (funext (impl_Graph_isColouring_run N))
  rw [e]
  exact fun_ok (c := impl_Graph_isColouring_code) progOk (impl_Graph_isColouring_gok N) (draw_ok progOk (impl_Graph_isColouring_gok N)) Tryz.call104 Tryz.func104 (by kernel_rfl) (lsOk_at (L := []) trivial) (by kernel_rfl) (by kernel_rfl) (by kernel_rfl) (by kernel_rfl) (by kernel_rfl)

/-! ### impl_isColoured_c1 -/
abbrev impl_isColoured_c1_ps : List (PV.Mode × Ty) := [(.ro, LI), (.ro, AQILQII), (.ro, AI)]
abbrev impl_isColoured_c1_rs : List (Bool × Ty) := [(true, .bool)]
noncomputable def impl_isColoured_c1_G (N : Nat) : GTab := gOf [(104, impl_Graph_isColouring_S N)]
theorem impl_isColoured_c1_gok (N : Nat) : GOk Tryz.prog (impl_isColoured_c1_G N) := gOf_ok ⟨impl_Graph_isColouring_pc N, trivial⟩
noncomputable def impl_isColoured_c1_code : Code := (Tryz.f103.body).getD .skip
noncomputable def impl_isColoured_c1 (N : Nat) (colours : (List Int)) (c : (Int × (List (Int × Int)))) (c1 : Int) : Option ((Bool × Unit) × (Unit)) :=
  ((impl_Graph_isColouring N c c1 colours).bind fun r =>
    some (((!r.1.1), ()), ()))
noncomputable def impl_isColoured_c1_S (N : Nat) : FSum := ⟨impl_isColoured_c1_ps, impl_isColoured_c1_rs, fun x => impl_isColoured_c1 N x.1 x.2.1 x.2.2.1⟩
theorem impl_isColoured_c1_run (N : Nat) (x : argsT impl_isColoured_c1_ps) : impl_isColoured_c1 N x.1 x.2.1 x.2.2.1 = funF (impl_isColoured_c1_G N) tab [] Tryz.f103 impl_isColoured_c1_ps impl_isColoured_c1_rs x := by kernel_rfl
theorem impl_isColoured_c1_pc (N : Nat) : PC Tryz.prog 103 (impl_isColoured_c1_S N) := by
  have e : impl_isColoured_c1_S N = ⟨impl_isColoured_c1_ps, impl_isColoured_c1_rs, funF (impl_isColoured_c1_G N) tab [] Tryz.f103 impl_isColoured_c1_ps impl_isColoured_c1_rs⟩ := congrArg (FSum.mk impl_isColoured_c1_ps impl_isColoured_c1_rs) (funext (impl_isColoured_c1_run N))
  rw [e]
  exact fun_ok (c := impl_isColoured_c1_code) progOk (impl_isColoured_c1_gok N) (draw_ok progOk (impl_isColoured_c1_gok N)) Tryz.call103 Tryz.func103 (by kernel_rfl) (lsOk_at (L := []) trivial) (by kernel_rfl) (by kernel_rfl) (by kernel_rfl) (by kernel_rfl) (by kernel_rfl)

/-! ### impl_isColoured -/
abbrev impl_isColoured_ps : List (PV.Mode × Ty) := [(.ro, QILQII), (.ro, I), (.ro, LLI)]
abbrev impl_isColoured_rs : List (Bool × Ty) := [(true, .bool)]
noncomputable def impl_isColoured_G (N : Nat) : GTab := gOf [(80, impl_isColourCase_S N), (102, slices_ContainsFunc_LLI_LI_S N), (103, impl_isColoured_c1_S N)]
theorem impl_isColoured_gok (N : Nat) : GOk Tryz.prog (impl_isColoured_G N) := gOf_ok ⟨impl_isColourCase_pc N, slices_ContainsFunc_LLI_LI_pc N, impl_isColoured_c1_pc N, trivial⟩
noncomputable def impl_isColoured_code : Code := (Tryz.f63.body).getD .skip
noncomputable def impl_isColoured (N : Nat) (g : (Int × (List (Int × Int)))) (kv : Int) (lists : (List (List Int))) : Option ((Bool × Unit) × (Unit)) :=
  ((impl_isColourCase N (g.1, g.2) kv).bind fun r =>
    (br r.1.1
      (((slices_ContainsFunc_LLI_LI N lists (fun y0 => (impl_isColoured_c1 N y0 (g.1, g.2) kv).bind fun z => some z.1.1)).bind fun r1 =>
        some (((!r1.1.1), ()), ())))
      (some ((false, ()), ()))))
noncomputable def impl_isColoured_S (N : Nat) : FSum := ⟨impl_isColoured_ps, impl_isColoured_rs, fun x => impl_isColoured N x.1 x.2.1 x.2.2.1⟩
theorem impl_isColoured_run (N : Nat) (x : argsT impl_isColoured_ps) : impl_isColoured N x.1 x.2.1 x.2.2.1 = funF (impl_isColoured_G N) tab [] Tryz.f63 impl_isColoured_ps impl_isColoured_rs x := by kernel_rfl
theorem impl_isColoured_pc (N : Nat) : PC Tryz.prog 63 (impl_isColoured_S N) := by
  have e : impl_isColoured_S N = ⟨impl_isColoured_ps, impl_isColoured_rs, funF (impl_isColoured_G N) tab [] Tryz.f63 impl_isColoured_ps impl_isColoured_rs⟩ := congrArg (FSum.mk impl_isColoured_ps impl_isColoured_rs) (funext (impl_isColoured_run N))
  rw [e]
  exact fun_ok (c := impl_isColoured_code) progOk (impl_isColoured_gok N) (draw_ok progOk (impl_isColoured_gok N)) Tryz.call63 Tryz.func63 (by kernel_rfl) (lsOk_at (L := []) trivial) (by kernel_rfl) (by kernel_rfl) (by kernel_rfl) (by kernel_rfl) (by kernel_rfl)

/-! ### slices_BinarySearchFunc_LLI_LI_LI -/
abbrev slices_BinarySearchFunc_LLI_LI_LI_ps : List (PV.Mode × Ty) := [(.ro, LLI), (.ro, LI), (.ro, GLILII)]
abbrev slices_BinarySearchFunc_LLI_LI_LI_rs : List (Bool × Ty) := [(true, I), (true, .bool)]
noncomputable def slices_BinarySearchFunc_LLI_LI_LI_G (N : Nat) : GTab := gOf []
theorem slices_BinarySearchFunc_LLI_LI_LI_gok (N : Nat) : GOk Tryz.prog (slices_BinarySearchFunc_LLI_LI_LI_G N) := gOf_ok trivial
noncomputable def slices_BinarySearchFunc_LLI_LI_LI_code : Code := (Tryz.f105.body).getD .skip
noncomputable def slices_BinarySearchFunc_LLI_LI_LI_l0_sh : Sh := ⟨[(0, .one (.ro LLI)), (1, .one (.ro LI)), (2, .one (.ro GLILII)), (8, .one (.ro I)), (9, .one (.ro I)), (10, .one (.ro I))], []⟩
noncomputable def slices_BinarySearchFunc_LLI_LI_LI_l0_ex : List (Ex × Sh) := [(.exit 0, ⟨[(0, .one (.ro LLI)), (1, .one (.ro LI)), (2, .one (.ro GLILII)), (8, .one (.ro I)), (9, .one (.ro I))], []⟩)]
noncomputable def slices_BinarySearchFunc_LLI_LI_LI_l0 {R : Type} (N : Nat) (k0 : (List (List Int)) → (List Int) → ((List Int) → (List Int) → Option Int) → Int → Int → Option R) : Nat → (List (List Int)) → (List Int) → ((List Int) → (List Int) → Option Int) → Int → Int → Int → Option R
  | 0, _, _, _, _, _, _ => none
  | K + 1, x1, target1, cmp1, n, i, j =>
    (br (ilt i j)
      ((chk (inb x1 (IntKind.i64.wrap ((shrI .u64 (IntKind.u64.wrap ((IntKind.i64.wrap (i + j)))) 1))))
        ((cmp1 (rdL x1 (IntKind.i64.wrap ((shrI .u64 (IntKind.u64.wrap ((IntKind.i64.wrap (i + j)))) 1)))) target1).bind fun v =>
        (br (ilt v 0)
        (slices_BinarySearchFunc_LLI_LI_LI_l0 N k0 K x1 target1 cmp1 n (IntKind.i64.wrap ((IntKind.i64.wrap ((shrI .u64 (IntKind.u64.wrap ((IntKind.i64.wrap (i + j)))) 1))) + 1)) j)
        (slices_BinarySearchFunc_LLI_LI_LI_l0 N k0 K x1 target1 cmp1 n i (IntKind.i64.wrap ((shrI .u64 (IntKind.u64.wrap ((IntKind.i64.wrap (i + j)))) 1))))))))
      (k0 x1 target1 cmp1 n i))
noncomputable def slices_BinarySearchFunc_LLI_LI_LI_l0_again {R : Type} (N : Nat) (ks : (j : Nat) → ((slices_BinarySearchFunc_LLI_LI_LI_l0_ex.getD j (.ret, Sh.none)).2).T → Option R) (k : Nat) (x : slices_BinarySearchFunc_LLI_LI_LI_l0_sh.T) : Option R :=
  slices_BinarySearchFunc_LLI_LI_LI_l0 N (fun y0 y1 y2 y3 y4 => ks 0 ((y0, y1, y2, y3, y4, ()), ())) k x.1.1 x.1.2.1 x.1.2.2.1 x.1.2.2.2.1 x.1.2.2.2.2.1 x.1.2.2.2.2.2.1
noncomputable def slices_BinarySearchFunc_LLI_LI_LI_l0_s (N : Nat) : LSum := ⟨slices_BinarySearchFunc_LLI_LI_LI_l0_sh, slices_BinarySearchFunc_LLI_LI_LI_l0_ex, fun x ks => slices_BinarySearchFunc_LLI_LI_LI_l0_again N ks N x⟩
theorem slices_BinarySearchFunc_LLI_LI_LI_l0_step (N : Nat) (R : Type) (k : Nat) (x : slices_BinarySearchFunc_LLI_LI_LI_l0_sh.T) (ks : (j : Nat) → ((slices_BinarySearchFunc_LLI_LI_LI_l0_ex.getD j (.ret, Sh.none)).2).T → Option R) : slices_BinarySearchFunc_LLI_LI_LI_l0_again N ks (k + 1) x = roundF (slices_BinarySearchFunc_LLI_LI_LI_G N) tab [] (loopAt slices_BinarySearchFunc_LLI_LI_LI_code 0) slices_BinarySearchFunc_LLI_LI_LI_l0_sh slices_BinarySearchFunc_LLI_LI_LI_l0_ex (fun y => slices_BinarySearchFunc_LLI_LI_LI_l0_again N ks k y) ks x := by kernel_rfl
theorem slices_BinarySearchFunc_LLI_LI_LI_l0_ok (N : Nat) : LoopOk Tryz.prog Tryz.f105.ntmps (slices_BinarySearchFunc_LLI_LI_LI_l0_s N) (loopAt slices_BinarySearchFunc_LLI_LI_LI_code 0) :=
  loop_ok (l := slices_BinarySearchFunc_LLI_LI_LI_l0_s N) progOk (slices_BinarySearchFunc_LLI_LI_LI_gok N) (draw_ok progOk (slices_BinarySearchFunc_LLI_LI_LI_gok N)) (fun R k x ks => slices_BinarySearchFunc_LLI_LI_LI_l0_again N ks k x) (fun _ _ _ => rfl) (fun R k x ks => slices_BinarySearchFunc_LLI_LI_LI_l0_step N R k x ks) (fun R x ks r h => ⟨N, h⟩) (lsOk_at (L := []) trivial) (by kernel_rfl) (by kernel_rfl)
noncomputable def slices_BinarySearchFunc_LLI_LI_LI (N : Nat) (x : (List (List Int))) (target : (List Int)) (cmp : ((List Int) → (List Int) → Option Int)) : Option ((Int × Bool × Unit) × (Unit)) :=
  slices_BinarySearchFunc_LLI_LI_LI_l0 N (fun x1 target1 cmp1 n i => (br (ilt i n)
    ((chk (inb x1 i)
      ((cmp1 (rdL x1 i) target1).bind fun v =>
      some ((i, (ieq v 0), ()), ()))))
    (some ((i, false, ()), ())))) N x target cmp (tLen x) 0 (tLen x)
noncomputable def slices_BinarySearchFunc_LLI_LI_LI_S (N : Nat) : FSum := ⟨slices_BinarySearchFunc_LLI_LI_LI_ps, slices_BinarySearchFunc_LLI_LI_LI_rs, fun x => slices_BinarySearchFunc_LLI_LI_LI N x.1 x.2.1 x.2.2.1⟩
theorem slices_BinarySearchFunc_LLI_LI_LI_run (N : Nat) (x : argsT slices_BinarySearchFunc_LLI_LI_LI_ps) : slices_BinarySearchFunc_LLI_LI_LI N x.1 x.2.1 x.2.2.1 = funF (slices_BinarySearchFunc_LLI_LI_LI_G N) tab [slices_BinarySearchFunc_LLI_LI_LI_l0_s N] Tryz.f105 slices_BinarySearchFunc_LLI_LI_LI_ps slices_BinarySearchFunc_LLI_LI_LI_rs x := by kernel_rfl
theorem slices_BinarySearchFunc_LLI_LI_LI_pc (N : Nat) : PC Tryz.prog 105 (slices_BinarySearchFunc_LLI_LI_LI_S N) := by
  have e : slices_BinarySearchFunc_LLI_LI_LI_S N = ⟨slices_BinarySearchFunc_LLI_LI_LI_ps, slices_BinarySearchFunc_LLI_LI_LI_rs, funF (slices_BinarySearchFunc_LLI_LI_LI_G N) tab [slices_BinarySearchFunc_LLI_LI_LI_l0_s N] Tryz.f105 slices_BinarySearchFunc_LLI_LI_LI_ps slices_BinarySearchFunc_LLI_LI_LI_rs⟩ := congrArg (FSum.mk slices_BinarySearchFunc_LLI_LI_LI_ps slices_BinarySearchFunc_LLI_LI_LI_rs) (funext (slices_BinarySearchFunc_LLI_LI_LI_run N))
  rw [e]
  exact fun_ok (c := slices_BinarySearchFunc_LLI_LI_LI_code) progOk (slices_BinarySearchFunc_LLI_LI_LI_gok N) (draw_ok progOk (slices_BinarySearchFunc_LLI_LI_LI_gok N)) Tryz.call105 Tryz.func105 (by kernel_rfl) (lsOk_at (L := [slices_BinarySearchFunc_LLI_LI_LI_l0_s N]) ⟨slices_BinarySearchFunc_LLI_LI_LI_l0_ok N, trivial⟩) (by kernel_rfl) (by kernel_rfl) (by kernel_rfl) (by kernel_rfl) (by kernel_rfl)

/-! ### impl_Space_place -/
abbrev impl_Space_place_ps : List (PV.Mode × Ty) := [(.ro, QLLILQII), (.ro, LI)]
abbrev impl_Space_place_rs : List (Bool × Ty) := [(true, I), (true, .bool)]
noncomputable def impl_Space_place_G (N : Nat) : GTab := gOf [(105, slices_BinarySearchFunc_LLI_LI_LI_S N), (83, slices_Compare_LI_int_S N)]
theorem impl_Space_place_gok (N : Nat) : GOk Tryz.prog (impl_Space_place_G N) := gOf_ok ⟨slices_BinarySearchFunc_LLI_LI_LI_pc N, slices_Compare_LI_int_pc N, trivial⟩
noncomputable def impl_Space_place_code : Code := (Tryz.f64.body).getD .skip
noncomputable def impl_Space_place (N : Nat) (x : ((List (List Int)) × (List (Int × Int)))) (state : (List Int)) : Option ((Int × Bool × Unit) × (Unit)) :=
  ((slices_BinarySearchFunc_LLI_LI_LI N x.1 state (fun y0 y1 => (slices_Compare_LI_int N y0 y1).bind fun z => some z.1.1)).bind fun r =>
    some ((r.1.1, r.1.2.1, ()), ()))
noncomputable def impl_Space_place_S (N : Nat) : FSum := ⟨impl_Space_place_ps, impl_Space_place_rs, fun x => impl_Space_place N x.1 x.2.1⟩
theorem impl_Space_place_run (N : Nat) (x : argsT impl_Space_place_ps) : impl_Space_place N x.1 x.2.1 = funF (impl_Space_place_G N) tab [] Tryz.f64 impl_Space_place_ps impl_Space_place_rs x := by kernel_rfl
theorem impl_Space_place_pc (N : Nat) : PC Tryz.prog 64 (impl_Space_place_S N) := by
  have e : impl_Space_place_S N = ⟨impl_Space_place_ps, impl_Space_place_rs, funF (impl_Space_place_G N) tab [] Tryz.f64 impl_Space_place_ps impl_Space_place_rs⟩ := congrArg (FSum.mk impl_Space_place_ps impl_Space_place_rs) (funext (impl_Space_place_run N))
  rw [e]
  exact fun_ok (c := impl_Space_place_code) progOk (impl_Space_place_gok N) (draw_ok progOk (impl_Space_place_gok N)) Tryz.call64 Tryz.func64 (by kernel_rfl) (lsOk_at (L := []) trivial) (by kernel_rfl) (by kernel_rfl) (by kernel_rfl) (by kernel_rfl) (by kernel_rfl)

/-! ### impl_Space_roads -/
abbrev impl_Space_roads_ps : List (PV.Mode × Ty) := [(.ro, QLLILQII)]
abbrev impl_Space_roads_rs : List (Bool × Ty) := [(true, LLI)]
noncomputable def impl_Space_roads_G (N : Nat) : GTab := gOf [(107, slices_Sort_LI_int_S N)]
theorem impl_Space_roads_gok (N : Nat) : GOk Tryz.prog (impl_Space_roads_G N) := gOf_ok ⟨slices_Sort_LI_int_pc N, trivial⟩
noncomputable def impl_Space_roads_code : Code := (Tryz.f66.body).getD .skip
noncomputable def impl_Space_roads_l0_sh : Sh := ⟨[(3, .one (.ref 0)), (13, .one (.ro LQII)), (14, .one (.ro I)), (15, .one (.ro I))], [.sl 40 LI .deep]⟩
noncomputable def impl_Space_roads_l0_ex : List (Ex × Sh) := [(.exit 0, ⟨[(3, .one (.ref 0))], [.sl 40 LI .deep]⟩)]
noncomputable def impl_Space_roads_l0 {R : Type} (N : Nat) (k0 : (List (List Int)) → Option R) : Nat → (List (Int × Int)) → Int → Int → (List (List Int)) → Option R
  | 0, _, _, _, _ => none
  | K + 1, x1, x2, x3, o =>
    (br (ilt x3 x2)
      ((chk (inb x1 x3)
        (chk (inb o ((rdP x1 x3).1))
        (chk (room (rdL o ((rdP x1 x3).1)) [(rdP x1 x3).2])
        (chk (inb o ((rdP x1 x3).1))
        (chk (ieq ((rdP x1 x3).1) ((rdP x1 x3).1))
        (chk (inb (tSet o ((rdP x1 x3).1) (tApp (rdL o ((rdP x1 x3).1)) [(rdP x1 x3).2])) ((rdP x1 x3).2))
        (chk (room (rdL (tSet o ((rdP x1 x3).1) (tApp (rdL o ((rdP x1 x3).1)) [(rdP x1 x3).2])) ((rdP x1 x3).2)) [(rdP x1 x3).1])
        (chk (inb (tSet o ((rdP x1 x3).1) (tApp (rdL o ((rdP x1 x3).1)) [(rdP x1 x3).2])) ((rdP x1 x3).2))
        (chk (ieq ((rdP x1 x3).2) ((rdP x1 x3).2))
        (impl_Space_roads_l0 N k0 K x1 x2 (IntKind.i64.wrap (x3 + 1)) (tSet (tSet o ((rdP x1 x3).1) (tApp (rdL o ((rdP x1 x3).1)) [(rdP x1 x3).2])) ((rdP x1 x3).2) (tApp (rdL (tSet o ((rdP x1 x3).1) (tApp (rdL o ((rdP x1 x3).1)) [(rdP x1 x3).2])) ((rdP x1 x3).2)) [(rdP x1 x3).1])))))))))))))
      (k0 o))
noncomputable def impl_Space_roads_l0_again {R : Type} (N : Nat) (ks : (j : Nat) → ((impl_Space_roads_l0_ex.getD j (.ret, Sh.none)).2).T → Option R) (k : Nat) (x : impl_Space_roads_l0_sh.T) : Option R :=
  impl_Space_roads_l0 N (fun y0 => ks 0 (((), ()), (y0, ()))) k x.1.2.1 x.1.2.2.1 x.1.2.2.2.1 x.2.1
noncomputable def impl_Space_roads_l0_s (N : Nat) : LSum := ⟨impl_Space_roads_l0_sh, impl_Space_roads_l0_ex, fun x ks => impl_Space_roads_l0_again N ks N x⟩
theorem impl_Space_roads_l0_step (N : Nat) (R : Type) (k : Nat) (x : impl_Space_roads_l0_sh.T) (ks : (j : Nat) → ((impl_Space_roads_l0_ex.getD j (.ret, Sh.none)).2).T → Option R) : impl_Space_roads_l0_again N ks (k + 1) x = roundF (impl_Space_roads_G N) tab [] (loopAt impl_Space_roads_code 0) impl_Space_roads_l0_sh impl_Space_roads_l0_ex (fun y => impl_Space_roads_l0_again N ks k y) ks x := by kernel_rfl
theorem impl_Space_roads_l0_ok (N : Nat) : LoopOk Tryz.prog Tryz.f66.ntmps (impl_Space_roads_l0_s N) (loopAt impl_Space_roads_code 0) :=
  loop_ok (l := impl_Space_roads_l0_s N) progOk (impl_Space_roads_gok N) (draw_ok progOk (impl_Space_roads_gok N)) (fun R k x ks => impl_Space_roads_l0_again N ks k x) (fun _ _ _ => rfl) (fun R k x ks => impl_Space_roads_l0_step N R k x ks) (fun R x ks r h => ⟨N, h⟩) (lsOk_at (L := []) trivial) (by kernel_rfl) (by kernel_rfl)
noncomputable def impl_Space_roads_l1_sh : Sh := ⟨[(3, .one (.ref 0)), (46, .one (.ref 0)), (47, .one (.ro I)), (48, .one (.ro I))], [.sl 40 LI .deep]⟩
noncomputable def impl_Space_roads_l1_ex : List (Ex × Sh) := [(.exit 2, ⟨[(3, .one (.ref 0))], [.sl 40 LI .deep]⟩)]
noncomputable def impl_Space_roads_l1 {R : Type} (N : Nat) (k0 : (List (List Int)) → Option R) : Nat → Int → Int → (List (List Int)) → Option R
  | 0, _, _, _ => none
  | K + 1, x1, x2, o1 =>
    (br (ilt x2 x1)
      ((chk (inb o1 x2)
        ((slices_Sort_LI_int N (rdL o1 x2)).bind fun r =>
        impl_Space_roads_l1 N k0 K x1 (IntKind.i64.wrap (x2 + 1)) (tSet o1 x2 r.2.1))))
      (k0 o1))
noncomputable def impl_Space_roads_l1_again {R : Type} (N : Nat) (ks : (j : Nat) → ((impl_Space_roads_l1_ex.getD j (.ret, Sh.none)).2).T → Option R) (k : Nat) (x : impl_Space_roads_l1_sh.T) : Option R :=
  impl_Space_roads_l1 N (fun y0 => ks 0 (((), ()), (y0, ()))) k x.1.2.2.1 x.1.2.2.2.1 x.2.1
noncomputable def impl_Space_roads_l1_s (N : Nat) : LSum := ⟨impl_Space_roads_l1_sh, impl_Space_roads_l1_ex, fun x ks => impl_Space_roads_l1_again N ks N x⟩
theorem impl_Space_roads_l1_step (N : Nat) (R : Type) (k : Nat) (x : impl_Space_roads_l1_sh.T) (ks : (j : Nat) → ((impl_Space_roads_l1_ex.getD j (.ret, Sh.none)).2).T → Option R) : impl_Space_roads_l1_again N ks (k + 1) x = roundF (impl_Space_roads_G N) tab [] (loopAt impl_Space_roads_code 1) impl_Space_roads_l1_sh impl_Space_roads_l1_ex (fun y => impl_Space_roads_l1_again N ks k y) ks x := by kernel_rfl
theorem impl_Space_roads_l1_ok (N : Nat) : LoopOk Tryz.prog Tryz.f66.ntmps (impl_Space_roads_l1_s N) (loopAt impl_Space_roads_code 1) :=
  loop_ok (l := impl_Space_roads_l1_s N) progOk (impl_Space_roads_gok N) (draw_ok progOk (impl_Space_roads_gok N)) (fun R k x ks => impl_Space_roads_l1_again N ks k x) (fun _ _ _ => rfl) (fun R k x ks => impl_Space_roads_l1_step N R k x ks) (fun R x ks r h => ⟨N, h⟩) (lsOk_at (L := []) trivial) (by kernel_rfl) (by kernel_rfl)
noncomputable def impl_Space_roads (N : Nat) (x : ((List (List Int)) × (List (Int × Int)))) : Option (((List (List Int)) × Unit) × (Unit)) :=
  (chk (ile 0 (tLen x.1) && ile (tLen x.1) (tLen x.1) && fits (tLen x.1))
    (impl_Space_roads_l0 N (fun o => impl_Space_roads_l1 N (fun o1 => some ((o1, ()), ())) N (tLen o) 0 o) N x.2 (tLen x.2) 0 (tRep (tLen x.1) [])))
noncomputable def impl_Space_roads_S (N : Nat) : FSum := ⟨impl_Space_roads_ps, impl_Space_roads_rs, fun x => impl_Space_roads N x.1⟩
theorem impl_Space_roads_run (N : Nat) (x : argsT impl_Space_roads_ps) : impl_Space_roads N x.1 = funF (impl_Space_roads_G N) tab [impl_Space_roads_l0_s N, impl_Space_roads_l1_s N] Tryz.f66 impl_Space_roads_ps impl_Space_roads_rs x := by kernel_rfl
theorem impl_Space_roads_pc (N : Nat) : PC Tryz.prog 66 (impl_Space_roads_S N) := by
  have e : impl_Space_roads_S N = ⟨impl_Space_roads_ps, impl_Space_roads_rs, funF (impl_Space_roads_G N) tab [impl_Space_roads_l0_s N, impl_Space_roads_l1_s N] Tryz.f66 impl_Space_roads_ps impl_Space_roads_rs⟩ := congrArg (FSum.mk impl_Space_roads_ps impl_Space_roads_rs) (funext (impl_Space_roads_run N))
  rw [e]
  exact fun_ok (c := impl_Space_roads_code) progOk (impl_Space_roads_gok N) (draw_ok progOk (impl_Space_roads_gok N)) Tryz.call66 Tryz.func66 (by kernel_rfl) (lsOk_at (L := [impl_Space_roads_l0_s N, impl_Space_roads_l1_s N]) ⟨impl_Space_roads_l0_ok N, impl_Space_roads_l1_ok N, trivial⟩) (by kernel_rfl) (by kernel_rfl) (by kernel_rfl) (by kernel_rfl) (by kernel_rfl)

/-! ### math_bits_Mul64 -/
abbrev math_bits_Mul64_ps : List (PV.Mode × Ty) := [(.ro, U64), (.ro, U64)]
abbrev math_bits_Mul64_rs : List (Bool × Ty) := [(true, U64), (true, U64)]
noncomputable def math_bits_Mul64_G (N : Nat) : GTab := gOf []
theorem math_bits_Mul64_gok (N : Nat) : GOk Tryz.prog (math_bits_Mul64_G N) := gOf_ok trivial
noncomputable def math_bits_Mul64_code : Code := (Tryz.f185.body).getD .skip
noncomputable def math_bits_Mul64 (N : Nat) (x : Int) (y : Int) : Option ((Int × Int × Unit) × (Unit)) :=
  some (((IntKind.u64.wrap ((IntKind.u64.wrap ((IntKind.u64.wrap ((shrI .u64 x 32) * (shrI .u64 y 32))) + (shrI .u64 (IntKind.u64.wrap ((IntKind.u64.wrap ((shrI .u64 x 32) * (bitop .and .u64 y 4294967295))) + (shrI .u64 (IntKind.u64.wrap ((bitop .and .u64 x 4294967295) * (bitop .and .u64 y 4294967295))) 32))) 32))) + (shrI .u64 (IntKind.u64.wrap ((bitop .and .u64 (IntKind.u64.wrap ((IntKind.u64.wrap ((shrI .u64 x 32) * (bitop .and .u64 y 4294967295))) + (shrI .u64 (IntKind.u64.wrap ((bitop .and .u64 x 4294967295) * (bitop .and .u64 y 4294967295))) 32))) 4294967295) + (IntKind.u64.wrap ((bitop .and .u64 x 4294967295) * (shrI .u64 y 32))))) 32))), (IntKind.u64.wrap (x * y)), ()), ())
noncomputable def math_bits_Mul64_S (N : Nat) : FSum := ⟨math_bits_Mul64_ps, math_bits_Mul64_rs, fun x => math_bits_Mul64 N x.1 x.2.1⟩
theorem math_bits_Mul64_run (N : Nat) (x : argsT math_bits_Mul64_ps) : math_bits_Mul64 N x.1 x.2.1 = funF (math_bits_Mul64_G N) tab [] Tryz.f185 math_bits_Mul64_ps math_bits_Mul64_rs x := by kernel_rfl
theorem math_bits_Mul64_pc (N : Nat) : PC Tryz.prog 185 (math_bits_Mul64_S N) := by
  have e : math_bits_Mul64_S N = ⟨math_bits_Mul64_ps, math_bits_Mul64_rs, funF (math_bits_Mul64_G N) tab [] Tryz.f185 math_bits_Mul64_ps math_bits_Mul64_rs⟩ := congrArg (FSum.mk math_bits_Mul64_ps math_bits_Mul64_rs) (funext (math_bits_Mul64_run N))
  rw [e]
  exact fun_ok (c := math_bits_Mul64_code) progOk (math_bits_Mul64_gok N) (draw_ok progOk (math_bits_Mul64_gok N)) Tryz.call185 Tryz.func185 (by kernel_rfl) (lsOk_at (L := []) trivial) (by kernel_rfl) (by kernel_rfl) (by kernel_rfl) (by kernel_rfl) (by kernel_rfl)

/-! ### math_bits_Mul -/
abbrev math_bits_Mul_ps : List (PV.Mode × Ty) := [(.ro, U64), (.ro, U64)]
abbrev math_bits_Mul_rs : List (Bool × Ty) := [(true, U64), (true, U64)]
noncomputable def math_bits_Mul_G (N : Nat) : GTab := gOf [(185, math_bits_Mul64_S N)]
theorem math_bits_Mul_gok (N : Nat) : GOk Tryz.prog (math_bits_Mul_G N) := gOf_ok ⟨math_bits_Mul64_pc N, trivial⟩
noncomputable def math_bits_Mul_code : Code := (Tryz.f147.body).getD .skip
noncomputable def math_bits_Mul (N : Nat) (x : Int) (y : Int) : Option ((Int × Int × Unit) × (Unit)) :=
  ((math_bits_Mul64 N x y).bind fun r =>
    some ((r.1.1, r.1.2.1, ()), ()))
noncomputable def math_bits_Mul_S (N : Nat) : FSum := ⟨math_bits_Mul_ps, math_bits_Mul_rs, fun x => math_bits_Mul N x.1 x.2.1⟩
theorem math_bits_Mul_run (N : Nat) (x : argsT math_bits_Mul_ps) : math_bits_Mul N x.1 x.2.1 = funF (math_bits_Mul_G N) tab [] Tryz.f147 math_bits_Mul_ps math_bits_Mul_rs x := by kernel_rfl
theorem math_bits_Mul_pc (N : Nat) : PC Tryz.prog 147 (math_bits_Mul_S N) := by
  have e : math_bits_Mul_S N = ⟨math_bits_Mul_ps, math_bits_Mul_rs, funF (math_bits_Mul_G N) tab [] Tryz.f147 math_bits_Mul_ps math_bits_Mul_rs⟩ := congrArg (FSum.mk math_bits_Mul_ps math_bits_Mul_rs) (funext (math_bits_Mul_run N))
  rw [e]
  exact fun_ok (c := math_bits_Mul_code) progOk (math_bits_Mul_gok N) (draw_ok progOk (math_bits_Mul_gok N)) Tryz.call147 Tryz.func147 (by kernel_rfl) (lsOk_at (L := []) trivial) (by kernel_rfl) (by kernel_rfl) (by kernel_rfl) (by kernel_rfl) (by kernel_rfl)

/-! ### slices_Repeat_LI_int -/
abbrev slices_Repeat_LI_int_ps : List (PV.Mode × Ty) := [(.ro, LI), (.ro, I)]
abbrev slices_Repeat_LI_int_rs : List (Bool × Ty) := [(true, LI)]
noncomputable def slices_Repeat_LI_int_G (N : Nat) : GTab := gOf [(147, math_bits_Mul_S N)]
theorem slices_Repeat_LI_int_gok (N : Nat) : GOk Tryz.prog (slices_Repeat_LI_int_G N) := gOf_ok ⟨math_bits_Mul_pc N, trivial⟩
noncomputable def slices_Repeat_LI_int_code : Code := (Tryz.f106.body).getD .skip
noncomputable def slices_Repeat_LI_int_l0_sh : Sh := ⟨[(7, .one (.ref 0)), (8, .one (.ro I))], [.sl 3 I .own]⟩
noncomputable def slices_Repeat_LI_int_l0_ex : List (Ex × Sh) := [(.exit 0, ⟨[(7, .one (.ref 0))], [.sl 3 I .own]⟩)]
noncomputable def slices_Repeat_LI_int_l0 {R : Type} (N : Nat) (k0 : (List Int) → Option R) : Nat → Int → (List Int) → Option R
  | 0, _, _ => none
  | K + 1, n, o =>
    (br (ilt n (tLen o))
      ((chk (ile 0 n && ile n (tLen o) && ile (tLen o) (tLen o))
        (chk (ile 0 0 && ile 0 n && ile n (tLen o))
        (slices_Repeat_LI_int_l0 N k0 K (IntKind.i64.wrap (n + (tMin ((tLen o) - n) (tLen (tCut o 0 n))))) (tPut o n (tCut (tCut o 0 n) 0 (tMin ((tLen o) - n) (tLen (tCut o 0 n)))))))))
      (k0 o))
noncomputable def slices_Repeat_LI_int_l0_again {R : Type} (N : Nat) (ks : (j : Nat) → ((slices_Repeat_LI_int_l0_ex.getD j (.ret, Sh.none)).2).T → Option R) (k : Nat) (x : slices_Repeat_LI_int_l0_sh.T) : Option R :=
  slices_Repeat_LI_int_l0 N (fun y0 => ks 0 (((), ()), (y0, ()))) k x.1.2.1 x.2.1
noncomputable def slices_Repeat_LI_int_l0_s (N : Nat) : LSum := ⟨slices_Repeat_LI_int_l0_sh, slices_Repeat_LI_int_l0_ex, fun x ks => slices_Repeat_LI_int_l0_again N ks N x⟩
theorem slices_Repeat_LI_int_l0_step (N : Nat) (R : Type) (k : Nat) (x : slices_Repeat_LI_int_l0_sh.T) (ks : (j : Nat) → ((slices_Repeat_LI_int_l0_ex.getD j (.ret, Sh.none)).2).T → Option R) : slices_Repeat_LI_int_l0_again N ks (k + 1) x = roundF (slices_Repeat_LI_int_G N) tab [] (loopAt slices_Repeat_LI_int_code 0) slices_Repeat_LI_int_l0_sh slices_Repeat_LI_int_l0_ex (fun y => slices_Repeat_LI_int_l0_again N ks k y) ks x := by kernel_rfl
theorem slices_Repeat_LI_int_l0_ok (N : Nat) : LoopOk Tryz.prog Tryz.f106.ntmps (slices_Repeat_LI_int_l0_s N) (loopAt slices_Repeat_LI_int_code 0) :=
  loop_ok (l := slices_Repeat_LI_int_l0_s N) progOk (slices_Repeat_LI_int_gok N) (draw_ok progOk (slices_Repeat_LI_int_gok N)) (fun R k x ks => slices_Repeat_LI_int_l0_again N ks k x) (fun _ _ _ => rfl) (fun R k x ks => slices_Repeat_LI_int_l0_step N R k x ks) (fun R x ks r h => ⟨N, h⟩) (lsOk_at (L := []) trivial) (by kernel_rfl) (by kernel_rfl)
noncomputable def slices_Repeat_LI_int (N : Nat) (x : (List Int)) (count : Int) : Option (((List Int) × Unit) × (Unit)) :=
  (br (ilt count 0)
    (none)
    (((math_bits_Mul N (IntKind.u64.wrap ((tLen x))) (IntKind.u64.wrap (count))).bind fun r =>
      (br (ilt 0 r.1.1)
        (none)
        ((br (ilt 9223372036854775807 r.1.2.1)
          (none)
          ((chk (ile 0 (IntKind.i64.wrap (r.1.2.1)) && ile (IntKind.i64.wrap (r.1.2.1)) (IntKind.i64.wrap (r.1.2.1)) && fits (IntKind.i64.wrap (r.1.2.1)))
            (slices_Repeat_LI_int_l0 N (fun o => some ((o, ()), ())) N (tMin (tLen (tRep (IntKind.i64.wrap (r.1.2.1)) (0 : Int))) (tLen x)) (tPut (tRep (IntKind.i64.wrap (r.1.2.1)) (0 : Int)) 0 (tCut x 0 (tMin (tLen (tRep (IntKind.i64.wrap (r.1.2.1)) (0 : Int))) (tLen x)))))))))))))
noncomputable def slices_Repeat_LI_int_S (N : Nat) : FSum := ⟨slices_Repeat_LI_int_ps, slices_Repeat_LI_int_rs, fun x => slices_Repeat_LI_int N x.1 x.2.1⟩
theorem slices_Repeat_LI_int_run (N : Nat) (x : argsT slices_Repeat_LI_int_ps) : slices_Repeat_LI_int N x.1 x.2.1 = funF (slices_Repeat_LI_int_G N) tab [slices_Repeat_LI_int_l0_s N] Tryz.f106 slices_Repeat_LI_int_ps slices_Repeat_LI_int_rs x := by kernel_rfl
theorem slices_Repeat_LI_int_pc (N : Nat) : PC Tryz.prog 106 (slices_Repeat_LI_int_S N) := by
  have e : slices_Repeat_LI_int_S N = ⟨slices_Repeat_LI_int_ps, slices_Repeat_LI_int_rs, funF (slices_Repeat_LI_int_G N) tab [slices_Repeat_LI_int_l0_s N] Tryz.f106 slices_Repeat_LI_int_ps slices_Repeat_LI_int_rs⟩ := congrArg (FSum.mk slices_Repeat_LI_int_ps slices_Repeat_LI_int_rs) (funext (slices_Repeat_LI_int_run N))
  rw [e]
  exact fun_ok (c := slices_Repeat_LI_int_code) progOk (slices_Repeat_LI_int_gok N) (draw_ok progOk (slices_Repeat_LI_int_gok N)) Tryz.call106 Tryz.func106 (by kernel_rfl) (lsOk_at (L := [slices_Repeat_LI_int_l0_s N]) ⟨slices_Repeat_LI_int_l0_ok N, trivial⟩) (by kernel_rfl) (by kernel_rfl) (by kernel_rfl) (by kernel_rfl) (by kernel_rfl)

/-! ### impl_spread -/
abbrev impl_spread_ps : List (PV.Mode × Ty) := [(.ro, LLI), (.ro, I)]
abbrev impl_spread_rs : List (Bool × Ty) := [(true, LI)]
noncomputable def impl_spread_G (N : Nat) : GTab := gOf [(106, slices_Repeat_LI_int_S N)]
theorem impl_spread_gok (N : Nat) : GOk Tryz.prog (impl_spread_G N) := gOf_ok ⟨slices_Repeat_LI_int_pc N, trivial⟩
noncomputable def impl_spread_code : Code := (Tryz.f65.body).getD .skip
noncomputable def impl_spread_l0_0_sh : Sh := ⟨[(0, .one (.ro LLI)), (5, .one (.ref 0)), (6, .one (.sub 1 1)), (7, .one (.ro I)), (30, .one (.ro LI)), (31, .one (.ro I)), (32, .one (.ro I))], [.sl 3 I .own, .sl 3 I .own]⟩
noncomputable def impl_spread_l0_0_ex : List (Ex × Sh) := [(.exit 2, ⟨[(0, .one (.ro LLI)), (5, .one (.ref 0)), (6, .one (.sub 1 1))], [.sl 3 I .own, .sl 3 I .own]⟩)]
noncomputable def impl_spread_l0_0 {R : Type} (N : Nat) (k0 : (List (List Int)) → Int → Int → (List Int) → (List Int) → Option R) : Nat → (List (List Int)) → Int → Int → Int → (List Int) → Int → Int → (List Int) → (List Int) → Option R
  | 0, _, _, _, _, _, _, _, _, _ => none
  | K + 1, roads2, queue2, queue3, i, x, x1, x2, o2, o3 =>
    (br (ilt x2 x1)
      ((chk (inb x x2)
        (chk (inb o2 (rdI x x2))
        (br (ilt (rdI o2 (rdI x x2)) 0)
        ((chk (inb o2 i)
          (chk (inb o2 (rdI x x2))
          (chk (room (tCut o3 queue2 queue3) [(rdI x x2)])
          (impl_spread_l0_0 N k0 K roads2 0 (tLen (tApp (tCut o3 queue2 queue3) [(rdI x x2)])) i x x1 (IntKind.i64.wrap (x2 + 1)) (tSet o2 (rdI x x2) (IntKind.i64.wrap ((rdI o2 i) + 1))) (tApp (tCut o3 queue2 queue3) [(rdI x x2)]))))))
        (impl_spread_l0_0 N k0 K roads2 queue2 queue3 i x x1 (IntKind.i64.wrap (x2 + 1)) o2 o3)))))
      (k0 roads2 queue2 queue3 o2 o3))
noncomputable def impl_spread_l0_0_again {R : Type} (N : Nat) (ks : (j : Nat) → ((impl_spread_l0_0_ex.getD j (.ret, Sh.none)).2).T → Option R) (k : Nat) (x : impl_spread_l0_0_sh.T) : Option R :=
  impl_spread_l0_0 N (fun y0 y1 y2 y3 y4 => ks 0 ((y0, (), (y1, y2), ()), (y3, y4, ()))) k x.1.1 x.1.2.2.1.1 x.1.2.2.1.2 x.1.2.2.2.1 x.1.2.2.2.2.1 x.1.2.2.2.2.2.1 x.1.2.2.2.2.2.2.1 x.2.1 x.2.2.1
noncomputable def impl_spread_l0_0_s (N : Nat) : LSum := ⟨impl_spread_l0_0_sh, impl_spread_l0_0_ex, fun x ks => impl_spread_l0_0_again N ks N x⟩
theorem impl_spread_l0_0_step (N : Nat) (R : Type) (k : Nat) (x : impl_spread_l0_0_sh.T) (ks : (j : Nat) → ((impl_spread_l0_0_ex.getD j (.ret, Sh.none)).2).T → Option R) : impl_spread_l0_0_again N ks (k + 1) x = roundF (impl_spread_G N) tab [] (loopAt (loopAt impl_spread_code 0) 0) impl_spread_l0_0_sh impl_spread_l0_0_ex (fun y => impl_spread_l0_0_again N ks k y) ks x := by kernel_rfl
theorem impl_spread_l0_0_ok (N : Nat) : LoopOk Tryz.prog Tryz.f65.ntmps (impl_spread_l0_0_s N) (loopAt (loopAt impl_spread_code 0) 0) :=
  loop_ok (l := impl_spread_l0_0_s N) progOk (impl_spread_gok N) (draw_ok progOk (impl_spread_gok N)) (fun R k x ks => impl_spread_l0_0_again N ks k x) (fun _ _ _ => rfl) (fun R k x ks => impl_spread_l0_0_step N R k x ks) (fun R x ks r h => ⟨N, h⟩) (lsOk_at (L := []) trivial) (by kernel_rfl) (by kernel_rfl)
noncomputable def impl_spread_l0_sh : Sh := ⟨[(0, .one (.ro LLI)), (5, .one (.ref 0)), (6, .one (.sub 1 1))], [.sl 3 I .own, .sl 3 I .own]⟩
noncomputable def impl_spread_l0_ex : List (Ex × Sh) := [(.exit 0, ⟨[(5, .one (.ref 0))], [.sl 3 I .own]⟩)]
noncomputable def impl_spread_l0 {R : Type} (N : Nat) (k0 : (List Int) → Option R) : Nat → (List (List Int)) → Int → Int → (List Int) → (List Int) → Option R
  | 0, _, _, _, _, _ => none
  | K + 1, roads1, queue, queue1, o, o1 =>
    (br (ilt 0 (queue1 - queue))
      ((chk (ile 0 0 && ilt 0 (queue1 - queue))
        (chk (ile 0 1 && ile 1 (queue1 - queue) && ile (queue1 - queue) (queue1 - queue))
        (chk (inb roads1 (rdI o1 (queue + 0)))
        (impl_spread_l0_0 N (fun roads2 queue2 queue3 o2 o3 => impl_spread_l0 N k0 K roads2 queue2 queue3 o2 o3) N roads1 (queue + 1) (queue + (queue1 - queue)) (rdI o1 (queue + 0)) (rdL roads1 (rdI o1 (queue + 0))) (tLen (rdL roads1 (rdI o1 (queue + 0)))) 0 o o1)))))
      (k0 o))
noncomputable def impl_spread_l0_again {R : Type} (N : Nat) (ks : (j : Nat) → ((impl_spread_l0_ex.getD j (.ret, Sh.none)).2).T → Option R) (k : Nat) (x : impl_spread_l0_sh.T) : Option R :=
  impl_spread_l0 N (fun y0 => ks 0 (((), ()), (y0, ()))) k x.1.1 x.1.2.2.1.1 x.1.2.2.1.2 x.2.1 x.2.2.1
noncomputable def impl_spread_l0_s (N : Nat) : LSum := ⟨impl_spread_l0_sh, impl_spread_l0_ex, fun x ks => impl_spread_l0_again N ks N x⟩
theorem impl_spread_l0_step (N : Nat) (R : Type) (k : Nat) (x : impl_spread_l0_sh.T) (ks : (j : Nat) → ((impl_spread_l0_ex.getD j (.ret, Sh.none)).2).T → Option R) : impl_spread_l0_again N ks (k + 1) x = roundF (impl_spread_G N) tab [impl_spread_l0_0_s N] (loopAt impl_spread_code 0) impl_spread_l0_sh impl_spread_l0_ex (fun y => impl_spread_l0_again N ks k y) ks x := by kernel_rfl
theorem impl_spread_l0_ok (N : Nat) : LoopOk Tryz.prog Tryz.f65.ntmps (impl_spread_l0_s N) (loopAt impl_spread_code 0) :=
  loop_ok (l := impl_spread_l0_s N) progOk (impl_spread_gok N) (draw_ok progOk (impl_spread_gok N)) (fun R k x ks => impl_spread_l0_again N ks k x) (fun _ _ _ => rfl) (fun R k x ks => impl_spread_l0_step N R k x ks) (fun R x ks r h => ⟨N, h⟩) (lsOk_at (L := [impl_spread_l0_0_s N]) ⟨impl_spread_l0_0_ok N, trivial⟩) (by kernel_rfl) (by kernel_rfl)
noncomputable def impl_spread (N : Nat) (roads : (List (List Int))) (fromv : Int) : Option (((List Int) × Unit) × (Unit)) :=
  ((slices_Repeat_LI_int N [(-1)] (tLen roads)).bind fun r =>
    (chk (inb r.1.1 fromv)
      (impl_spread_l0 N (fun o => some ((o, ()), ())) N roads 0 (tLen [fromv]) (tSet r.1.1 fromv 0) [fromv])))
noncomputable def impl_spread_S (N : Nat) : FSum := ⟨impl_spread_ps, impl_spread_rs, fun x => impl_spread N x.1 x.2.1⟩
theorem impl_spread_run (N : Nat) (x : argsT impl_spread_ps) : impl_spread N x.1 x.2.1 = funF (impl_spread_G N) tab [impl_spread_l0_s N] Tryz.f65 impl_spread_ps impl_spread_rs x := by kernel_rfl
theorem impl_spread_pc (N : Nat) : PC Tryz.prog 65 (impl_spread_S N) := by
  have e : impl_spread_S N = ⟨impl_spread_ps, impl_spread_rs, funF (impl_spread_G N) tab [impl_spread_l0_s N] Tryz.f65 impl_spread_ps impl_spread_rs⟩ := congrArg (FSum.mk impl_spread_ps impl_spread_rs) (funext (impl_spread_run N))
  rw [e]
  exact fun_ok (c := impl_spread_code) progOk (impl_spread_gok N) (draw_ok progOk (impl_spread_gok N)) Tryz.call65 Tryz.func65 (by kernel_rfl) (lsOk_at (L := [impl_spread_l0_s N]) ⟨impl_spread_l0_ok N, trivial⟩) (by kernel_rfl) (by kernel_rfl) (by kernel_rfl) (by kernel_rfl) (by kernel_rfl)
end Go.Proofs.YtgelipdkheahdaaGreat
