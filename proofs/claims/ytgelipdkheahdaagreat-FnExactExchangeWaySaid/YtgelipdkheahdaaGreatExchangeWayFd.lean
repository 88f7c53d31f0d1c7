/- Functions of the program as functions on data. -/
import Derived.Test.YtgelipdkheahdaaGreatExchangeWayFc
set_option linter.all false
namespace Go.Proofs.YtgelipdkheahdaaGreat
open Go Go.PV
/-! ### math_bits_Len64 -/
abbrev math_bits_Len64_ps : List (PV.Mode × Ty) := [(.ro, U64)]
abbrev math_bits_Len64_rs : List (Bool × Ty) := [(true, I)]
noncomputable def math_bits_Len64_G (N : Nat) : GTab := gOf []
theorem math_bits_Len64_gok (N : Nat) : GOk Tryz.prog (math_bits_Len64_G N) := gOf_ok trivial
noncomputable def math_bits_Len64_code : Code := (Tryz.f175.body).getD .skip
noncomputable def math_bits_Len64 (N : Nat) (x : Int) : Option ((Int × Unit) × (Unit)) :=
  (br (ile 4294967296 x)
    ((br (ile 65536 (shrI .u64 x 32))
      ((br (ile 256 (shrI .u64 (shrI .u64 x 32) 16))
        ((chk (strIn str0 (IntKind.u8.wrap ((shrI .u64 (shrI .u64 (shrI .u64 x 32) 16) 8))))
          (some (((IntKind.i64.wrap (56 + (IntKind.i64.wrap ((strAt str0 (IntKind.u8.wrap ((shrI .u64 (shrI .u64 (shrI .u64 x 32) 16) 8)))))))), ()), ()))))
        ((chk (strIn str0 (IntKind.u8.wrap ((shrI .u64 (shrI .u64 x 32) 16))))
          (some (((IntKind.i64.wrap (48 + (IntKind.i64.wrap ((strAt str0 (IntKind.u8.wrap ((shrI .u64 (shrI .u64 x 32) 16)))))))), ()), ()))))))
      ((br (ile 256 (shrI .u64 x 32))
        ((chk (strIn str0 (IntKind.u8.wrap ((shrI .u64 (shrI .u64 x 32) 8))))
          (some (((IntKind.i64.wrap (40 + (IntKind.i64.wrap ((strAt str0 (IntKind.u8.wrap ((shrI .u64 (shrI .u64 x 32) 8)))))))), ()), ()))))
        ((chk (strIn str0 (IntKind.u8.wrap ((shrI .u64 x 32))))
          (some (((IntKind.i64.wrap (32 + (IntKind.i64.wrap ((strAt str0 (IntKind.u8.wrap ((shrI .u64 x 32)))))))), ()), ()))))))))
    ((br (ile 65536 x)
      ((br (ile 256 (shrI .u64 x 16))
        ((chk (strIn str0 (IntKind.u8.wrap ((shrI .u64 (shrI .u64 x 16) 8))))
          (some (((IntKind.i64.wrap (24 + (IntKind.i64.wrap ((strAt str0 (IntKind.u8.wrap ((shrI .u64 (shrI .u64 x 16) 8)))))))), ()), ()))))
        ((chk (strIn str0 (IntKind.u8.wrap ((shrI .u64 x 16))))
          (some (((IntKind.i64.wrap (16 + (IntKind.i64.wrap ((strAt str0 (IntKind.u8.wrap ((shrI .u64 x 16)))))))), ()), ()))))))
      ((br (ile 256 x)
        ((chk (strIn str0 (IntKind.u8.wrap ((shrI .u64 x 8))))
          (some (((IntKind.i64.wrap (8 + (IntKind.i64.wrap ((strAt str0 (IntKind.u8.wrap ((shrI .u64 x 8)))))))), ()), ()))))
        ((chk (strIn str0 (IntKind.u8.wrap (x)))
          (some (((IntKind.i64.wrap (0 + (IntKind.i64.wrap ((strAt str0 (IntKind.u8.wrap (x))))))), ()), ())))))))))
noncomputable def math_bits_Len64_S (N : Nat) : FSum := ⟨math_bits_Len64_ps, math_bits_Len64_rs, fun x => math_bits_Len64 N x.1⟩
theorem math_bits_Len64_run (N : Nat) (x : argsT math_bits_Len64_ps) : math_bits_Len64 N x.1 = funF (math_bits_Len64_G N) tab [] Tryz.f175 math_bits_Len64_ps math_bits_Len64_rs x := by kernel_rfl
theorem math_bits_Len64_pc (N : Nat) : PC Tryz.prog 175 (math_bits_Len64_S N) := by
  have e : math_bits_Len64_S N = ⟨math_bits_Len64_ps, math_bits_Len64_rs, funF (math_bits_Len64_G N) tab [] Tryz.f175 math_bits_Len64_ps math_bits_Len64_rs⟩ := congrArg (FSum.mk math_bits_Len64_ps math_bits_Len64_rs) (funext (math_bits_Len64_run N))
  rw [e]
  exact fun_ok (c := math_bits_Len64_code) progOk (math_bits_Len64_gok N) (draw_ok progOk (math_bits_Len64_gok N)) Tryz.call175 Tryz.func175 (by kernel_rfl) (lsOk_at (L := []) trivial) (by kernel_rfl) (by kernel_rfl) (by kernel_rfl) (by kernel_rfl) (by kernel_rfl)

/-! ### math_bits_Len -/
abbrev math_bits_Len_ps : List (PV.Mode × Ty) := [(.ro, U64)]
abbrev math_bits_Len_rs : List (Bool × Ty) := [(true, I)]
noncomputable def math_bits_Len_G (N : Nat) : GTab := gOf [(175, math_bits_Len64_S N)]
theorem math_bits_Len_gok (N : Nat) : GOk Tryz.prog (math_bits_Len_G N) := gOf_ok ⟨math_bits_Len64_pc N, trivial⟩
noncomputable def math_bits_Len_code : Code := (Tryz.f130.body).getD .skip
noncomputable def math_bits_Len (N : Nat) (x : Int) : Option ((Int × Unit) × (Unit)) :=
  ((math_bits_Len64 N x).bind fun r =>
    some ((r.1.1, ()), ()))
noncomputable def math_bits_Len_S (N : Nat) : FSum := ⟨math_bits_Len_ps, math_bits_Len_rs, fun x => math_bits_Len N x.1⟩
theorem math_bits_Len_run (N : Nat) (x : argsT math_bits_Len_ps) : math_bits_Len N x.1 = funF (math_bits_Len_G N) tab [] Tryz.f130 math_bits_Len_ps math_bits_Len_rs x := by kernel_rfl
theorem math_bits_Len_pc (N : Nat) : PC Tryz.prog 130 (math_bits_Len_S N) := by
  have e : math_bits_Len_S N = ⟨math_bits_Len_ps, math_bits_Len_rs, funF (math_bits_Len_G N) tab [] Tryz.f130 math_bits_Len_ps math_bits_Len_rs⟩ := congrArg (FSum.mk math_bits_Len_ps math_bits_Len_rs) (funext (math_bits_Len_run N))
  rw [e]
  exact fun_ok (c := math_bits_Len_code) progOk (math_bits_Len_gok N) (draw_ok progOk (math_bits_Len_gok N)) Tryz.call130 Tryz.func130 (by kernel_rfl) (lsOk_at (L := []) trivial) (by kernel_rfl) (by kernel_rfl) (by kernel_rfl) (by kernel_rfl) (by kernel_rfl)

/-! ### cmp_Less_int -/
abbrev cmp_Less_int_ps : List (PV.Mode × Ty) := [(.ro, I), (.ro, I)]
abbrev cmp_Less_int_rs : List (Bool × Ty) := [(true, .bool)]
noncomputable def cmp_Less_int_G (N : Nat) : GTab := gOf [(176, cmp_isNaN_int_S N)]
theorem cmp_Less_int_gok (N : Nat) : GOk Tryz.prog (cmp_Less_int_G N) := gOf_ok ⟨cmp_isNaN_int_pc N, trivial⟩
noncomputable def cmp_Less_int_code : Code := (Tryz.f192.body).getD .skip
noncomputable def cmp_Less_int (N : Nat) (x : Int) (y : Int) : Option ((Bool × Unit) × (Unit)) :=
  ((cmp_isNaN_int N x).bind fun r =>
    (br r.1.1
      (((cmp_isNaN_int N y).bind fun r1 =>
        (br (!r1.1.1)
          (some ((true, ()), ()))
          (some (((ilt x y), ()), ())))))
      (some (((ilt x y), ()), ()))))
noncomputable def cmp_Less_int_S (N : Nat) : FSum := ⟨cmp_Less_int_ps, cmp_Less_int_rs, fun x => cmp_Less_int N x.1 x.2.1⟩
theorem cmp_Less_int_run (N : Nat) (x : argsT cmp_Less_int_ps) : cmp_Less_int N x.1 x.2.1 = funF (cmp_Less_int_G N) tab [] Tryz.f192 cmp_Less_int_ps cmp_Less_int_rs x := by kernel_rfl
theorem cmp_Less_int_pc (N : Nat) : PC Tryz.prog 192 (cmp_Less_int_S N) := by
  have e : cmp_Less_int_S N = ⟨cmp_Less_int_ps, cmp_Less_int_rs, funF (cmp_Less_int_G N) tab [] Tryz.f192 cmp_Less_int_ps cmp_Less_int_rs⟩ := congrArg (FSum.mk cmp_Less_int_ps cmp_Less_int_rs) (funext (cmp_Less_int_run N))
  rw [e]
  exact fun_ok (c := cmp_Less_int_code) progOk (cmp_Less_int_gok N) (draw_ok progOk (cmp_Less_int_gok N)) Tryz.call192 Tryz.func192 (by kernel_rfl) (lsOk_at (L := []) trivial) (by kernel_rfl) (by kernel_rfl) (by kernel_rfl) (by kernel_rfl) (by kernel_rfl)

/-! ### slices_insertionSortOrdered_int -/
abbrev slices_insertionSortOrdered_int_ps : List (PV.Mode × Ty) := [(.mut, LI), (.ro, I), (.ro, I)]
abbrev slices_insertionSortOrdered_int_rs : List (Bool × Ty) := []
noncomputable def slices_insertionSortOrdered_int_G (N : Nat) : GTab := gOf [(192, cmp_Less_int_S N)]
theorem slices_insertionSortOrdered_int_gok (N : Nat) : GOk Tryz.prog (slices_insertionSortOrdered_int_G N) := gOf_ok ⟨cmp_Less_int_pc N, trivial⟩
noncomputable def slices_insertionSortOrdered_int_code : Code := (Tryz.f186.body).getD .skip
noncomputable def slices_insertionSortOrdered_int_l0_0_sh : Sh := ⟨[(0, .one (.ref 0)), (1, .one (.ro I)), (2, .one (.ro I)), (6, .one (.ro I)), (7, .one (.ro I))], [.sl 3 I .own]⟩
noncomputable def slices_insertionSortOrdered_int_l0_0_ex : List (Ex × Sh) := [(.exit 2, ⟨[(0, .one (.ref 0)), (1, .one (.ro I)), (2, .one (.ro I)), (6, .one (.ro I))], [.sl 3 I .own]⟩)]
noncomputable def slices_insertionSortOrdered_int_l0_0 {R : Type} (N : Nat) (k0 : Int → Int → Int → (List Int) → Option R) : Nat → Int → Int → Int → Int → (List Int) → Option R
  | 0, _, _, _, _, _ => none
  | K + 1, a2, b2, i1, j, o1 =>
    (br (ilt a2 j)
      ((chk (inb o1 j)
        (chk (inb o1 (IntKind.i64.wrap (j - 1)))
        ((cmp_Less_int N (rdI o1 j) (rdI o1 (IntKind.i64.wrap (j - 1)))).bind fun r =>
        (br r.1.1
          ((chk (inb o1 (IntKind.i64.wrap (j - 1)))
            (chk (inb o1 j)
            (chk (inb o1 j)
            (chk (inb (tSet o1 j (rdI o1 (IntKind.i64.wrap (j - 1)))) (IntKind.i64.wrap (j - 1)))
            (slices_insertionSortOrdered_int_l0_0 N k0 K a2 b2 i1 (IntKind.i64.wrap (j - 1)) (tSet (tSet o1 j (rdI o1 (IntKind.i64.wrap (j - 1)))) (IntKind.i64.wrap (j - 1)) (rdI o1 j))))))))
          (k0 a2 b2 i1 o1))))))
      (k0 a2 b2 i1 o1))
noncomputable def slices_insertionSortOrdered_int_l0_0_again {R : Type} (N : Nat) (ks : (j : Nat) → ((slices_insertionSortOrdered_int_l0_0_ex.getD j (.ret, Sh.none)).2).T → Option R) (k : Nat) (x : slices_insertionSortOrdered_int_l0_0_sh.T) : Option R :=
  slices_insertionSortOrdered_int_l0_0 N (fun y0 y1 y2 y3 => ks 0 (((), y0, y1, y2, ()), (y3, ()))) k x.1.2.1 x.1.2.2.1 x.1.2.2.2.1 x.1.2.2.2.2.1 x.2.1
noncomputable def slices_insertionSortOrdered_int_l0_0_s (N : Nat) : LSum := ⟨slices_insertionSortOrdered_int_l0_0_sh, slices_insertionSortOrdered_int_l0_0_ex, fun x ks => slices_insertionSortOrdered_int_l0_0_again N ks N x⟩
theorem slices_insertionSortOrdered_int_l0_0_step (N : Nat) (R : Type) (k : Nat) (x : slices_insertionSortOrdered_int_l0_0_sh.T) (ks : (j : Nat) → ((slices_insertionSortOrdered_int_l0_0_ex.getD j (.ret, Sh.none)).2).T → Option R) : slices_insertionSortOrdered_int_l0_0_again N ks (k + 1) x = roundF (slices_insertionSortOrdered_int_G N) tab [] (loopAt (loopAt slices_insertionSortOrdered_int_code 0) 0) slices_insertionSortOrdered_int_l0_0_sh slices_insertionSortOrdered_int_l0_0_ex (fun y => slices_insertionSortOrdered_int_l0_0_again N ks k y) ks x := by kernel_rfl
theorem slices_insertionSortOrdered_int_l0_0_ok (N : Nat) : LoopOk Tryz.prog Tryz.f186.ntmps (slices_insertionSortOrdered_int_l0_0_s N) (loopAt (loopAt slices_insertionSortOrdered_int_code 0) 0) :=
  loop_ok (l := slices_insertionSortOrdered_int_l0_0_s N) progOk (slices_insertionSortOrdered_int_gok N) (draw_ok progOk (slices_insertionSortOrdered_int_gok N)) (fun R k x ks => slices_insertionSortOrdered_int_l0_0_again N ks k x) (fun _ _ _ => rfl) (fun R k x ks => slices_insertionSortOrdered_int_l0_0_step N R k x ks) (fun R x ks r h => ⟨N, h⟩) (lsOk_at (L := []) trivial) (by kernel_rfl) (by kernel_rfl)
noncomputable def slices_insertionSortOrdered_int_l0_sh : Sh := ⟨[(0, .one (.ref 0)), (1, .one (.ro I)), (2, .one (.ro I)), (6, .one (.ro I))], [.sl 3 I .own]⟩
noncomputable def slices_insertionSortOrdered_int_l0_ex : List (Ex × Sh) := [(.exit 0, ⟨[(0, .one (.ref 0))], [.sl 3 I .own]⟩)]
noncomputable def slices_insertionSortOrdered_int_l0 {R : Type} (N : Nat) (k0 : (List Int) → Option R) : Nat → Int → Int → Int → (List Int) → Option R
  | 0, _, _, _, _ => none
  | K + 1, a1, b1, i, o =>
    (br (ilt i b1)
      (slices_insertionSortOrdered_int_l0_0 N (fun a2 b2 i1 o1 => slices_insertionSortOrdered_int_l0 N k0 K a2 b2 (IntKind.i64.wrap (i1 + 1)) o1) N a1 b1 i i o)
      (k0 o))
noncomputable def slices_insertionSortOrdered_int_l0_again {R : Type} (N : Nat) (ks : (j : Nat) → ((slices_insertionSortOrdered_int_l0_ex.getD j (.ret, Sh.none)).2).T → Option R) (k : Nat) (x : slices_insertionSortOrdered_int_l0_sh.T) : Option R :=
  slices_insertionSortOrdered_int_l0 N (fun y0 => ks 0 (((), ()), (y0, ()))) k x.1.2.1 x.1.2.2.1 x.1.2.2.2.1 x.2.1
noncomputable def slices_insertionSortOrdered_int_l0_s (N : Nat) : LSum := ⟨slices_insertionSortOrdered_int_l0_sh, slices_insertionSortOrdered_int_l0_ex, fun x ks => slices_insertionSortOrdered_int_l0_again N ks N x⟩
theorem slices_insertionSortOrdered_int_l0_step (N : Nat) (R : Type) (k : Nat) (x : slices_insertionSortOrdered_int_l0_sh.T) (ks : (j : Nat) → ((slices_insertionSortOrdered_int_l0_ex.getD j (.ret, Sh.none)).2).T → Option R) : slices_insertionSortOrdered_int_l0_again N ks (k + 1) x = roundF (slices_insertionSortOrdered_int_G N) tab [slices_insertionSortOrdered_int_l0_0_s N] (loopAt slices_insertionSortOrdered_int_code 0) slices_insertionSortOrdered_int_l0_sh slices_insertionSortOrdered_int_l0_ex (fun y => slices_insertionSortOrdered_int_l0_again N ks k y) ks x := by kernel_rfl
theorem slices_insertionSortOrdered_int_l0_ok (N : Nat) : LoopOk Tryz.prog Tryz.f186.ntmps (slices_insertionSortOrdered_int_l0_s N) (loopAt slices_insertionSortOrdered_int_code 0) :=
  loop_ok (l := slices_insertionSortOrdered_int_l0_s N) progOk (slices_insertionSortOrdered_int_gok N) (draw_ok progOk (slices_insertionSortOrdered_int_gok N)) (fun R k x ks => slices_insertionSortOrdered_int_l0_again N ks k x) (fun _ _ _ => rfl) (fun R k x ks => slices_insertionSortOrdered_int_l0_step N R k x ks) (fun R x ks r h => ⟨N, h⟩) (lsOk_at (L := [slices_insertionSortOrdered_int_l0_0_s N]) ⟨slices_insertionSortOrdered_int_l0_0_ok N, trivial⟩) (by kernel_rfl) (by kernel_rfl)
noncomputable def slices_insertionSortOrdered_int (N : Nat) (data : (List Int)) (a : Int) (b : Int) : Option ((Unit) × ((List Int) × Unit)) :=
  slices_insertionSortOrdered_int_l0 N (fun o => some ((), (o, ()))) N a b (IntKind.i64.wrap (a + 1)) data
noncomputable def slices_insertionSortOrdered_int_S (N : Nat) : FSum := ⟨slices_insertionSortOrdered_int_ps, slices_insertionSortOrdered_int_rs, fun x => slices_insertionSortOrdered_int N x.1 x.2.1 x.2.2.1⟩
theorem slices_insertionSortOrdered_int_run (N : Nat) (x : argsT slices_insertionSortOrdered_int_ps) : slices_insertionSortOrdered_int N x.1 x.2.1 x.2.2.1 = funF (slices_insertionSortOrdered_int_G N) tab [slices_insertionSortOrdered_int_l0_s N] Tryz.f186 slices_insertionSortOrdered_int_ps slices_insertionSortOrdered_int_rs x := by kernel_rfl
theorem slices_insertionSortOrdered_int_pc (N : Nat) : PC Tryz.prog 186 (slices_insertionSortOrdered_int_S N) := by
  have e : slices_insertionSortOrdered_int_S N = ⟨slices_insertionSortOrdered_int_ps, slices_insertionSortOrdered_int_rs, funF (slices_insertionSortOrdered_int_G N) tab [slices_insertionSortOrdered_int_l0_s N] Tryz.f186 slices_insertionSortOrdered_int_ps slices_insertionSortOrdered_int_rs⟩ := congrArg (FSum.mk slices_insertionSortOrdered_int_ps slices_insertionSortOrdered_int_rs) (funext (slices_insertionSortOrdered_int_run N))
  rw [e]
  exact fun_ok (c := slices_insertionSortOrdered_int_code) progOk (slices_insertionSortOrdered_int_gok N) (draw_ok progOk (slices_insertionSortOrdered_int_gok N)) Tryz.call186 Tryz.func186 (by kernel_rfl) (lsOk_at (L := [slices_insertionSortOrdered_int_l0_s N]) ⟨slices_insertionSortOrdered_int_l0_ok N, trivial⟩) (by kernel_rfl) (by kernel_rfl) (by kernel_rfl) (by kernel_rfl) (by kernel_rfl)

/-! ### slices_order2Ordered_int -/
abbrev slices_order2Ordered_int_ps : List (PV.Mode × Ty) := [(.ro, LI), (.ro, I), (.ro, I), (.mut, BI)]
abbrev slices_order2Ordered_int_rs : List (Bool × Ty) := [(true, I), (true, I)]
noncomputable def slices_order2Ordered_int_G (N : Nat) : GTab := gOf [(192, cmp_Less_int_S N)]
theorem slices_order2Ordered_int_gok (N : Nat) : GOk Tryz.prog (slices_order2Ordered_int_G N) := gOf_ok ⟨cmp_Less_int_pc N, trivial⟩
noncomputable def slices_order2Ordered_int_code : Code := (Tryz.f221.body).getD .skip
noncomputable def slices_order2Ordered_int (N : Nat) (data : (List Int)) (a : Int) (b : Int) (swaps : Int) : Option ((Int × Int × Unit) × (Int × Unit)) :=
  (chk (inb data b)
    (chk (inb data a)
    ((cmp_Less_int N (rdI data b) (rdI data a)).bind fun r =>
    (br r.1.1
      (some ((b, a, ()), ((IntKind.i64.wrap (swaps + 1)), ())))
      (some ((a, b, ()), (swaps, ())))))))
noncomputable def slices_order2Ordered_int_S (N : Nat) : FSum := ⟨slices_order2Ordered_int_ps, slices_order2Ordered_int_rs, fun x => slices_order2Ordered_int N x.1 x.2.1 x.2.2.1 x.2.2.2.1⟩
theorem slices_order2Ordered_int_run (N : Nat) (x : argsT slices_order2Ordered_int_ps) : slices_order2Ordered_int N x.1 x.2.1 x.2.2.1 x.2.2.2.1 = funF (slices_order2Ordered_int_G N) tab [] Tryz.f221 slices_order2Ordered_int_ps slices_order2Ordered_int_rs x := by kernel_rfl
theorem slices_order2Ordered_int_pc (N : Nat) : PC Tryz.prog 221 (slices_order2Ordered_int_S N) := by
  have e : slices_order2Ordered_int_S N = ⟨slices_order2Ordered_int_ps, slices_order2Ordered_int_rs, funF (slices_order2Ordered_int_G N) tab [] Tryz.f221 slices_order2Ordered_int_ps slices_order2Ordered_int_rs⟩ := congrArg (FSum.mk slices_order2Ordered_int_ps slices_order2Ordered_int_rs) (funext (slices_order2Ordered_int_run N))
  rw [e]
  exact fun_ok (c := slices_order2Ordered_int_code) progOk (slices_order2Ordered_int_gok N) (draw_ok progOk (slices_order2Ordered_int_gok N)) Tryz.call221 Tryz.func221 (by kernel_rfl) (lsOk_at (L := []) trivial) (by kernel_rfl) (by kernel_rfl) (by kernel_rfl) (by kernel_rfl) (by kernel_rfl)

/-! ### slices_medianOrdered_int -/
abbrev slices_medianOrdered_int_ps : List (PV.Mode × Ty) := [(.ro, LI), (.ro, I), (.ro, I), (.ro, I), (.mut, BI)]
abbrev slices_medianOrdered_int_rs : List (Bool × Ty) := [(true, I)]
noncomputable def slices_medianOrdered_int_G (N : Nat) : GTab := gOf [(221, slices_order2Ordered_int_S N)]
theorem slices_medianOrdered_int_gok (N : Nat) : GOk Tryz.prog (slices_medianOrdered_int_G N) := gOf_ok ⟨slices_order2Ordered_int_pc N, trivial⟩
noncomputable def slices_medianOrdered_int_code : Code := (Tryz.f213.body).getD .skip
noncomputable def slices_medianOrdered_int (N : Nat) (data : (List Int)) (a : Int) (b : Int) (c : Int) (swaps : Int) : Option ((Int × Unit) × (Int × Unit)) :=
  ((slices_order2Ordered_int N data a b swaps).bind fun r =>
    ((slices_order2Ordered_int N data r.1.2.1 c r.2.1).bind fun r1 =>
      ((slices_order2Ordered_int N data r.1.1 r1.1.1 r1.2.1).bind fun r2 =>
        some ((r2.1.2.1, ()), (r2.2.1, ())))))
noncomputable def slices_medianOrdered_int_S (N : Nat) : FSum := ⟨slices_medianOrdered_int_ps, slices_medianOrdered_int_rs, fun x => slices_medianOrdered_int N x.1 x.2.1 x.2.2.1 x.2.2.2.1 x.2.2.2.2.1⟩
theorem slices_medianOrdered_int_run (N : Nat) (x : argsT slices_medianOrdered_int_ps) : slices_medianOrdered_int N x.1 x.2.1 x.2.2.1 x.2.2.2.1 x.2.2.2.2.1 = funF (slices_medianOrdered_int_G N) tab [] Tryz.f213 slices_medianOrdered_int_ps slices_medianOrdered_int_rs x := by kernel_rfl
theorem slices_medianOrdered_int_pc (N : Nat) : PC Tryz.prog 213 (slices_medianOrdered_int_S N) := by
  have e : slices_medianOrdered_int_S N = ⟨slices_medianOrdered_int_ps, slices_medianOrdered_int_rs, funF (slices_medianOrdered_int_G N) tab [] Tryz.f213 slices_medianOrdered_int_ps slices_medianOrdered_int_rs⟩ := congrArg (FSum.mk slices_medianOrdered_int_ps slices_medianOrdered_int_rs) (funext (slices_medianOrdered_int_run N))
  rw [e]
  exact fun_ok (c := slices_medianOrdered_int_code) progOk (slices_medianOrdered_int_gok N) (draw_ok progOk (slices_medianOrdered_int_gok N)) Tryz.call213 Tryz.func213 (by kernel_rfl) (lsOk_at (L := []) trivial) (by kernel_rfl) (by kernel_rfl) (by kernel_rfl) (by kernel_rfl) (by kernel_rfl)

/-! ### slices_medianAdjacentOrdered_int -/
abbrev slices_medianAdjacentOrdered_int_ps : List (PV.Mode × Ty) := [(.ro, LI), (.ro, I), (.mut, BI)]
abbrev slices_medianAdjacentOrdered_int_rs : List (Bool × Ty) := [(true, I)]
noncomputable def slices_medianAdjacentOrdered_int_G (N : Nat) : GTab := gOf [(213, slices_medianOrdered_int_S N)]
theorem slices_medianAdjacentOrdered_int_gok (N : Nat) : GOk Tryz.prog (slices_medianAdjacentOrdered_int_G N) := gOf_ok ⟨slices_medianOrdered_int_pc N, trivial⟩
noncomputable def slices_medianAdjacentOrdered_int_code : Code := (Tryz.f212.body).getD .skip
noncomputable def slices_medianAdjacentOrdered_int (N : Nat) (data : (List Int)) (a : Int) (swaps : Int) : Option ((Int × Unit) × (Int × Unit)) :=
  ((slices_medianOrdered_int N data (IntKind.i64.wrap (a - 1)) a (IntKind.i64.wrap (a + 1)) swaps).bind fun r =>
    some ((r.1.1, ()), (r.2.1, ())))
noncomputable def slices_medianAdjacentOrdered_int_S (N : Nat) : FSum := ⟨slices_medianAdjacentOrdered_int_ps, slices_medianAdjacentOrdered_int_rs, fun x => slices_medianAdjacentOrdered_int N x.1 x.2.1 x.2.2.1⟩
theorem slices_medianAdjacentOrdered_int_run (N : Nat) (x : argsT slices_medianAdjacentOrdered_int_ps) : slices_medianAdjacentOrdered_int N x.1 x.2.1 x.2.2.1 = funF (slices_medianAdjacentOrdered_int_G N) tab [] Tryz.f212 slices_medianAdjacentOrdered_int_ps slices_medianAdjacentOrdered_int_rs x := by kernel_rfl
theorem slices_medianAdjacentOrdered_int_pc (N : Nat) : PC Tryz.prog 212 (slices_medianAdjacentOrdered_int_S N) := by
  have e : slices_medianAdjacentOrdered_int_S N = ⟨slices_medianAdjacentOrdered_int_ps, slices_medianAdjacentOrdered_int_rs, funF (slices_medianAdjacentOrdered_int_G N) tab [] Tryz.f212 slices_medianAdjacentOrdered_int_ps slices_medianAdjacentOrdered_int_rs⟩ := congrArg (FSum.mk slices_medianAdjacentOrdered_int_ps slices_medianAdjacentOrdered_int_rs) (funext (slices_medianAdjacentOrdered_int_run N))
  rw [e]
  exact fun_ok (c := slices_medianAdjacentOrdered_int_code) progOk (slices_medianAdjacentOrdered_int_gok N) (draw_ok progOk (slices_medianAdjacentOrdered_int_gok N)) Tryz.call212 Tryz.func212 (by kernel_rfl) (lsOk_at (L := []) trivial) (by kernel_rfl) (by kernel_rfl) (by kernel_rfl) (by kernel_rfl) (by kernel_rfl)

/-! ### slices_choosePivotOrdered_int -/
abbrev slices_choosePivotOrdered_int_ps : List (PV.Mode × Ty) := [(.ro, LI), (.ro, I), (.ro, I)]
abbrev slices_choosePivotOrdered_int_rs : List (Bool × Ty) := [(true, I), (true, I)]
noncomputable def slices_choosePivotOrdered_int_G (N : Nat) : GTab := gOf [(212, slices_medianAdjacentOrdered_int_S N), (213, slices_medianOrdered_int_S N)]
theorem slices_choosePivotOrdered_int_gok (N : Nat) : GOk Tryz.prog (slices_choosePivotOrdered_int_G N) := gOf_ok ⟨slices_medianAdjacentOrdered_int_pc N, slices_medianOrdered_int_pc N, trivial⟩
noncomputable def slices_choosePivotOrdered_int_code : Code := (Tryz.f189.body).getD .skip
noncomputable def slices_choosePivotOrdered_int (N : Nat) (data : (List Int)) (a : Int) (b : Int) : Option ((Int × Int × Unit) × (Unit)) :=
  (br (ile 8 (IntKind.i64.wrap (b - a)))
    ((br (ile 50 (IntKind.i64.wrap (b - a)))
      (((slices_medianAdjacentOrdered_int N data (IntKind.i64.wrap (a + (IntKind.i64.wrap ((IntKind.i64.wrap ((IntKind.i64.wrap (b - a)).tdiv 4)) * 1)))) 0).bind fun r =>
        ((slices_medianAdjacentOrdered_int N data (IntKind.i64.wrap (a + (IntKind.i64.wrap ((IntKind.i64.wrap ((IntKind.i64.wrap (b - a)).tdiv 4)) * 2)))) r.2.1).bind fun r1 =>
          ((slices_medianAdjacentOrdered_int N data (IntKind.i64.wrap (a + (IntKind.i64.wrap ((IntKind.i64.wrap ((IntKind.i64.wrap (b - a)).tdiv 4)) * 3)))) r1.2.1).bind fun r2 =>
            ((slices_medianOrdered_int N data r.1.1 r1.1.1 r2.1.1 r2.2.1).bind fun r3 =>
              (br (ieq r3.2.1 0)
                (some ((r3.1.1, 1, ()), ()))
                ((br (ieq r3.2.1 12)
                  (some ((r3.1.1, 2, ()), ()))
                  (some ((r3.1.1, 0, ()), ()))))))))))
      (((slices_medianOrdered_int N data (IntKind.i64.wrap (a + (IntKind.i64.wrap ((IntKind.i64.wrap ((IntKind.i64.wrap (b - a)).tdiv 4)) * 1)))) (IntKind.i64.wrap (a + (IntKind.i64.wrap ((IntKind.i64.wrap ((IntKind.i64.wrap (b - a)).tdiv 4)) * 2)))) (IntKind.i64.wrap (a + (IntKind.i64.wrap ((IntKind.i64.wrap ((IntKind.i64.wrap (b - a)).tdiv 4)) * 3)))) 0).bind fun r4 =>
        (br (ieq r4.2.1 0)
          (some ((r4.1.1, 1, ()), ()))
          ((br (ieq r4.2.1 12)
            (some ((r4.1.1, 2, ()), ()))
            (some ((r4.1.1, 0, ()), ())))))))))
    (some (((IntKind.i64.wrap (a + (IntKind.i64.wrap ((IntKind.i64.wrap ((IntKind.i64.wrap (b - a)).tdiv 4)) * 2)))), 1, ()), ())))
noncomputable def slices_choosePivotOrdered_int_S (N : Nat) : FSum := ⟨slices_choosePivotOrdered_int_ps, slices_choosePivotOrdered_int_rs, fun x => slices_choosePivotOrdered_int N x.1 x.2.1 x.2.2.1⟩
theorem slices_choosePivotOrdered_int_run (N : Nat) (x : argsT slices_choosePivotOrdered_int_ps) : slices_choosePivotOrdered_int N x.1 x.2.1 x.2.2.1 = funF (slices_choosePivotOrdered_int_G N) tab [] Tryz.f189 slices_choosePivotOrdered_int_ps slices_choosePivotOrdered_int_rs x := by kernel_rfl
theorem slices_choosePivotOrdered_int_pc (N : Nat) : PC Tryz.prog 189 (slices_choosePivotOrdered_int_S N) := by
  have e : slices_choosePivotOrdered_int_S N = ⟨slices_choosePivotOrdered_int_ps, slices_choosePivotOrdered_int_rs, funF (slices_choosePivotOrdered_int_G N) tab [] Tryz.f189 slices_choosePivotOrdered_int_ps slices_choosePivotOrdered_int_rs⟩ := congrArg (FSum.mk slices_choosePivotOrdered_int_ps slices_choosePivotOrdered_int_rs) (funext (slices_choosePivotOrdered_int_run N))
  rw [e]
  exact fun_ok (c := slices_choosePivotOrdered_int_code) progOk (slices_choosePivotOrdered_int_gok N) (draw_ok progOk (slices_choosePivotOrdered_int_gok N)) Tryz.call189 Tryz.func189 (by kernel_rfl) (lsOk_at (L := []) trivial) (by kernel_rfl) (by kernel_rfl) (by kernel_rfl) (by kernel_rfl) (by kernel_rfl)

/-! ### slices_partialInsertionSortOrdered_int -/
abbrev slices_partialInsertionSortOrdered_int_ps : List (PV.Mode × Ty) := [(.mut, LI), (.ro, I), (.ro, I)]
abbrev slices_partialInsertionSortOrdered_int_rs : List (Bool × Ty) := [(true, .bool)]
noncomputable def slices_partialInsertionSortOrdered_int_G (N : Nat) : GTab := gOf [(192, cmp_Less_int_S N)]
theorem slices_partialInsertionSortOrdered_int_gok (N : Nat) : GOk Tryz.prog (slices_partialInsertionSortOrdered_int_G N) := gOf_ok ⟨cmp_Less_int_pc N, trivial⟩
noncomputable def slices_partialInsertionSortOrdered_int_code : Code := (Tryz.f191.body).getD .skip
noncomputable def slices_partialInsertionSortOrdered_int_l0_0_sh : Sh := ⟨[(0, .one (.ref 0)), (1, .one (.ro I)), (2, .one (.ro I)), (7, .one (.ro I)), (8, .one (.ro I))], [.sl 3 I .own]⟩
noncomputable def slices_partialInsertionSortOrdered_int_l0_0_ex : List (Ex × Sh) := [(.exit 2, ⟨[(0, .one (.ref 0)), (1, .one (.ro I)), (2, .one (.ro I)), (7, .one (.ro I)), (8, .one (.ro I))], [.sl 3 I .own]⟩)]
noncomputable def slices_partialInsertionSortOrdered_int_l0_0 {R : Type} (N : Nat) (k0 : Int → Int → Int → Int → (List Int) → Option R) : Nat → Int → Int → Int → Int → (List Int) → Option R
  | 0, _, _, _, _, _ => none
  | K + 1, x4, x5, x6, x7, o1 =>
    (br (ilt x6 x5)
      ((chk (inb o1 x6)
        (chk (inb o1 (IntKind.i64.wrap (x6 - 1)))
        ((cmp_Less_int N (rdI o1 x6) (rdI o1 (IntKind.i64.wrap (x6 - 1)))).bind fun r =>
        (br (!r.1.1)
          (slices_partialInsertionSortOrdered_int_l0_0 N k0 K x4 x5 (IntKind.i64.wrap (x6 + 1)) x7 o1)
          (k0 x4 x5 x6 x7 o1))))))
      (k0 x4 x5 x6 x7 o1))
noncomputable def slices_partialInsertionSortOrdered_int_l0_0_again {R : Type} (N : Nat) (ks : (j : Nat) → ((slices_partialInsertionSortOrdered_int_l0_0_ex.getD j (.ret, Sh.none)).2).T → Option R) (k : Nat) (x : slices_partialInsertionSortOrdered_int_l0_0_sh.T) : Option R :=
  slices_partialInsertionSortOrdered_int_l0_0 N (fun y0 y1 y2 y3 y4 => ks 0 (((), y0, y1, y2, y3, ()), (y4, ()))) k x.1.2.1 x.1.2.2.1 x.1.2.2.2.1 x.1.2.2.2.2.1 x.2.1
noncomputable def slices_partialInsertionSortOrdered_int_l0_0_s (N : Nat) : LSum := ⟨slices_partialInsertionSortOrdered_int_l0_0_sh, slices_partialInsertionSortOrdered_int_l0_0_ex, fun x ks => slices_partialInsertionSortOrdered_int_l0_0_again N ks N x⟩
theorem slices_partialInsertionSortOrdered_int_l0_0_step (N : Nat) (R : Type) (k : Nat) (x : slices_partialInsertionSortOrdered_int_l0_0_sh.T) (ks : (j : Nat) → ((slices_partialInsertionSortOrdered_int_l0_0_ex.getD j (.ret, Sh.none)).2).T → Option R) : slices_partialInsertionSortOrdered_int_l0_0_again N ks (k + 1) x = roundF (slices_partialInsertionSortOrdered_int_G N) tab [] (loopAt (loopAt slices_partialInsertionSortOrdered_int_code 0) 0) slices_partialInsertionSortOrdered_int_l0_0_sh slices_partialInsertionSortOrdered_int_l0_0_ex (fun y => slices_partialInsertionSortOrdered_int_l0_0_again N ks k y) ks x := by kernel_rfl
theorem slices_partialInsertionSortOrdered_int_l0_0_ok (N : Nat) : LoopOk Tryz.prog Tryz.f191.ntmps (slices_partialInsertionSortOrdered_int_l0_0_s N) (loopAt (loopAt slices_partialInsertionSortOrdered_int_code 0) 0) :=
  loop_ok (l := slices_partialInsertionSortOrdered_int_l0_0_s N) progOk (slices_partialInsertionSortOrdered_int_gok N) (draw_ok progOk (slices_partialInsertionSortOrdered_int_gok N)) (fun R k x ks => slices_partialInsertionSortOrdered_int_l0_0_again N ks k x) (fun _ _ _ => rfl) (fun R k x ks => slices_partialInsertionSortOrdered_int_l0_0_step N R k x ks) (fun R x ks r h => ⟨N, h⟩) (lsOk_at (L := []) trivial) (by kernel_rfl) (by kernel_rfl)
noncomputable def slices_partialInsertionSortOrdered_int_l0_1_sh : Sh := ⟨[(0, .one (.ref 0)), (1, .one (.ro I)), (2, .one (.ro I)), (7, .one (.ro I)), (8, .one (.ro I)), (9, .one (.ro I))], [.sl 3 I .own]⟩
noncomputable def slices_partialInsertionSortOrdered_int_l0_1_ex : List (Ex × Sh) := [(.exit 4, ⟨[(0, .one (.ref 0)), (1, .one (.ro I)), (2, .one (.ro I)), (7, .one (.ro I)), (8, .one (.ro I))], [.sl 3 I .own]⟩)]
noncomputable def slices_partialInsertionSortOrdered_int_l0_1 {R : Type} (N : Nat) (k0 : Int → Int → Int → Int → (List Int) → Option R) : Nat → Int → Int → Int → Int → Int → (List Int) → Option R
  | 0, _, _, _, _, _, _ => none
  | K + 1, x8, x9, x10, x11, x12, o2 =>
    (br (ile 1 x12)
      ((chk (inb o2 x12)
        (chk (inb o2 (IntKind.i64.wrap (x12 - 1)))
        ((cmp_Less_int N (rdI o2 x12) (rdI o2 (IntKind.i64.wrap (x12 - 1)))).bind fun r =>
        (br (!r.1.1)
          (k0 x8 x9 x10 x11 o2)
          ((chk (inb o2 (IntKind.i64.wrap (x12 - 1)))
            (chk (inb o2 x12)
            (chk (inb o2 x12)
            (chk (inb (tSet o2 x12 (rdI o2 (IntKind.i64.wrap (x12 - 1)))) (IntKind.i64.wrap (x12 - 1)))
            (slices_partialInsertionSortOrdered_int_l0_1 N k0 K x8 x9 x10 x11 (IntKind.i64.wrap (x12 - 1)) (tSet (tSet o2 x12 (rdI o2 (IntKind.i64.wrap (x12 - 1)))) (IntKind.i64.wrap (x12 - 1)) (rdI o2 x12)))))))))))))
      (k0 x8 x9 x10 x11 o2))
noncomputable def slices_partialInsertionSortOrdered_int_l0_1_again {R : Type} (N : Nat) (ks : (j : Nat) → ((slices_partialInsertionSortOrdered_int_l0_1_ex.getD j (.ret, Sh.none)).2).T → Option R) (k : Nat) (x : slices_partialInsertionSortOrdered_int_l0_1_sh.T) : Option R :=
  slices_partialInsertionSortOrdered_int_l0_1 N (fun y0 y1 y2 y3 y4 => ks 0 (((), y0, y1, y2, y3, ()), (y4, ()))) k x.1.2.1 x.1.2.2.1 x.1.2.2.2.1 x.1.2.2.2.2.1 x.1.2.2.2.2.2.1 x.2.1
noncomputable def slices_partialInsertionSortOrdered_int_l0_1_s (N : Nat) : LSum := ⟨slices_partialInsertionSortOrdered_int_l0_1_sh, slices_partialInsertionSortOrdered_int_l0_1_ex, fun x ks => slices_partialInsertionSortOrdered_int_l0_1_again N ks N x⟩
theorem slices_partialInsertionSortOrdered_int_l0_1_step (N : Nat) (R : Type) (k : Nat) (x : slices_partialInsertionSortOrdered_int_l0_1_sh.T) (ks : (j : Nat) → ((slices_partialInsertionSortOrdered_int_l0_1_ex.getD j (.ret, Sh.none)).2).T → Option R) : slices_partialInsertionSortOrdered_int_l0_1_again N ks (k + 1) x = roundF (slices_partialInsertionSortOrdered_int_G N) tab [] (loopAt (loopAt slices_partialInsertionSortOrdered_int_code 0) 1) slices_partialInsertionSortOrdered_int_l0_1_sh slices_partialInsertionSortOrdered_int_l0_1_ex (fun y => slices_partialInsertionSortOrdered_int_l0_1_again N ks k y) ks x := by kernel_rfl
theorem slices_partialInsertionSortOrdered_int_l0_1_ok (N : Nat) : LoopOk Tryz.prog Tryz.f191.ntmps (slices_partialInsertionSortOrdered_int_l0_1_s N) (loopAt (loopAt slices_partialInsertionSortOrdered_int_code 0) 1) :=
  loop_ok (l := slices_partialInsertionSortOrdered_int_l0_1_s N) progOk (slices_partialInsertionSortOrdered_int_gok N) (draw_ok progOk (slices_partialInsertionSortOrdered_int_gok N)) (fun R k x ks => slices_partialInsertionSortOrdered_int_l0_1_again N ks k x) (fun _ _ _ => rfl) (fun R k x ks => slices_partialInsertionSortOrdered_int_l0_1_step N R k x ks) (fun R x ks r h => ⟨N, h⟩) (lsOk_at (L := []) trivial) (by kernel_rfl) (by kernel_rfl)
noncomputable def slices_partialInsertionSortOrdered_int_l0_2_sh : Sh := ⟨[(0, .one (.ref 0)), (1, .one (.ro I)), (2, .one (.ro I)), (7, .one (.ro I)), (8, .one (.ro I)), (10, .one (.ro I))], [.sl 3 I .own]⟩
noncomputable def slices_partialInsertionSortOrdered_int_l0_2_ex : List (Ex × Sh) := [(.exit 6, ⟨[(0, .one (.ref 0)), (1, .one (.ro I)), (2, .one (.ro I)), (7, .one (.ro I)), (8, .one (.ro I))], [.sl 3 I .own]⟩)]
noncomputable def slices_partialInsertionSortOrdered_int_l0_2 {R : Type} (N : Nat) (k0 : Int → Int → Int → Int → (List Int) → Option R) : Nat → Int → Int → Int → Int → Int → (List Int) → Option R
  | 0, _, _, _, _, _, _ => none
  | K + 1, x12, x13, x14, x15, x16, o3 =>
    (br (ilt x16 x13)
      ((chk (inb o3 x16)
        (chk (inb o3 (IntKind.i64.wrap (x16 - 1)))
        ((cmp_Less_int N (rdI o3 x16) (rdI o3 (IntKind.i64.wrap (x16 - 1)))).bind fun r =>
        (br (!r.1.1)
          (k0 x12 x13 x14 x15 o3)
          ((chk (inb o3 (IntKind.i64.wrap (x16 - 1)))
            (chk (inb o3 x16)
            (chk (inb o3 x16)
            (chk (inb (tSet o3 x16 (rdI o3 (IntKind.i64.wrap (x16 - 1)))) (IntKind.i64.wrap (x16 - 1)))
            (slices_partialInsertionSortOrdered_int_l0_2 N k0 K x12 x13 x14 x15 (IntKind.i64.wrap (x16 + 1)) (tSet (tSet o3 x16 (rdI o3 (IntKind.i64.wrap (x16 - 1)))) (IntKind.i64.wrap (x16 - 1)) (rdI o3 x16)))))))))))))
      (k0 x12 x13 x14 x15 o3))
noncomputable def slices_partialInsertionSortOrdered_int_l0_2_again {R : Type} (N : Nat) (ks : (j : Nat) → ((slices_partialInsertionSortOrdered_int_l0_2_ex.getD j (.ret, Sh.none)).2).T → Option R) (k : Nat) (x : slices_partialInsertionSortOrdered_int_l0_2_sh.T) : Option R :=
  slices_partialInsertionSortOrdered_int_l0_2 N (fun y0 y1 y2 y3 y4 => ks 0 (((), y0, y1, y2, y3, ()), (y4, ()))) k x.1.2.1 x.1.2.2.1 x.1.2.2.2.1 x.1.2.2.2.2.1 x.1.2.2.2.2.2.1 x.2.1
noncomputable def slices_partialInsertionSortOrdered_int_l0_2_s (N : Nat) : LSum := ⟨slices_partialInsertionSortOrdered_int_l0_2_sh, slices_partialInsertionSortOrdered_int_l0_2_ex, fun x ks => slices_partialInsertionSortOrdered_int_l0_2_again N ks N x⟩
theorem slices_partialInsertionSortOrdered_int_l0_2_step (N : Nat) (R : Type) (k : Nat) (x : slices_partialInsertionSortOrdered_int_l0_2_sh.T) (ks : (j : Nat) → ((slices_partialInsertionSortOrdered_int_l0_2_ex.getD j (.ret, Sh.none)).2).T → Option R) : slices_partialInsertionSortOrdered_int_l0_2_again N ks (k + 1) x = roundF (slices_partialInsertionSortOrdered_int_G N) tab [] (loopAt (loopAt slices_partialInsertionSortOrdered_int_code 0) 2) slices_partialInsertionSortOrdered_int_l0_2_sh slices_partialInsertionSortOrdered_int_l0_2_ex (fun y => slices_partialInsertionSortOrdered_int_l0_2_again N ks k y) ks x := by kernel_rfl
theorem slices_partialInsertionSortOrdered_int_l0_2_ok (N : Nat) : LoopOk Tryz.prog Tryz.f191.ntmps (slices_partialInsertionSortOrdered_int_l0_2_s N) (loopAt (loopAt slices_partialInsertionSortOrdered_int_code 0) 2) :=
  loop_ok (l := slices_partialInsertionSortOrdered_int_l0_2_s N) progOk (slices_partialInsertionSortOrdered_int_gok N) (draw_ok progOk (slices_partialInsertionSortOrdered_int_gok N)) (fun R k x ks => slices_partialInsertionSortOrdered_int_l0_2_again N ks k x) (fun _ _ _ => rfl) (fun R k x ks => slices_partialInsertionSortOrdered_int_l0_2_step N R k x ks) (fun R x ks r h => ⟨N, h⟩) (lsOk_at (L := []) trivial) (by kernel_rfl) (by kernel_rfl)
noncomputable def slices_partialInsertionSortOrdered_int_l0_sh : Sh := ⟨[(0, .one (.ref 0)), (1, .one (.ro I)), (2, .one (.ro I)), (7, .one (.ro I)), (8, .one (.ro I))], [.sl 3 I .own]⟩
noncomputable def slices_partialInsertionSortOrdered_int_l0_ex : List (Ex × Sh) := [(.ret, ⟨[(0, .one (.ref 0)), (6, .one (.ro .bool))], [.sl 3 I .own]⟩), (.exit 0, ⟨[(0, .one (.ref 0))], [.sl 3 I .own]⟩)]
noncomputable def slices_partialInsertionSortOrdered_int_l0 {R : Type} (N : Nat) (k0 : Bool → (List Int) → Option R) (k1 : (List Int) → Option R) : Nat → Int → Int → Int → Int → (List Int) → Option R
  | 0, _, _, _, _, _ => none
  | K + 1, x, x1, x2, x3, o =>
    (br (ilt x3 5)
      (slices_partialInsertionSortOrdered_int_l0_0 N (fun x4 x5 x6 x7 o1 => (br (ieq x6 x5)
        (k0 true o1)
        ((br (ilt (IntKind.i64.wrap (x5 - x4)) 50)
          (k0 false o1)
          ((chk (inb o1 (IntKind.i64.wrap (x6 - 1)))
            (chk (inb o1 x6)
            (chk (inb o1 x6)
            (chk (inb (tSet o1 x6 (rdI o1 (IntKind.i64.wrap (x6 - 1)))) (IntKind.i64.wrap (x6 - 1)))
            (br (ile 2 (IntKind.i64.wrap (x6 - x4)))
            (slices_partialInsertionSortOrdered_int_l0_1 N (fun x8 x9 x10 x11 o2 => (br (ile 2 (IntKind.i64.wrap (x9 - x10)))
              (slices_partialInsertionSortOrdered_int_l0_2 N (fun x12 x13 x14 x15 o3 => slices_partialInsertionSortOrdered_int_l0 N k0 k1 K x12 x13 x14 (IntKind.i64.wrap (x15 + 1)) o3) N x8 x9 x10 x11 (IntKind.i64.wrap (x10 + 1)) o2)
              (slices_partialInsertionSortOrdered_int_l0 N k0 k1 K x8 x9 x10 (IntKind.i64.wrap (x11 + 1)) o2))) N x4 x5 x6 x7 (IntKind.i64.wrap (x6 - 1)) (tSet (tSet o1 x6 (rdI o1 (IntKind.i64.wrap (x6 - 1)))) (IntKind.i64.wrap (x6 - 1)) (rdI o1 x6)))
            ((br (ile 2 (IntKind.i64.wrap (x5 - x6)))
              (slices_partialInsertionSortOrdered_int_l0_2 N (fun x16 x17 x18 x19 o4 => slices_partialInsertionSortOrdered_int_l0 N k0 k1 K x16 x17 x18 (IntKind.i64.wrap (x19 + 1)) o4) N x4 x5 x6 x7 (IntKind.i64.wrap (x6 + 1)) (tSet (tSet o1 x6 (rdI o1 (IntKind.i64.wrap (x6 - 1)))) (IntKind.i64.wrap (x6 - 1)) (rdI o1 x6)))
              (slices_partialInsertionSortOrdered_int_l0 N k0 k1 K x4 x5 x6 (IntKind.i64.wrap (x7 + 1)) (tSet (tSet o1 x6 (rdI o1 (IntKind.i64.wrap (x6 - 1)))) (IntKind.i64.wrap (x6 - 1)) (rdI o1 x6))))))))))))))) N x x1 x2 x3 o)
      (k1 o))
noncomputable def slices_partialInsertionSortOrdered_int_l0_again {R : Type} (N : Nat) (ks : (j : Nat) → ((slices_partialInsertionSortOrdered_int_l0_ex.getD j (.ret, Sh.none)).2).T → Option R) (k : Nat) (x : slices_partialInsertionSortOrdered_int_l0_sh.T) : Option R :=
  slices_partialInsertionSortOrdered_int_l0 N (fun y0 y1 => ks 0 (((), y0, ()), (y1, ()))) (fun y0 => ks 1 (((), ()), (y0, ()))) k x.1.2.1 x.1.2.2.1 x.1.2.2.2.1 x.1.2.2.2.2.1 x.2.1
noncomputable def slices_partialInsertionSortOrdered_int_l0_s (N : Nat) : LSum := ⟨slices_partialInsertionSortOrdered_int_l0_sh, slices_partialInsertionSortOrdered_int_l0_ex, fun x ks => slices_partialInsertionSortOrdered_int_l0_again N ks N x⟩
theorem slices_partialInsertionSortOrdered_int_l0_step (N : Nat) (R : Type) (k : Nat) (x : slices_partialInsertionSortOrdered_int_l0_sh.T) (ks : (j : Nat) → ((slices_partialInsertionSortOrdered_int_l0_ex.getD j (.ret, Sh.none)).2).T → Option R) : slices_partialInsertionSortOrdered_int_l0_again N ks (k + 1) x = roundF (slices_partialInsertionSortOrdered_int_G N) tab [slices_partialInsertionSortOrdered_int_l0_0_s N, slices_partialInsertionSortOrdered_int_l0_1_s N, slices_partialInsertionSortOrdered_int_l0_2_s N] (loopAt slices_partialInsertionSortOrdered_int_code 0) slices_partialInsertionSortOrdered_int_l0_sh slices_partialInsertionSortOrdered_int_l0_ex (fun y => slices_partialInsertionSortOrdered_int_l0_again N ks k y) ks x := by kernel_rfl
theorem slices_partialInsertionSortOrdered_int_l0_ok (N : Nat) : LoopOk Tryz.prog Tryz.f191.ntmps (slices_partialInsertionSortOrdered_int_l0_s N) (loopAt slices_partialInsertionSortOrdered_int_code 0) :=
  loop_ok (l := slices_partialInsertionSortOrdered_int_l0_s N) progOk (slices_partialInsertionSortOrdered_int_gok N) (draw_ok progOk (slices_partialInsertionSortOrdered_int_gok N)) (fun R k x ks => slices_partialInsertionSortOrdered_int_l0_again N ks k x) (fun _ _ _ => rfl) (fun R k x ks => slices_partialInsertionSortOrdered_int_l0_step N R k x ks) (fun R x ks r h => ⟨N, h⟩) (lsOk_at (L := [slices_partialInsertionSortOrdered_int_l0_0_s N, slices_partialInsertionSortOrdered_int_l0_1_s N, slices_partialInsertionSortOrdered_int_l0_2_s N]) ⟨slices_partialInsertionSortOrdered_int_l0_0_ok N, slices_partialInsertionSortOrdered_int_l0_1_ok N, slices_partialInsertionSortOrdered_int_l0_2_ok N, trivial⟩) (by kernel_rfl) (by kernel_rfl)
noncomputable def slices_partialInsertionSortOrdered_int (N : Nat) (c : (List Int)) (c1 : Int) (c2 : Int) : Option ((Bool × Unit) × ((List Int) × Unit)) :=
  slices_partialInsertionSortOrdered_int_l0 N (fun x o => some ((x, ()), (o, ()))) (fun o1 => some ((false, ()), (o1, ()))) N c1 c2 (IntKind.i64.wrap (c1 + 1)) 0 c
noncomputable def slices_partialInsertionSortOrdered_int_S (N : Nat) : FSum := ⟨slices_partialInsertionSortOrdered_int_ps, slices_partialInsertionSortOrdered_int_rs, fun x => slices_partialInsertionSortOrdered_int N x.1 x.2.1 x.2.2.1⟩
theorem slices_partialInsertionSortOrdered_int_run (N : Nat) (x : argsT slices_partialInsertionSortOrdered_int_ps) : slices_partialInsertionSortOrdered_int N x.1 x.2.1 x.2.2.1 = funF (slices_partialInsertionSortOrdered_int_G N) tab [slices_partialInsertionSortOrdered_int_l0_s N] Tryz.f191 slices_partialInsertionSortOrdered_int_ps slices_partialInsertionSortOrdered_int_rs x := by kernel_rfl
theorem slices_partialInsertionSortOrdered_int_pc (N : Nat) : PC Tryz.prog 191 (slices_partialInsertionSortOrdered_int_S N) := by
  have e : slices_partialInsertionSortOrdered_int_S N = ⟨slices_partialInsertionSortOrdered_int_ps, slices_partialInsertionSortOrdered_int_rs, funF (slices_partialInsertionSortOrdered_int_G N) tab [slices_partialInsertionSortOrdered_int_l0_s N] Tryz.f191 slices_partialInsertionSortOrdered_int_ps slices_partialInsertionSortOrdered_int_rs⟩ := congrArg (FSum.mk slices_partialInsertionSortOrdered_int_ps slices_partialInsertionSortOrdered_int_rs) (funext (slices_partialInsertionSortOrdered_int_run N))
  rw [e]
  exact fun_ok (c := slices_partialInsertionSortOrdered_int_code) progOk (slices_partialInsertionSortOrdered_int_gok N) (draw_ok progOk (slices_partialInsertionSortOrdered_int_gok N)) Tryz.call191 Tryz.func191 (by kernel_rfl) (lsOk_at (L := [slices_partialInsertionSortOrdered_int_l0_s N]) ⟨slices_partialInsertionSortOrdered_int_l0_ok N, trivial⟩) (by kernel_rfl) (by kernel_rfl) (by kernel_rfl) (by kernel_rfl) (by kernel_rfl)

/-! ### slices_pdqsortOrdered_int -/
abbrev slices_pdqsortOrdered_int_ps : List (PV.Mode × Ty) := [(.mut, LI), (.ro, I), (.ro, I), (.ro, I)]
abbrev slices_pdqsortOrdered_int_rs : List (Bool × Ty) := []
noncomputable def slices_pdqsortOrdered_int_G (N : Nat) : GTab := gOf [(186, slices_insertionSortOrdered_int_S N), (189, slices_choosePivotOrdered_int_S N), (191, slices_partialInsertionSortOrdered_int_S N), (192, cmp_Less_int_S N)]
theorem slices_pdqsortOrdered_int_gok (N : Nat) : GOk Tryz.prog (slices_pdqsortOrdered_int_G N) := gOf_ok ⟨slices_insertionSortOrdered_int_pc N, slices_choosePivotOrdered_int_pc N, slices_partialInsertionSortOrdered_int_pc N, cmp_Less_int_pc N, trivial⟩
noncomputable def slices_pdqsortOrdered_int_code : Code := (Tryz.f148.body).getD .skip
noncomputable def slices_pdqsortOrdered_int_l0_sh : Sh := ⟨[(0, .one (.ref 0)), (1, .one (.ro I)), (2, .one (.ro I)), (3, .one (.ro I)), (8, .one (.ro .bool)), (9, .one (.ro .bool))], [.sl 3 I .own]⟩
noncomputable def slices_pdqsortOrdered_int_l0_ex : List (Ex × Sh) := [(.ret, ⟨[(0, .one (.ref 0))], [.sl 3 I .own]⟩)]
noncomputable def slices_pdqsortOrdered_int_l0 {R : Type} (N : Nat) (k0 : (List Int) → Option R) : Nat → Int → Int → Int → Bool → Bool → (List Int) → Option R
  | 0, _, _, _, _, _, _ => none
  | K + 1, x, x1, x2, x3, x4, o =>
    (br (ile (IntKind.i64.wrap (x1 - x)) 12)
      (((slices_insertionSortOrdered_int N o x x1).bind fun r =>
        k0 r.2.1))
      ((br (ieq x2 0)
        (none)
        ((br (!x3)
          (none)
          (((slices_choosePivotOrdered_int N o x x1).bind fun r1 =>
            (br (ieq r1.1.2.1 2)
              (none)
              ((br x3
                ((br x4
                  ((br (ieq r1.1.2.1 1)
                    (((slices_partialInsertionSortOrdered_int N o x x1).bind fun r2 =>
                      (br r2.1.1
                        (k0 r2.2.1)
                        ((br (ilt 0 x)
                          ((chk (inb r2.2.1 (IntKind.i64.wrap (x - 1)))
                            (chk (inb r2.2.1 r1.1.1)
                            ((cmp_Less_int N (rdI r2.2.1 (IntKind.i64.wrap (x - 1))) (rdI r2.2.1 r1.1.1)).bind fun r3 =>
                            (br (!r3.1.1)
                              (none)
                              (none))))))
                          (none))))))
                    ((br (ilt 0 x)
                      ((chk (inb o (IntKind.i64.wrap (x - 1)))
                        (chk (inb o r1.1.1)
                        ((cmp_Less_int N (rdI o (IntKind.i64.wrap (x - 1))) (rdI o r1.1.1)).bind fun r4 =>
                        (br (!r4.1.1)
                          (none)
                          (none))))))
                      (none)))))
                  ((br (ilt 0 x)
                    ((chk (inb o (IntKind.i64.wrap (x - 1)))
                      (chk (inb o r1.1.1)
                      ((cmp_Less_int N (rdI o (IntKind.i64.wrap (x - 1))) (rdI o r1.1.1)).bind fun r5 =>
                      (br (!r5.1.1)
                        (none)
                        (none))))))
                    (none)))))
                ((br (ilt 0 x)
                  ((chk (inb o (IntKind.i64.wrap (x - 1)))
                    (chk (inb o r1.1.1)
                    ((cmp_Less_int N (rdI o (IntKind.i64.wrap (x - 1))) (rdI o r1.1.1)).bind fun r6 =>
                    (br (!r6.1.1)
                      (none)
                      (none))))))
                  (none)))))))))))))
noncomputable def slices_pdqsortOrdered_int_l0_again {R : Type} (N : Nat) (ks : (j : Nat) → ((slices_pdqsortOrdered_int_l0_ex.getD j (.ret, Sh.none)).2).T → Option R) (k : Nat) (x : slices_pdqsortOrdered_int_l0_sh.T) : Option R :=
  slices_pdqsortOrdered_int_l0 N (fun y0 => ks 0 (((), ()), (y0, ()))) k x.1.2.1 x.1.2.2.1 x.1.2.2.2.1 x.1.2.2.2.2.1 x.1.2.2.2.2.2.1 x.2.1
noncomputable def slices_pdqsortOrdered_int_l0_s (N : Nat) : LSum := ⟨slices_pdqsortOrdered_int_l0_sh, slices_pdqsortOrdered_int_l0_ex, fun x ks => slices_pdqsortOrdered_int_l0_again N ks N x⟩
theorem slices_pdqsortOrdered_int_l0_step (N : Nat) (R : Type) (k : Nat) (x : slices_pdqsortOrdered_int_l0_sh.T) (ks : (j : Nat) → ((slices_pdqsortOrdered_int_l0_ex.getD j (.ret, Sh.none)).2).T → Option R) : slices_pdqsortOrdered_int_l0_again N ks (k + 1) x = roundF (slices_pdqsortOrdered_int_G N) tab [] (loopAt slices_pdqsortOrdered_int_code 0) slices_pdqsortOrdered_int_l0_sh slices_pdqsortOrdered_int_l0_ex (fun y => slices_pdqsortOrdered_int_l0_again N ks k y) ks x := by kernel_rfl
theorem slices_pdqsortOrdered_int_l0_ok (N : Nat) : LoopOk Tryz.prog Tryz.f148.ntmps (slices_pdqsortOrdered_int_l0_s N) (loopAt slices_pdqsortOrdered_int_code 0) :=
  loop_ok (l := slices_pdqsortOrdered_int_l0_s N) progOk (slices_pdqsortOrdered_int_gok N) (draw_ok progOk (slices_pdqsortOrdered_int_gok N)) (fun R k x ks => slices_pdqsortOrdered_int_l0_again N ks k x) (fun _ _ _ => rfl) (fun R k x ks => slices_pdqsortOrdered_int_l0_step N R k x ks) (fun R x ks r h => ⟨N, h⟩) (lsOk_at (L := []) trivial) (by kernel_rfl) (by kernel_rfl)
noncomputable def slices_pdqsortOrdered_int (N : Nat) (c : (List Int)) (c1 : Int) (c2 : Int) (c3 : Int) : Option ((Unit) × ((List Int) × Unit)) :=
  slices_pdqsortOrdered_int_l0 N (fun o => some ((), (o, ()))) N c1 c2 c3 true true c
noncomputable def slices_pdqsortOrdered_int_S (N : Nat) : FSum := ⟨slices_pdqsortOrdered_int_ps, slices_pdqsortOrdered_int_rs, fun x => slices_pdqsortOrdered_int N x.1 x.2.1 x.2.2.1 x.2.2.2.1⟩
theorem slices_pdqsortOrdered_int_run (N : Nat) (x : argsT slices_pdqsortOrdered_int_ps) : slices_pdqsortOrdered_int N x.1 x.2.1 x.2.2.1 x.2.2.2.1 = funF (slices_pdqsortOrdered_int_G N) tab [slices_pdqsortOrdered_int_l0_s N] Tryz.f148 slices_pdqsortOrdered_int_ps slices_pdqsortOrdered_int_rs x := by kernel_rfl
theorem slices_pdqsortOrdered_int_pc (N : Nat) : PC Tryz.prog 148 (slices_pdqsortOrdered_int_S N) := by
  have e : slices_pdqsortOrdered_int_S N = ⟨slices_pdqsortOrdered_int_ps, slices_pdqsortOrdered_int_rs, funF (slices_pdqsortOrdered_int_G N) tab [slices_pdqsortOrdered_int_l0_s N] Tryz.f148 slices_pdqsortOrdered_int_ps slices_pdqsortOrdered_int_rs⟩ := congrArg (FSum.mk slices_pdqsortOrdered_int_ps slices_pdqsortOrdered_int_rs) (funext (slices_pdqsortOrdered_int_run N))
  rw [e]
  exact fun_ok (c := slices_pdqsortOrdered_int_code) progOk (slices_pdqsortOrdered_int_gok N) (draw_ok progOk (slices_pdqsortOrdered_int_gok N)) Tryz.call148 Tryz.func148 (by kernel_rfl) (lsOk_at (L := [slices_pdqsortOrdered_int_l0_s N]) ⟨slices_pdqsortOrdered_int_l0_ok N, trivial⟩) (by kernel_rfl) (by kernel_rfl) (by kernel_rfl) (by kernel_rfl) (by kernel_rfl)

/-! ### slices_Sort_LI_int -/
abbrev slices_Sort_LI_int_ps : List (PV.Mode × Ty) := [(.mut, LI)]
abbrev slices_Sort_LI_int_rs : List (Bool × Ty) := []
noncomputable def slices_Sort_LI_int_G (N : Nat) : GTab := gOf [(130, math_bits_Len_S N), (148, slices_pdqsortOrdered_int_S N)]
theorem slices_Sort_LI_int_gok (N : Nat) : GOk Tryz.prog (slices_Sort_LI_int_G N) := gOf_ok ⟨math_bits_Len_pc N, slices_pdqsortOrdered_int_pc N, trivial⟩
noncomputable def slices_Sort_LI_int_code : Code := (Tryz.f107.body).getD .skip
noncomputable def slices_Sort_LI_int (N : Nat) (x : (List Int)) : Option ((Unit) × ((List Int) × Unit)) :=
  ((math_bits_Len N (IntKind.u64.wrap ((tLen x)))).bind fun r =>
    ((slices_pdqsortOrdered_int N x 0 (tLen x) r.1.1).bind fun r1 =>
      some ((), (r1.2.1, ()))))
noncomputable def slices_Sort_LI_int_S (N : Nat) : FSum := ⟨slices_Sort_LI_int_ps, slices_Sort_LI_int_rs, fun x => slices_Sort_LI_int N x.1⟩
theorem slices_Sort_LI_int_run (N : Nat) (x : argsT slices_Sort_LI_int_ps) : slices_Sort_LI_int N x.1 = funF (slices_Sort_LI_int_G N) tab [] Tryz.f107 slices_Sort_LI_int_ps slices_Sort_LI_int_rs x := by kernel_rfl
theorem slices_Sort_LI_int_pc (N : Nat) : PC Tryz.prog 107 (slices_Sort_LI_int_S N) := by
  have e : slices_Sort_LI_int_S N = ⟨slices_Sort_LI_int_ps, slices_Sort_LI_int_rs, funF (slices_Sort_LI_int_G N) tab [] Tryz.f107 slices_Sort_LI_int_ps slices_Sort_LI_int_rs⟩ := congrArg (FSum.mk slices_Sort_LI_int_ps slices_Sort_LI_int_rs) (funext (slices_Sort_LI_int_run N))
  rw [e]
  exact fun_ok (c := slices_Sort_LI_int_code) progOk (slices_Sort_LI_int_gok N) (draw_ok progOk (slices_Sort_LI_int_gok N)) Tryz.call107 Tryz.func107 (by kernel_rfl) (lsOk_at (L := []) trivial) (by kernel_rfl) (by kernel_rfl) (by kernel_rfl) (by kernel_rfl) (by kernel_rfl)

/-! ### impl_Space_roads -/
abbrev impl_Space_roads_ps : List (PV.Mode × Ty) := [(.ro, QLLILQII)]
abbrev impl_Space_roads_rs : List (Bool × Ty) := [(true, LLI)]
noncomputable def impl_Space_roads_G (N : Nat) : GTab := gOf [(107, slices_Sort_LI_int_S N)]
theorem impl_Space_roads_gok (N : Nat) : GOk Tryz.prog (impl_Space_roads_G N) := gOf_ok ⟨slices_Sort_LI_int_pc N, trivial⟩
noncomputable def impl_Space_roads_code : Code := (Tryz.f66.body).getD .skip
noncomputable def impl_Space_roads_l0_sh : Sh := ⟨[(3, .one (.ref 0)), (13, .one (.ro LQII)), (14, .one (.ro I)), (15, .one (.ro I))], [.sl 40 LI .deep]⟩
noncomputable def impl_Space_roads_l0_ex : List (Ex × Sh) := [(.exit 0, ⟨[(3, .one (.ref 0))], [.sl 40 LI .deep]⟩)]
noncomputable def impl_Space_roads_l0 {R : Type} (N : Nat) (k0 : (List (List Int)) → Option R) : Nat → (List (Int × Int)) → Int → Int → (List (List Int)) → Option R
  | 0, _, _, _, _ => none
  | K + 1, x1, x2, x3, o =>
    (br (ilt x3 x2)
      ((chk (inb x1 x3)
        (chk (inb o ((rdP x1 x3).1))
        (chk (room (rdL o ((rdP x1 x3).1)) [(rdP x1 x3).2])
        (chk (inb o ((rdP x1 x3).1))
        (chk (ieq ((rdP x1 x3).1) ((rdP x1 x3).1))
        (chk (inb (tSet o ((rdP x1 x3).1) (tApp (rdL o ((rdP x1 x3).1)) [(rdP x1 x3).2])) ((rdP x1 x3).2))
        (chk (room (rdL (tSet o ((rdP x1 x3).1) (tApp (rdL o ((rdP x1 x3).1)) [(rdP x1 x3).2])) ((rdP x1 x3).2)) [(rdP x1 x3).1])
        (chk (inb (tSet o ((rdP x1 x3).1) (tApp (rdL o ((rdP x1 x3).1)) [(rdP x1 x3).2])) ((rdP x1 x3).2))
        (chk (ieq ((rdP x1 x3).2) ((rdP x1 x3).2))
        (impl_Space_roads_l0 N k0 K x1 x2 (IntKind.i64.wrap (x3 + 1)) (tSet (tSet o ((rdP x1 x3).1) (tApp (rdL o ((rdP x1 x3).1)) [(rdP x1 x3).2])) ((rdP x1 x3).2) (tApp (rdL (tSet o ((rdP x1 x3).1) (tApp (rdL o ((rdP x1 x3).1)) [(rdP x1 x3).2])) ((rdP x1 x3).2)) [(rdP x1 x3).1])))))))))))))
      (k0 o))
noncomputable def impl_Space_roads_l0_again {R : Type} (N : Nat) (ks : (j : Nat) → ((impl_Space_roads_l0_ex.getD j (.ret, Sh.none)).2).T → Option R) (k : Nat) (x : impl_Space_roads_l0_sh.T) : Option R :=
  impl_Space_roads_l0 N (fun y0 => ks 0 (((), ()), (y0, ()))) k x.1.2.1 x.1.2.2.1 x.1.2.2.2.1 x.2.1
noncomputable def impl_Space_roads_l0_s (N : Nat) : LSum := ⟨impl_Space_roads_l0_sh, impl_Space_roads_l0_ex, fun x ks => impl_Space_roads_l0_again N ks N x⟩
theorem impl_Space_roads_l0_step (N : Nat) (R : Type) (k : Nat) (x : impl_Space_roads_l0_sh.T) (ks : (j : Nat) → ((impl_Space_roads_l0_ex.getD j (.ret, Sh.none)).2).T → Option R) : impl_Space_roads_l0_again N ks (k + 1) x = roundF (impl_Space_roads_G N) tab [] (loopAt impl_Space_roads_code 0) impl_Space_roads_l0_sh impl_Space_roads_l0_ex (fun y => impl_Space_roads_l0_again N ks k y) ks x := by kernel_rfl
theorem impl_Space_roads_l0_ok (N : Nat) : LoopOk Tryz.prog Tryz.f66.ntmps (impl_Space_roads_l0_s N) (loopAt impl_Space_roads_code 0) :=
  loop_ok (l := impl_Space_roads_l0_s N) progOk (impl_Space_roads_gok N) (draw_ok progOk (impl_Space_roads_gok N)) (fun R k x ks => impl_Space_roads_l0_again N ks k x) (fun _ _ _ => rfl) (fun R k x ks => impl_Space_roads_l0_step N R k x ks) (fun R x ks r h => ⟨N, h⟩) (lsOk_at (L := []) trivial) (by kernel_rfl) (by kernel_rfl)
noncomputable def impl_Space_roads_l1_sh : Sh := ⟨[(3, .one (.ref 0)), (46, .one (.ref 0)), (47, .one (.ro I)), (48, .one (.ro I))], [.sl 40 LI .deep]⟩
noncomputable def impl_Space_roads_l1_ex : List (Ex × Sh) := [(.exit 2, ⟨[(3, .one (.ref 0))], [.sl 40 LI .deep]⟩)]
noncomputable def impl_Space_roads_l1 {R : Type} (N : Nat) (k0 : (List (List Int)) → Option R) : Nat → Int → Int → (List (List Int)) → Option R
  | 0, _, _, _ => none
  | K + 1, x1, x2, o1 =>
    (br (ilt x2 x1)
      ((chk (inb o1 x2)
        ((slices_Sort_LI_int N (rdL o1 x2)).bind fun r =>
        impl_Space_roads_l1 N k0 K x1 (IntKind.i64.wrap (x2 + 1)) (tSet o1 x2 r.2.1))))
      (k0 o1))
noncomputable def impl_Space_roads_l1_again {R : Type} (N : Nat) (ks : (j : Nat) → ((impl_Space_roads_l1_ex.getD j (.ret, Sh.none)).2).T → Option R) (k : Nat) (x : impl_Space_roads_l1_sh.T) : Option R :=
  impl_Space_roads_l1 N (fun y0 => ks 0 (((), ()), (y0, ()))) k x.1.2.2.1 x.1.2.2.2.1 x.2.1
noncomputable def impl_Space_roads_l1_s (N : Nat) : LSum := ⟨impl_Space_roads_l1_sh, impl_Space_roads_l1_ex, fun x ks => impl_Space_roads_l1_again N ks N x⟩
theorem impl_Space_roads_l1_step (N : Nat) (R : Type) (k : Nat) (x : impl_Space_roads_l1_sh.T) (ks : (j : Nat) → ((impl_Space_roads_l1_ex.getD j (.ret, Sh.none)).2).T → Option R) : impl_Space_roads_l1_again N ks (k + 1) x = roundF (impl_Space_roads_G N) tab [] (loopAt impl_Space_roads_code 1) impl_Space_roads_l1_sh impl_Space_roads_l1_ex (fun y => impl_Space_roads_l1_again N ks k y) ks x := by kernel_rfl
theorem impl_Space_roads_l1_ok (N : Nat) : LoopOk Tryz.prog Tryz.f66.ntmps (impl_Space_roads_l1_s N) (loopAt impl_Space_roads_code 1) :=
  loop_ok (l := impl_Space_roads_l1_s N) progOk (impl_Space_roads_gok N) (draw_ok progOk (impl_Space_roads_gok N)) (fun R k x ks => impl_Space_roads_l1_again N ks k x) (fun _ _ _ => rfl) (fun R k x ks => impl_Space_roads_l1_step N R k x ks) (fun R x ks r h => ⟨N, h⟩) (lsOk_at (L := []) trivial) (by kernel_rfl) (by kernel_rfl)
noncomputable def impl_Space_roads (N : Nat) (x : ((List (List Int)) × (List (Int × Int)))) : Option (((List (List Int)) × Unit) × (Unit)) :=
  (chk (ile 0 (tLen x.1) && ile (tLen x.1) (tLen x.1) && fits (tLen x.1))
    (impl_Space_roads_l0 N (fun o => impl_Space_roads_l1 N (fun o1 => some ((o1, ()), ())) N (tLen o) 0 o) N x.2 (tLen x.2) 0 (tRep (tLen x.1) [])))
noncomputable def impl_Space_roads_S (N : Nat) : FSum := ⟨impl_Space_roads_ps, impl_Space_roads_rs, fun x => impl_Space_roads N x.1⟩
theorem impl_Space_roads_run (N : Nat) (x : argsT impl_Space_roads_ps) : impl_Space_roads N x.1 = funF (impl_Space_roads_G N) tab [impl_Space_roads_l0_s N, impl_Space_roads_l1_s N] Tryz.f66 impl_Space_roads_ps impl_Space_roads_rs x := by kernel_rfl
theorem impl_Space_roads_pc (N : Nat) : PC Tryz.prog 66 (impl_Space_roads_S N) := by
  have e : impl_Space_roads_S N = ⟨impl_Space_roads_ps, impl_Space_roads_rs, funF (impl_Space_roads_G N) tab [impl_Space_roads_l0_s N, impl_Space_roads_l1_s N] Tryz.f66 impl_Space_roads_ps impl_Space_roads_rs⟩ := congrArg (FSum.mk impl_Space_roads_ps impl_Space_roads_rs) (funext (impl_Space_roads_run N))
  rw [e]
  exact fun_ok (c := impl_Space_roads_code) progOk (impl_Space_roads_gok N) (draw_ok progOk (impl_Space_roads_gok N)) Tryz.call66 Tryz.func66 (by kernel_rfl) (lsOk_at (L := [impl_Space_roads_l0_s N, impl_Space_roads_l1_s N]) ⟨impl_Space_roads_l0_ok N, impl_Space_roads_l1_ok N, trivial⟩) (by kernel_rfl) (by kernel_rfl) (by kernel_rfl) (by kernel_rfl) (by kernel_rfl)

/-! ### math_bits_Mul64 -/
abbrev math_bits_Mul64_ps : List (PV.Mode × Ty) := [(.ro, U64), (.ro, U64)]
abbrev math_bits_Mul64_rs : List (Bool × Ty) := [(true, U64), (true, U64)]
noncomputable def math_bits_Mul64_G (N : Nat) : GTab := gOf []
theorem math_bits_Mul64_gok (N : Nat) : GOk Tryz.prog (math_bits_Mul64_G N) := gOf_ok trivial
noncomputable def math_bits_Mul64_code : Code := (Tryz.f185.body).getD .skip
noncomputable def math_bits_Mul64 (N : Nat) (x : Int) (y : Int) : Option ((Int × Int × Unit) × (Unit)) :=
  some (((IntKind.u64.wrap ((IntKind.u64.wrap ((IntKind.u64.wrap ((shrI .u64 x 32) * (shrI .u64 y 32))) + (shrI .u64 (IntKind.u64.wrap ((IntKind.u64.wrap ((shrI .u64 x 32) * (bitop .and .u64 y 4294967295))) + (shrI .u64 (IntKind.u64.wrap ((bitop .and .u64 x 4294967295) * (bitop .and .u64 y 4294967295))) 32))) 32))) + (shrI .u64 (IntKind.u64.wrap ((bitop .and .u64 (IntKind.u64.wrap ((IntKind.u64.wrap ((shrI .u64 x 32) * (bitop .and .u64 y 4294967295))) + (shrI .u64 (IntKind.u64.wrap ((bitop .and .u64 x 4294967295) * (bitop .and .u64 y 4294967295))) 32))) 4294967295) + (IntKind.u64.wrap ((bitop .and .u64 x 4294967295) * (shrI .u64 y 32))))) 32))), (IntKind.u64.wrap (x * y)), ()), ())
noncomputable def math_bits_Mul64_S (N : Nat) : FSum := ⟨math_bits_Mul64_ps, math_bits_Mul64_rs, fun x => math_bits_Mul64 N x.1 x.2.1⟩
theorem math_bits_Mul64_run (N : Nat) (x : argsT math_bits_Mul64_ps) : math_bits_Mul64 N x.1 x.2.1 = funF (math_bits_Mul64_G N) tab [] Tryz.f185 math_bits_Mul64_ps math_bits_Mul64_rs x := by kernel_rfl
theorem math_bits_Mul64_pc (N : Nat) : PC Tryz.prog 185 (math_bits_Mul64_S N) := by
  have e : math_bits_Mul64_S N = ⟨math_bits_Mul64_ps, math_bits_Mul64_rs, funF (math_bits_Mul64_G N) tab [] Tryz.f185 math_bits_Mul64_ps math_bits_Mul64_rs⟩ := congrArg (FSum.mk math_bits_Mul64_ps math_bits_Mul64_rs) (funext (math_bits_Mul64_run N))
  rw [e]
  exact fun_ok (c := math_bits_Mul64_code) progOk (math_bits_Mul64_gok N) (draw_ok progOk (math_bits_Mul64_gok N)) Tryz.call185 Tryz.func185 (by kernel_rfl) (lsOk_at (L := []) trivial) (by kernel_rfl) (by kernel_rfl) (by kernel_rfl) (by kernel_rfl) (by kernel_rfl)

/-! ### math_bits_Mul -/
abbrev math_bits_Mul_ps : List (PV.Mode × Ty) := [(.ro, U64), (.ro, U64)]
abbrev math_bits_Mul_rs : List (Bool × Ty) := [(true, U64), (true, U64)]
noncomputable def math_bits_Mul_G (N : Nat) : GTab := gOf [(185, math_bits_Mul64_S N)]
theorem math_bits_Mul_gok (N : Nat) : GOk Tryz.prog (math_bits_Mul_G N) := gOf_ok ⟨math_bits_Mul64_pc N, trivial⟩
noncomputable def math_bits_Mul_code : Code := (Tryz.f147.body).getD .skip
noncomputable def math_bits_Mul (N : Nat) (x : Int) (y : Int) : Option ((Int × Int × Unit) × (Unit)) :=
  ((math_bits_Mul64 N x y).bind fun r =>
    some ((r.1.1, r.1.2.1, ()), ()))
noncomputable def math_bits_Mul_S (N : Nat) : FSum := ⟨math_bits_Mul_ps, math_bits_Mul_rs, fun x => math_bits_Mul N x.1 x.2.1⟩
theorem math_bits_Mul_run (N : Nat) (x : argsT math_bits_Mul_ps) : math_bits_Mul N x.1 x.2.1 = funF (math_bits_Mul_G N) tab [] Tryz.f147 math_bits_Mul_ps math_bits_Mul_rs x := by kernel_rfl
theorem math_bits_Mul_pc (N : Nat) : PC Tryz.prog 147 (math_bits_Mul_S N) := by
  have e : math_bits_Mul_S N = ⟨math_bits_Mul_ps, math_bits_Mul_rs, funF (math_bits_Mul_G N) tab [] Tryz.f147 math_bits_Mul_ps math_bits_Mul_rs⟩ := congrArg (FSum.mk math_bits_Mul_ps math_bits_Mul_rs) (funext (math_bits_Mul_run N))
  rw [e]
  exact fun_ok (c := math_bits_Mul_code) progOk (math_bits_Mul_gok N) (draw_ok progOk (math_bits_Mul_gok N)) Tryz.call147 Tryz.func147 (by kernel_rfl) (lsOk_at (L := []) trivial) (by kernel_rfl) (by kernel_rfl) (by kernel_rfl) (by kernel_rfl) (by kernel_rfl)

/-! ### slices_Repeat_LI_int -/
abbrev slices_Repeat_LI_int_ps : List (PV.Mode × Ty) := [(.ro, LI), (.ro, I)]
abbrev slices_Repeat_LI_int_rs : List (Bool × Ty) := [(true, LI)]
noncomputable def slices_Repeat_LI_int_G (N : Nat) : GTab := gOf [(147, math_bits_Mul_S N)]
theorem slices_Repeat_LI_int_gok (N : Nat) : GOk Tryz.prog (slices_Repeat_LI_int_G N) := gOf_ok ⟨math_bits_Mul_pc N, trivial⟩
noncomputable def slices_Repeat_LI_int_code : Code := (Tryz.f106.body).getD .skip
noncomputable def slices_Repeat_LI_int_l0_sh : Sh := ⟨[(7, .one (.ref 0)), (8, .one (.ro I))], [.sl 3 I .own]⟩
noncomputable def slices_Repeat_LI_int_l0_ex : List (Ex × Sh) := [(.exit 0, ⟨[(7, .one (.ref 0))], [.sl 3 I .own]⟩)]
noncomputable def slices_Repeat_LI_int_l0 {R : Type} (N : Nat) (k0 : (List Int) → Option R) : Nat → Int → (List Int) → Option R
  | 0, _, _ => none
  | K + 1, n, o =>
    (br (ilt n (tLen o))
      ((chk (ile 0 n && ile n (tLen o) && ile (tLen o) (tLen o))
        (chk (ile 0 0 && ile 0 n && ile n (tLen o))
        (slices_Repeat_LI_int_l0 N k0 K (IntKind.i64.wrap (n + (tMin ((tLen o) - n) (tLen (tCut o 0 n))))) (tPut o n (tCut (tCut o 0 n) 0 (tMin ((tLen o) - n) (tLen (tCut o 0 n)))))))))
      (k0 o))
noncomputable def slices_Repeat_LI_int_l0_again {R : Type} (N : Nat) (ks : (j : Nat) → ((slices_Repeat_LI_int_l0_ex.getD j (.ret, Sh.none)).2).T → Option R) (k : Nat) (x : slices_Repeat_LI_int_l0_sh.T) : Option R :=
  slices_Repeat_LI_int_l0 N (fun y0 => ks 0 (((), ()), (y0, ()))) k x.1.2.1 x.2.1
noncomputable def slices_Repeat_LI_int_l0_s (N : Nat) : LSum := ⟨slices_Repeat_LI_int_l0_sh, slices_Repeat_LI_int_l0_ex, fun x ks => slices_Repeat_LI_int_l0_again N ks N x⟩
theorem slices_Repeat_LI_int_l0_step (N : Nat) (R : Type) (k : Nat) (x : slices_Repeat_LI_int_l0_sh.T) (ks : (j : Nat) → ((slices_Repeat_LI_int_l0_ex.getD j (.ret, Sh.none)).2).T → Option R) : slices_Repeat_LI_int_l0_again N ks (k + 1) x = roundF (slices_Repeat_LI_int_G N) tab [] (loopAt slices_Repeat_LI_int_code 0) slices_Repeat_LI_int_l0_sh slices_Repeat_LI_int_l0_ex (fun y => slices_Repeat_LI_int_l0_again N ks k y) ks x := by kernel_rfl
theorem slices_Repeat_LI_int_l0_ok (N : Nat) : LoopOk Tryz.prog Tryz.f106.ntmps (slices_Repeat_LI_int_l0_s N) (loopAt slices_Repeat_LI_int_code 0) :=
  loop_ok (l := slices_Repeat_LI_int_l0_s N) progOk (slices_Repeat_LI_int_gok N) (draw_ok progOk (slices_Repeat_LI_int_gok N)) (fun R k x ks => slices_Repeat_LI_int_l0_again N ks k x) (fun _ _ _ => rfl) (fun R k x ks => slices_Repeat_LI_int_l0_step N R k x ks) (fun R x ks r h => ⟨N, h⟩) (lsOk_at (L := []) trivial) (by kernel_rfl) (by kernel_rfl)
noncomputable def slices_Repeat_LI_int (N : Nat) (x : (List Int)) (count : Int) : Option (((List Int) × Unit) × (Unit)) :=
  (br (ilt count 0)
    (none)
    (((math_bits_Mul N (IntKind.u64.wrap ((tLen x))) (IntKind.u64.wrap (count))).bind fun r =>
      (br (ilt 0 r.1.1)
        (none)
        ((br (ilt 9223372036854775807 r.1.2.1)
          (none)
          ((chk (ile 0 (IntKind.i64.wrap (r.1.2.1)) && ile (IntKind.i64.wrap (r.1.2.1)) (IntKind.i64.wrap (r.1.2.1)) && fits (IntKind.i64.wrap (r.1.2.1)))
            (slices_Repeat_LI_int_l0 N (fun o => some ((o, ()), ())) N (tMin (tLen (tRep (IntKind.i64.wrap (r.1.2.1)) (0 : Int))) (tLen x)) (tPut (tRep (IntKind.i64.wrap (r.1.2.1)) (0 : Int)) 0 (tCut x 0 (tMin (tLen (tRep (IntKind.i64.wrap (r.1.2.1)) (0 : Int))) (tLen x)))))))))))))
noncomputable def slices_Repeat_LI_int_S (N : Nat) : FSum := ⟨slices_Repeat_LI_int_ps, slices_Repeat_LI_int_rs, fun x => slices_Repeat_LI_int N x.1 x.2.1⟩
theorem slices_Repeat_LI_int_run (N : Nat) (x : argsT slices_Repeat_LI_int_ps) : slices_Repeat_LI_int N x.1 x.2.1 = funF (slices_Repeat_LI_int_G N) tab [slices_Repeat_LI_int_l0_s N] Tryz.f106 slices_Repeat_LI_int_ps slices_Repeat_LI_int_rs x := by kernel_rfl
theorem slices_Repeat_LI_int_pc (N : Nat) : PC Tryz.prog 106 (slices_Repeat_LI_int_S N) := by
  have e : slices_Repeat_LI_int_S N = ⟨slices_Repeat_LI_int_ps, slices_Repeat_LI_int_rs, funF (slices_Repeat_LI_int_G N) tab [slices_Repeat_LI_int_l0_s N] Tryz.f106 slices_Repeat_LI_int_ps slices_Repeat_LI_int_rs⟩ := congrArg (FSum.mk slices_Repeat_LI_int_ps slices_Repeat_LI_int_rs) (funext (slices_Repeat_LI_int_run N))
  rw [e]
  exact fun_ok (c := slices_Repeat_LI_int_code) progOk (slices_Repeat_LI_int_gok N) (draw_ok progOk (slices_Repeat_LI_int_gok N)) Tryz.call106 Tryz.func106 (by kernel_rfl) (lsOk_at (L := [slices_Repeat_LI_int_l0_s N]) ⟨slices_Repeat_LI_int_l0_ok N, trivial⟩) (by kernel_rfl) (by kernel_rfl) (by kernel_rfl) (by kernel_rfl) (by kernel_rfl)

/-! ### impl_spread -/
abbrev impl_spread_ps : List (PV.Mode × Ty) := [(.ro, LLI), (.ro, I)]
abbrev impl_spread_rs : List (Bool × Ty) := [(true, LI)]
noncomputable def impl_spread_G (N : Nat) : GTab := gOf [(106, slices_Repeat_LI_int_S N)]
theorem impl_spread_gok (N : Nat) : GOk Tryz.prog (impl_spread_G N) := gOf_ok ⟨slices_Repeat_LI_int_pc N, trivial⟩
noncomputable def impl_spread_code : Code := (Tryz.f65.body).getD .skip
noncomputable def impl_spread_l0_0_sh : Sh := ⟨[(0, .one (.ro LLI)), (5, .one (.ref 0)), (6, .one (.sub 1 1)), (7, .one (.ro I)), (30, .one (.ro LI)), (31, .one (.ro I)), (32, .one (.ro I))], [.sl 3 I .own, .sl 3 I .own]⟩
noncomputable def impl_spread_l0_0_ex : List (Ex × Sh) := [(.exit 2, ⟨[(0, .one (.ro LLI)), (5, .one (.ref 0)), (6, .one (.sub 1 1))], [.sl 3 I .own, .sl 3 I .own]⟩)]
noncomputable def impl_spread_l0_0 {R : Type} (N : Nat) (k0 : (List (List Int)) → Int → Int → (List Int) → (List Int) → Option R) : Nat → (List (List Int)) → Int → Int → Int → (List Int) → Int → Int → (List Int) → (List Int) → Option R
  | 0, _, _, _, _, _, _, _, _, _ => none
  | K + 1, roads2, queue2, queue3, i, x, x1, x2, o2, o3 =>
    (br (ilt x2 x1)
      ((chk (inb x x2)
        (chk (inb o2 (rdI x x2))
        (br (ilt (rdI o2 (rdI x x2)) 0)
        ((chk (inb o2 i)
          (chk (inb o2 (rdI x x2))
          (chk (room (tCut o3 queue2 queue3) [(rdI x x2)])
          (impl_spread_l0_0 N k0 K roads2 0 (tLen (tApp (tCut o3 queue2 queue3) [(rdI x x2)])) i x x1 (IntKind.i64.wrap (x2 + 1)) (tSet o2 (rdI x x2) (IntKind.i64.wrap ((rdI o2 i) + 1))) (tApp (tCut o3 queue2 queue3) [(rdI x x2)]))))))
        (impl_spread_l0_0 N k0 K roads2 queue2 queue3 i x x1 (IntKind.i64.wrap (x2 + 1)) o2 o3)))))
      (k0 roads2 queue2 queue3 o2 o3))
noncomputable def impl_spread_l0_0_again {R : Type} (N : Nat) (ks : (j : Nat) → ((impl_spread_l0_0_ex.getD j (.ret, Sh.none)).2).T → Option R) (k : Nat) (x : impl_spread_l0_0_sh.T) : Option R :=
  impl_spread_l0_0 N (fun y0 y1 y2 y3 y4 => ks 0 ((y0, (), (y1, y2), ()), (y3, y4, ()))) k x.1.1 x.1.2.2.1.1 x.1.2.2.1.2 x.1.2.2.2.1 x.1.2.2.2.2.1 x.1.2.2.2.2.2.1 x.1.2.2.2.2.2.2.1 x.2.1 x.2.2.1
noncomputable def impl_spread_l0_0_s (N : Nat) : LSum := ⟨impl_spread_l0_0_sh, impl_spread_l0_0_ex, fun x ks => impl_spread_l0_0_again N ks N x⟩
theorem impl_spread_l0_0_step (N : Nat) (R : Type) (k : Nat) (x : impl_spread_l0_0_sh.T) (ks : (j : Nat) → ((impl_spread_l0_0_ex.getD j (.ret, Sh.none)).2).T → Option R) : impl_spread_l0_0_again N ks (k + 1) x = roundF (impl_spread_G N) tab [] (loopAt (loopAt impl_spread_code 0) 0) impl_spread_l0_0_sh impl_spread_l0_0_ex (fun y => impl_spread_l0_0_again N ks k y) ks x := by kernel_rfl
theorem impl_spread_l0_0_ok (N : Nat) : LoopOk Tryz.prog Tryz.f65.ntmps (impl_spread_l0_0_s N) (loopAt (loopAt impl_spread_code 0) 0) :=
  loop_ok (l := impl_spread_l0_0_s N) progOk (impl_spread_gok N) (draw_ok progOk (impl_spread_gok N)) (fun R k x ks => impl_spread_l0_0_again N ks k x) (fun _ _ _ => rfl) (fun R k x ks => impl_spread_l0_0_step N R k x ks) (fun R x ks r h => ⟨N, h⟩) (lsOk_at (L := []) trivial) (by kernel_rfl) (by kernel_rfl)
noncomputable def impl_spread_l0_sh : Sh := ⟨[(0, .one (.ro LLI)), (5, .one (.ref 0)), (6, .one (.sub 1 1))], [.sl 3 I .own, .sl 3 I .own]⟩
noncomputable def impl_spread_l0_ex : List (Ex × Sh) := [(.exit 0, ⟨[(5, .one (.ref 0))], [.sl 3 I .own]⟩)]
noncomputable def impl_spread_l0 {R : Type} (N : Nat) (k0 : (List Int) → Option R) : Nat → (List (List Int)) → Int → Int → (List Int) → (List Int) → Option R
  | 0, _, _, _, _, _ => none
  | K + 1, roads1, queue, queue1, o, o1 =>
    (br (ilt 0 (queue1 - queue))
      ((chk (ile 0 0 && ilt 0 (queue1 - queue))
        (chk (ile 0 1 && ile 1 (queue1 - queue) && ile (queue1 - queue) (queue1 - queue))
        (chk (inb roads1 (rdI o1 (queue + 0)))
        (impl_spread_l0_0 N (fun roads2 queue2 queue3 o2 o3 => impl_spread_l0 N k0 K roads2 queue2 queue3 o2 o3) N roads1 (queue + 1) (queue + (queue1 - queue)) (rdI o1 (queue + 0)) (rdL roads1 (rdI o1 (queue + 0))) (tLen (rdL roads1 (rdI o1 (queue + 0)))) 0 o o1)))))
      (k0 o))
noncomputable def impl_spread_l0_again {R : Type} (N : Nat) (ks : (j : Nat) → ((impl_spread_l0_ex.getD j (.ret, Sh.none)).2).T → Option R) (k : Nat) (x : impl_spread_l0_sh.T) : Option R :=
  impl_spread_l0 N (fun y0 => ks 0 (((), ()), (y0, ()))) k x.1.1 x.1.2.2.1.1 x.1.2.2.1.2 x.2.1 x.2.2.1
noncomputable def impl_spread_l0_s (N : Nat) : LSum := ⟨impl_spread_l0_sh, impl_spread_l0_ex, fun x ks => impl_spread_l0_again N ks N x⟩
theorem impl_spread_l0_step (N : Nat) (R : Type) (k : Nat) (x : impl_spread_l0_sh.T) (ks : (j : Nat) → ((impl_spread_l0_ex.getD j (.ret, Sh.none)).2).T → Option R) : impl_spread_l0_again N ks (k + 1) x = roundF (impl_spread_G N) tab [impl_spread_l0_0_s N] (loopAt impl_spread_code 0) impl_spread_l0_sh impl_spread_l0_ex (fun y => impl_spread_l0_again N ks k y) ks x := by kernel_rfl
theorem impl_spread_l0_ok (N : Nat) : LoopOk Tryz.prog Tryz.f65.ntmps (impl_spread_l0_s N) (loopAt impl_spread_code 0) :=
  loop_ok (l := impl_spread_l0_s N) progOk (impl_spread_gok N) (draw_ok progOk (impl_spread_gok N)) (fun R k x ks => impl_spread_l0_again N ks k x) (fun _ _ _ => rfl) (fun R k x ks => impl_spread_l0_step N R k x ks) (fun R x ks r h => ⟨N, h⟩) (lsOk_at (L := [impl_spread_l0_0_s N]) ⟨impl_spread_l0_0_ok N, trivial⟩) (by kernel_rfl) (by kernel_rfl)
noncomputable def impl_spread (N : Nat) (roads : (List (List Int))) (fromv : Int) : Option (((List Int) × Unit) × (Unit)) :=
  ((slices_Repeat_LI_int N [(-1)] (tLen roads)).bind fun r =>
    (chk (inb r.1.1 fromv)
      (impl_spread_l0 N (fun o => some ((o, ()), ())) N roads 0 (tLen [fromv]) (tSet r.1.1 fromv 0) [fromv])))
noncomputable def impl_spread_S (N : Nat) : FSum := ⟨impl_spread_ps, impl_spread_rs, fun x => impl_spread N x.1 x.2.1⟩
theorem impl_spread_run (N : Nat) (x : argsT impl_spread_ps) : impl_spread N x.1 x.2.1 = funF (impl_spread_G N) tab [impl_spread_l0_s N] Tryz.f65 impl_spread_ps impl_spread_rs x := by kernel_rfl
theorem impl_spread_pc (N : Nat) : PC Tryz.prog 65 (impl_spread_S N) := by
  have e : impl_spread_S N = ⟨impl_spread_ps, impl_spread_rs, funF (impl_spread_G N) tab [impl_spread_l0_s N] Tryz.f65 impl_spread_ps impl_spread_rs⟩ := congrArg (FSum.mk impl_spread_ps impl_spread_rs) (funext (impl_spread_run N))
  rw [e]
  exact fun_ok (c := impl_spread_code) progOk (impl_spread_gok N) (draw_ok progOk (impl_spread_gok N)) Tryz.call65 Tryz.func65 (by kernel_rfl) (lsOk_at (L := [impl_spread_l0_s N]) ⟨impl_spread_l0_ok N, trivial⟩) (by kernel_rfl) (by kernel_rfl) (by kernel_rfl) (by kernel_rfl) (by kernel_rfl)

/-! ### impl_Space_firstWay -/
abbrev impl_Space_firstWay_ps : List (PV.Mode × Ty) := [(.ro, QLLILQII), (.ro, I), (.ro, I)]
abbrev impl_Space_firstWay_rs : List (Bool × Ty) := [(true, LI), (true, .bool)]
noncomputable def impl_Space_firstWay_G (N : Nat) : GTab := gOf [(66, impl_Space_roads_S N), (65, impl_spread_S N)]
theorem impl_Space_firstWay_gok (N : Nat) : GOk Tryz.prog (impl_Space_firstWay_G N) := gOf_ok ⟨impl_Space_roads_pc N, impl_spread_pc N, trivial⟩
noncomputable def impl_Space_firstWay_code : Code := (Tryz.f96.body).getD .skip
noncomputable def impl_Space_firstWay_l0_0_sh : Sh := ⟨[(1, .one (.ro I)), (2, .one (.ro I)), (8, .one (.ref 0)), (9, .one (.ref 1)), (10, .one (.ref 2)), (31, .one (.el 0)), (32, .one (.ro I)), (33, .one (.ro I))], [.sl 40 LI .deep, .sl 3 I .own, .sl 3 I .own]⟩
noncomputable def impl_Space_firstWay_l0_0_ex : List (Ex × Sh) := [(.exit 2, ⟨[(1, .one (.ro I)), (2, .one (.ro I)), (8, .one (.ref 0)), (9, .one (.ref 1)), (10, .one (.ref 2))], [.sl 40 LI .deep, .sl 3 I .own, .sl 3 I .own]⟩)]
noncomputable def impl_Space_firstWay_l0_0 {R : Type} (N : Nat) (k0 : Int → Int → (List (List Int)) → (List Int) → (List Int) → Option R) : Nat → Int → Int → Int → Int → Int → (List (List Int)) → (List Int) → (List Int) → Option R
  | 0, _, _, _, _, _, _, _, _ => none
  | K + 1, i2, j2, x1, x2, x3, o3, o4, o5 =>
    (br (ilt x3 x2)
      ((chk (inb (rdL o3 x1) x3)
        (chk (inb o4 (rdI (rdL o3 x1) x3))
        (chk (inb o4 i2)
        (br (ieq (rdI o4 (rdI (rdL o3 x1) x3)) (IntKind.i64.wrap ((rdI o4 i2) - 1)))
        (k0 (rdI (rdL o3 x1) x3) j2 o3 o4 o5)
        (impl_Space_firstWay_l0_0 N k0 K i2 j2 x1 x2 (IntKind.i64.wrap (x3 + 1)) o3 o4 o5))))))
      (k0 i2 j2 o3 o4 o5))
noncomputable def impl_Space_firstWay_l0_0_again {R : Type} (N : Nat) (ks : (j : Nat) → ((impl_Space_firstWay_l0_0_ex.getD j (.ret, Sh.none)).2).T → Option R) (k : Nat) (x : impl_Space_firstWay_l0_0_sh.T) : Option R :=
  impl_Space_firstWay_l0_0 N (fun y0 y1 y2 y3 y4 => ks 0 ((y0, y1, (), (), (), ()), (y2, y3, y4, ()))) k x.1.1 x.1.2.1 x.1.2.2.2.2.2.1 x.1.2.2.2.2.2.2.1 x.1.2.2.2.2.2.2.2.1 x.2.1 x.2.2.1 x.2.2.2.1
noncomputable def impl_Space_firstWay_l0_0_s (N : Nat) : LSum := ⟨impl_Space_firstWay_l0_0_sh, impl_Space_firstWay_l0_0_ex, fun x ks => impl_Space_firstWay_l0_0_again N ks N x⟩
theorem impl_Space_firstWay_l0_0_step (N : Nat) (R : Type) (k : Nat) (x : impl_Space_firstWay_l0_0_sh.T) (ks : (j : Nat) → ((impl_Space_firstWay_l0_0_ex.getD j (.ret, Sh.none)).2).T → Option R) : impl_Space_firstWay_l0_0_again N ks (k + 1) x = roundF (impl_Space_firstWay_G N) tab [] (loopAt (loopAt impl_Space_firstWay_code 0) 0) impl_Space_firstWay_l0_0_sh impl_Space_firstWay_l0_0_ex (fun y => impl_Space_firstWay_l0_0_again N ks k y) ks x := by kernel_rfl
theorem impl_Space_firstWay_l0_0_ok (N : Nat) : LoopOk Tryz.prog Tryz.f96.ntmps (impl_Space_firstWay_l0_0_s N) (loopAt (loopAt impl_Space_firstWay_code 0) 0) :=
  loop_ok (l := impl_Space_firstWay_l0_0_s N) progOk (impl_Space_firstWay_gok N) (draw_ok progOk (impl_Space_firstWay_gok N)) (fun R k x ks => impl_Space_firstWay_l0_0_again N ks k x) (fun _ _ _ => rfl) (fun R k x ks => impl_Space_firstWay_l0_0_step N R k x ks) (fun R x ks r h => ⟨N, h⟩) (lsOk_at (L := []) trivial) (by kernel_rfl) (by kernel_rfl)
noncomputable def impl_Space_firstWay_l0_sh : Sh := ⟨[(1, .one (.ro I)), (2, .one (.ro I)), (8, .one (.ref 0)), (9, .one (.ref 1)), (10, .one (.ref 2))], [.sl 40 LI .deep, .sl 3 I .own, .sl 3 I .own]⟩
noncomputable def impl_Space_firstWay_l0_ex : List (Ex × Sh) := [(.exit 0, ⟨[(10, .one (.ref 0))], [.sl 3 I .own]⟩)]
noncomputable def impl_Space_firstWay_l0 {R : Type} (N : Nat) (k0 : (List Int) → Option R) : Nat → Int → Int → (List (List Int)) → (List Int) → (List Int) → Option R
  | 0, _, _, _, _, _ => none
  | K + 1, i1, j1, o, o1, o2 =>
    (br (ine i1 j1)
      ((chk (inb o i1)
        (impl_Space_firstWay_l0_0 N (fun i2 j2 o3 o4 o5 => (chk (room o5 [i2])
        (impl_Space_firstWay_l0 N k0 K i2 j2 o3 o4 (tApp o5 [i2])))) N i1 j1 i1 (tLen (rdL o i1)) 0 o o1 o2)))
      (k0 o2))
noncomputable def impl_Space_firstWay_l0_again {R : Type} (N : Nat) (ks : (j : Nat) → ((impl_Space_firstWay_l0_ex.getD j (.ret, Sh.none)).2).T → Option R) (k : Nat) (x : impl_Space_firstWay_l0_sh.T) : Option R :=
  impl_Space_firstWay_l0 N (fun y0 => ks 0 (((), ()), (y0, ()))) k x.1.1 x.1.2.1 x.2.1 x.2.2.1 x.2.2.2.1
noncomputable def impl_Space_firstWay_l0_s (N : Nat) : LSum := ⟨impl_Space_firstWay_l0_sh, impl_Space_firstWay_l0_ex, fun x ks => impl_Space_firstWay_l0_again N ks N x⟩
theorem impl_Space_firstWay_l0_step (N : Nat) (R : Type) (k : Nat) (x : impl_Space_firstWay_l0_sh.T) (ks : (j : Nat) → ((impl_Space_firstWay_l0_ex.getD j (.ret, Sh.none)).2).T → Option R) : impl_Space_firstWay_l0_again N ks (k + 1) x = roundF (impl_Space_firstWay_G N) tab [impl_Space_firstWay_l0_0_s N] (loopAt impl_Space_firstWay_code 0) impl_Space_firstWay_l0_sh impl_Space_firstWay_l0_ex (fun y => impl_Space_firstWay_l0_again N ks k y) ks x := by kernel_rfl
theorem impl_Space_firstWay_l0_ok (N : Nat) : LoopOk Tryz.prog Tryz.f96.ntmps (impl_Space_firstWay_l0_s N) (loopAt impl_Space_firstWay_code 0) :=
  loop_ok (l := impl_Space_firstWay_l0_s N) progOk (impl_Space_firstWay_gok N) (draw_ok progOk (impl_Space_firstWay_gok N)) (fun R k x ks => impl_Space_firstWay_l0_again N ks k x) (fun _ _ _ => rfl) (fun R k x ks => impl_Space_firstWay_l0_step N R k x ks) (fun R x ks r h => ⟨N, h⟩) (lsOk_at (L := [impl_Space_firstWay_l0_0_s N]) ⟨impl_Space_firstWay_l0_0_ok N, trivial⟩) (by kernel_rfl) (by kernel_rfl)
noncomputable def impl_Space_firstWay (N : Nat) (x : ((List (List Int)) × (List (Int × Int)))) (i : Int) (j : Int) : Option (((List Int) × Bool × Unit) × (Unit)) :=
  ((impl_Space_roads N (x.1, x.2)).bind fun r =>
    ((impl_spread N r.1.1 j).bind fun r1 =>
      (chk (inb r1.1.1 i)
        (br (ilt (rdI r1.1.1 i) 0)
        (some (([], false, ()), ()))
        (impl_Space_firstWay_l0 N (fun o => some ((o, true, ()), ())) N i j r.1.1 r1.1.1 [i])))))
noncomputable def impl_Space_firstWay_S (N : Nat) : FSum := ⟨impl_Space_firstWay_ps, impl_Space_firstWay_rs, fun x => impl_Space_firstWay N x.1 x.2.1 x.2.2.1⟩
theorem impl_Space_firstWay_run (N : Nat) (x : argsT impl_Space_firstWay_ps) : impl_Space_firstWay N x.1 x.2.1 x.2.2.1 = funF (impl_Space_firstWay_G N) tab [impl_Space_firstWay_l0_s N] Tryz.f96 impl_Space_firstWay_ps impl_Space_firstWay_rs x := by kernel_rfl
theorem impl_Space_firstWay_pc (N : Nat) : PC Tryz.prog 96 (impl_Space_firstWay_S N) := by
  have e : impl_Space_firstWay_S N = ⟨impl_Space_firstWay_ps, impl_Space_firstWay_rs, funF (impl_Space_firstWay_G N) tab [impl_Space_firstWay_l0_s N] Tryz.f96 impl_Space_firstWay_ps impl_Space_firstWay_rs⟩ := congrArg (FSum.mk impl_Space_firstWay_ps impl_Space_firstWay_rs) (funext (impl_Space_firstWay_run N))
  rw [e]
  exact fun_ok (c := impl_Space_firstWay_code) progOk (impl_Space_firstWay_gok N) (draw_ok progOk (impl_Space_firstWay_gok N)) Tryz.call96 Tryz.func96 (by kernel_rfl) (lsOk_at (L := [impl_Space_firstWay_l0_s N]) ⟨impl_Space_firstWay_l0_ok N, trivial⟩) (by kernel_rfl) (by kernel_rfl) (by kernel_rfl) (by kernel_rfl) (by kernel_rfl)

/-! ### slices_Clone_LI_int -/
abbrev slices_Clone_LI_int_ps : List (PV.Mode × Ty) := [(.ro, LI)]
abbrev slices_Clone_LI_int_rs : List (Bool × Ty) := [(true, LI)]
noncomputable def slices_Clone_LI_int_G (N : Nat) : GTab := gOf []
theorem slices_Clone_LI_int_gok (N : Nat) : GOk Tryz.prog (slices_Clone_LI_int_G N) := gOf_ok trivial
noncomputable def slices_Clone_LI_int_code : Code := (Tryz.f84.body).getD .skip
noncomputable def slices_Clone_LI_int (N : Nat) (s : (List Int)) : Option (((List Int) × Unit) × (Unit)) :=
  (br (ieq (tLen s) 0)
    ((amb
      (some (([], ()), ()))
      ((chk (room (α := Int) (β := Int) [] s)
        (some (((tApp [] s), ()), ()))))))
    ((chk (room (α := Int) (β := Int) [] s)
      (some (((tApp [] s), ()), ())))))
noncomputable def slices_Clone_LI_int_S (N : Nat) : FSum := ⟨slices_Clone_LI_int_ps, slices_Clone_LI_int_rs, fun x => slices_Clone_LI_int N x.1⟩
theorem slices_Clone_LI_int_run (N : Nat) (x : argsT slices_Clone_LI_int_ps) : slices_Clone_LI_int N x.1 = funF (slices_Clone_LI_int_G N) tab [] Tryz.f84 slices_Clone_LI_int_ps slices_Clone_LI_int_rs x := by kernel_rfl
theorem slices_Clone_LI_int_pc (N : Nat) : PC Tryz.prog 84 (slices_Clone_LI_int_S N) := by
  have e : slices_Clone_LI_int_S N = ⟨slices_Clone_LI_int_ps, slices_Clone_LI_int_rs, funF (slices_Clone_LI_int_G N) tab [] Tryz.f84 slices_Clone_LI_int_ps slices_Clone_LI_int_rs⟩ := congrArg (FSum.mk slices_Clone_LI_int_ps slices_Clone_LI_int_rs) (funext (slices_Clone_LI_int_run N))
  rw [e]
  exact fun_ok (c := slices_Clone_LI_int_code) progOk (slices_Clone_LI_int_gok N) (draw_ok progOk (slices_Clone_LI_int_gok N)) Tryz.call84 Tryz.func84 (by kernel_rfl) (lsOk_at (L := []) trivial) (by kernel_rfl) (by kernel_rfl) (by kernel_rfl) (by kernel_rfl) (by kernel_rfl)

/-! ### impl_Space_walk -/
abbrev impl_Space_walk_ps : List (PV.Mode × Ty) := [(.ro, QLLILQII), (.ro, LI), (.ro, LI)]
abbrev impl_Space_walk_rs : List (Bool × Ty) := [(true, LLI), (true, .bool)]
noncomputable def impl_Space_walk_G (N : Nat) : GTab := gOf [(64, impl_Space_place_S N), (96, impl_Space_firstWay_S N), (84, slices_Clone_LI_int_S N)]
theorem impl_Space_walk_gok (N : Nat) : GOk Tryz.prog (impl_Space_walk_G N) := gOf_ok ⟨impl_Space_place_pc N, impl_Space_firstWay_pc N, slices_Clone_LI_int_pc N, trivial⟩
noncomputable def impl_Space_walk_code : Code := (Tryz.f58.body).getD .skip
noncomputable def impl_Space_walk_l0_sh : Sh := ⟨[(3, .one (.adr 0 0)), (13, .one (.ro .bool)), (14, .one (.ref 1)), (43, .one (.ref 2)), (44, .one (.ro I)), (45, .one (.ro I))], [.box [.ro LLI, .ro LQII], .sl 40 LI .deep, .sl 3 I .own]⟩
noncomputable def impl_Space_walk_l0_ex : List (Ex × Sh) := [(.exit 0, ⟨[(13, .one (.ro .bool)), (14, .one (.ref 0))], [.sl 40 LI .deep]⟩)]
noncomputable def impl_Space_walk_l0 {R : Type} (N : Nat) (k0 : Bool → (List (List Int)) → Option R) : Nat → Bool → Int → Int → (List (List Int)) → (List (Int × Int)) → (List (List Int)) → (List Int) → Option R
  | 0, _, _, _, _, _, _, _ => none
  | K + 1, ok, x1, x2, o, o1, o2, o3 =>
    (br (ilt x2 x1)
      ((chk (inb o3 x2)
        (chk (inb o (rdI o3 x2))
        ((slices_Clone_LI_int N (rdL o (rdI o3 x2))).bind fun r3 =>
        (chk (room o2 [r3.1.1])
          (impl_Space_walk_l0 N k0 K ok x1 (IntKind.i64.wrap (x2 + 1)) o o1 (tApp o2 [r3.1.1]) o3))))))
      (k0 ok o2))
noncomputable def impl_Space_walk_l0_again {R : Type} (N : Nat) (ks : (j : Nat) → ((impl_Space_walk_l0_ex.getD j (.ret, Sh.none)).2).T → Option R) (k : Nat) (x : impl_Space_walk_l0_sh.T) : Option R :=
  impl_Space_walk_l0 N (fun y0 y1 => ks 0 ((y0, (), ()), (y1, ()))) k x.1.2.1 x.1.2.2.2.2.1 x.1.2.2.2.2.2.1 x.2.1.1 x.2.1.2.1 x.2.2.1 x.2.2.2.1
noncomputable def impl_Space_walk_l0_s (N : Nat) : LSum := ⟨impl_Space_walk_l0_sh, impl_Space_walk_l0_ex, fun x ks => impl_Space_walk_l0_again N ks N x⟩
theorem impl_Space_walk_l0_step (N : Nat) (R : Type) (k : Nat) (x : impl_Space_walk_l0_sh.T) (ks : (j : Nat) → ((impl_Space_walk_l0_ex.getD j (.ret, Sh.none)).2).T → Option R) : impl_Space_walk_l0_again N ks (k + 1) x = roundF (impl_Space_walk_G N) tab [] (loopAt impl_Space_walk_code 0) impl_Space_walk_l0_sh impl_Space_walk_l0_ex (fun y => impl_Space_walk_l0_again N ks k y) ks x := by kernel_rfl
theorem impl_Space_walk_l0_ok (N : Nat) : LoopOk Tryz.prog Tryz.f58.ntmps (impl_Space_walk_l0_s N) (loopAt impl_Space_walk_code 0) :=
  loop_ok (l := impl_Space_walk_l0_s N) progOk (impl_Space_walk_gok N) (draw_ok progOk (impl_Space_walk_gok N)) (fun R k x ks => impl_Space_walk_l0_again N ks k x) (fun _ _ _ => rfl) (fun R k x ks => impl_Space_walk_l0_step N R k x ks) (fun R x ks r h => ⟨N, h⟩) (lsOk_at (L := []) trivial) (by kernel_rfl) (by kernel_rfl)
noncomputable def impl_Space_walk (N : Nat) (x : ((List (List Int)) × (List (Int × Int)))) (a : (List Int)) (b : (List Int)) : Option (((List (List Int)) × Bool × Unit) × (Unit)) :=
  ((impl_Space_place N (x.1, x.2) a).bind fun r =>
    ((impl_Space_place N (x.1, x.2) b).bind fun r1 =>
      (br (!r.1.2.1)
        (some (([], false, ()), ()))
        ((br (!r1.1.2.1)
          (some (([], false, ()), ()))
          (((impl_Space_firstWay N (x.1, x.2) r.1.1 r1.1.1).bind fun r2 =>
            impl_Space_walk_l0 N (fun ok o => some ((o, ok, ()), ())) N r2.1.2.1 (tLen r2.1.1) 0 x.1 x.2 [] r2.1.1)))))))
noncomputable def impl_Space_walk_S (N : Nat) : FSum := ⟨impl_Space_walk_ps, impl_Space_walk_rs, fun x => impl_Space_walk N x.1 x.2.1 x.2.2.1⟩
theorem impl_Space_walk_run (N : Nat) (x : argsT impl_Space_walk_ps) : impl_Space_walk N x.1 x.2.1 x.2.2.1 = funF (impl_Space_walk_G N) tab [impl_Space_walk_l0_s N] Tryz.f58 impl_Space_walk_ps impl_Space_walk_rs x := by kernel_rfl
theorem impl_Space_walk_pc (N : Nat) : PC Tryz.prog 58 (impl_Space_walk_S N) := by
  have e : impl_Space_walk_S N = ⟨impl_Space_walk_ps, impl_Space_walk_rs, funF (impl_Space_walk_G N) tab [impl_Space_walk_l0_s N] Tryz.f58 impl_Space_walk_ps impl_Space_walk_rs⟩ := congrArg (FSum.mk impl_Space_walk_ps impl_Space_walk_rs) (funext (impl_Space_walk_run N))
  rw [e]
  exact fun_ok (c := impl_Space_walk_code) progOk (impl_Space_walk_gok N) (draw_ok progOk (impl_Space_walk_gok N)) Tryz.call58 Tryz.func58 (by kernel_rfl) (lsOk_at (L := [impl_Space_walk_l0_s N]) ⟨impl_Space_walk_l0_ok N, trivial⟩) (by kernel_rfl) (by kernel_rfl) (by kernel_rfl) (by kernel_rfl) (by kernel_rfl)

/-! ### impl_ExchangeWay -/
abbrev impl_ExchangeWay_ps : List (PV.Mode × Ty) := [(.ro, QILQII), (.ro, I), (.ro, LI), (.ro, LI)]
abbrev impl_ExchangeWay_rs : List (Bool × Ty) := [(true, LLI), (true, .bool)]
noncomputable def impl_ExchangeWay_G (N : Nat) : GTab := gOf [(75, impl_isOfKind_S N), (76, impl_ExchangeSpace_S N), (58, impl_Space_walk_S N)]
theorem impl_ExchangeWay_gok (N : Nat) : GOk Tryz.prog (impl_ExchangeWay_G N) := gOf_ok ⟨impl_isOfKind_pc N, impl_ExchangeSpace_pc N, impl_Space_walk_pc N, trivial⟩
noncomputable def impl_ExchangeWay_code : Code := (Tryz.f38.body).getD .skip
noncomputable def impl_ExchangeWay (N : Nat) (g : (Int × (List (Int × Int)))) (kind : Int) (a : (List Int)) (b : (List Int)) : Option (((List (List Int)) × Bool × Unit) × (Unit)) :=
  ((impl_isOfKind N (g.1, g.2) kind a).bind fun r =>
    (br (!r.1.1)
      (some (([], false, ()), ()))
      (((impl_isOfKind N (g.1, g.2) kind b).bind fun r1 =>
        (br (!r1.1.1)
          (some (([], false, ()), ()))
          ((br (ine (tLen a) (tLen b))
            (some (([], false, ()), ()))
            (((impl_ExchangeSpace N (g.1, g.2) kind (tLen a)).bind fun r2 =>
              ((impl_Space_walk N (r2.1.1.1, r2.1.1.2) a b).bind fun r3 =>
                some ((r3.1.1, r3.1.2.1, ()), ())))))))))))
noncomputable def impl_ExchangeWay_S (N : Nat) : FSum := ⟨impl_ExchangeWay_ps, impl_ExchangeWay_rs, fun x => impl_ExchangeWay N x.1 x.2.1 x.2.2.1 x.2.2.2.1⟩
theorem impl_ExchangeWay_run (N : Nat) (x : argsT impl_ExchangeWay_ps) : impl_ExchangeWay N x.1 x.2.1 x.2.2.1 x.2.2.2.1 = funF (impl_ExchangeWay_G N) tab [] Tryz.f38 impl_ExchangeWay_ps impl_ExchangeWay_rs x := by kernel_rfl
theorem impl_ExchangeWay_pc (N : Nat) : PC Tryz.prog 38 (impl_ExchangeWay_S N) := by
  have e : impl_ExchangeWay_S N = ⟨impl_ExchangeWay_ps, impl_ExchangeWay_rs, funF (impl_ExchangeWay_G N) tab [] Tryz.f38 impl_ExchangeWay_ps impl_ExchangeWay_rs⟩ := congrArg (FSum.mk impl_ExchangeWay_ps impl_ExchangeWay_rs) (funext (impl_ExchangeWay_run N))
  rw [e]
  exact fun_ok (c := impl_ExchangeWay_code) progOk (impl_ExchangeWay_gok N) (draw_ok progOk (impl_ExchangeWay_gok N)) Tryz.call38 Tryz.func38 (by kernel_rfl) (lsOk_at (L := []) trivial) (by kernel_rfl) (by kernel_rfl) (by kernel_rfl) (by kernel_rfl) (by kernel_rfl)

/-! ### laws_eqIntS -/
abbrev laws_eqIntS_ps : List (PV.Mode × Ty) := [(.ro, LI), (.ro, LI)]
abbrev laws_eqIntS_rs : List (Bool × Ty) := [(true, .bool)]
noncomputable def laws_eqIntS_G (N : Nat) : GTab := gOf []
theorem laws_eqIntS_gok (N : Nat) : GOk Tryz.prog (laws_eqIntS_G N) := gOf_ok trivial
noncomputable def laws_eqIntS_code : Code := (Tryz.f23.body).getD .skip
noncomputable def laws_eqIntS_l0_sh : Sh := ⟨[(0, .one (.ro LI)), (1, .one (.ro LI)), (5, .one (.ro I))], []⟩
noncomputable def laws_eqIntS_l0_ex : List (Ex × Sh) := [(.ret, ⟨[(4, .one (.ro .bool))], []⟩), (.exit 0, ⟨[], []⟩)]
noncomputable def laws_eqIntS_l0 {R : Type} (N : Nat) (k0 : Bool → Option R) (k1 : Unit → Option R) : Nat → (List Int) → (List Int) → Int → Option R
  | 0, _, _, _ => none
  | K + 1, a1, b1, i =>
    (br (ilt i (tLen a1))
      ((chk (inb a1 i)
        (chk (inb b1 i)
        (br (ine (rdI a1 i) (rdI b1 i))
        (k0 false)
        (laws_eqIntS_l0 N k0 k1 K a1 b1 (IntKind.i64.wrap (i + 1)))))))
      (k1 ()))
noncomputable def laws_eqIntS_l0_again {R : Type} (N : Nat) (ks : (j : Nat) → ((laws_eqIntS_l0_ex.getD j (.ret, Sh.none)).2).T → Option R) (k : Nat) (x : laws_eqIntS_l0_sh.T) : Option R :=
  laws_eqIntS_l0 N (fun y0 => ks 0 ((y0, ()), ())) (fun (_ : Unit) => ks 1 ((), ())) k x.1.1 x.1.2.1 x.1.2.2.1
noncomputable def laws_eqIntS_l0_s (N : Nat) : LSum := ⟨laws_eqIntS_l0_sh, laws_eqIntS_l0_ex, fun x ks => laws_eqIntS_l0_again N ks N x⟩
theorem laws_eqIntS_l0_step (N : Nat) (R : Type) (k : Nat) (x : laws_eqIntS_l0_sh.T) (ks : (j : Nat) → ((laws_eqIntS_l0_ex.getD j (.ret, Sh.none)).2).T → Option R) : laws_eqIntS_l0_again N ks (k + 1) x = roundF (laws_eqIntS_G N) tab [] (loopAt laws_eqIntS_code 0) laws_eqIntS_l0_sh laws_eqIntS_l0_ex (fun y => laws_eqIntS_l0_again N ks k y) ks x := by kernel_rfl
theorem laws_eqIntS_l0_ok (N : Nat) : LoopOk Tryz.prog Tryz.f23.ntmps (laws_eqIntS_l0_s N) (loopAt laws_eqIntS_code 0) :=
  loop_ok (l := laws_eqIntS_l0_s N) progOk (laws_eqIntS_gok N) (draw_ok progOk (laws_eqIntS_gok N)) (fun R k x ks => laws_eqIntS_l0_again N ks k x) (fun _ _ _ => rfl) (fun R k x ks => laws_eqIntS_l0_step N R k x ks) (fun R x ks r h => ⟨N, h⟩) (lsOk_at (L := []) trivial) (by kernel_rfl) (by kernel_rfl)
noncomputable def laws_eqIntS (N : Nat) (a : (List Int)) (b : (List Int)) : Option ((Bool × Unit) × (Unit)) :=
  (br (ine (tLen a) (tLen b))
    (some ((false, ()), ()))
    (laws_eqIntS_l0 N (fun x => some ((x, ()), ())) (fun (_ : Unit) => some ((true, ()), ())) N a b 0))
noncomputable def laws_eqIntS_S (N : Nat) : FSum := ⟨laws_eqIntS_ps, laws_eqIntS_rs, fun x => laws_eqIntS N x.1 x.2.1⟩
theorem laws_eqIntS_run (N : Nat) (x : argsT laws_eqIntS_ps) : laws_eqIntS N x.1 x.2.1 = funF (laws_eqIntS_G N) tab [laws_eqIntS_l0_s N] Tryz.f23 laws_eqIntS_ps laws_eqIntS_rs x := by kernel_rfl
theorem laws_eqIntS_pc (N : Nat) : PC Tryz.prog 23 (laws_eqIntS_S N) := by
  have e : laws_eqIntS_S N = ⟨laws_eqIntS_ps, laws_eqIntS_rs, funF (laws_eqIntS_G N) tab [laws_eqIntS_l0_s N] Tryz.f23 laws_eqIntS_ps laws_eqIntS_rs⟩ := congrArg (FSum.mk laws_eqIntS_ps laws_eqIntS_rs) (funext (laws_eqIntS_run N))
  rw [e]
  exact fun_ok (c := laws_eqIntS_code) progOk (laws_eqIntS_gok N) (draw_ok progOk (laws_eqIntS_gok N)) Tryz.call23 Tryz.func23 (by kernel_rfl) (lsOk_at (L := [laws_eqIntS_l0_s N]) ⟨laws_eqIntS_l0_ok N, trivial⟩) (by kernel_rfl) (by kernel_rfl) (by kernel_rfl) (by kernel_rfl) (by kernel_rfl)

/-! ### laws_eqIntSS -/
abbrev laws_eqIntSS_ps : List (PV.Mode × Ty) := [(.ro, LLI), (.ro, LLI)]
abbrev laws_eqIntSS_rs : List (Bool × Ty) := [(true, .bool)]
noncomputable def laws_eqIntSS_G (N : Nat) : GTab := gOf [(23, laws_eqIntS_S N)]
theorem laws_eqIntSS_gok (N : Nat) : GOk Tryz.prog (laws_eqIntSS_G N) := gOf_ok ⟨laws_eqIntS_pc N, trivial⟩
noncomputable def laws_eqIntSS_code : Code := (Tryz.f32.body).getD .skip
noncomputable def laws_eqIntSS_l0_sh : Sh := ⟨[(0, .one (.ro LLI)), (1, .one (.ro LLI)), (5, .one (.ro I))], []⟩
noncomputable def laws_eqIntSS_l0_ex : List (Ex × Sh) := [(.ret, ⟨[(4, .one (.ro .bool))], []⟩), (.exit 0, ⟨[], []⟩)]
noncomputable def laws_eqIntSS_l0 {R : Type} (N : Nat) (k0 : Bool → Option R) (k1 : Unit → Option R) : Nat → (List (List Int)) → (List (List Int)) → Int → Option R
  | 0, _, _, _ => none
  | K + 1, a1, b1, i =>
    (br (ilt i (tLen a1))
      ((chk (inb a1 i)
        (chk (inb b1 i)
        ((laws_eqIntS N (rdL a1 i) (rdL b1 i)).bind fun r =>
        (br (!r.1.1)
          (k0 false)
          (laws_eqIntSS_l0 N k0 k1 K a1 b1 (IntKind.i64.wrap (i + 1))))))))
      (k1 ()))
noncomputable def laws_eqIntSS_l0_again {R : Type} (N : Nat) (ks : (j : Nat) → ((laws_eqIntSS_l0_ex.getD j (.ret, Sh.none)).2).T → Option R) (k : Nat) (x : laws_eqIntSS_l0_sh.T) : Option R :=
  laws_eqIntSS_l0 N (fun y0 => ks 0 ((y0, ()), ())) (fun (_ : Unit) => ks 1 ((), ())) k x.1.1 x.1.2.1 x.1.2.2.1
noncomputable def laws_eqIntSS_l0_s (N : Nat) : LSum := ⟨laws_eqIntSS_l0_sh, laws_eqIntSS_l0_ex, fun x ks => laws_eqIntSS_l0_again N ks N x⟩
theorem laws_eqIntSS_l0_step (N : Nat) (R : Type) (k : Nat) (x : laws_eqIntSS_l0_sh.T) (ks : (j : Nat) → ((laws_eqIntSS_l0_ex.getD j (.ret, Sh.none)).2).T → Option R) : laws_eqIntSS_l0_again N ks (k + 1) x = roundF (laws_eqIntSS_G N) tab [] (loopAt laws_eqIntSS_code 0) laws_eqIntSS_l0_sh laws_eqIntSS_l0_ex (fun y => laws_eqIntSS_l0_again N ks k y) ks x := by kernel_rfl
theorem laws_eqIntSS_l0_ok (N : Nat) : LoopOk Tryz.prog Tryz.f32.ntmps (laws_eqIntSS_l0_s N) (loopAt laws_eqIntSS_code 0) :=
  loop_ok (l := laws_eqIntSS_l0_s N) progOk (laws_eqIntSS_gok N) (draw_ok progOk (laws_eqIntSS_gok N)) (fun R k x ks => laws_eqIntSS_l0_again N ks k x) (fun _ _ _ => rfl) (fun R k x ks => laws_eqIntSS_l0_step N R k x ks) (fun R x ks r h => ⟨N, h⟩) (lsOk_at (L := []) trivial) (by kernel_rfl) (by kernel_rfl)
noncomputable def laws_eqIntSS (N : Nat) (a : (List (List Int))) (b : (List (List Int))) : Option ((Bool × Unit) × (Unit)) :=
  (br (ine (tLen a) (tLen b))
    (some ((false, ()), ()))
    (laws_eqIntSS_l0 N (fun x => some ((x, ()), ())) (fun (_ : Unit) => some ((true, ()), ())) N a b 0))
noncomputable def laws_eqIntSS_S (N : Nat) : FSum := ⟨laws_eqIntSS_ps, laws_eqIntSS_rs, fun x => laws_eqIntSS N x.1 x.2.1⟩
theorem laws_eqIntSS_run (N : Nat) (x : argsT laws_eqIntSS_ps) : laws_eqIntSS N x.1 x.2.1 = funF (laws_eqIntSS_G N) tab [laws_eqIntSS_l0_s N] Tryz.f32 laws_eqIntSS_ps laws_eqIntSS_rs x := by kernel_rfl
theorem laws_eqIntSS_pc (N : Nat) : PC Tryz.prog 32 (laws_eqIntSS_S N) := by
  have e : laws_eqIntSS_S N = ⟨laws_eqIntSS_ps, laws_eqIntSS_rs, funF (laws_eqIntSS_G N) tab [laws_eqIntSS_l0_s N] Tryz.f32 laws_eqIntSS_ps laws_eqIntSS_rs⟩ := congrArg (FSum.mk laws_eqIntSS_ps laws_eqIntSS_rs) (funext (laws_eqIntSS_run N))
  rw [e]
  exact fun_ok (c := laws_eqIntSS_code) progOk (laws_eqIntSS_gok N) (draw_ok progOk (laws_eqIntSS_gok N)) Tryz.call32 Tryz.func32 (by kernel_rfl) (lsOk_at (L := [laws_eqIntSS_l0_s N]) ⟨laws_eqIntSS_l0_ok N, trivial⟩) (by kernel_rfl) (by kernel_rfl) (by kernel_rfl) (by kernel_rfl) (by kernel_rfl)

/-! ### laws_eqIntA2 -/
abbrev laws_eqIntA2_ps : List (PV.Mode × Ty) := [(.ro, QII), (.ro, QII)]
abbrev laws_eqIntA2_rs : List (Bool × Ty) := [(true, .bool)]
noncomputable def laws_eqIntA2_G (N : Nat) : GTab := gOf []
theorem laws_eqIntA2_gok (N : Nat) : GOk Tryz.prog (laws_eqIntA2_G N) := gOf_ok trivial
noncomputable def laws_eqIntA2_code : Code := (Tryz.f86.body).getD .skip
noncomputable def laws_eqIntA2_l0_sh : Sh := ⟨[(2, .one (.adr 0 0)), (3, .one (.adr 1 0)), (5, .one (.num .i64 0))], [.box [.ro I, .ro I], .box [.ro I, .ro I]]⟩
noncomputable def laws_eqIntA2_l0_ex : List (Ex × Sh) := [(.ret, ⟨[(4, .one (.ro .bool))], []⟩), (.exit 0, ⟨[], []⟩)]
noncomputable def laws_eqIntA2_l0 {R : Type} (N : Nat) (k0 : Bool → Option R) (k1 : Unit → Option R) (_ : Nat) (o4 : Int) (o5 : Int) (o6 : Int) (o7 : Int) : Option R :=
  (br (ine o4 o6)
    (k0 false)
    ((br (ine o5 o7)
      (k0 false)
      (k1 ()))))
noncomputable def laws_eqIntA2_l0_again {R : Type} (N : Nat) (ks : (j : Nat) → ((laws_eqIntA2_l0_ex.getD j (.ret, Sh.none)).2).T → Option R) (x : laws_eqIntA2_l0_sh.T) : Option R :=
  laws_eqIntA2_l0 N (fun y0 => ks 0 ((y0, ()), ())) (fun (_ : Unit) => ks 1 ((), ())) N x.2.1.1 x.2.1.2.1 x.2.2.1.1 x.2.2.1.2.1
noncomputable def laws_eqIntA2_l0_s (N : Nat) : LSum := ⟨laws_eqIntA2_l0_sh, laws_eqIntA2_l0_ex, fun x ks => laws_eqIntA2_l0_again N ks x⟩
theorem laws_eqIntA2_l0_unr (N : Nat) (R : Type) (x : laws_eqIntA2_l0_sh.T) (ks : (j : Nat) → ((laws_eqIntA2_l0_ex.getD j (.ret, Sh.none)).2).T → Option R) : laws_eqIntA2_l0_again N ks x = unrF (laws_eqIntA2_G N) tab (loopAt laws_eqIntA2_code 0) laws_eqIntA2_l0_ex ks 3 (fill laws_eqIntA2_l0_sh x) := by kernel_rfl
theorem laws_eqIntA2_l0_ok (N : Nat) : LoopOk Tryz.prog Tryz.f86.ntmps (laws_eqIntA2_l0_s N) (loopAt laws_eqIntA2_code 0) :=
  unroll_ok (l := laws_eqIntA2_l0_s N) progOk (laws_eqIntA2_gok N) (draw_ok progOk (laws_eqIntA2_gok N)) (fun R x ks r h => ⟨3, (laws_eqIntA2_l0_unr N R x ks).symm.trans h⟩) (by kernel_rfl) (by kernel_rfl)
noncomputable def laws_eqIntA2 (N : Nat) (a : (Int × Int)) (b : (Int × Int)) : Option ((Bool × Unit) × (Unit)) :=
  laws_eqIntA2_l0 N (fun x => some ((x, ()), ())) (fun (_ : Unit) => some ((true, ()), ())) N a.1 a.2 b.1 b.2
noncomputable def laws_eqIntA2_S (N : Nat) : FSum := ⟨laws_eqIntA2_ps, laws_eqIntA2_rs, fun x => laws_eqIntA2 N x.1 x.2.1⟩
theorem laws_eqIntA2_run (N : Nat) (x : argsT laws_eqIntA2_ps) : laws_eqIntA2 N x.1 x.2.1 = funF (laws_eqIntA2_G N) tab [laws_eqIntA2_l0_s N] Tryz.f86 laws_eqIntA2_ps laws_eqIntA2_rs x := by kernel_rfl
theorem laws_eqIntA2_pc (N : Nat) : PC Tryz.prog 86 (laws_eqIntA2_S N) := by
  have e : laws_eqIntA2_S N = ⟨laws_eqIntA2_ps, laws_eqIntA2_rs, funF (laws_eqIntA2_G N) tab [laws_eqIntA2_l0_s N] Tryz.f86 laws_eqIntA2_ps laws_eqIntA2_rs⟩ := congrArg (FSum.mk laws_eqIntA2_ps laws_eqIntA2_rs) (funext (laws_eqIntA2_run N))
  rw [e]
  exact fun_ok (c := laws_eqIntA2_code) progOk (laws_eqIntA2_gok N) (draw_ok progOk (laws_eqIntA2_gok N)) Tryz.call86 Tryz.func86 (by kernel_rfl) (lsOk_at (L := [laws_eqIntA2_l0_s N]) ⟨laws_eqIntA2_l0_ok N, trivial⟩) (by kernel_rfl) (by kernel_rfl) (by kernel_rfl) (by kernel_rfl) (by kernel_rfl)

/-! ### laws_eqIntA2S -/
abbrev laws_eqIntA2S_ps : List (PV.Mode × Ty) := [(.ro, LQII), (.ro, LQII)]
abbrev laws_eqIntA2S_rs : List (Bool × Ty) := [(true, .bool)]
noncomputable def laws_eqIntA2S_G (N : Nat) : GTab := gOf [(86, laws_eqIntA2_S N)]
theorem laws_eqIntA2S_gok (N : Nat) : GOk Tryz.prog (laws_eqIntA2S_G N) := gOf_ok ⟨laws_eqIntA2_pc N, trivial⟩
noncomputable def laws_eqIntA2S_code : Code := (Tryz.f49.body).getD .skip
noncomputable def laws_eqIntA2S_l0_sh : Sh := ⟨[(0, .one (.ro LQII)), (1, .one (.ro LQII)), (5, .one (.ro I))], []⟩
noncomputable def laws_eqIntA2S_l0_ex : List (Ex × Sh) := [(.ret, ⟨[(4, .one (.ro .bool))], []⟩), (.exit 0, ⟨[], []⟩)]
noncomputable def laws_eqIntA2S_l0 {R : Type} (N : Nat) (k0 : Bool → Option R) (k1 : Unit → Option R) : Nat → (List (Int × Int)) → (List (Int × Int)) → Int → Option R
  | 0, _, _, _ => none
  | K + 1, a1, b1, i =>
    (br (ilt i (tLen a1))
      ((chk (inb a1 i)
        (chk (inb b1 i)
        ((laws_eqIntA2 N (rdP a1 i) (rdP b1 i)).bind fun r =>
        (br (!r.1.1)
          (k0 false)
          (laws_eqIntA2S_l0 N k0 k1 K a1 b1 (IntKind.i64.wrap (i + 1))))))))
      (k1 ()))
noncomputable def laws_eqIntA2S_l0_again {R : Type} (N : Nat) (ks : (j : Nat) → ((laws_eqIntA2S_l0_ex.getD j (.ret, Sh.none)).2).T → Option R) (k : Nat) (x : laws_eqIntA2S_l0_sh.T) : Option R :=
  laws_eqIntA2S_l0 N (fun y0 => ks 0 ((y0, ()), ())) (fun (_ : Unit) => ks 1 ((), ())) k x.1.1 x.1.2.1 x.1.2.2.1
noncomputable def laws_eqIntA2S_l0_s (N : Nat) : LSum := ⟨laws_eqIntA2S_l0_sh, laws_eqIntA2S_l0_ex, fun x ks => laws_eqIntA2S_l0_again N ks N x⟩
theorem laws_eqIntA2S_l0_step (N : Nat) (R : Type) (k : Nat) (x : laws_eqIntA2S_l0_sh.T) (ks : (j : Nat) → ((laws_eqIntA2S_l0_ex.getD j (.ret, Sh.none)).2).T → Option R) : laws_eqIntA2S_l0_again N ks (k + 1) x = roundF (laws_eqIntA2S_G N) tab [] (loopAt laws_eqIntA2S_code 0) laws_eqIntA2S_l0_sh laws_eqIntA2S_l0_ex (fun y => laws_eqIntA2S_l0_again N ks k y) ks x := by kernel_rfl
theorem laws_eqIntA2S_l0_ok (N : Nat) : LoopOk Tryz.prog Tryz.f49.ntmps (laws_eqIntA2S_l0_s N) (loopAt laws_eqIntA2S_code 0) :=
  loop_ok (l := laws_eqIntA2S_l0_s N) progOk (laws_eqIntA2S_gok N) (draw_ok progOk (laws_eqIntA2S_gok N)) (fun R k x ks => laws_eqIntA2S_l0_again N ks k x) (fun _ _ _ => rfl) (fun R k x ks => laws_eqIntA2S_l0_step N R k x ks) (fun R x ks r h => ⟨N, h⟩) (lsOk_at (L := []) trivial) (by kernel_rfl) (by kernel_rfl)
noncomputable def laws_eqIntA2S (N : Nat) (a : (List (Int × Int))) (b : (List (Int × Int))) : Option ((Bool × Unit) × (Unit)) :=
  (br (ine (tLen a) (tLen b))
    (some ((false, ()), ()))
    (laws_eqIntA2S_l0 N (fun x => some ((x, ()), ())) (fun (_ : Unit) => some ((true, ()), ())) N a b 0))
noncomputable def laws_eqIntA2S_S (N : Nat) : FSum := ⟨laws_eqIntA2S_ps, laws_eqIntA2S_rs, fun x => laws_eqIntA2S N x.1 x.2.1⟩
theorem laws_eqIntA2S_run (N : Nat) (x : argsT laws_eqIntA2S_ps) : laws_eqIntA2S N x.1 x.2.1 = funF (laws_eqIntA2S_G N) tab [laws_eqIntA2S_l0_s N] Tryz.f49 laws_eqIntA2S_ps laws_eqIntA2S_rs x := by kernel_rfl
theorem laws_eqIntA2S_pc (N : Nat) : PC Tryz.prog 49 (laws_eqIntA2S_S N) := by
  have e : laws_eqIntA2S_S N = ⟨laws_eqIntA2S_ps, laws_eqIntA2S_rs, funF (laws_eqIntA2S_G N) tab [laws_eqIntA2S_l0_s N] Tryz.f49 laws_eqIntA2S_ps laws_eqIntA2S_rs⟩ := congrArg (FSum.mk laws_eqIntA2S_ps laws_eqIntA2S_rs) (funext (laws_eqIntA2S_run N))
  rw [e]
  exact fun_ok (c := laws_eqIntA2S_code) progOk (laws_eqIntA2S_gok N) (draw_ok progOk (laws_eqIntA2S_gok N)) Tryz.call49 Tryz.func49 (by kernel_rfl) (lsOk_at (L := [laws_eqIntA2S_l0_s N]) ⟨laws_eqIntA2S_l0_ok N, trivial⟩) (by kernel_rfl) (by kernel_rfl) (by kernel_rfl) (by kernel_rfl) (by kernel_rfl)

/-! ### laws_eqGraph -/
abbrev laws_eqGraph_ps : List (PV.Mode × Ty) := [(.ro, QILQII), (.ro, QILQII)]
abbrev laws_eqGraph_rs : List (Bool × Ty) := [(true, .bool)]
noncomputable def laws_eqGraph_G (N : Nat) : GTab := gOf [(49, laws_eqIntA2S_S N)]
theorem laws_eqGraph_gok (N : Nat) : GOk Tryz.prog (laws_eqGraph_G N) := gOf_ok ⟨laws_eqIntA2S_pc N, trivial⟩
noncomputable def laws_eqGraph_code : Code := (Tryz.f14.body).getD .skip
noncomputable def laws_eqGraph (N : Nat) (a : (Int × (List (Int × Int)))) (b : (Int × (List (Int × Int)))) : Option ((Bool × Unit) × (Unit)) :=
  (br (ine a.1 b.1)
    (some ((false, ()), ()))
    (((laws_eqIntA2S N a.2 b.2).bind fun r =>
      (br (!r.1.1)
        (some ((false, ()), ()))
        (some ((true, ()), ()))))))
noncomputable def laws_eqGraph_S (N : Nat) : FSum := ⟨laws_eqGraph_ps, laws_eqGraph_rs, fun x => laws_eqGraph N x.1 x.2.1⟩
theorem laws_eqGraph_run (N : Nat) (x : argsT laws_eqGraph_ps) : laws_eqGraph N x.1 x.2.1 = funF (laws_eqGraph_G N) tab [] Tryz.f14 laws_eqGraph_ps laws_eqGraph_rs x := by kernel_rfl
theorem laws_eqGraph_pc (N : Nat) : PC Tryz.prog 14 (laws_eqGraph_S N) := by
  have e : laws_eqGraph_S N = ⟨laws_eqGraph_ps, laws_eqGraph_rs, funF (laws_eqGraph_G N) tab [] Tryz.f14 laws_eqGraph_ps laws_eqGraph_rs⟩ := congrArg (FSum.mk laws_eqGraph_ps laws_eqGraph_rs) (funext (laws_eqGraph_run N))
  rw [e]
  exact fun_ok (c := laws_eqGraph_code) progOk (laws_eqGraph_gok N) (draw_ok progOk (laws_eqGraph_gok N)) Tryz.call14 Tryz.func14 (by kernel_rfl) (lsOk_at (L := []) trivial) (by kernel_rfl) (by kernel_rfl) (by kernel_rfl) (by kernel_rfl) (by kernel_rfl)
end Go.Proofs.YtgelipdkheahdaaGreat
