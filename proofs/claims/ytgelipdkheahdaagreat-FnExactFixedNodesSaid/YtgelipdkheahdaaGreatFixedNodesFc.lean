/- Functions of the program as functions on data. -/
import Derived.Test.YtgelipdkheahdaaGreatFixedNodesFb
set_option linter.all false
namespace Go.Proofs.YtgelipdkheahdaaGreat
open Go Go.PV
/-! ### impl_Colourings -/
abbrev impl_Colourings_ps : List (PV.Mode × Ty) := [(.ro, QILQII), (.ro, I)]
abbrev impl_Colourings_rs : List (Bool × Ty) := [(true, LLI), (true, .bool)]
noncomputable def impl_Colourings_G (N : Nat) : GTab := gOf [(80, impl_isColourCase_S N), (81, impl_Graph_colourings_S N)]
theorem impl_Colourings_gok (N : Nat) : GOk Tryz.prog (impl_Colourings_G N) := gOf_ok ⟨impl_isColourCase_pc N, impl_Graph_colourings_pc N, trivial⟩
noncomputable def impl_Colourings_code : Code := (Tryz.f42.body).getD .skip
noncomputable def impl_Colourings (N : Nat) (g : (Int × (List (Int × Int)))) (kv : Int) : Option (((List (List Int)) × Bool × Unit) × (Unit)) :=
  ((impl_isColourCase N (g.1, g.2) kv).bind fun r =>
    (br (!r.1.1)
      (some (([], false, ()), ()))
      (((impl_Graph_colourings N (g.1, g.2) kv).bind fun r1 =>
        some ((r1.1.1, r1.1.2.1, ()), ())))))
noncomputable def impl_Colourings_S (N : Nat) : FSum := ⟨impl_Colourings_ps, impl_Colourings_rs, fun x => impl_Colourings N x.1 x.2.1⟩
theorem impl_Colourings_run (N : Nat) (x : argsT impl_Colourings_ps) : impl_Colourings N x.1 x.2.1 = funF (impl_Colourings_G N) tab [] Tryz.f42 impl_Colourings_ps impl_Colourings_rs x := by kernel_rfl
theorem impl_Colourings_pc (N : Nat) : PC Tryz.prog 42 (impl_Colourings_S N) := by
  have e : impl_Colourings_S N = ⟨impl_Colourings_ps, impl_Colourings_rs, funF (impl_Colourings_G N) tab [] Tryz.f42 impl_Colourings_ps impl_Colourings_rs⟩ := congrArg (FSum.mk impl_Colourings_ps impl_Colourings_rs) (funext (impl_Colourings_run N))
  rw [e]
  exact fun_ok (c := impl_Colourings_code) progOk (impl_Colourings_gok N) (draw_ok progOk (impl_Colourings_gok N)) Tryz.call42 Tryz.func42 (by kernel_rfl) (lsOk_at (L := []) trivial) (by kernel_rfl) (by kernel_rfl) (by kernel_rfl) (by kernel_rfl) (by kernel_rfl)

/-! ### math_bits_Len64 -/
abbrev math_bits_Len64_ps : List (PV.Mode × Ty) := [(.ro, U64)]
abbrev math_bits_Len64_rs : List (Bool × Ty) := [(true, I)]
noncomputable def math_bits_Len64_G (N : Nat) : GTab := gOf []
theorem math_bits_Len64_gok (N : Nat) : GOk Tryz.prog (math_bits_Len64_G N) := gOf_ok trivial
noncomputable def math_bits_Len64_code : Code := (Tryz.f175.body).getD .skip
noncomputable def math_bits_Len64 (N : Nat) (x : Int) : Option ((Int × Unit) × (Unit)) :=
  (br (ile 4294967296 x)
    ((br (ile 65536 (shrI .u64 x 32))
      ((br (ile 256 (shrI .u64 (shrI .u64 x 32) 16))
        ((chk (strIn str0 (IntKind.u8.wrap ((shrI .u64 (shrI .u64 (shrI .u64 x 32) 16) 8))))
          (some (((IntKind.i64.wrap (56 + (IntKind.i64.wrap ((strAt str0 (IntKind.u8.wrap ((shrI .u64 (shrI .u64 (shrI .u64 x 32) 16) 8)))))))), ()), ()))))
        ((chk (strIn str0 (IntKind.u8.wrap ((shrI .u64 (shrI .u64 x 32) 16))))
          (some (((IntKind.i64.wrap (48 + (IntKind.i64.wrap ((strAt str0 (IntKind.u8.wrap ((shrI .u64 (shrI .u64 x 32) 16)))))))), ()), ()))))))
      ((br (ile 256 (shrI .u64 x 32))
        ((chk (strIn str0 (IntKind.u8.wrap ((shrI .u64 (shrI .u64 x 32) 8))))
          (some (((IntKind.i64.wrap (40 + (IntKind.i64.wrap ((strAt str0 (IntKind.u8.wrap ((shrI .u64 (shrI .u64 x 32) 8)))))))), ()), ()))))
        ((chk (strIn str0 (IntKind.u8.wrap ((shrI .u64 x 32))))
          (some (((IntKind.i64.wrap (32 + (IntKind.i64.wrap ((strAt str0 (IntKind.u8.wrap ((shrI .u64 x 32)))))))), ()), ()))))))))
    ((br (ile 65536 x)
      ((br (ile 256 (shrI .u64 x 16))
        ((chk (strIn str0 (IntKind.u8.wrap ((shrI .u64 (shrI .u64 x 16) 8))))
          (some (((IntKind.i64.wrap (24 + (IntKind.i64.wrap ((strAt str0 (IntKind.u8.wrap ((shrI .u64 (shrI .u64 x 16) 8)))))))), ()), ()))))
        ((chk (strIn str0 (IntKind.u8.wrap ((shrI .u64 x 16))))
          (some (((IntKind.i64.wrap (16 + (IntKind.i64.wrap ((strAt str0 (IntKind.u8.wrap ((shrI .u64 x 16)))))))), ()), ()))))))
      ((br (ile 256 x)
        ((chk (strIn str0 (IntKind.u8.wrap ((shrI .u64 x 8))))
          (some (((IntKind.i64.wrap (8 + (IntKind.i64.wrap ((strAt str0 (IntKind.u8.wrap ((shrI .u64 x 8)))))))), ()), ()))))
        ((chk (strIn str0 (IntKind.u8.wrap (x)))
          (some (((IntKind.i64.wrap (0 + (IntKind.i64.wrap ((strAt str0 (IntKind.u8.wrap (x))))))), ()), ())))))))))
noncomputable def math_bits_Len64_S (N : Nat) : FSum := ⟨math_bits_Len64_ps, math_bits_Len64_rs, fun x => math_bits_Len64 N x.1⟩
theorem math_bits_Len64_run (N : Nat) (x : argsT math_bits_Len64_ps) : math_bits_Len64 N x.1 = funF (math_bits_Len64_G N) tab [] Tryz.f175 math_bits_Len64_ps math_bits_Len64_rs x := by kernel_rfl
theorem math_bits_Len64_pc (N : Nat) : PC Tryz.prog 175 (math_bits_Len64_S N) := by
  have e : math_bits_Len64_S N = ⟨math_bits_Len64_ps, math_bits_Len64_rs, funF (math_bits_Len64_G N) tab [] Tryz.f175 math_bits_Len64_ps math_bits_Len64_rs⟩ := congrArg (FSum.mk math_bits_Len64_ps math_bits_Len64_rs) (funext (math_bits_Len64_run N))
  rw [e]
  exact fun_ok (c := math_bits_Len64_code) progOk (math_bits_Len64_gok N) (draw_ok progOk (math_bits_Len64_gok N)) Tryz.call175 Tryz.func175 (by kernel_rfl) (lsOk_at (L := []) trivial) (by kernel_rfl) (by kernel_rfl) (by kernel_rfl) (by kernel_rfl) (by kernel_rfl)

/-! ### math_bits_Len -/
abbrev math_bits_Len_ps : List (PV.Mode × Ty) := [(.ro, U64)]
abbrev math_bits_Len_rs : List (Bool × Ty) := [(true, I)]
noncomputable def math_bits_Len_G (N : Nat) : GTab := gOf [(175, math_bits_Len64_S N)]
theorem math_bits_Len_gok (N : Nat) : GOk Tryz.prog (math_bits_Len_G N) := gOf_ok ⟨math_bits_Len64_pc N, trivial⟩
noncomputable def math_bits_Len_code : Code := (Tryz.f130.body).getD .skip
noncomputable def math_bits_Len (N : Nat) (x : Int) : Option ((Int × Unit) × (Unit)) :=
  ((math_bits_Len64 N x).bind fun r =>
    some ((r.1.1, ()), ()))
noncomputable def math_bits_Len_S (N : Nat) : FSum := ⟨math_bits_Len_ps, math_bits_Len_rs, fun x => math_bits_Len N x.1⟩
theorem math_bits_Len_run (N : Nat) (x : argsT math_bits_Len_ps) : math_bits_Len N x.1 = funF (math_bits_Len_G N) tab [] Tryz.f130 math_bits_Len_ps math_bits_Len_rs x := by kernel_rfl
theorem math_bits_Len_pc (N : Nat) : PC Tryz.prog 130 (math_bits_Len_S N) := by
  have e : math_bits_Len_S N = ⟨math_bits_Len_ps, math_bits_Len_rs, funF (math_bits_Len_G N) tab [] Tryz.f130 math_bits_Len_ps math_bits_Len_rs⟩ := congrArg (FSum.mk math_bits_Len_ps math_bits_Len_rs) (funext (math_bits_Len_run N))
  rw [e]
  exact fun_ok (c := math_bits_Len_code) progOk (math_bits_Len_gok N) (draw_ok progOk (math_bits_Len_gok N)) Tryz.call130 Tryz.func130 (by kernel_rfl) (lsOk_at (L := []) trivial) (by kernel_rfl) (by kernel_rfl) (by kernel_rfl) (by kernel_rfl) (by kernel_rfl)

/-! ### slices_insertionSortCmpFunc_LI -/
abbrev slices_insertionSortCmpFunc_LI_ps : List (PV.Mode × Ty) := [(.ro, LLI), (.ro, I), (.ro, I), (.ro, GLILII)]
abbrev slices_insertionSortCmpFunc_LI_rs : List (Bool × Ty) := []
noncomputable def slices_insertionSortCmpFunc_LI_G (N : Nat) : GTab := gOf []
theorem slices_insertionSortCmpFunc_LI_gok (N : Nat) : GOk Tryz.prog (slices_insertionSortCmpFunc_LI_G N) := gOf_ok trivial
noncomputable def slices_insertionSortCmpFunc_LI_code : Code := (Tryz.f166.body).getD .skip
noncomputable def slices_insertionSortCmpFunc_LI_l0_0_sh : Sh := ⟨[(0, .one (.ro LLI)), (1, .one (.ro I)), (2, .one (.ro I)), (3, .one (.ro GLILII)), (8, .one (.ro I)), (9, .one (.ro I))], []⟩
noncomputable def slices_insertionSortCmpFunc_LI_l0_0_ex : List (Ex × Sh) := [(.exit 2, ⟨[(0, .one (.ro LLI)), (1, .one (.ro I)), (2, .one (.ro I)), (3, .one (.ro GLILII)), (8, .one (.ro I))], []⟩)]
noncomputable def slices_insertionSortCmpFunc_LI_l0_0 {R : Type} (N : Nat) (k0 : (List (List Int)) → Int → Int → ((List Int) → (List Int) → Option Int) → Int → Option R) : Nat → (List (List Int)) → Int → Int → ((List Int) → (List Int) → Option Int) → Int → Int → Option R
  | 0, _, _, _, _, _, _ => none
  | K + 1, data2, a2, b2, cmp2, i1, j =>
    (br (ilt a2 j)
      ((chk (inb data2 j)
        (chk (inb data2 (IntKind.i64.wrap (j - 1)))
        ((cmp2 (rdL data2 j) (rdL data2 (IntKind.i64.wrap (j - 1)))).bind fun v =>
        (br (ilt v 0)
        ((chk (inb data2 (IntKind.i64.wrap (j - 1)))
          (chk (inb data2 j)
          (chk (inb data2 j)
          none))))
        (k0 data2 a2 b2 cmp2 i1))))))
      (k0 data2 a2 b2 cmp2 i1))
noncomputable def slices_insertionSortCmpFunc_LI_l0_0_again {R : Type} (N : Nat) (ks : (j : Nat) → ((slices_insertionSortCmpFunc_LI_l0_0_ex.getD j (.ret, Sh.none)).2).T → Option R) (k : Nat) (x : slices_insertionSortCmpFunc_LI_l0_0_sh.T) : Option R :=
  slices_insertionSortCmpFunc_LI_l0_0 N (fun y0 y1 y2 y3 y4 => ks 0 ((y0, y1, y2, y3, y4, ()), ())) k x.1.1 x.1.2.1 x.1.2.2.1 x.1.2.2.2.1 x.1.2.2.2.2.1 x.1.2.2.2.2.2.1
noncomputable def slices_insertionSortCmpFunc_LI_l0_0_s (N : Nat) : LSum := ⟨slices_insertionSortCmpFunc_LI_l0_0_sh, slices_insertionSortCmpFunc_LI_l0_0_ex, fun x ks => slices_insertionSortCmpFunc_LI_l0_0_again N ks N x⟩
theorem slices_insertionSortCmpFunc_LI_l0_0_step (N : Nat) (R : Type) (k : Nat) (x : slices_insertionSortCmpFunc_LI_l0_0_sh.T) (ks : (j : Nat) → ((slices_insertionSortCmpFunc_LI_l0_0_ex.getD j (.ret, Sh.none)).2).T → Option R) : slices_insertionSortCmpFunc_LI_l0_0_again N ks (k + 1) x = roundF (slices_insertionSortCmpFunc_LI_G N) tab [] (loopAt (loopAt slices_insertionSortCmpFunc_LI_code 0) 0) slices_insertionSortCmpFunc_LI_l0_0_sh slices_insertionSortCmpFunc_LI_l0_0_ex (fun y => slices_insertionSortCmpFunc_LI_l0_0_again N ks k y) ks x := by kernel_rfl
theorem slices_insertionSortCmpFunc_LI_l0_0_ok (N : Nat) : LoopOk Tryz.prog Tryz.f166.ntmps (slices_insertionSortCmpFunc_LI_l0_0_s N) (loopAt (loopAt slices_insertionSortCmpFunc_LI_code 0) 0) :=
  loop_ok (l := slices_insertionSortCmpFunc_LI_l0_0_s N) progOk (slices_insertionSortCmpFunc_LI_gok N) (draw_ok progOk (slices_insertionSortCmpFunc_LI_gok N)) (fun R k x ks => slices_insertionSortCmpFunc_LI_l0_0_again N ks k x) (fun _ _ _ => rfl) (fun R k x ks => slices_insertionSortCmpFunc_LI_l0_0_step N R k x ks) (fun R x ks r h => ⟨N, h⟩) (lsOk_at (L := []) trivial) (by kernel_rfl) (by kernel_rfl)
noncomputable def slices_insertionSortCmpFunc_LI_l0_sh : Sh := ⟨[(0, .one (.ro LLI)), (1, .one (.ro I)), (2, .one (.ro I)), (3, .one (.ro GLILII)), (8, .one (.ro I))], []⟩
noncomputable def slices_insertionSortCmpFunc_LI_l0_ex : List (Ex × Sh) := [(.exit 0, ⟨[], []⟩)]
noncomputable def slices_insertionSortCmpFunc_LI_l0 {R : Type} (N : Nat) (k0 : Unit → Option R) : Nat → (List (List Int)) → Int → Int → ((List Int) → (List Int) → Option Int) → Int → Option R
  | 0, _, _, _, _, _ => none
  | K + 1, data1, a1, b1, cmp1, i =>
    (br (ilt i b1)
      (slices_insertionSortCmpFunc_LI_l0_0 N (fun data2 a2 b2 cmp2 i1 => slices_insertionSortCmpFunc_LI_l0 N k0 K data2 a2 b2 cmp2 (IntKind.i64.wrap (i1 + 1))) N data1 a1 b1 cmp1 i i)
      (k0 ()))
noncomputable def slices_insertionSortCmpFunc_LI_l0_again {R : Type} (N : Nat) (ks : (j : Nat) → ((slices_insertionSortCmpFunc_LI_l0_ex.getD j (.ret, Sh.none)).2).T → Option R) (k : Nat) (x : slices_insertionSortCmpFunc_LI_l0_sh.T) : Option R :=
  slices_insertionSortCmpFunc_LI_l0 N (fun (_ : Unit) => ks 0 ((), ())) k x.1.1 x.1.2.1 x.1.2.2.1 x.1.2.2.2.1 x.1.2.2.2.2.1
noncomputable def slices_insertionSortCmpFunc_LI_l0_s (N : Nat) : LSum := ⟨slices_insertionSortCmpFunc_LI_l0_sh, slices_insertionSortCmpFunc_LI_l0_ex, fun x ks => slices_insertionSortCmpFunc_LI_l0_again N ks N x⟩
theorem slices_insertionSortCmpFunc_LI_l0_step (N : Nat) (R : Type) (k : Nat) (x : slices_insertionSortCmpFunc_LI_l0_sh.T) (ks : (j : Nat) → ((slices_insertionSortCmpFunc_LI_l0_ex.getD j (.ret, Sh.none)).2).T → Option R) : slices_insertionSortCmpFunc_LI_l0_again N ks (k + 1) x = roundF (slices_insertionSortCmpFunc_LI_G N) tab [slices_insertionSortCmpFunc_LI_l0_0_s N] (loopAt slices_insertionSortCmpFunc_LI_code 0) slices_insertionSortCmpFunc_LI_l0_sh slices_insertionSortCmpFunc_LI_l0_ex (fun y => slices_insertionSortCmpFunc_LI_l0_again N ks k y) ks x := by kernel_rfl
theorem slices_insertionSortCmpFunc_LI_l0_ok (N : Nat) : LoopOk Tryz.prog Tryz.f166.ntmps (slices_insertionSortCmpFunc_LI_l0_s N) (loopAt slices_insertionSortCmpFunc_LI_code 0) :=
  loop_ok (l := slices_insertionSortCmpFunc_LI_l0_s N) progOk (slices_insertionSortCmpFunc_LI_gok N) (draw_ok progOk (slices_insertionSortCmpFunc_LI_gok N)) (fun R k x ks => slices_insertionSortCmpFunc_LI_l0_again N ks k x) (fun _ _ _ => rfl) (fun R k x ks => slices_insertionSortCmpFunc_LI_l0_step N R k x ks) (fun R x ks r h => ⟨N, h⟩) (lsOk_at (L := [slices_insertionSortCmpFunc_LI_l0_0_s N]) ⟨slices_insertionSortCmpFunc_LI_l0_0_ok N, trivial⟩) (by kernel_rfl) (by kernel_rfl)
noncomputable def slices_insertionSortCmpFunc_LI (N : Nat) (data : (List (List Int))) (a : Int) (b : Int) (cmp : ((List Int) → (List Int) → Option Int)) : Option ((Unit) × (Unit)) :=
  slices_insertionSortCmpFunc_LI_l0 N (fun (_ : Unit) => some ((), ())) N data a b cmp (IntKind.i64.wrap (a + 1))
noncomputable def slices_insertionSortCmpFunc_LI_S (N : Nat) : FSum := ⟨slices_insertionSortCmpFunc_LI_ps, slices_insertionSortCmpFunc_LI_rs, fun x => slices_insertionSortCmpFunc_LI N x.1 x.2.1 x.2.2.1 x.2.2.2.1⟩
theorem slices_insertionSortCmpFunc_LI_run (N : Nat) (x : argsT slices_insertionSortCmpFunc_LI_ps) : slices_insertionSortCmpFunc_LI N x.1 x.2.1 x.2.2.1 x.2.2.2.1 = funF (slices_insertionSortCmpFunc_LI_G N) tab [slices_insertionSortCmpFunc_LI_l0_s N] Tryz.f166 slices_insertionSortCmpFunc_LI_ps slices_insertionSortCmpFunc_LI_rs x := by kernel_rfl
theorem slices_insertionSortCmpFunc_LI_pc (N : Nat) : PC Tryz.prog 166 (slices_insertionSortCmpFunc_LI_S N) := by
  have e : slices_insertionSortCmpFunc_LI_S N = ⟨slices_insertionSortCmpFunc_LI_ps, slices_insertionSortCmpFunc_LI_rs, funF (slices_insertionSortCmpFunc_LI_G N) tab [slices_insertionSortCmpFunc_LI_l0_s N] Tryz.f166 slices_insertionSortCmpFunc_LI_ps slices_insertionSortCmpFunc_LI_rs⟩ := congrArg (FSum.mk slices_insertionSortCmpFunc_LI_ps slices_insertionSortCmpFunc_LI_rs) (funext (slices_insertionSortCmpFunc_LI_run N))
  rw [e]
  exact fun_ok (c := slices_insertionSortCmpFunc_LI_code) progOk (slices_insertionSortCmpFunc_LI_gok N) (draw_ok progOk (slices_insertionSortCmpFunc_LI_gok N)) Tryz.call166 Tryz.func166 (by kernel_rfl) (lsOk_at (L := [slices_insertionSortCmpFunc_LI_l0_s N]) ⟨slices_insertionSortCmpFunc_LI_l0_ok N, trivial⟩) (by kernel_rfl) (by kernel_rfl) (by kernel_rfl) (by kernel_rfl) (by kernel_rfl)

/-! ### slices_order2CmpFunc_LI -/
abbrev slices_order2CmpFunc_LI_ps : List (PV.Mode × Ty) := [(.ro, LLI), (.ro, I), (.ro, I), (.mut, BI), (.ro, GLILII)]
abbrev slices_order2CmpFunc_LI_rs : List (Bool × Ty) := [(true, I), (true, I)]
noncomputable def slices_order2CmpFunc_LI_G (N : Nat) : GTab := gOf []
theorem slices_order2CmpFunc_LI_gok (N : Nat) : GOk Tryz.prog (slices_order2CmpFunc_LI_G N) := gOf_ok trivial
noncomputable def slices_order2CmpFunc_LI_code : Code := (Tryz.f220.body).getD .skip
noncomputable def slices_order2CmpFunc_LI (N : Nat) (data : (List (List Int))) (a : Int) (b : Int) (swaps : Int) (cmp : ((List Int) → (List Int) → Option Int)) : Option ((Int × Int × Unit) × (Int × Unit)) :=
  (chk (inb data b)
    (chk (inb data a)
    ((cmp (rdL data b) (rdL data a)).bind fun v =>
    (br (ilt v 0)
    (some ((b, a, ()), ((IntKind.i64.wrap (swaps + 1)), ())))
    (some ((a, b, ()), (swaps, ())))))))
noncomputable def slices_order2CmpFunc_LI_S (N : Nat) : FSum := ⟨slices_order2CmpFunc_LI_ps, slices_order2CmpFunc_LI_rs, fun x => slices_order2CmpFunc_LI N x.1 x.2.1 x.2.2.1 x.2.2.2.1 x.2.2.2.2.1⟩
theorem slices_order2CmpFunc_LI_run (N : Nat) (x : argsT slices_order2CmpFunc_LI_ps) : slices_order2CmpFunc_LI N x.1 x.2.1 x.2.2.1 x.2.2.2.1 x.2.2.2.2.1 = funF (slices_order2CmpFunc_LI_G N) tab [] Tryz.f220 slices_order2CmpFunc_LI_ps slices_order2CmpFunc_LI_rs x := by kernel_rfl
theorem slices_order2CmpFunc_LI_pc (N : Nat) : PC Tryz.prog 220 (slices_order2CmpFunc_LI_S N) := by
  have e : slices_order2CmpFunc_LI_S N = ⟨slices_order2CmpFunc_LI_ps, slices_order2CmpFunc_LI_rs, funF (slices_order2CmpFunc_LI_G N) tab [] Tryz.f220 slices_order2CmpFunc_LI_ps slices_order2CmpFunc_LI_rs⟩ := congrArg (FSum.mk slices_order2CmpFunc_LI_ps slices_order2CmpFunc_LI_rs) (funext (slices_order2CmpFunc_LI_run N))
  rw [e]
  exact fun_ok (c := slices_order2CmpFunc_LI_code) progOk (slices_order2CmpFunc_LI_gok N) (draw_ok progOk (slices_order2CmpFunc_LI_gok N)) Tryz.call220 Tryz.func220 (by kernel_rfl) (lsOk_at (L := []) trivial) (by kernel_rfl) (by kernel_rfl) (by kernel_rfl) (by kernel_rfl) (by kernel_rfl)

/-! ### slices_medianCmpFunc_LI -/
abbrev slices_medianCmpFunc_LI_ps : List (PV.Mode × Ty) := [(.ro, LLI), (.ro, I), (.ro, I), (.ro, I), (.mut, BI), (.ro, GLILII)]
abbrev slices_medianCmpFunc_LI_rs : List (Bool × Ty) := [(true, I)]
noncomputable def slices_medianCmpFunc_LI_G (N : Nat) : GTab := gOf [(220, slices_order2CmpFunc_LI_S N)]
theorem slices_medianCmpFunc_LI_gok (N : Nat) : GOk Tryz.prog (slices_medianCmpFunc_LI_G N) := gOf_ok ⟨slices_order2CmpFunc_LI_pc N, trivial⟩
noncomputable def slices_medianCmpFunc_LI_code : Code := (Tryz.f209.body).getD .skip
noncomputable def slices_medianCmpFunc_LI (N : Nat) (data : (List (List Int))) (a : Int) (b : Int) (c : Int) (swaps : Int) (cmp : ((List Int) → (List Int) → Option Int)) : Option ((Int × Unit) × (Int × Unit)) :=
  ((slices_order2CmpFunc_LI N data a b swaps cmp).bind fun r =>
    ((slices_order2CmpFunc_LI N data r.1.2.1 c r.2.1 cmp).bind fun r1 =>
      ((slices_order2CmpFunc_LI N data r.1.1 r1.1.1 r1.2.1 cmp).bind fun r2 =>
        some ((r2.1.2.1, ()), (r2.2.1, ())))))
noncomputable def slices_medianCmpFunc_LI_S (N : Nat) : FSum := ⟨slices_medianCmpFunc_LI_ps, slices_medianCmpFunc_LI_rs, fun x => slices_medianCmpFunc_LI N x.1 x.2.1 x.2.2.1 x.2.2.2.1 x.2.2.2.2.1 x.2.2.2.2.2.1⟩
theorem slices_medianCmpFunc_LI_run (N : Nat) (x : argsT slices_medianCmpFunc_LI_ps) : slices_medianCmpFunc_LI N x.1 x.2.1 x.2.2.1 x.2.2.2.1 x.2.2.2.2.1 x.2.2.2.2.2.1 = funF (slices_medianCmpFunc_LI_G N) tab [] Tryz.f209 slices_medianCmpFunc_LI_ps slices_medianCmpFunc_LI_rs x := by kernel_rfl
theorem slices_medianCmpFunc_LI_pc (N : Nat) : PC Tryz.prog 209 (slices_medianCmpFunc_LI_S N) := by
  have e : slices_medianCmpFunc_LI_S N = ⟨slices_medianCmpFunc_LI_ps, slices_medianCmpFunc_LI_rs, funF (slices_medianCmpFunc_LI_G N) tab [] Tryz.f209 slices_medianCmpFunc_LI_ps slices_medianCmpFunc_LI_rs⟩ := congrArg (FSum.mk slices_medianCmpFunc_LI_ps slices_medianCmpFunc_LI_rs) (funext (slices_medianCmpFunc_LI_run N))
  rw [e]
  exact fun_ok (c := slices_medianCmpFunc_LI_code) progOk (slices_medianCmpFunc_LI_gok N) (draw_ok progOk (slices_medianCmpFunc_LI_gok N)) Tryz.call209 Tryz.func209 (by kernel_rfl) (lsOk_at (L := []) trivial) (by kernel_rfl) (by kernel_rfl) (by kernel_rfl) (by kernel_rfl) (by kernel_rfl)

/-! ### slices_medianAdjacentCmpFunc_LI -/
abbrev slices_medianAdjacentCmpFunc_LI_ps : List (PV.Mode × Ty) := [(.ro, LLI), (.ro, I), (.mut, BI), (.ro, GLILII)]
abbrev slices_medianAdjacentCmpFunc_LI_rs : List (Bool × Ty) := [(true, I)]
noncomputable def slices_medianAdjacentCmpFunc_LI_G (N : Nat) : GTab := gOf [(209, slices_medianCmpFunc_LI_S N)]
theorem slices_medianAdjacentCmpFunc_LI_gok (N : Nat) : GOk Tryz.prog (slices_medianAdjacentCmpFunc_LI_G N) := gOf_ok ⟨slices_medianCmpFunc_LI_pc N, trivial⟩
noncomputable def slices_medianAdjacentCmpFunc_LI_code : Code := (Tryz.f208.body).getD .skip
noncomputable def slices_medianAdjacentCmpFunc_LI (N : Nat) (data : (List (List Int))) (a : Int) (swaps : Int) (cmp : ((List Int) → (List Int) → Option Int)) : Option ((Int × Unit) × (Int × Unit)) :=
  ((slices_medianCmpFunc_LI N data (IntKind.i64.wrap (a - 1)) a (IntKind.i64.wrap (a + 1)) swaps cmp).bind fun r =>
    some ((r.1.1, ()), (r.2.1, ())))
noncomputable def slices_medianAdjacentCmpFunc_LI_S (N : Nat) : FSum := ⟨slices_medianAdjacentCmpFunc_LI_ps, slices_medianAdjacentCmpFunc_LI_rs, fun x => slices_medianAdjacentCmpFunc_LI N x.1 x.2.1 x.2.2.1 x.2.2.2.1⟩
theorem slices_medianAdjacentCmpFunc_LI_run (N : Nat) (x : argsT slices_medianAdjacentCmpFunc_LI_ps) : slices_medianAdjacentCmpFunc_LI N x.1 x.2.1 x.2.2.1 x.2.2.2.1 = funF (slices_medianAdjacentCmpFunc_LI_G N) tab [] Tryz.f208 slices_medianAdjacentCmpFunc_LI_ps slices_medianAdjacentCmpFunc_LI_rs x := by kernel_rfl
theorem slices_medianAdjacentCmpFunc_LI_pc (N : Nat) : PC Tryz.prog 208 (slices_medianAdjacentCmpFunc_LI_S N) := by
  have e : slices_medianAdjacentCmpFunc_LI_S N = ⟨slices_medianAdjacentCmpFunc_LI_ps, slices_medianAdjacentCmpFunc_LI_rs, funF (slices_medianAdjacentCmpFunc_LI_G N) tab [] Tryz.f208 slices_medianAdjacentCmpFunc_LI_ps slices_medianAdjacentCmpFunc_LI_rs⟩ := congrArg (FSum.mk slices_medianAdjacentCmpFunc_LI_ps slices_medianAdjacentCmpFunc_LI_rs) (funext (slices_medianAdjacentCmpFunc_LI_run N))
  rw [e]
  exact fun_ok (c := slices_medianAdjacentCmpFunc_LI_code) progOk (slices_medianAdjacentCmpFunc_LI_gok N) (draw_ok progOk (slices_medianAdjacentCmpFunc_LI_gok N)) Tryz.call208 Tryz.func208 (by kernel_rfl) (lsOk_at (L := []) trivial) (by kernel_rfl) (by kernel_rfl) (by kernel_rfl) (by kernel_rfl) (by kernel_rfl)

/-! ### slices_choosePivotCmpFunc_LI -/
abbrev slices_choosePivotCmpFunc_LI_ps : List (PV.Mode × Ty) := [(.ro, LLI), (.ro, I), (.ro, I), (.ro, GLILII)]
abbrev slices_choosePivotCmpFunc_LI_rs : List (Bool × Ty) := [(true, I), (true, I)]
noncomputable def slices_choosePivotCmpFunc_LI_G (N : Nat) : GTab := gOf [(208, slices_medianAdjacentCmpFunc_LI_S N), (209, slices_medianCmpFunc_LI_S N)]
theorem slices_choosePivotCmpFunc_LI_gok (N : Nat) : GOk Tryz.prog (slices_choosePivotCmpFunc_LI_G N) := gOf_ok ⟨slices_medianAdjacentCmpFunc_LI_pc N, slices_medianCmpFunc_LI_pc N, trivial⟩
noncomputable def slices_choosePivotCmpFunc_LI_code : Code := (Tryz.f169.body).getD .skip
noncomputable def slices_choosePivotCmpFunc_LI (N : Nat) (data : (List (List Int))) (a : Int) (b : Int) (cmp : ((List Int) → (List Int) → Option Int)) : Option ((Int × Int × Unit) × (Unit)) :=
  (br (ile 8 (IntKind.i64.wrap (b - a)))
    ((br (ile 50 (IntKind.i64.wrap (b - a)))
      (((slices_medianAdjacentCmpFunc_LI N data (IntKind.i64.wrap (a + (IntKind.i64.wrap ((IntKind.i64.wrap ((IntKind.i64.wrap (b - a)).tdiv 4)) * 1)))) 0 cmp).bind fun r =>
        ((slices_medianAdjacentCmpFunc_LI N data (IntKind.i64.wrap (a + (IntKind.i64.wrap ((IntKind.i64.wrap ((IntKind.i64.wrap (b - a)).tdiv 4)) * 2)))) r.2.1 cmp).bind fun r1 =>
          ((slices_medianAdjacentCmpFunc_LI N data (IntKind.i64.wrap (a + (IntKind.i64.wrap ((IntKind.i64.wrap ((IntKind.i64.wrap (b - a)).tdiv 4)) * 3)))) r1.2.1 cmp).bind fun r2 =>
            ((slices_medianCmpFunc_LI N data r.1.1 r1.1.1 r2.1.1 r2.2.1 cmp).bind fun r3 =>
              (br (ieq r3.2.1 0)
                (some ((r3.1.1, 1, ()), ()))
                ((br (ieq r3.2.1 12)
                  (some ((r3.1.1, 2, ()), ()))
                  (some ((r3.1.1, 0, ()), ()))))))))))
      (((slices_medianCmpFunc_LI N data (IntKind.i64.wrap (a + (IntKind.i64.wrap ((IntKind.i64.wrap ((IntKind.i64.wrap (b - a)).tdiv 4)) * 1)))) (IntKind.i64.wrap (a + (IntKind.i64.wrap ((IntKind.i64.wrap ((IntKind.i64.wrap (b - a)).tdiv 4)) * 2)))) (IntKind.i64.wrap (a + (IntKind.i64.wrap ((IntKind.i64.wrap ((IntKind.i64.wrap (b - a)).tdiv 4)) * 3)))) 0 cmp).bind fun r4 =>
        (br (ieq r4.2.1 0)
          (some ((r4.1.1, 1, ()), ()))
          ((br (ieq r4.2.1 12)
            (some ((r4.1.1, 2, ()), ()))
            (some ((r4.1.1, 0, ()), ())))))))))
    (some (((IntKind.i64.wrap (a + (IntKind.i64.wrap ((IntKind.i64.wrap ((IntKind.i64.wrap (b - a)).tdiv 4)) * 2)))), 1, ()), ())))
noncomputable def slices_choosePivotCmpFunc_LI_S (N : Nat) : FSum := ⟨slices_choosePivotCmpFunc_LI_ps, slices_choosePivotCmpFunc_LI_rs, fun x => slices_choosePivotCmpFunc_LI N x.1 x.2.1 x.2.2.1 x.2.2.2.1⟩
theorem slices_choosePivotCmpFunc_LI_run (N : Nat) (x : argsT slices_choosePivotCmpFunc_LI_ps) : slices_choosePivotCmpFunc_LI N x.1 x.2.1 x.2.2.1 x.2.2.2.1 = funF (slices_choosePivotCmpFunc_LI_G N) tab [] Tryz.f169 slices_choosePivotCmpFunc_LI_ps slices_choosePivotCmpFunc_LI_rs x := by kernel_rfl
theorem slices_choosePivotCmpFunc_LI_pc (N : Nat) : PC Tryz.prog 169 (slices_choosePivotCmpFunc_LI_S N) := by
  have e : slices_choosePivotCmpFunc_LI_S N = ⟨slices_choosePivotCmpFunc_LI_ps, slices_choosePivotCmpFunc_LI_rs, funF (slices_choosePivotCmpFunc_LI_G N) tab [] Tryz.f169 slices_choosePivotCmpFunc_LI_ps slices_choosePivotCmpFunc_LI_rs⟩ := congrArg (FSum.mk slices_choosePivotCmpFunc_LI_ps slices_choosePivotCmpFunc_LI_rs) (funext (slices_choosePivotCmpFunc_LI_run N))
  rw [e]
  exact fun_ok (c := slices_choosePivotCmpFunc_LI_code) progOk (slices_choosePivotCmpFunc_LI_gok N) (draw_ok progOk (slices_choosePivotCmpFunc_LI_gok N)) Tryz.call169 Tryz.func169 (by kernel_rfl) (lsOk_at (L := []) trivial) (by kernel_rfl) (by kernel_rfl) (by kernel_rfl) (by kernel_rfl) (by kernel_rfl)

/-! ### slices_partialInsertionSortCmpFunc_LI -/
abbrev slices_partialInsertionSortCmpFunc_LI_ps : List (PV.Mode × Ty) := [(.ro, LLI), (.ro, I), (.ro, I), (.ro, GLILII)]
abbrev slices_partialInsertionSortCmpFunc_LI_rs : List (Bool × Ty) := [(true, .bool)]
noncomputable def slices_partialInsertionSortCmpFunc_LI_G (N : Nat) : GTab := gOf []
theorem slices_partialInsertionSortCmpFunc_LI_gok (N : Nat) : GOk Tryz.prog (slices_partialInsertionSortCmpFunc_LI_G N) := gOf_ok trivial
noncomputable def slices_partialInsertionSortCmpFunc_LI_code : Code := (Tryz.f171.body).getD .skip
noncomputable def slices_partialInsertionSortCmpFunc_LI_l0_0_sh : Sh := ⟨[(0, .one (.ro LLI)), (1, .one (.ro I)), (2, .one (.ro I)), (3, .one (.ro GLILII)), (9, .one (.ro I)), (10, .one (.ro I))], []⟩
noncomputable def slices_partialInsertionSortCmpFunc_LI_l0_0_ex : List (Ex × Sh) := [(.exit 2, ⟨[(0, .one (.ro LLI)), (1, .one (.ro I)), (2, .one (.ro I)), (3, .one (.ro GLILII)), (9, .one (.ro I)), (10, .one (.ro I))], []⟩)]
noncomputable def slices_partialInsertionSortCmpFunc_LI_l0_0 {R : Type} (N : Nat) (k0 : (List (List Int)) → Int → Int → ((List Int) → (List Int) → Option Int) → Int → Int → Option R) : Nat → (List (List Int)) → Int → Int → ((List Int) → (List Int) → Option Int) → Int → Int → Option R
  | 0, _, _, _, _, _, _ => none
  | K + 1, x6, x7, x8, x9, x10, x11 =>
    (br (ilt x10 x8)
      ((chk (inb x6 x10)
        (chk (inb x6 (IntKind.i64.wrap (x10 - 1)))
        ((x9 (rdL x6 x10) (rdL x6 (IntKind.i64.wrap (x10 - 1)))).bind fun v =>
        (br (!(ilt v 0))
        (slices_partialInsertionSortCmpFunc_LI_l0_0 N k0 K x6 x7 x8 x9 (IntKind.i64.wrap (x10 + 1)) x11)
        (k0 x6 x7 x8 x9 x10 x11))))))
      (k0 x6 x7 x8 x9 x10 x11))
noncomputable def slices_partialInsertionSortCmpFunc_LI_l0_0_again {R : Type} (N : Nat) (ks : (j : Nat) → ((slices_partialInsertionSortCmpFunc_LI_l0_0_ex.getD j (.ret, Sh.none)).2).T → Option R) (k : Nat) (x : slices_partialInsertionSortCmpFunc_LI_l0_0_sh.T) : Option R :=
  slices_partialInsertionSortCmpFunc_LI_l0_0 N (fun y0 y1 y2 y3 y4 y5 => ks 0 ((y0, y1, y2, y3, y4, y5, ()), ())) k x.1.1 x.1.2.1 x.1.2.2.1 x.1.2.2.2.1 x.1.2.2.2.2.1 x.1.2.2.2.2.2.1
noncomputable def slices_partialInsertionSortCmpFunc_LI_l0_0_s (N : Nat) : LSum := ⟨slices_partialInsertionSortCmpFunc_LI_l0_0_sh, slices_partialInsertionSortCmpFunc_LI_l0_0_ex, fun x ks => slices_partialInsertionSortCmpFunc_LI_l0_0_again N ks N x⟩
theorem slices_partialInsertionSortCmpFunc_LI_l0_0_step (N : Nat) (R : Type) (k : Nat) (x : slices_partialInsertionSortCmpFunc_LI_l0_0_sh.T) (ks : (j : Nat) → ((slices_partialInsertionSortCmpFunc_LI_l0_0_ex.getD j (.ret, Sh.none)).2).T → Option R) : slices_partialInsertionSortCmpFunc_LI_l0_0_again N ks (k + 1) x = roundF (slices_partialInsertionSortCmpFunc_LI_G N) tab [] (loopAt (loopAt slices_partialInsertionSortCmpFunc_LI_code 0) 0) slices_partialInsertionSortCmpFunc_LI_l0_0_sh slices_partialInsertionSortCmpFunc_LI_l0_0_ex (fun y => slices_partialInsertionSortCmpFunc_LI_l0_0_again N ks k y) ks x := by kernel_rfl
theorem slices_partialInsertionSortCmpFunc_LI_l0_0_ok (N : Nat) : LoopOk Tryz.prog Tryz.f171.ntmps (slices_partialInsertionSortCmpFunc_LI_l0_0_s N) (loopAt (loopAt slices_partialInsertionSortCmpFunc_LI_code 0) 0) :=
  loop_ok (l := slices_partialInsertionSortCmpFunc_LI_l0_0_s N) progOk (slices_partialInsertionSortCmpFunc_LI_gok N) (draw_ok progOk (slices_partialInsertionSortCmpFunc_LI_gok N)) (fun R k x ks => slices_partialInsertionSortCmpFunc_LI_l0_0_again N ks k x) (fun _ _ _ => rfl) (fun R k x ks => slices_partialInsertionSortCmpFunc_LI_l0_0_step N R k x ks) (fun R x ks r h => ⟨N, h⟩) (lsOk_at (L := []) trivial) (by kernel_rfl) (by kernel_rfl)
noncomputable def slices_partialInsertionSortCmpFunc_LI_l0_sh : Sh := ⟨[(0, .one (.ro LLI)), (1, .one (.ro I)), (2, .one (.ro I)), (3, .one (.ro GLILII)), (9, .one (.ro I)), (10, .one (.ro I))], []⟩
noncomputable def slices_partialInsertionSortCmpFunc_LI_l0_ex : List (Ex × Sh) := [(.ret, ⟨[(8, .one (.ro .bool))], []⟩), (.exit 0, ⟨[], []⟩)]
noncomputable def slices_partialInsertionSortCmpFunc_LI_l0 {R : Type} (N : Nat) (k0 : Bool → Option R) (k1 : Unit → Option R) : Nat → (List (List Int)) → Int → Int → ((List Int) → (List Int) → Option Int) → Int → Int → Option R
  | 0, _, _, _, _, _, _ => none
  | K + 1, x, x1, x2, x3, x4, x5 =>
    (br (ilt x5 5)
      (slices_partialInsertionSortCmpFunc_LI_l0_0 N (fun x6 x7 x8 x9 x10 x11 => (br (ieq x10 x8)
        (k0 true)
        ((br (ilt (IntKind.i64.wrap (x8 - x7)) 50)
          (k0 false)
          ((chk (inb x6 (IntKind.i64.wrap (x10 - 1)))
            (chk (inb x6 x10)
            (chk (inb x6 x10)
            none)))))))) N x x1 x2 x3 x4 x5)
      (k1 ()))
noncomputable def slices_partialInsertionSortCmpFunc_LI_l0_again {R : Type} (N : Nat) (ks : (j : Nat) → ((slices_partialInsertionSortCmpFunc_LI_l0_ex.getD j (.ret, Sh.none)).2).T → Option R) (k : Nat) (x : slices_partialInsertionSortCmpFunc_LI_l0_sh.T) : Option R :=
  slices_partialInsertionSortCmpFunc_LI_l0 N (fun y0 => ks 0 ((y0, ()), ())) (fun (_ : Unit) => ks 1 ((), ())) k x.1.1 x.1.2.1 x.1.2.2.1 x.1.2.2.2.1 x.1.2.2.2.2.1 x.1.2.2.2.2.2.1
noncomputable def slices_partialInsertionSortCmpFunc_LI_l0_s (N : Nat) : LSum := ⟨slices_partialInsertionSortCmpFunc_LI_l0_sh, slices_partialInsertionSortCmpFunc_LI_l0_ex, fun x ks => slices_partialInsertionSortCmpFunc_LI_l0_again N ks N x⟩
theorem slices_partialInsertionSortCmpFunc_LI_l0_step (N : Nat) (R : Type) (k : Nat) (x : slices_partialInsertionSortCmpFunc_LI_l0_sh.T) (ks : (j : Nat) → ((slices_partialInsertionSortCmpFunc_LI_l0_ex.getD j (.ret, Sh.none)).2).T → Option R) : slices_partialInsertionSortCmpFunc_LI_l0_again N ks (k + 1) x = roundF (slices_partialInsertionSortCmpFunc_LI_G N) tab [slices_partialInsertionSortCmpFunc_LI_l0_0_s N] (loopAt slices_partialInsertionSortCmpFunc_LI_code 0) slices_partialInsertionSortCmpFunc_LI_l0_sh slices_partialInsertionSortCmpFunc_LI_l0_ex (fun y => slices_partialInsertionSortCmpFunc_LI_l0_again N ks k y) ks x := by kernel_rfl
theorem slices_partialInsertionSortCmpFunc_LI_l0_ok (N : Nat) : LoopOk Tryz.prog Tryz.f171.ntmps (slices_partialInsertionSortCmpFunc_LI_l0_s N) (loopAt slices_partialInsertionSortCmpFunc_LI_code 0) :=
  loop_ok (l := slices_partialInsertionSortCmpFunc_LI_l0_s N) progOk (slices_partialInsertionSortCmpFunc_LI_gok N) (draw_ok progOk (slices_partialInsertionSortCmpFunc_LI_gok N)) (fun R k x ks => slices_partialInsertionSortCmpFunc_LI_l0_again N ks k x) (fun _ _ _ => rfl) (fun R k x ks => slices_partialInsertionSortCmpFunc_LI_l0_step N R k x ks) (fun R x ks r h => ⟨N, h⟩) (lsOk_at (L := [slices_partialInsertionSortCmpFunc_LI_l0_0_s N]) ⟨slices_partialInsertionSortCmpFunc_LI_l0_0_ok N, trivial⟩) (by kernel_rfl) (by kernel_rfl)
noncomputable def slices_partialInsertionSortCmpFunc_LI (N : Nat) (c : (List (List Int))) (c1 : Int) (c2 : Int) (c3 : ((List Int) → (List Int) → Option Int)) : Option ((Bool × Unit) × (Unit)) :=
  slices_partialInsertionSortCmpFunc_LI_l0 N (fun x => some ((x, ()), ())) (fun (_ : Unit) => some ((false, ()), ())) N c c1 c2 c3 (IntKind.i64.wrap (c1 + 1)) 0
noncomputable def slices_partialInsertionSortCmpFunc_LI_S (N : Nat) : FSum := ⟨slices_partialInsertionSortCmpFunc_LI_ps, slices_partialInsertionSortCmpFunc_LI_rs, fun x => slices_partialInsertionSortCmpFunc_LI N x.1 x.2.1 x.2.2.1 x.2.2.2.1⟩
theorem slices_partialInsertionSortCmpFunc_LI_run (N : Nat) (x : argsT slices_partialInsertionSortCmpFunc_LI_ps) : slices_partialInsertionSortCmpFunc_LI N x.1 x.2.1 x.2.2.1 x.2.2.2.1 = funF (slices_partialInsertionSortCmpFunc_LI_G N) tab [slices_partialInsertionSortCmpFunc_LI_l0_s N] Tryz.f171 slices_partialInsertionSortCmpFunc_LI_ps slices_partialInsertionSortCmpFunc_LI_rs x := by kernel_rfl
theorem slices_partialInsertionSortCmpFunc_LI_pc (N : Nat) : PC Tryz.prog 171 (slices_partialInsertionSortCmpFunc_LI_S N) := by
  have e : slices_partialInsertionSortCmpFunc_LI_S N = ⟨slices_partialInsertionSortCmpFunc_LI_ps, slices_partialInsertionSortCmpFunc_LI_rs, funF (slices_partialInsertionSortCmpFunc_LI_G N) tab [slices_partialInsertionSortCmpFunc_LI_l0_s N] Tryz.f171 slices_partialInsertionSortCmpFunc_LI_ps slices_partialInsertionSortCmpFunc_LI_rs⟩ := congrArg (FSum.mk slices_partialInsertionSortCmpFunc_LI_ps slices_partialInsertionSortCmpFunc_LI_rs) (funext (slices_partialInsertionSortCmpFunc_LI_run N))
  rw [e]
  exact fun_ok (c := slices_partialInsertionSortCmpFunc_LI_code) progOk (slices_partialInsertionSortCmpFunc_LI_gok N) (draw_ok progOk (slices_partialInsertionSortCmpFunc_LI_gok N)) Tryz.call171 Tryz.func171 (by kernel_rfl) (lsOk_at (L := [slices_partialInsertionSortCmpFunc_LI_l0_s N]) ⟨slices_partialInsertionSortCmpFunc_LI_l0_ok N, trivial⟩) (by kernel_rfl) (by kernel_rfl) (by kernel_rfl) (by kernel_rfl) (by kernel_rfl)

/-! ### slices_pdqsortCmpFunc_LI -/
abbrev slices_pdqsortCmpFunc_LI_ps : List (PV.Mode × Ty) := [(.ro, LLI), (.ro, I), (.ro, I), (.ro, I), (.ro, GLILII)]
abbrev slices_pdqsortCmpFunc_LI_rs : List (Bool × Ty) := []
noncomputable def slices_pdqsortCmpFunc_LI_G (N : Nat) : GTab := gOf [(166, slices_insertionSortCmpFunc_LI_S N), (169, slices_choosePivotCmpFunc_LI_S N), (171, slices_partialInsertionSortCmpFunc_LI_S N)]
theorem slices_pdqsortCmpFunc_LI_gok (N : Nat) : GOk Tryz.prog (slices_pdqsortCmpFunc_LI_G N) := gOf_ok ⟨slices_insertionSortCmpFunc_LI_pc N, slices_choosePivotCmpFunc_LI_pc N, slices_partialInsertionSortCmpFunc_LI_pc N, trivial⟩
noncomputable def slices_pdqsortCmpFunc_LI_code : Code := (Tryz.f129.body).getD .skip
noncomputable def slices_pdqsortCmpFunc_LI_l0_sh : Sh := ⟨[(0, .one (.ro LLI)), (1, .one (.ro I)), (2, .one (.ro I)), (3, .one (.ro I)), (4, .one (.ro GLILII)), (10, .one (.ro .bool)), (11, .one (.ro .bool))], []⟩
noncomputable def slices_pdqsortCmpFunc_LI_l0_ex : List (Ex × Sh) := [(.ret, ⟨[], []⟩)]
noncomputable def slices_pdqsortCmpFunc_LI_l0 {R : Type} (N : Nat) (k0 : Unit → Option R) : Nat → (List (List Int)) → Int → Int → Int → ((List Int) → (List Int) → Option Int) → Bool → Bool → Option R
  | 0, _, _, _, _, _, _, _ => none
  | K + 1, x, x1, x2, x3, x4, x5, x6 =>
    (br (ile (IntKind.i64.wrap (x2 - x1)) 12)
      (((slices_insertionSortCmpFunc_LI N x x1 x2 x4).bind fun r =>
        k0 ()))
      ((br (ieq x3 0)
        (none)
        ((br (!x5)
          (none)
          (((slices_choosePivotCmpFunc_LI N x x1 x2 x4).bind fun r1 =>
            (br (ieq r1.1.2.1 2)
              (none)
              ((br x5
                ((br x6
                  ((br (ieq r1.1.2.1 1)
                    (((slices_partialInsertionSortCmpFunc_LI N x x1 x2 x4).bind fun r2 =>
                      (br r2.1.1
                        (k0 ())
                        ((br (ilt 0 x1)
                          ((chk (inb x (IntKind.i64.wrap (x1 - 1)))
                            (chk (inb x r1.1.1)
                            ((x4 (rdL x (IntKind.i64.wrap (x1 - 1))) (rdL x r1.1.1)).bind fun v =>
                            (br (!(ilt v 0))
                            (none)
                            (none))))))
                          (none))))))
                    ((br (ilt 0 x1)
                      ((chk (inb x (IntKind.i64.wrap (x1 - 1)))
                        (chk (inb x r1.1.1)
                        ((x4 (rdL x (IntKind.i64.wrap (x1 - 1))) (rdL x r1.1.1)).bind fun v1 =>
                        (br (!(ilt v1 0))
                        (none)
                        (none))))))
                      (none)))))
                  ((br (ilt 0 x1)
                    ((chk (inb x (IntKind.i64.wrap (x1 - 1)))
                      (chk (inb x r1.1.1)
                      ((x4 (rdL x (IntKind.i64.wrap (x1 - 1))) (rdL x r1.1.1)).bind fun v2 =>
                      (br (!(ilt v2 0))
                      (none)
                      (none))))))
                    (none)))))
                ((br (ilt 0 x1)
                  ((chk (inb x (IntKind.i64.wrap (x1 - 1)))
                    (chk (inb x r1.1.1)
                    ((x4 (rdL x (IntKind.i64.wrap (x1 - 1))) (rdL x r1.1.1)).bind fun v3 =>
                    (br (!(ilt v3 0))
                    (none)
                    (none))))))
                  (none)))))))))))))
noncomputable def slices_pdqsortCmpFunc_LI_l0_again {R : Type} (N : Nat) (ks : (j : Nat) → ((slices_pdqsortCmpFunc_LI_l0_ex.getD j (.ret, Sh.none)).2).T → Option R) (k : Nat) (x : slices_pdqsortCmpFunc_LI_l0_sh.T) : Option R :=
  slices_pdqsortCmpFunc_LI_l0 N (fun (_ : Unit) => ks 0 ((), ())) k x.1.1 x.1.2.1 x.1.2.2.1 x.1.2.2.2.1 x.1.2.2.2.2.1 x.1.2.2.2.2.2.1 x.1.2.2.2.2.2.2.1
noncomputable def slices_pdqsortCmpFunc_LI_l0_s (N : Nat) : LSum := ⟨slices_pdqsortCmpFunc_LI_l0_sh, slices_pdqsortCmpFunc_LI_l0_ex, fun x ks => slices_pdqsortCmpFunc_LI_l0_again N ks N x⟩
theorem slices_pdqsortCmpFunc_LI_l0_step (N : Nat) (R : Type) (k : Nat) (x : slices_pdqsortCmpFunc_LI_l0_sh.T) (ks : (j : Nat) → ((slices_pdqsortCmpFunc_LI_l0_ex.getD j (.ret, Sh.none)).2).T → Option R) : slices_pdqsortCmpFunc_LI_l0_again N ks (k + 1) x = roundF (slices_pdqsortCmpFunc_LI_G N) tab [] (loopAt slices_pdqsortCmpFunc_LI_code 0) slices_pdqsortCmpFunc_LI_l0_sh slices_pdqsortCmpFunc_LI_l0_ex (fun y => slices_pdqsortCmpFunc_LI_l0_again N ks k y) ks x := by kernel_rfl
theorem slices_pdqsortCmpFunc_LI_l0_ok (N : Nat) : LoopOk Tryz.prog Tryz.f129.ntmps (slices_pdqsortCmpFunc_LI_l0_s N) (loopAt slices_pdqsortCmpFunc_LI_code 0) :=
  loop_ok (l := slices_pdqsortCmpFunc_LI_l0_s N) progOk (slices_pdqsortCmpFunc_LI_gok N) (draw_ok progOk (slices_pdqsortCmpFunc_LI_gok N)) (fun R k x ks => slices_pdqsortCmpFunc_LI_l0_again N ks k x) (fun _ _ _ => rfl) (fun R k x ks => slices_pdqsortCmpFunc_LI_l0_step N R k x ks) (fun R x ks r h => ⟨N, h⟩) (lsOk_at (L := []) trivial) (by kernel_rfl) (by kernel_rfl)
noncomputable def slices_pdqsortCmpFunc_LI (N : Nat) (c : (List (List Int))) (c1 : Int) (c2 : Int) (c3 : Int) (c4 : ((List Int) → (List Int) → Option Int)) : Option ((Unit) × (Unit)) :=
  slices_pdqsortCmpFunc_LI_l0 N (fun (_ : Unit) => some ((), ())) N c c1 c2 c3 c4 true true
noncomputable def slices_pdqsortCmpFunc_LI_S (N : Nat) : FSum := ⟨slices_pdqsortCmpFunc_LI_ps, slices_pdqsortCmpFunc_LI_rs, fun x => slices_pdqsortCmpFunc_LI N x.1 x.2.1 x.2.2.1 x.2.2.2.1 x.2.2.2.2.1⟩
theorem slices_pdqsortCmpFunc_LI_run (N : Nat) (x : argsT slices_pdqsortCmpFunc_LI_ps) : slices_pdqsortCmpFunc_LI N x.1 x.2.1 x.2.2.1 x.2.2.2.1 x.2.2.2.2.1 = funF (slices_pdqsortCmpFunc_LI_G N) tab [slices_pdqsortCmpFunc_LI_l0_s N] Tryz.f129 slices_pdqsortCmpFunc_LI_ps slices_pdqsortCmpFunc_LI_rs x := by kernel_rfl
theorem slices_pdqsortCmpFunc_LI_pc (N : Nat) : PC Tryz.prog 129 (slices_pdqsortCmpFunc_LI_S N) := by
  have e : slices_pdqsortCmpFunc_LI_S N = ⟨slices_pdqsortCmpFunc_LI_ps, slices_pdqsortCmpFunc_LI_rs, funF (slices_pdqsortCmpFunc_LI_G N) tab [slices_pdqsortCmpFunc_LI_l0_s N] Tryz.f129 slices_pdqsortCmpFunc_LI_ps slices_pdqsortCmpFunc_LI_rs⟩ := congrArg (FSum.mk slices_pdqsortCmpFunc_LI_ps slices_pdqsortCmpFunc_LI_rs) (funext (slices_pdqsortCmpFunc_LI_run N))
  rw [e]
  exact fun_ok (c := slices_pdqsortCmpFunc_LI_code) progOk (slices_pdqsortCmpFunc_LI_gok N) (draw_ok progOk (slices_pdqsortCmpFunc_LI_gok N)) Tryz.call129 Tryz.func129 (by kernel_rfl) (lsOk_at (L := [slices_pdqsortCmpFunc_LI_l0_s N]) ⟨slices_pdqsortCmpFunc_LI_l0_ok N, trivial⟩) (by kernel_rfl) (by kernel_rfl) (by kernel_rfl) (by kernel_rfl) (by kernel_rfl)

/-! ### slices_SortFunc_LLI_LI -/
abbrev slices_SortFunc_LLI_LI_ps : List (PV.Mode × Ty) := [(.ro, LLI), (.ro, GLILII)]
abbrev slices_SortFunc_LLI_LI_rs : List (Bool × Ty) := []
noncomputable def slices_SortFunc_LLI_LI_G (N : Nat) : GTab := gOf [(130, math_bits_Len_S N), (129, slices_pdqsortCmpFunc_LI_S N)]
theorem slices_SortFunc_LLI_LI_gok (N : Nat) : GOk Tryz.prog (slices_SortFunc_LLI_LI_G N) := gOf_ok ⟨math_bits_Len_pc N, slices_pdqsortCmpFunc_LI_pc N, trivial⟩
noncomputable def slices_SortFunc_LLI_LI_code : Code := (Tryz.f82.body).getD .skip
noncomputable def slices_SortFunc_LLI_LI (N : Nat) (x : (List (List Int))) (cmp : ((List Int) → (List Int) → Option Int)) : Option ((Unit) × (Unit)) :=
  ((math_bits_Len N (IntKind.u64.wrap ((tLen x)))).bind fun r =>
    ((slices_pdqsortCmpFunc_LI N x 0 (tLen x) r.1.1 cmp).bind fun r1 =>
      some ((), ())))
noncomputable def slices_SortFunc_LLI_LI_S (N : Nat) : FSum := ⟨slices_SortFunc_LLI_LI_ps, slices_SortFunc_LLI_LI_rs, fun x => slices_SortFunc_LLI_LI N x.1 x.2.1⟩
theorem slices_SortFunc_LLI_LI_run (N : Nat) (x : argsT slices_SortFunc_LLI_LI_ps) : slices_SortFunc_LLI_LI N x.1 x.2.1 = funF (slices_SortFunc_LLI_LI_G N) tab [] Tryz.f82 slices_SortFunc_LLI_LI_ps slices_SortFunc_LLI_LI_rs x := by kernel_rfl
theorem slices_SortFunc_LLI_LI_pc (N : Nat) : PC Tryz.prog 82 (slices_SortFunc_LLI_LI_S N) := by
  have e : slices_SortFunc_LLI_LI_S N = ⟨slices_SortFunc_LLI_LI_ps, slices_SortFunc_LLI_LI_rs, funF (slices_SortFunc_LLI_LI_G N) tab [] Tryz.f82 slices_SortFunc_LLI_LI_ps slices_SortFunc_LLI_LI_rs⟩ := congrArg (FSum.mk slices_SortFunc_LLI_LI_ps slices_SortFunc_LLI_LI_rs) (funext (slices_SortFunc_LLI_LI_run N))
  rw [e]
  exact fun_ok (c := slices_SortFunc_LLI_LI_code) progOk (slices_SortFunc_LLI_LI_gok N) (draw_ok progOk (slices_SortFunc_LLI_LI_gok N)) Tryz.call82 Tryz.func82 (by kernel_rfl) (lsOk_at (L := []) trivial) (by kernel_rfl) (by kernel_rfl) (by kernel_rfl) (by kernel_rfl) (by kernel_rfl)

/-! ### slices_Compare_LI_int -/
abbrev slices_Compare_LI_int_ps : List (PV.Mode × Ty) := [(.ro, LI), (.ro, LI)]
abbrev slices_Compare_LI_int_rs : List (Bool × Ty) := [(true, I)]
noncomputable def slices_Compare_LI_int_G (N : Nat) : GTab := gOf [(131, cmp_Compare_int_S N)]
theorem slices_Compare_LI_int_gok (N : Nat) : GOk Tryz.prog (slices_Compare_LI_int_G N) := gOf_ok ⟨cmp_Compare_int_pc N, trivial⟩
noncomputable def slices_Compare_LI_int_code : Code := (Tryz.f83.body).getD .skip
noncomputable def slices_Compare_LI_int_l0_sh : Sh := ⟨[(0, .one (.ro LI)), (1, .one (.ro LI)), (9, .one (.ro LI)), (10, .one (.ro I)), (11, .one (.ro I))], []⟩
noncomputable def slices_Compare_LI_int_l0_ex : List (Ex × Sh) := [(.ret, ⟨[(4, .one (.ro I))], []⟩), (.exit 0, ⟨[(0, .one (.ro LI)), (1, .one (.ro LI))], []⟩)]
noncomputable def slices_Compare_LI_int_l0 {R : Type} (N : Nat) (k0 : Int → Option R) (k1 : (List Int) → (List Int) → Option R) : Nat → (List Int) → (List Int) → (List Int) → Int → Int → Option R
  | 0, _, _, _, _, _ => none
  | K + 1, s11, s21, x, x1, x2 =>
    (br (ilt x2 x1)
      ((chk (inb x x2)
        (br (ile (tLen s21) x2)
        (k0 1)
        ((chk (inb s21 x2)
          ((cmp_Compare_int N (rdI x x2) (rdI s21 x2)).bind fun r =>
          (br (ine r.1.1 0)
            (k0 r.1.1)
            (slices_Compare_LI_int_l0 N k0 k1 K s11 s21 x x1 (IntKind.i64.wrap (x2 + 1))))))))))
      (k1 s11 s21))
noncomputable def slices_Compare_LI_int_l0_again {R : Type} (N : Nat) (ks : (j : Nat) → ((slices_Compare_LI_int_l0_ex.getD j (.ret, Sh.none)).2).T → Option R) (k : Nat) (x : slices_Compare_LI_int_l0_sh.T) : Option R :=
  slices_Compare_LI_int_l0 N (fun y0 => ks 0 ((y0, ()), ())) (fun y0 y1 => ks 1 ((y0, y1, ()), ())) k x.1.1 x.1.2.1 x.1.2.2.1 x.1.2.2.2.1 x.1.2.2.2.2.1
noncomputable def slices_Compare_LI_int_l0_s (N : Nat) : LSum := ⟨slices_Compare_LI_int_l0_sh, slices_Compare_LI_int_l0_ex, fun x ks => slices_Compare_LI_int_l0_again N ks N x⟩
theorem slices_Compare_LI_int_l0_step (N : Nat) (R : Type) (k : Nat) (x : slices_Compare_LI_int_l0_sh.T) (ks : (j : Nat) → ((slices_Compare_LI_int_l0_ex.getD j (.ret, Sh.none)).2).T → Option R) : slices_Compare_LI_int_l0_again N ks (k + 1) x = roundF (slices_Compare_LI_int_G N) tab [] (loopAt slices_Compare_LI_int_code 0) slices_Compare_LI_int_l0_sh slices_Compare_LI_int_l0_ex (fun y => slices_Compare_LI_int_l0_again N ks k y) ks x := by kernel_rfl
theorem slices_Compare_LI_int_l0_ok (N : Nat) : LoopOk Tryz.prog Tryz.f83.ntmps (slices_Compare_LI_int_l0_s N) (loopAt slices_Compare_LI_int_code 0) :=
  loop_ok (l := slices_Compare_LI_int_l0_s N) progOk (slices_Compare_LI_int_gok N) (draw_ok progOk (slices_Compare_LI_int_gok N)) (fun R k x ks => slices_Compare_LI_int_l0_again N ks k x) (fun _ _ _ => rfl) (fun R k x ks => slices_Compare_LI_int_l0_step N R k x ks) (fun R x ks r h => ⟨N, h⟩) (lsOk_at (L := []) trivial) (by kernel_rfl) (by kernel_rfl)
noncomputable def slices_Compare_LI_int (N : Nat) (s1 : (List Int)) (s2 : (List Int)) : Option ((Int × Unit) × (Unit)) :=
  slices_Compare_LI_int_l0 N (fun x => some ((x, ()), ())) (fun s11 s21 => (br (ilt (tLen s11) (tLen s21))
    (some (((-1), ()), ()))
    (some ((0, ()), ())))) N s1 s2 s1 (tLen s1) 0
noncomputable def slices_Compare_LI_int_S (N : Nat) : FSum := ⟨slices_Compare_LI_int_ps, slices_Compare_LI_int_rs, fun x => slices_Compare_LI_int N x.1 x.2.1⟩
theorem slices_Compare_LI_int_run (N : Nat) (x : argsT slices_Compare_LI_int_ps) : slices_Compare_LI_int N x.1 x.2.1 = funF (slices_Compare_LI_int_G N) tab [slices_Compare_LI_int_l0_s N] Tryz.f83 slices_Compare_LI_int_ps slices_Compare_LI_int_rs x := by kernel_rfl
theorem slices_Compare_LI_int_pc (N : Nat) : PC Tryz.prog 83 (slices_Compare_LI_int_S N) := by
  have e : slices_Compare_LI_int_S N = ⟨slices_Compare_LI_int_ps, slices_Compare_LI_int_rs, funF (slices_Compare_LI_int_G N) tab [slices_Compare_LI_int_l0_s N] Tryz.f83 slices_Compare_LI_int_ps slices_Compare_LI_int_rs⟩ := congrArg (FSum.mk slices_Compare_LI_int_ps slices_Compare_LI_int_rs) (funext (slices_Compare_LI_int_run N))
  rw [e]
  exact fun_ok (c := slices_Compare_LI_int_code) progOk (slices_Compare_LI_int_gok N) (draw_ok progOk (slices_Compare_LI_int_gok N)) Tryz.call83 Tryz.func83 (by kernel_rfl) (lsOk_at (L := [slices_Compare_LI_int_l0_s N]) ⟨slices_Compare_LI_int_l0_ok N, trivial⟩) (by kernel_rfl) (by kernel_rfl) (by kernel_rfl) (by kernel_rfl) (by kernel_rfl)

/-! ### impl_spaceOf -/
abbrev impl_spaceOf_ps : List (PV.Mode × Ty) := [(.own, LLI), (.ro, GLILIBo)]
abbrev impl_spaceOf_rs : List (Bool × Ty) := [(true, QLLILQII)]
noncomputable def impl_spaceOf_G (N : Nat) : GTab := gOf [(82, slices_SortFunc_LLI_LI_S N), (83, slices_Compare_LI_int_S N)]
theorem impl_spaceOf_gok (N : Nat) : GOk Tryz.prog (impl_spaceOf_G N) := gOf_ok ⟨slices_SortFunc_LLI_LI_pc N, slices_Compare_LI_int_pc N, trivial⟩
noncomputable def impl_spaceOf_code : Code := (Tryz.f44.body).getD .skip
noncomputable def impl_spaceOf_l0_0_sh : Sh := ⟨[(1, .one (.ro GLILIBo)), (4, .one (.adr 0 0)), (5, .one (.adr 1 0)), (6, .one (.ro I)), (7, .one (.el 2)), (16, .one (.ref 2)), (17, .one (.ro I)), (18, .one (.ro I)), (27, .one (.sub 2 1)), (28, .one (.ro I)), (29, .one (.ro I))], [.box [.nilsl, .nilsl], .box [.ref 2, .ref 3], .sl 40 LI .deep, .sl 93 QII .own]⟩
noncomputable def impl_spaceOf_l0_0_ex : List (Ex × Sh) := [(.exit 2, ⟨[(1, .one (.ro GLILIBo)), (4, .one (.adr 0 0)), (5, .one (.adr 1 0)), (16, .one (.ref 2)), (17, .one (.ro I)), (18, .one (.ro I))], [.box [.nilsl, .nilsl], .box [.ref 2, .ref 3], .sl 40 LI .deep, .sl 93 QII .own]⟩)]
noncomputable def impl_spaceOf_l0_0 {R : Type} (N : Nat) (k0 : ((List Int) → (List Int) → Option Bool) → Int → Int → (List (List Int)) → (List (Int × Int)) → Option R) : Nat → ((List Int) → (List Int) → Option Bool) → Int → Int → Int → Int → Int → Int → Int → Int → (List (List Int)) → (List (Int × Int)) → Option R
  | 0, _, _, _, _, _, _, _, _, _, _, _ => none
  | K + 1, isStep2, i, a, x2, x3, x4, x5, x6, x7, o2, o3 =>
    (br (ilt x7 x6)
      ((chk (ile 0 x7 && ilt x7 (x5 - x4))
        ((isStep2 (rdL o2 a) (rdL o2 (x4 + x7))).bind fun v =>
        (br v
        ((chk (room o3 [(i, (IntKind.i64.wrap ((IntKind.i64.wrap (i + 1)) + x7)))])
          (impl_spaceOf_l0_0 N k0 K isStep2 i a x2 x3 x4 x5 x6 (IntKind.i64.wrap (x7 + 1)) o2 (tApp o3 [(i, (IntKind.i64.wrap ((IntKind.i64.wrap (i + 1)) + x7)))]))))
        (impl_spaceOf_l0_0 N k0 K isStep2 i a x2 x3 x4 x5 x6 (IntKind.i64.wrap (x7 + 1)) o2 o3)))))
      (k0 isStep2 x2 x3 o2 o3))
noncomputable def impl_spaceOf_l0_0_again {R : Type} (N : Nat) (ks : (j : Nat) → ((impl_spaceOf_l0_0_ex.getD j (.ret, Sh.none)).2).T → Option R) (k : Nat) (x : impl_spaceOf_l0_0_sh.T) : Option R :=
  impl_spaceOf_l0_0 N (fun y0 y1 y2 y3 y4 => ks 0 ((y0, (), (), (), y1, y2, ()), (((), (), ()), ((), (), ()), y3, y4, ()))) k x.1.1 x.1.2.2.2.1 x.1.2.2.2.2.1 x.1.2.2.2.2.2.2.1 x.1.2.2.2.2.2.2.2.1 x.1.2.2.2.2.2.2.2.2.1.1 x.1.2.2.2.2.2.2.2.2.1.2 x.1.2.2.2.2.2.2.2.2.2.1 x.1.2.2.2.2.2.2.2.2.2.2.1 x.2.2.2.1 x.2.2.2.2.1
noncomputable def impl_spaceOf_l0_0_s (N : Nat) : LSum := ⟨impl_spaceOf_l0_0_sh, impl_spaceOf_l0_0_ex, fun x ks => impl_spaceOf_l0_0_again N ks N x⟩
theorem impl_spaceOf_l0_0_step (N : Nat) (R : Type) (k : Nat) (x : impl_spaceOf_l0_0_sh.T) (ks : (j : Nat) → ((impl_spaceOf_l0_0_ex.getD j (.ret, Sh.none)).2).T → Option R) : impl_spaceOf_l0_0_again N ks (k + 1) x = roundF (impl_spaceOf_G N) tab [] (loopAt (loopAt impl_spaceOf_code 0) 0) impl_spaceOf_l0_0_sh impl_spaceOf_l0_0_ex (fun y => impl_spaceOf_l0_0_again N ks k y) ks x := by kernel_rfl
theorem impl_spaceOf_l0_0_ok (N : Nat) : LoopOk Tryz.prog Tryz.f44.ntmps (impl_spaceOf_l0_0_s N) (loopAt (loopAt impl_spaceOf_code 0) 0) :=
  loop_ok (l := impl_spaceOf_l0_0_s N) progOk (impl_spaceOf_gok N) (draw_ok progOk (impl_spaceOf_gok N)) (fun R k x ks => impl_spaceOf_l0_0_again N ks k x) (fun _ _ _ => rfl) (fun R k x ks => impl_spaceOf_l0_0_step N R k x ks) (fun R x ks r h => ⟨N, h⟩) (lsOk_at (L := []) trivial) (by kernel_rfl) (by kernel_rfl)
noncomputable def impl_spaceOf_l0_sh : Sh := ⟨[(1, .one (.ro GLILIBo)), (4, .one (.adr 0 0)), (5, .one (.adr 1 0)), (16, .one (.ref 2)), (17, .one (.ro I)), (18, .one (.ro I))], [.box [.nilsl, .nilsl], .box [.ref 2, .ref 3], .sl 40 LI .deep, .sl 93 QII .own]⟩
noncomputable def impl_spaceOf_l0_ex : List (Ex × Sh) := [(.exit 0, ⟨[(4, .one (.adr 0 0)), (5, .one (.adr 1 0))], [.box [.nilsl, .nilsl], .box [.ref 2, .ref 3], .sl 40 LI .deep, .sl 93 QII .own]⟩)]
noncomputable def impl_spaceOf_l0 {R : Type} (N : Nat) (k0 : (List (List Int)) → (List (Int × Int)) → Option R) : Nat → ((List Int) → (List Int) → Option Bool) → Int → Int → (List (List Int)) → (List (Int × Int)) → Option R
  | 0, _, _, _, _, _ => none
  | K + 1, isStep1, x, x1, o, o1 =>
    (br (ilt x1 x)
      ((chk (inb o x1)
        (chk (ile 0 (IntKind.i64.wrap (x1 + 1)) && ile (IntKind.i64.wrap (x1 + 1)) (tLen o) && ile (tLen o) (tLen o))
        (impl_spaceOf_l0_0 N (fun isStep2 x2 x3 o2 o3 => impl_spaceOf_l0 N k0 K isStep2 x2 (IntKind.i64.wrap (x3 + 1)) o2 o3) N isStep1 x1 x1 x x1 (IntKind.i64.wrap (x1 + 1)) (tLen o) ((tLen o) - (IntKind.i64.wrap (x1 + 1))) 0 o o1))))
      (k0 o o1))
noncomputable def impl_spaceOf_l0_again {R : Type} (N : Nat) (ks : (j : Nat) → ((impl_spaceOf_l0_ex.getD j (.ret, Sh.none)).2).T → Option R) (k : Nat) (x : impl_spaceOf_l0_sh.T) : Option R :=
  impl_spaceOf_l0 N (fun y0 y1 => ks 0 (((), (), ()), (((), (), ()), ((), (), ()), y0, y1, ()))) k x.1.1 x.1.2.2.2.2.1 x.1.2.2.2.2.2.1 x.2.2.2.1 x.2.2.2.2.1
noncomputable def impl_spaceOf_l0_s (N : Nat) : LSum := ⟨impl_spaceOf_l0_sh, impl_spaceOf_l0_ex, fun x ks => impl_spaceOf_l0_again N ks N x⟩
theorem impl_spaceOf_l0_step (N : Nat) (R : Type) (k : Nat) (x : impl_spaceOf_l0_sh.T) (ks : (j : Nat) → ((impl_spaceOf_l0_ex.getD j (.ret, Sh.none)).2).T → Option R) : impl_spaceOf_l0_again N ks (k + 1) x = roundF (impl_spaceOf_G N) tab [impl_spaceOf_l0_0_s N] (loopAt impl_spaceOf_code 0) impl_spaceOf_l0_sh impl_spaceOf_l0_ex (fun y => impl_spaceOf_l0_again N ks k y) ks x := by kernel_rfl
theorem impl_spaceOf_l0_ok (N : Nat) : LoopOk Tryz.prog Tryz.f44.ntmps (impl_spaceOf_l0_s N) (loopAt impl_spaceOf_code 0) :=
  loop_ok (l := impl_spaceOf_l0_s N) progOk (impl_spaceOf_gok N) (draw_ok progOk (impl_spaceOf_gok N)) (fun R k x ks => impl_spaceOf_l0_again N ks k x) (fun _ _ _ => rfl) (fun R k x ks => impl_spaceOf_l0_step N R k x ks) (fun R x ks r h => ⟨N, h⟩) (lsOk_at (L := [impl_spaceOf_l0_0_s N]) ⟨impl_spaceOf_l0_0_ok N, trivial⟩) (by kernel_rfl) (by kernel_rfl)
noncomputable def impl_spaceOf (N : Nat) (states : (List (List Int))) (isStep : ((List Int) → (List Int) → Option Bool)) : Option ((((List (List Int)) × (List (Int × Int))) × Unit) × (Unit)) :=
  ((slices_SortFunc_LLI_LI N states (fun y0 y1 => (slices_Compare_LI_int N y0 y1).bind fun z => some z.1.1)).bind fun r =>
    impl_spaceOf_l0 N (fun o o1 => some (((o, o1), ()), ())) N isStep (tLen states) 0 states [])
noncomputable def impl_spaceOf_S (N : Nat) : FSum := ⟨impl_spaceOf_ps, impl_spaceOf_rs, fun x => impl_spaceOf N x.1 x.2.1⟩
theorem impl_spaceOf_run (N : Nat) (x : argsT impl_spaceOf_ps) : impl_spaceOf N x.1 x.2.1 = funF (impl_spaceOf_G N) tab [impl_spaceOf_l0_s N] Tryz.f44 impl_spaceOf_ps impl_spaceOf_rs x := by kernel_rfl
theorem impl_spaceOf_pc (N : Nat) : PC Tryz.prog 44 (impl_spaceOf_S N) := by
  have e : impl_spaceOf_S N = ⟨impl_spaceOf_ps, impl_spaceOf_rs, funF (impl_spaceOf_G N) tab [impl_spaceOf_l0_s N] Tryz.f44 impl_spaceOf_ps impl_spaceOf_rs⟩ := congrArg (FSum.mk impl_spaceOf_ps impl_spaceOf_rs) (funext (impl_spaceOf_run N))
  rw [e]
  exact fun_ok (c := impl_spaceOf_code) progOk (impl_spaceOf_gok N) (draw_ok progOk (impl_spaceOf_gok N)) Tryz.call44 Tryz.func44 (by kernel_rfl) (lsOk_at (L := [impl_spaceOf_l0_s N]) ⟨impl_spaceOf_l0_ok N, trivial⟩) (by kernel_rfl) (by kernel_rfl) (by kernel_rfl) (by kernel_rfl) (by kernel_rfl)

/-! ### impl_places -/
abbrev impl_places_ps : List (PV.Mode × Ty) := [(.ro, LI), (.ro, LI)]
abbrev impl_places_rs : List (Bool × Ty) := [(true, LI)]
noncomputable def impl_places_G (N : Nat) : GTab := gOf []
theorem impl_places_gok (N : Nat) : GOk Tryz.prog (impl_places_G N) := gOf_ok trivial
noncomputable def impl_places_code : Code := (Tryz.f46.body).getD .skip
noncomputable def impl_places_l0_sh : Sh := ⟨[(1, .one (.ro LI)), (5, .one (.ref 0)), (9, .one (.ro LI)), (10, .one (.ro I)), (11, .one (.ro I))], [.sl 3 I .own]⟩
noncomputable def impl_places_l0_ex : List (Ex × Sh) := [(.exit 0, ⟨[(5, .one (.ref 0))], [.sl 3 I .own]⟩)]
noncomputable def impl_places_l0 {R : Type} (N : Nat) (k0 : (List Int) → Option R) : Nat → (List Int) → (List Int) → Int → Int → (List Int) → Option R
  | 0, _, _, _, _, _ => none
  | K + 1, b1, x, x1, x2, o =>
    (br (ilt x2 x1)
      ((chk (inb x x2)
        (chk (inb b1 x2)
        (br (ine (rdI b1 x2) (rdI x x2))
        ((chk (room o [x2])
          (impl_places_l0 N k0 K b1 x x1 (IntKind.i64.wrap (x2 + 1)) (tApp o [x2]))))
        (impl_places_l0 N k0 K b1 x x1 (IntKind.i64.wrap (x2 + 1)) o)))))
      (k0 o))
noncomputable def impl_places_l0_again {R : Type} (N : Nat) (ks : (j : Nat) → ((impl_places_l0_ex.getD j (.ret, Sh.none)).2).T → Option R) (k : Nat) (x : impl_places_l0_sh.T) : Option R :=
  impl_places_l0 N (fun y0 => ks 0 (((), ()), (y0, ()))) k x.1.1 x.1.2.2.1 x.1.2.2.2.1 x.1.2.2.2.2.1 x.2.1
noncomputable def impl_places_l0_s (N : Nat) : LSum := ⟨impl_places_l0_sh, impl_places_l0_ex, fun x ks => impl_places_l0_again N ks N x⟩
theorem impl_places_l0_step (N : Nat) (R : Type) (k : Nat) (x : impl_places_l0_sh.T) (ks : (j : Nat) → ((impl_places_l0_ex.getD j (.ret, Sh.none)).2).T → Option R) : impl_places_l0_again N ks (k + 1) x = roundF (impl_places_G N) tab [] (loopAt impl_places_code 0) impl_places_l0_sh impl_places_l0_ex (fun y => impl_places_l0_again N ks k y) ks x := by kernel_rfl
theorem impl_places_l0_ok (N : Nat) : LoopOk Tryz.prog Tryz.f46.ntmps (impl_places_l0_s N) (loopAt impl_places_code 0) :=
  loop_ok (l := impl_places_l0_s N) progOk (impl_places_gok N) (draw_ok progOk (impl_places_gok N)) (fun R k x ks => impl_places_l0_again N ks k x) (fun _ _ _ => rfl) (fun R k x ks => impl_places_l0_step N R k x ks) (fun R x ks r h => ⟨N, h⟩) (lsOk_at (L := []) trivial) (by kernel_rfl) (by kernel_rfl)
noncomputable def impl_places (N : Nat) (a : (List Int)) (b : (List Int)) : Option (((List Int) × Unit) × (Unit)) :=
  impl_places_l0 N (fun o => some ((o, ()), ())) N b a (tLen a) 0 []
noncomputable def impl_places_S (N : Nat) : FSum := ⟨impl_places_ps, impl_places_rs, fun x => impl_places N x.1 x.2.1⟩
theorem impl_places_run (N : Nat) (x : argsT impl_places_ps) : impl_places N x.1 x.2.1 = funF (impl_places_G N) tab [impl_places_l0_s N] Tryz.f46 impl_places_ps impl_places_rs x := by kernel_rfl
theorem impl_places_pc (N : Nat) : PC Tryz.prog 46 (impl_places_S N) := by
  have e : impl_places_S N = ⟨impl_places_ps, impl_places_rs, funF (impl_places_G N) tab [impl_places_l0_s N] Tryz.f46 impl_places_ps impl_places_rs⟩ := congrArg (FSum.mk impl_places_ps impl_places_rs) (funext (impl_places_run N))
  rw [e]
  exact fun_ok (c := impl_places_code) progOk (impl_places_gok N) (draw_ok progOk (impl_places_gok N)) Tryz.call46 Tryz.func46 (by kernel_rfl) (lsOk_at (L := [impl_places_l0_s N]) ⟨impl_places_l0_ok N, trivial⟩) (by kernel_rfl) (by kernel_rfl) (by kernel_rfl) (by kernel_rfl) (by kernel_rfl)

/-! ### impl_isChange -/
abbrev impl_isChange_ps : List (PV.Mode × Ty) := [(.ro, LI), (.ro, LI)]
abbrev impl_isChange_rs : List (Bool × Ty) := [(true, .bool)]
noncomputable def impl_isChange_G (N : Nat) : GTab := gOf [(46, impl_places_S N)]
theorem impl_isChange_gok (N : Nat) : GOk Tryz.prog (impl_isChange_G N) := gOf_ok ⟨impl_places_pc N, trivial⟩
noncomputable def impl_isChange_code : Code := (Tryz.f95.body).getD .skip
noncomputable def impl_isChange (N : Nat) (a : (List Int)) (b : (List Int)) : Option ((Bool × Unit) × (Unit)) :=
  ((impl_places N a b).bind fun r =>
    some (((ieq (tLen r.1.1) 1), ()), ()))
noncomputable def impl_isChange_S (N : Nat) : FSum := ⟨impl_isChange_ps, impl_isChange_rs, fun x => impl_isChange N x.1 x.2.1⟩
theorem impl_isChange_run (N : Nat) (x : argsT impl_isChange_ps) : impl_isChange N x.1 x.2.1 = funF (impl_isChange_G N) tab [] Tryz.f95 impl_isChange_ps impl_isChange_rs x := by kernel_rfl
theorem impl_isChange_pc (N : Nat) : PC Tryz.prog 95 (impl_isChange_S N) := by
  have e : impl_isChange_S N = ⟨impl_isChange_ps, impl_isChange_rs, funF (impl_isChange_G N) tab [] Tryz.f95 impl_isChange_ps impl_isChange_rs⟩ := congrArg (FSum.mk impl_isChange_ps impl_isChange_rs) (funext (impl_isChange_run N))
  rw [e]
  exact fun_ok (c := impl_isChange_code) progOk (impl_isChange_gok N) (draw_ok progOk (impl_isChange_gok N)) Tryz.call95 Tryz.func95 (by kernel_rfl) (lsOk_at (L := []) trivial) (by kernel_rfl) (by kernel_rfl) (by kernel_rfl) (by kernel_rfl) (by kernel_rfl)

/-! ### impl_orNone -/
abbrev impl_orNone_ps : List (PV.Mode × Ty) := [(.own, QLLILQII)]
abbrev impl_orNone_rs : List (Bool × Ty) := [(true, QLLILQII), (true, .bool)]
noncomputable def impl_orNone_G (N : Nat) : GTab := gOf []
theorem impl_orNone_gok (N : Nat) : GOk Tryz.prog (impl_orNone_G N) := gOf_ok trivial
noncomputable def impl_orNone_code : Code := (Tryz.f43.body).getD .skip
noncomputable def impl_orNone (N : Nat) (x : ((List (List Int)) × (List (Int × Int)))) : Option ((((List (List Int)) × (List (Int × Int))) × Bool × Unit) × (Unit)) :=
  (br (ilt 300 (tLen x.1))
    (some ((([], []), false, ()), ()))
    ((br (ilt 6000 (tLen x.2))
      (some ((([], []), false, ()), ()))
      (some (((x.1, x.2), true, ()), ())))))
noncomputable def impl_orNone_S (N : Nat) : FSum := ⟨impl_orNone_ps, impl_orNone_rs, fun x => impl_orNone N x.1⟩
theorem impl_orNone_run (N : Nat) (x : argsT impl_orNone_ps) : impl_orNone N x.1 = funF (impl_orNone_G N) tab [] Tryz.f43 impl_orNone_ps impl_orNone_rs x := by kernel_rfl
theorem impl_orNone_pc (N : Nat) : PC Tryz.prog 43 (impl_orNone_S N) := by
  have e : impl_orNone_S N = ⟨impl_orNone_ps, impl_orNone_rs, funF (impl_orNone_G N) tab [] Tryz.f43 impl_orNone_ps impl_orNone_rs⟩ := congrArg (FSum.mk impl_orNone_ps impl_orNone_rs) (funext (impl_orNone_run N))
  rw [e]
  exact fun_ok (c := impl_orNone_code) progOk (impl_orNone_gok N) (draw_ok progOk (impl_orNone_gok N)) Tryz.call43 Tryz.func43 (by kernel_rfl) (lsOk_at (L := []) trivial) (by kernel_rfl) (by kernel_rfl) (by kernel_rfl) (by kernel_rfl) (by kernel_rfl)

/-! ### impl_ColourSpace -/
abbrev impl_ColourSpace_ps : List (PV.Mode × Ty) := [(.ro, QILQII), (.ro, I)]
abbrev impl_ColourSpace_rs : List (Bool × Ty) := [(true, QLLILQII), (true, .bool)]
noncomputable def impl_ColourSpace_G (N : Nat) : GTab := gOf [(42, impl_Colourings_S N), (44, impl_spaceOf_S N), (95, impl_isChange_S N), (43, impl_orNone_S N)]
theorem impl_ColourSpace_gok (N : Nat) : GOk Tryz.prog (impl_ColourSpace_G N) := gOf_ok ⟨impl_Colourings_pc N, impl_spaceOf_pc N, impl_isChange_pc N, impl_orNone_pc N, trivial⟩
noncomputable def impl_ColourSpace_code : Code := (Tryz.f62.body).getD .skip
noncomputable def impl_ColourSpace (N : Nat) (g : (Int × (List (Int × Int)))) (kv : Int) : Option ((((List (List Int)) × (List (Int × Int))) × Bool × Unit) × (Unit)) :=
  ((impl_Colourings N (g.1, g.2) kv).bind fun r =>
    (br (!r.1.2.1)
      (some ((([], []), false, ()), ()))
      (((impl_spaceOf N r.1.1 (fun y0 y1 => (impl_isChange N y0 y1).bind fun z => some z.1.1)).bind fun r1 =>
        ((impl_orNone N (r1.1.1.1, r1.1.1.2)).bind fun r2 =>
          some (((r2.1.1.1, r2.1.1.2), r2.1.2.1, ()), ()))))))
noncomputable def impl_ColourSpace_S (N : Nat) : FSum := ⟨impl_ColourSpace_ps, impl_ColourSpace_rs, fun x => impl_ColourSpace N x.1 x.2.1⟩
theorem impl_ColourSpace_run (N : Nat) (x : argsT impl_ColourSpace_ps) : impl_ColourSpace N x.1 x.2.1 = funF (impl_ColourSpace_G N) tab [] Tryz.f62 impl_ColourSpace_ps impl_ColourSpace_rs x := by kernel_rfl
theorem impl_ColourSpace_pc (N : Nat) : PC Tryz.prog 62 (impl_ColourSpace_S N) := by
  have e : impl_ColourSpace_S N = ⟨impl_ColourSpace_ps, impl_ColourSpace_rs, funF (impl_ColourSpace_G N) tab [] Tryz.f62 impl_ColourSpace_ps impl_ColourSpace_rs⟩ := congrArg (FSum.mk impl_ColourSpace_ps impl_ColourSpace_rs) (funext (impl_ColourSpace_run N))
  rw [e]
  exact fun_ok (c := impl_ColourSpace_code) progOk (impl_ColourSpace_gok N) (draw_ok progOk (impl_ColourSpace_gok N)) Tryz.call62 Tryz.func62 (by kernel_rfl) (lsOk_at (L := []) trivial) (by kernel_rfl) (by kernel_rfl) (by kernel_rfl) (by kernel_rfl) (by kernel_rfl)

/-! ### slices_IndexFunc_LLI_LI -/
abbrev slices_IndexFunc_LLI_LI_ps : List (PV.Mode × Ty) := [(.ro, LLI), (.ro, FLIBo)]
abbrev slices_IndexFunc_LLI_LI_rs : List (Bool × Ty) := [(true, I)]
noncomputable def slices_IndexFunc_LLI_LI_G (N : Nat) : GTab := gOf []
theorem slices_IndexFunc_LLI_LI_gok (N : Nat) : GOk Tryz.prog (slices_IndexFunc_LLI_LI_G N) := gOf_ok trivial
noncomputable def slices_IndexFunc_LLI_LI_code : Code := (Tryz.f143.body).getD .skip
noncomputable def slices_IndexFunc_LLI_LI_l0_sh : Sh := ⟨[(0, .one (.ro LLI)), (1, .one (.ro FLIBo)), (7, .one (.ro I)), (8, .one (.ro I))], []⟩
noncomputable def slices_IndexFunc_LLI_LI_l0_ex : List (Ex × Sh) := [(.ret, ⟨[(4, .one (.ro I))], []⟩), (.exit 0, ⟨[], []⟩)]
noncomputable def slices_IndexFunc_LLI_LI_l0 {R : Type} (N : Nat) (k0 : Int → Option R) (k1 : Unit → Option R) : Nat → (List (List Int)) → ((List Int) → Option Bool) → Int → Int → Option R
  | 0, _, _, _, _ => none
  | K + 1, s1, f1, x, x1 =>
    (br (ilt x1 x)
      ((chk (inb s1 x1)
        ((f1 (rdL s1 x1)).bind fun v =>
        (br v
        (k0 x1)
        (slices_IndexFunc_LLI_LI_l0 N k0 k1 K s1 f1 x (IntKind.i64.wrap (x1 + 1)))))))
      (k1 ()))
noncomputable def slices_IndexFunc_LLI_LI_l0_again {R : Type} (N : Nat) (ks : (j : Nat) → ((slices_IndexFunc_LLI_LI_l0_ex.getD j (.ret, Sh.none)).2).T → Option R) (k : Nat) (x : slices_IndexFunc_LLI_LI_l0_sh.T) : Option R :=
  slices_IndexFunc_LLI_LI_l0 N (fun y0 => ks 0 ((y0, ()), ())) (fun (_ : Unit) => ks 1 ((), ())) k x.1.1 x.1.2.1 x.1.2.2.1 x.1.2.2.2.1
noncomputable def slices_IndexFunc_LLI_LI_l0_s (N : Nat) : LSum := ⟨slices_IndexFunc_LLI_LI_l0_sh, slices_IndexFunc_LLI_LI_l0_ex, fun x ks => slices_IndexFunc_LLI_LI_l0_again N ks N x⟩
theorem slices_IndexFunc_LLI_LI_l0_step (N : Nat) (R : Type) (k : Nat) (x : slices_IndexFunc_LLI_LI_l0_sh.T) (ks : (j : Nat) → ((slices_IndexFunc_LLI_LI_l0_ex.getD j (.ret, Sh.none)).2).T → Option R) : slices_IndexFunc_LLI_LI_l0_again N ks (k + 1) x = roundF (slices_IndexFunc_LLI_LI_G N) tab [] (loopAt slices_IndexFunc_LLI_LI_code 0) slices_IndexFunc_LLI_LI_l0_sh slices_IndexFunc_LLI_LI_l0_ex (fun y => slices_IndexFunc_LLI_LI_l0_again N ks k y) ks x := by kernel_rfl
theorem slices_IndexFunc_LLI_LI_l0_ok (N : Nat) : LoopOk Tryz.prog Tryz.f143.ntmps (slices_IndexFunc_LLI_LI_l0_s N) (loopAt slices_IndexFunc_LLI_LI_code 0) :=
  loop_ok (l := slices_IndexFunc_LLI_LI_l0_s N) progOk (slices_IndexFunc_LLI_LI_gok N) (draw_ok progOk (slices_IndexFunc_LLI_LI_gok N)) (fun R k x ks => slices_IndexFunc_LLI_LI_l0_again N ks k x) (fun _ _ _ => rfl) (fun R k x ks => slices_IndexFunc_LLI_LI_l0_step N R k x ks) (fun R x ks r h => ⟨N, h⟩) (lsOk_at (L := []) trivial) (by kernel_rfl) (by kernel_rfl)
noncomputable def slices_IndexFunc_LLI_LI (N : Nat) (s : (List (List Int))) (f : ((List Int) → Option Bool)) : Option ((Int × Unit) × (Unit)) :=
  slices_IndexFunc_LLI_LI_l0 N (fun x => some ((x, ()), ())) (fun (_ : Unit) => some (((-1), ()), ())) N s f (tLen s) 0
noncomputable def slices_IndexFunc_LLI_LI_S (N : Nat) : FSum := ⟨slices_IndexFunc_LLI_LI_ps, slices_IndexFunc_LLI_LI_rs, fun x => slices_IndexFunc_LLI_LI N x.1 x.2.1⟩
theorem slices_IndexFunc_LLI_LI_run (N : Nat) (x : argsT slices_IndexFunc_LLI_LI_ps) : slices_IndexFunc_LLI_LI N x.1 x.2.1 = funF (slices_IndexFunc_LLI_LI_G N) tab [slices_IndexFunc_LLI_LI_l0_s N] Tryz.f143 slices_IndexFunc_LLI_LI_ps slices_IndexFunc_LLI_LI_rs x := by kernel_rfl
theorem slices_IndexFunc_LLI_LI_pc (N : Nat) : PC Tryz.prog 143 (slices_IndexFunc_LLI_LI_S N) := by
  have e : slices_IndexFunc_LLI_LI_S N = ⟨slices_IndexFunc_LLI_LI_ps, slices_IndexFunc_LLI_LI_rs, funF (slices_IndexFunc_LLI_LI_G N) tab [slices_IndexFunc_LLI_LI_l0_s N] Tryz.f143 slices_IndexFunc_LLI_LI_ps slices_IndexFunc_LLI_LI_rs⟩ := congrArg (FSum.mk slices_IndexFunc_LLI_LI_ps slices_IndexFunc_LLI_LI_rs) (funext (slices_IndexFunc_LLI_LI_run N))
  rw [e]
  exact fun_ok (c := slices_IndexFunc_LLI_LI_code) progOk (slices_IndexFunc_LLI_LI_gok N) (draw_ok progOk (slices_IndexFunc_LLI_LI_gok N)) Tryz.call143 Tryz.func143 (by kernel_rfl) (lsOk_at (L := [slices_IndexFunc_LLI_LI_l0_s N]) ⟨slices_IndexFunc_LLI_LI_l0_ok N, trivial⟩) (by kernel_rfl) (by kernel_rfl) (by kernel_rfl) (by kernel_rfl) (by kernel_rfl)

/-! ### slices_ContainsFunc_LLI_LI -/
abbrev slices_ContainsFunc_LLI_LI_ps : List (PV.Mode × Ty) := [(.ro, LLI), (.ro, FLIBo)]
abbrev slices_ContainsFunc_LLI_LI_rs : List (Bool × Ty) := [(true, .bool)]
noncomputable def slices_ContainsFunc_LLI_LI_G (N : Nat) : GTab := gOf [(143, slices_IndexFunc_LLI_LI_S N)]
theorem slices_ContainsFunc_LLI_LI_gok (N : Nat) : GOk Tryz.prog (slices_ContainsFunc_LLI_LI_G N) := gOf_ok ⟨slices_IndexFunc_LLI_LI_pc N, trivial⟩
noncomputable def slices_ContainsFunc_LLI_LI_code : Code := (Tryz.f102.body).getD .skip
noncomputable def slices_ContainsFunc_LLI_LI (N : Nat) (s : (List (List Int))) (f : ((List Int) → Option Bool)) : Option ((Bool × Unit) × (Unit)) :=
  ((slices_IndexFunc_LLI_LI N s f).bind fun r =>
    some (((ile 0 r.1.1), ()), ()))
noncomputable def slices_ContainsFunc_LLI_LI_S (N : Nat) : FSum := ⟨slices_ContainsFunc_LLI_LI_ps, slices_ContainsFunc_LLI_LI_rs, fun x => slices_ContainsFunc_LLI_LI N x.1 x.2.1⟩
theorem slices_ContainsFunc_LLI_LI_run (N : Nat) (x : argsT slices_ContainsFunc_LLI_LI_ps) : slices_ContainsFunc_LLI_LI N x.1 x.2.1 = funF (slices_ContainsFunc_LLI_LI_G N) tab [] Tryz.f102 slices_ContainsFunc_LLI_LI_ps slices_ContainsFunc_LLI_LI_rs x := by kernel_rfl
theorem slices_ContainsFunc_LLI_LI_pc (N : Nat) : PC Tryz.prog 102 (slices_ContainsFunc_LLI_LI_S N) := by
  have e : slices_ContainsFunc_LLI_LI_S N = ⟨slices_ContainsFunc_LLI_LI_ps, slices_ContainsFunc_LLI_LI_rs, funF (slices_ContainsFunc_LLI_LI_G N) tab [] Tryz.f102 slices_ContainsFunc_LLI_LI_ps slices_ContainsFunc_LLI_LI_rs⟩ := congrArg (FSum.mk slices_ContainsFunc_LLI_LI_ps slices_ContainsFunc_LLI_LI_rs) (funext (slices_ContainsFunc_LLI_LI_run N))
  rw [e]
  exact fun_ok (c := slices_ContainsFunc_LLI_LI_code) progOk (slices_ContainsFunc_LLI_LI_gok N) (draw_ok progOk (slices_ContainsFunc_LLI_LI_gok N)) Tryz.call102 Tryz.func102 (by kernel_rfl) (lsOk_at (L := []) trivial) (by kernel_rfl) (by kernel_rfl) (by kernel_rfl) (by kernel_rfl) (by kernel_rfl)

/-! ### impl_Graph_isColouring_c1 -/
abbrev impl_Graph_isColouring_c1_ps : List (PV.Mode × Ty) := [(.ro, I), (.ro, AI)]
abbrev impl_Graph_isColouring_c1_rs : List (Bool × Ty) := [(true, .bool)]
noncomputable def impl_Graph_isColouring_c1_G (N : Nat) : GTab := gOf [(124, impl_between_S N)]
theorem impl_Graph_isColouring_c1_gok (N : Nat) : GOk Tryz.prog (impl_Graph_isColouring_c1_G N) := gOf_ok ⟨impl_between_pc N, trivial⟩
noncomputable def impl_Graph_isColouring_c1_code : Code := (Tryz.f144.body).getD .skip
noncomputable def impl_Graph_isColouring_c1 (N : Nat) (c : Int) (c1 : Int) : Option ((Bool × Unit) × (Unit)) :=
  ((impl_between N c 0 (IntKind.i64.wrap (c1 - 1))).bind fun r =>
    some (((!r.1.1), ()), ()))
noncomputable def impl_Graph_isColouring_c1_S (N : Nat) : FSum := ⟨impl_Graph_isColouring_c1_ps, impl_Graph_isColouring_c1_rs, fun x => impl_Graph_isColouring_c1 N x.1 x.2.1⟩
theorem impl_Graph_isColouring_c1_run (N : Nat) (x : argsT impl_Graph_isColouring_c1_ps) : impl_Graph_isColouring_c1 N x.1 x.2.1 = funF (impl_Graph_isColouring_c1_G N) tab [] Tryz.f144 impl_Graph_isColouring_c1_ps impl_Graph_isColouring_c1_rs x := by kernel_rfl
theorem impl_Graph_isColouring_c1_pc (N : Nat) : PC Tryz.prog 144 (impl_Graph_isColouring_c1_S N) := by
  have e : impl_Graph_isColouring_c1_S N = ⟨impl_Graph_isColouring_c1_ps, impl_Graph_isColouring_c1_rs, funF (impl_Graph_isColouring_c1_G N) tab [] Tryz.f144 impl_Graph_isColouring_c1_ps impl_Graph_isColouring_c1_rs⟩ := congrArg (FSum.mk impl_Graph_isColouring_c1_ps impl_Graph_isColouring_c1_rs) (funext (impl_Graph_isColouring_c1_run N))
  rw [e]
  exact fun_ok (c := impl_Graph_isColouring_c1_code) progOk (impl_Graph_isColouring_c1_gok N) (draw_ok progOk (impl_Graph_isColouring_c1_gok N)) Tryz.call144 Tryz.func144 (by kernel_rfl) (lsOk_at (L := []) trivial) (by kernel_rfl) (by kernel_rfl) (by kernel_rfl) (by kernel_rfl) (by kernel_rfl)

/-! ### slices_IndexFunc_LP_P2 -/
abbrev slices_IndexFunc_LP_P2_ps : List (PV.Mode × Ty) := [(.ro, LQII), (.ro, FQIIBo)]
abbrev slices_IndexFunc_LP_P2_rs : List (Bool × Ty) := [(true, I)]
noncomputable def slices_IndexFunc_LP_P2_G (N : Nat) : GTab := gOf []
theorem slices_IndexFunc_LP_P2_gok (N : Nat) : GOk Tryz.prog (slices_IndexFunc_LP_P2_G N) := gOf_ok trivial
noncomputable def slices_IndexFunc_LP_P2_code : Code := (Tryz.f183.body).getD .skip
noncomputable def slices_IndexFunc_LP_P2_l0_sh : Sh := ⟨[(0, .one (.ro LQII)), (1, .one (.ro FQIIBo)), (7, .one (.ro I)), (8, .one (.ro I))], []⟩
noncomputable def slices_IndexFunc_LP_P2_l0_ex : List (Ex × Sh) := [(.ret, ⟨[(4, .one (.ro I))], []⟩), (.exit 0, ⟨[], []⟩)]
noncomputable def slices_IndexFunc_LP_P2_l0 {R : Type} (N : Nat) (k0 : Int → Option R) (k1 : Unit → Option R) : Nat → (List (Int × Int)) → ((Int × Int) → Option Bool) → Int → Int → Option R
  | 0, _, _, _, _ => none
  | K + 1, s1, f1, x, x1 =>
    (br (ilt x1 x)
      ((chk (inb s1 x1)
        ((f1 (rdP s1 x1)).bind fun v =>
        (br v
        (k0 x1)
        (slices_IndexFunc_LP_P2_l0 N k0 k1 K s1 f1 x (IntKind.i64.wrap (x1 + 1)))))))
      (k1 ()))
noncomputable def slices_IndexFunc_LP_P2_l0_again {R : Type} (N : Nat) (ks : (j : Nat) → ((slices_IndexFunc_LP_P2_l0_ex.getD j (.ret, Sh.none)).2).T → Option R) (k : Nat) (x : slices_IndexFunc_LP_P2_l0_sh.T) : Option R :=
  slices_IndexFunc_LP_P2_l0 N (fun y0 => ks 0 ((y0, ()), ())) (fun (_ : Unit) => ks 1 ((), ())) k x.1.1 x.1.2.1 x.1.2.2.1 x.1.2.2.2.1
noncomputable def slices_IndexFunc_LP_P2_l0_s (N : Nat) : LSum := ⟨slices_IndexFunc_LP_P2_l0_sh, slices_IndexFunc_LP_P2_l0_ex, fun x ks => slices_IndexFunc_LP_P2_l0_again N ks N x⟩
theorem slices_IndexFunc_LP_P2_l0_step (N : Nat) (R : Type) (k : Nat) (x : slices_IndexFunc_LP_P2_l0_sh.T) (ks : (j : Nat) → ((slices_IndexFunc_LP_P2_l0_ex.getD j (.ret, Sh.none)).2).T → Option R) : slices_IndexFunc_LP_P2_l0_again N ks (k + 1) x = roundF (slices_IndexFunc_LP_P2_G N) tab [] (loopAt slices_IndexFunc_LP_P2_code 0) slices_IndexFunc_LP_P2_l0_sh slices_IndexFunc_LP_P2_l0_ex (fun y => slices_IndexFunc_LP_P2_l0_again N ks k y) ks x := by kernel_rfl
theorem slices_IndexFunc_LP_P2_l0_ok (N : Nat) : LoopOk Tryz.prog Tryz.f183.ntmps (slices_IndexFunc_LP_P2_l0_s N) (loopAt slices_IndexFunc_LP_P2_code 0) :=
  loop_ok (l := slices_IndexFunc_LP_P2_l0_s N) progOk (slices_IndexFunc_LP_P2_gok N) (draw_ok progOk (slices_IndexFunc_LP_P2_gok N)) (fun R k x ks => slices_IndexFunc_LP_P2_l0_again N ks k x) (fun _ _ _ => rfl) (fun R k x ks => slices_IndexFunc_LP_P2_l0_step N R k x ks) (fun R x ks r h => ⟨N, h⟩) (lsOk_at (L := []) trivial) (by kernel_rfl) (by kernel_rfl)
noncomputable def slices_IndexFunc_LP_P2 (N : Nat) (s : (List (Int × Int))) (f : ((Int × Int) → Option Bool)) : Option ((Int × Unit) × (Unit)) :=
  slices_IndexFunc_LP_P2_l0 N (fun x => some ((x, ()), ())) (fun (_ : Unit) => some (((-1), ()), ())) N s f (tLen s) 0
noncomputable def slices_IndexFunc_LP_P2_S (N : Nat) : FSum := ⟨slices_IndexFunc_LP_P2_ps, slices_IndexFunc_LP_P2_rs, fun x => slices_IndexFunc_LP_P2 N x.1 x.2.1⟩
theorem slices_IndexFunc_LP_P2_run (N : Nat) (x : argsT slices_IndexFunc_LP_P2_ps) : slices_IndexFunc_LP_P2 N x.1 x.2.1 = funF (slices_IndexFunc_LP_P2_G N) tab [slices_IndexFunc_LP_P2_l0_s N] Tryz.f183 slices_IndexFunc_LP_P2_ps slices_IndexFunc_LP_P2_rs x := by kernel_rfl
theorem slices_IndexFunc_LP_P2_pc (N : Nat) : PC Tryz.prog 183 (slices_IndexFunc_LP_P2_S N) := by
  have e : slices_IndexFunc_LP_P2_S N = ⟨slices_IndexFunc_LP_P2_ps, slices_IndexFunc_LP_P2_rs, funF (slices_IndexFunc_LP_P2_G N) tab [slices_IndexFunc_LP_P2_l0_s N] Tryz.f183 slices_IndexFunc_LP_P2_ps slices_IndexFunc_LP_P2_rs⟩ := congrArg (FSum.mk slices_IndexFunc_LP_P2_ps slices_IndexFunc_LP_P2_rs) (funext (slices_IndexFunc_LP_P2_run N))
  rw [e]
  exact fun_ok (c := slices_IndexFunc_LP_P2_code) progOk (slices_IndexFunc_LP_P2_gok N) (draw_ok progOk (slices_IndexFunc_LP_P2_gok N)) Tryz.call183 Tryz.func183 (by kernel_rfl) (lsOk_at (L := [slices_IndexFunc_LP_P2_l0_s N]) ⟨slices_IndexFunc_LP_P2_l0_ok N, trivial⟩) (by kernel_rfl) (by kernel_rfl) (by kernel_rfl) (by kernel_rfl) (by kernel_rfl)

/-! ### slices_ContainsFunc_LP_P2 -/
abbrev slices_ContainsFunc_LP_P2_ps : List (PV.Mode × Ty) := [(.ro, LQII), (.ro, FQIIBo)]
abbrev slices_ContainsFunc_LP_P2_rs : List (Bool × Ty) := [(true, .bool)]
noncomputable def slices_ContainsFunc_LP_P2_G (N : Nat) : GTab := gOf [(183, slices_IndexFunc_LP_P2_S N)]
theorem slices_ContainsFunc_LP_P2_gok (N : Nat) : GOk Tryz.prog (slices_ContainsFunc_LP_P2_G N) := gOf_ok ⟨slices_IndexFunc_LP_P2_pc N, trivial⟩
noncomputable def slices_ContainsFunc_LP_P2_code : Code := (Tryz.f145.body).getD .skip
noncomputable def slices_ContainsFunc_LP_P2 (N : Nat) (s : (List (Int × Int))) (f : ((Int × Int) → Option Bool)) : Option ((Bool × Unit) × (Unit)) :=
  ((slices_IndexFunc_LP_P2 N s f).bind fun r =>
    some (((ile 0 r.1.1), ()), ()))
noncomputable def slices_ContainsFunc_LP_P2_S (N : Nat) : FSum := ⟨slices_ContainsFunc_LP_P2_ps, slices_ContainsFunc_LP_P2_rs, fun x => slices_ContainsFunc_LP_P2 N x.1 x.2.1⟩
theorem slices_ContainsFunc_LP_P2_run (N : Nat) (x : argsT slices_ContainsFunc_LP_P2_ps) : slices_ContainsFunc_LP_P2 N x.1 x.2.1 = funF (slices_ContainsFunc_LP_P2_G N) tab [] Tryz.f145 slices_ContainsFunc_LP_P2_ps slices_ContainsFunc_LP_P2_rs x := by kernel_rfl
theorem slices_ContainsFunc_LP_P2_pc (N : Nat) : PC Tryz.prog 145 (slices_ContainsFunc_LP_P2_S N) := by
  have e : slices_ContainsFunc_LP_P2_S N = ⟨slices_ContainsFunc_LP_P2_ps, slices_ContainsFunc_LP_P2_rs, funF (slices_ContainsFunc_LP_P2_G N) tab [] Tryz.f145 slices_ContainsFunc_LP_P2_ps slices_ContainsFunc_LP_P2_rs⟩ := congrArg (FSum.mk slices_ContainsFunc_LP_P2_ps slices_ContainsFunc_LP_P2_rs) (funext (slices_ContainsFunc_LP_P2_run N))
  rw [e]
  exact fun_ok (c := slices_ContainsFunc_LP_P2_code) progOk (slices_ContainsFunc_LP_P2_gok N) (draw_ok progOk (slices_ContainsFunc_LP_P2_gok N)) Tryz.call145 Tryz.func145 (by kernel_rfl) (lsOk_at (L := []) trivial) (by kernel_rfl) (by kernel_rfl) (by kernel_rfl) (by kernel_rfl) (by kernel_rfl)

/-! ### impl_Graph_isColouring_c2 -/
abbrev impl_Graph_isColouring_c2_ps : List (PV.Mode × Ty) := [(.ro, QII), (.ro, ALI)]
abbrev impl_Graph_isColouring_c2_rs : List (Bool × Ty) := [(true, .bool)]
noncomputable def impl_Graph_isColouring_c2_G (N : Nat) : GTab := gOf []
theorem impl_Graph_isColouring_c2_gok (N : Nat) : GOk Tryz.prog (impl_Graph_isColouring_c2_G N) := gOf_ok trivial
noncomputable def impl_Graph_isColouring_c2_code : Code := (Tryz.f146.body).getD .skip
noncomputable def impl_Graph_isColouring_c2 (N : Nat) (e : (Int × Int)) (c : (List Int)) : Option ((Bool × Unit) × (Unit)) :=
  (chk (inb c e.1)
    (chk (inb c e.2)
    (some (((ieq (rdI c e.1) (rdI c e.2)), ()), ()))))
noncomputable def impl_Graph_isColouring_c2_S (N : Nat) : FSum := ⟨impl_Graph_isColouring_c2_ps, impl_Graph_isColouring_c2_rs, fun x => impl_Graph_isColouring_c2 N x.1 x.2.1⟩
theorem impl_Graph_isColouring_c2_run (N : Nat) (x : argsT impl_Graph_isColouring_c2_ps) : impl_Graph_isColouring_c2 N x.1 x.2.1 = funF (impl_Graph_isColouring_c2_G N) tab [] Tryz.f146 impl_Graph_isColouring_c2_ps impl_Graph_isColouring_c2_rs x := by kernel_rfl
theorem impl_Graph_isColouring_c2_pc (N : Nat) : PC Tryz.prog 146 (impl_Graph_isColouring_c2_S N) := by
  have e : impl_Graph_isColouring_c2_S N = ⟨impl_Graph_isColouring_c2_ps, impl_Graph_isColouring_c2_rs, funF (impl_Graph_isColouring_c2_G N) tab [] Tryz.f146 impl_Graph_isColouring_c2_ps impl_Graph_isColouring_c2_rs⟩ := congrArg (FSum.mk impl_Graph_isColouring_c2_ps impl_Graph_isColouring_c2_rs) (funext (impl_Graph_isColouring_c2_run N))
  rw [e]
  exact fun_ok (c := impl_Graph_isColouring_c2_code) progOk (impl_Graph_isColouring_c2_gok N) (draw_ok progOk (impl_Graph_isColouring_c2_gok N)) Tryz.call146 Tryz.func146 (by kernel_rfl) (lsOk_at (L := []) trivial) (by kernel_rfl) (by kernel_rfl) (by kernel_rfl) (by kernel_rfl) (by kernel_rfl)

/-! ### impl_Graph_isColouring -/
abbrev impl_Graph_isColouring_ps : List (PV.Mode × Ty) := [(.ro, QILQII), (.ro, I), (.ro, LI)]
abbrev impl_Graph_isColouring_rs : List (Bool × Ty) := [(true, .bool)]
noncomputable def impl_Graph_isColouring_G (N : Nat) : GTab := gOf [(126, slices_ContainsFunc_LI_int_S N), (144, impl_Graph_isColouring_c1_S N), (145, slices_ContainsFunc_LP_P2_S N), (146, impl_Graph_isColouring_c2_S N)]
theorem impl_Graph_isColouring_gok (N : Nat) : GOk Tryz.prog (impl_Graph_isColouring_G N) := gOf_ok ⟨slices_ContainsFunc_LI_int_pc N, impl_Graph_isColouring_c1_pc N, slices_ContainsFunc_LP_P2_pc N, impl_Graph_isColouring_c2_pc N, trivial⟩
noncomputable def impl_Graph_isColouring_code : Code := (Tryz.f104.body).getD .skip
noncomputable def impl_Graph_isColouring (N : Nat) (g : (Int × (List (Int × Int)))) (kv : Int) (colours : (List Int)) : Option ((Bool × Unit) × (Unit)) :=
  (br (ine (tLen colours) g.1)
    (some ((false, ()), ()))
    (((slices_ContainsFunc_LI_int N colours (fun y0 => (impl_Graph_isColouring_c1 N y0 kv).bind fun z => some z.1.1)).bind fun r =>
      (br r.1.1
        (some ((false, ()), ()))
        (((slices_ContainsFunc_LP_P2 N g.2 (fun y0 => (impl_Graph_isColouring_c2 N y0 colours).bind fun z => some z.1.1)).bind fun r1 =>
          some (((!r1.1.1), ()), ())))))))
noncomputable def impl_Graph_isColouring_S (N : Nat) : FSum := ⟨impl_Graph_isColouring_ps, impl_Graph_isColouring_rs, fun x => impl_Graph_isColouring N x.1 x.2.1 x.2.2.1⟩
theorem impl_Graph_isColouring_run (N : Nat) (x : argsT impl_Graph_isColouring_ps) : impl_Graph_isColouring N x.1 x.2.1 x.2.2.1 = funF (impl_Graph_isColouring_G N) tab [] Tryz.f104 impl_Graph_isColouring_ps impl_Graph_isColouring_rs x := by kernel_rfl
theorem impl_Graph_isColouring_pc (N : Nat) : PC Tryz.prog 104 (impl_Graph_isColouring_S N) := by
  have e : impl_Graph_isColouring_S N = ⟨impl_Graph_isColouring_ps, impl_Graph_isColouring_rs, funF (impl_Graph_isColouring_G N) tab [] Tryz.f104 impl_Graph_isColouring_ps impl_Graph_isColouring_rs⟩ := congrArg (FSum.mk impl_Graph_isColouring_ps impl_Graph_isColouring_rs) (funext (impl_Graph_isColouring_run N))
  rw [e]
  exact fun_ok (c := impl_Graph_isColouring_code) progOk (impl_Graph_isColouring_gok N) (draw_ok progOk (impl_Graph_isColouring_gok N)) Tryz.call104 Tryz.func104 (by kernel_rfl) (lsOk_at (L := []) trivial) (by kernel_rfl) (by kernel_rfl) (by kernel_rfl) (by kernel_rfl) (by kernel_rfl)

/-! ### impl_isColoured_c1 -/
abbrev impl_isColoured_c1_ps : List (PV.Mode × Ty) := [(.ro, LI), (.ro, AQILQII), (.ro, AI)]
abbrev impl_isColoured_c1_rs : List (Bool × Ty) := [(true, .bool)]
noncomputable def impl_isColoured_c1_G (N : Nat) : GTab := gOf [(104, impl_Graph_isColouring_S N)]
theorem impl_isColoured_c1_gok (N : Nat) : GOk Tryz.prog (impl_isColoured_c1_G N) := gOf_ok ⟨impl_Graph_isColouring_pc N, trivial⟩
noncomputable def impl_isColoured_c1_code : Code := (Tryz.f103.body).getD .skip
noncomputable def impl_isColoured_c1 (N : Nat) (colours : (List Int)) (c : (Int × (List (Int × Int)))) (c1 : Int) : Option ((Bool × Unit) × (Unit)) :=
  ((impl_Graph_isColouring N c c1 colours).bind fun r =>
    some (((!r.1.1), ()), ()))
noncomputable def impl_isColoured_c1_S (N : Nat) : FSum := ⟨impl_isColoured_c1_ps, impl_isColoured_c1_rs, fun x => impl_isColoured_c1 N x.1 x.2.1 x.2.2.1⟩
theorem impl_isColoured_c1_run (N : Nat) (x : argsT impl_isColoured_c1_ps) : impl_isColoured_c1 N x.1 x.2.1 x.2.2.1 = funF (impl_isColoured_c1_G N) tab [] Tryz.f103 impl_isColoured_c1_ps impl_isColoured_c1_rs x := by kernel_rfl
theorem impl_isColoured_c1_pc (N : Nat) : PC Tryz.prog 103 (impl_isColoured_c1_S N) := by
  have e : impl_isColoured_c1_S N = ⟨impl_isColoured_c1_ps, impl_isColoured_c1_rs, funF (impl_isColoured_c1_G N) tab [] Tryz.f103 impl_isColoured_c1_ps impl_isColoured_c1_rs⟩ := congrArg (FSum.mk impl_isColoured_c1_ps impl_isColoured_c1_rs) (funext (impl_isColoured_c1_run N))
  rw [e]
  exact fun_ok (c := impl_isColoured_c1_code) progOk (impl_isColoured_c1_gok N) (draw_ok progOk (impl_isColoured_c1_gok N)) Tryz.call103 Tryz.func103 (by kernel_rfl) (lsOk_at (L := []) trivial) (by kernel_rfl) (by kernel_rfl) (by kernel_rfl) (by kernel_rfl) (by kernel_rfl)
end Go.Proofs.YtgelipdkheahdaaGreat
