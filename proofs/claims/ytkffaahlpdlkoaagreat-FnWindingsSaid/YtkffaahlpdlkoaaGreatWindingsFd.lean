/- Functions of the program as functions on data. -/
import Derived.Test.YtkffaahlpdlkoaaGreatWindingsFc
set_option linter.all false
namespace Go.Proofs.YtkffaahlpdlkoaaGreat
open Go Go.PV
/-! ### slices_Repeat_LI_int -/
abbrev slices_Repeat_LI_int_ps : List (PV.Mode × Ty) := [(.ro, LI), (.ro, I)]
abbrev slices_Repeat_LI_int_rs : List (Bool × Ty) := [(true, LI)]
noncomputable def slices_Repeat_LI_int_G (N : Nat) : GTab := gOf [(115, math_bits_Mul_S N)]
theorem slices_Repeat_LI_int_gok (N : Nat) : GOk Tryz.prog (slices_Repeat_LI_int_G N) := gOf_ok ⟨math_bits_Mul_pc N, trivial⟩
noncomputable def slices_Repeat_LI_int_code : Code := (Tryz.f64.body).getD .skip
noncomputable def slices_Repeat_LI_int_l0_sh : Sh := ⟨[(7, .one (.ref 0)), (8, .one (.ro I))], [.sl 3 I .own]⟩
noncomputable def slices_Repeat_LI_int_l0_ex : List (Ex × Sh) := [(.exit 0, ⟨[(7, .one (.ref 0))], [.sl 3 I .own]⟩)]
noncomputable def slices_Repeat_LI_int_l0 {R : Type} (N : Nat) (k0 : (List Int) → Option R) : Nat → Int → (List Int) → Option R
  | 0, _, _ => none
  | K + 1, n, o =>
    (br (ilt n (tLen o))
      ((chk (ile 0 n && ile n (tLen o) && ile (tLen o) (tLen o))
        (chk (ile 0 0 && ile 0 n && ile n (tLen o))
        (slices_Repeat_LI_int_l0 N k0 K (IntKind.i64.wrap (n + (tMin ((tLen o) - n) (tLen (tCut o 0 n))))) (tPut o n (tCut (tCut o 0 n) 0 (tMin ((tLen o) - n) (tLen (tCut o 0 n)))))))))
      (k0 o))
noncomputable def slices_Repeat_LI_int_l0_again {R : Type} (N : Nat) (ks : (j : Nat) → ((slices_Repeat_LI_int_l0_ex.getD j (.ret, Sh.none)).2).T → Option R) (k : Nat) (x : slices_Repeat_LI_int_l0_sh.T) : Option R :=
  slices_Repeat_LI_int_l0 N (fun y0 => ks 0 (((), ()), (y0, ()))) k x.1.2.1 x.2.1
noncomputable def slices_Repeat_LI_int_l0_s (N : Nat) : LSum := ⟨slices_Repeat_LI_int_l0_sh, slices_Repeat_LI_int_l0_ex, fun x ks => slices_Repeat_LI_int_l0_again N ks N x⟩
theorem slices_Repeat_LI_int_l0_step (N : Nat) (R : Type) (k : Nat) (x : slices_Repeat_LI_int_l0_sh.T) (ks : (j : Nat) → ((slices_Repeat_LI_int_l0_ex.getD j (.ret, Sh.none)).2).T → Option R) : slices_Repeat_LI_int_l0_again N ks (k + 1) x = roundF (slices_Repeat_LI_int_G N) tab [] (loopAt slices_Repeat_LI_int_code 0) slices_Repeat_LI_int_l0_sh slices_Repeat_LI_int_l0_ex (fun y => slices_Repeat_LI_int_l0_again N ks k y) ks x := by kernel_rfl
theorem slices_Repeat_LI_int_l0_ok (N : Nat) : LoopOk Tryz.prog Tryz.f64.ntmps (slices_Repeat_LI_int_l0_s N) (loopAt slices_Repeat_LI_int_code 0) :=
  loop_ok (l := slices_Repeat_LI_int_l0_s N) progOk (slices_Repeat_LI_int_gok N) (draw_ok progOk (slices_Repeat_LI_int_gok N)) (fun R k x ks => slices_Repeat_LI_int_l0_again N ks k x) (fun _ _ _ => rfl) (fun R k x ks => slices_Repeat_LI_int_l0_step N R k x ks) (fun R x ks r h => ⟨N, h⟩) (lsOk_at (L := []) trivial) (by kernel_rfl) (by kernel_rfl)
noncomputable def slices_Repeat_LI_int (N : Nat) (x : (List Int)) (count : Int) : Option (((List Int) × Unit) × (Unit)) :=
  (br (ilt count 0)
    (none)
    (((math_bits_Mul N (IntKind.u64.wrap ((tLen x))) (IntKind.u64.wrap (count))).bind fun r =>
      (br (ilt 0 r.1.1)
        (none)
        ((br (ilt 9223372036854775807 r.1.2.1)
          (none)
          ((chk (ile 0 (IntKind.i64.wrap (r.1.2.1)) && ile (IntKind.i64.wrap (r.1.2.1)) (IntKind.i64.wrap (r.1.2.1)) && fits (IntKind.i64.wrap (r.1.2.1)))
            (slices_Repeat_LI_int_l0 N (fun o => some ((o, ()), ())) N (tMin (tLen (tRep (IntKind.i64.wrap (r.1.2.1)) (0 : Int))) (tLen x)) (tPut (tRep (IntKind.i64.wrap (r.1.2.1)) (0 : Int)) 0 (tCut x 0 (tMin (tLen (tRep (IntKind.i64.wrap (r.1.2.1)) (0 : Int))) (tLen x)))))))))))))
noncomputable def slices_Repeat_LI_int_S (N : Nat) : FSum := ⟨slices_Repeat_LI_int_ps, slices_Repeat_LI_int_rs, fun x => slices_Repeat_LI_int N x.1 x.2.1⟩
theorem slices_Repeat_LI_int_run (N : Nat) (x : argsT slices_Repeat_LI_int_ps) : slices_Repeat_LI_int N x.1 x.2.1 = funF (slices_Repeat_LI_int_G N) tab [slices_Repeat_LI_int_l0_s N] Tryz.f64 slices_Repeat_LI_int_ps slices_Repeat_LI_int_rs x := by kernel_rfl
theorem slices_Repeat_LI_int_pc (N : Nat) : PC Tryz.prog 64 (slices_Repeat_LI_int_S N) := by
  have e : slices_Repeat_LI_int_S N = ⟨slices_Repeat_LI_int_ps, slices_Repeat_LI_int_rs, funF (slices_Repeat_LI_int_G N) tab [slices_Repeat_LI_int_l0_s N] Tryz.f64 slices_Repeat_LI_int_ps slices_Repeat_LI_int_rs⟩ := congrArg (FSum.mk slices_Repeat_LI_int_ps slices_Repeat_LI_int_rs) (funext (slices_Repeat_LI_int_run N))
  rw [e]
  exact fun_ok (c := slices_Repeat_LI_int_code) progOk (slices_Repeat_LI_int_gok N) (draw_ok progOk (slices_Repeat_LI_int_gok N)) Tryz.call64 Tryz.func64 (by kernel_rfl) (lsOk_at (L := [slices_Repeat_LI_int_l0_s N]) ⟨slices_Repeat_LI_int_l0_ok N, trivial⟩) (by kernel_rfl) (by kernel_rfl) (by kernel_rfl) (by kernel_rfl) (by kernel_rfl)

/-! ### impl_spread -/
abbrev impl_spread_ps : List (PV.Mode × Ty) := [(.ro, LLI), (.ro, I)]
abbrev impl_spread_rs : List (Bool × Ty) := [(true, LI)]
noncomputable def impl_spread_G (N : Nat) : GTab := gOf [(64, slices_Repeat_LI_int_S N)]
theorem impl_spread_gok (N : Nat) : GOk Tryz.prog (impl_spread_G N) := gOf_ok ⟨slices_Repeat_LI_int_pc N, trivial⟩
noncomputable def impl_spread_code : Code := (Tryz.f55.body).getD .skip
noncomputable def impl_spread_l0_0_sh : Sh := ⟨[(0, .one (.ro LLI)), (5, .one (.ref 0)), (6, .one (.sub 1 1)), (7, .one (.ro I)), (30, .one (.ro LI)), (31, .one (.ro I)), (32, .one (.ro I))], [.sl 3 I .own, .sl 3 I .own]⟩
noncomputable def impl_spread_l0_0_ex : List (Ex × Sh) := [(.exit 2, ⟨[(0, .one (.ro LLI)), (5, .one (.ref 0)), (6, .one (.sub 1 1))], [.sl 3 I .own, .sl 3 I .own]⟩)]
noncomputable def impl_spread_l0_0 {R : Type} (N : Nat) (k0 : (List (List Int)) → Int → Int → (List Int) → (List Int) → Option R) : Nat → (List (List Int)) → Int → Int → Int → (List Int) → Int → Int → (List Int) → (List Int) → Option R
  | 0, _, _, _, _, _, _, _, _, _ => none
  | K + 1, roads2, queue2, queue3, i, x, x1, x2, o2, o3 =>
    (br (ilt x2 x1)
      ((chk (inb x x2)
        (chk (inb o2 (rdI x x2))
        (br (ilt (rdI o2 (rdI x x2)) 0)
        ((chk (inb o2 i)
          (chk (inb o2 (rdI x x2))
          (chk (room (tCut o3 queue2 queue3) [(rdI x x2)])
          (impl_spread_l0_0 N k0 K roads2 0 (tLen (tApp (tCut o3 queue2 queue3) [(rdI x x2)])) i x x1 (IntKind.i64.wrap (x2 + 1)) (tSet o2 (rdI x x2) (IntKind.i64.wrap ((rdI o2 i) + 1))) (tApp (tCut o3 queue2 queue3) [(rdI x x2)]))))))
        (impl_spread_l0_0 N k0 K roads2 queue2 queue3 i x x1 (IntKind.i64.wrap (x2 + 1)) o2 o3)))))
      (k0 roads2 queue2 queue3 o2 o3))
noncomputable def impl_spread_l0_0_again {R : Type} (N : Nat) (ks : (j : Nat) → ((impl_spread_l0_0_ex.getD j (.ret, Sh.none)).2).T → Option R) (k : Nat) (x : impl_spread_l0_0_sh.T) : Option R :=
  impl_spread_l0_0 N (fun y0 y1 y2 y3 y4 => ks 0 ((y0, (), (y1, y2), ()), (y3, y4, ()))) k x.1.1 x.1.2.2.1.1 x.1.2.2.1.2 x.1.2.2.2.1 x.1.2.2.2.2.1 x.1.2.2.2.2.2.1 x.1.2.2.2.2.2.2.1 x.2.1 x.2.2.1
noncomputable def impl_spread_l0_0_s (N : Nat) : LSum := ⟨impl_spread_l0_0_sh, impl_spread_l0_0_ex, fun x ks => impl_spread_l0_0_again N ks N x⟩
theorem impl_spread_l0_0_step (N : Nat) (R : Type) (k : Nat) (x : impl_spread_l0_0_sh.T) (ks : (j : Nat) → ((impl_spread_l0_0_ex.getD j (.ret, Sh.none)).2).T → Option R) : impl_spread_l0_0_again N ks (k + 1) x = roundF (impl_spread_G N) tab [] (loopAt (loopAt impl_spread_code 0) 0) impl_spread_l0_0_sh impl_spread_l0_0_ex (fun y => impl_spread_l0_0_again N ks k y) ks x := by kernel_rfl
theorem impl_spread_l0_0_ok (N : Nat) : LoopOk Tryz.prog Tryz.f55.ntmps (impl_spread_l0_0_s N) (loopAt (loopAt impl_spread_code 0) 0) :=
  loop_ok (l := impl_spread_l0_0_s N) progOk (impl_spread_gok N) (draw_ok progOk (impl_spread_gok N)) (fun R k x ks => impl_spread_l0_0_again N ks k x) (fun _ _ _ => rfl) (fun R k x ks => impl_spread_l0_0_step N R k x ks) (fun R x ks r h => ⟨N, h⟩) (lsOk_at (L := []) trivial) (by kernel_rfl) (by kernel_rfl)
noncomputable def impl_spread_l0_sh : Sh := ⟨[(0, .one (.ro LLI)), (5, .one (.ref 0)), (6, .one (.sub 1 1))], [.sl 3 I .own, .sl 3 I .own]⟩
noncomputable def impl_spread_l0_ex : List (Ex × Sh) := [(.exit 0, ⟨[(5, .one (.ref 0))], [.sl 3 I .own]⟩)]
noncomputable def impl_spread_l0 {R : Type} (N : Nat) (k0 : (List Int) → Option R) : Nat → (List (List Int)) → Int → Int → (List Int) → (List Int) → Option R
  | 0, _, _, _, _, _ => none
  | K + 1, roads1, queue, queue1, o, o1 =>
    (br (ilt 0 (queue1 - queue))
      ((chk (ile 0 0 && ilt 0 (queue1 - queue))
        (chk (ile 0 1 && ile 1 (queue1 - queue) && ile (queue1 - queue) (queue1 - queue))
        (chk (inb roads1 (rdI o1 (queue + 0)))
        (impl_spread_l0_0 N (fun roads2 queue2 queue3 o2 o3 => impl_spread_l0 N k0 K roads2 queue2 queue3 o2 o3) N roads1 (queue + 1) (queue + (queue1 - queue)) (rdI o1 (queue + 0)) (rdL roads1 (rdI o1 (queue + 0))) (tLen (rdL roads1 (rdI o1 (queue + 0)))) 0 o o1)))))
      (k0 o))
noncomputable def impl_spread_l0_again {R : Type} (N : Nat) (ks : (j : Nat) → ((impl_spread_l0_ex.getD j (.ret, Sh.none)).2).T → Option R) (k : Nat) (x : impl_spread_l0_sh.T) : Option R :=
  impl_spread_l0 N (fun y0 => ks 0 (((), ()), (y0, ()))) k x.1.1 x.1.2.2.1.1 x.1.2.2.1.2 x.2.1 x.2.2.1
noncomputable def impl_spread_l0_s (N : Nat) : LSum := ⟨impl_spread_l0_sh, impl_spread_l0_ex, fun x ks => impl_spread_l0_again N ks N x⟩
theorem impl_spread_l0_step (N : Nat) (R : Type) (k : Nat) (x : impl_spread_l0_sh.T) (ks : (j : Nat) → ((impl_spread_l0_ex.getD j (.ret, Sh.none)).2).T → Option R) : impl_spread_l0_again N ks (k + 1) x = roundF (impl_spread_G N) tab [impl_spread_l0_0_s N] (loopAt impl_spread_code 0) impl_spread_l0_sh impl_spread_l0_ex (fun y => impl_spread_l0_again N ks k y) ks x := by kernel_rfl
theorem impl_spread_l0_ok (N : Nat) : LoopOk Tryz.prog Tryz.f55.ntmps (impl_spread_l0_s N) (loopAt impl_spread_code 0) :=
  loop_ok (l := impl_spread_l0_s N) progOk (impl_spread_gok N) (draw_ok progOk (impl_spread_gok N)) (fun R k x ks => impl_spread_l0_again N ks k x) (fun _ _ _ => rfl) (fun R k x ks => impl_spread_l0_step N R k x ks) (fun R x ks r h => ⟨N, h⟩) (lsOk_at (L := [impl_spread_l0_0_s N]) ⟨impl_spread_l0_0_ok N, trivial⟩) (by kernel_rfl) (by kernel_rfl)
noncomputable def impl_spread (N : Nat) (roads : (List (List Int))) (fromv : Int) : Option (((List Int) × Unit) × (Unit)) :=
  ((slices_Repeat_LI_int N [(-1)] (tLen roads)).bind fun r =>
    (chk (inb r.1.1 fromv)
      (impl_spread_l0 N (fun o => some ((o, ()), ())) N roads 0 (tLen [fromv]) (tSet r.1.1 fromv 0) [fromv])))
noncomputable def impl_spread_S (N : Nat) : FSum := ⟨impl_spread_ps, impl_spread_rs, fun x => impl_spread N x.1 x.2.1⟩
theorem impl_spread_run (N : Nat) (x : argsT impl_spread_ps) : impl_spread N x.1 x.2.1 = funF (impl_spread_G N) tab [impl_spread_l0_s N] Tryz.f55 impl_spread_ps impl_spread_rs x := by kernel_rfl
theorem impl_spread_pc (N : Nat) : PC Tryz.prog 55 (impl_spread_S N) := by
  have e : impl_spread_S N = ⟨impl_spread_ps, impl_spread_rs, funF (impl_spread_G N) tab [impl_spread_l0_s N] Tryz.f55 impl_spread_ps impl_spread_rs⟩ := congrArg (FSum.mk impl_spread_ps impl_spread_rs) (funext (impl_spread_run N))
  rw [e]
  exact fun_ok (c := impl_spread_code) progOk (impl_spread_gok N) (draw_ok progOk (impl_spread_gok N)) Tryz.call55 Tryz.func55 (by kernel_rfl) (lsOk_at (L := [impl_spread_l0_s N]) ⟨impl_spread_l0_ok N, trivial⟩) (by kernel_rfl) (by kernel_rfl) (by kernel_rfl) (by kernel_rfl) (by kernel_rfl)

/-! ### impl_DistancesFrom -/
abbrev impl_DistancesFrom_ps : List (PV.Mode × Ty) := [(.ro, QLLILQII), (.ro, I)]
abbrev impl_DistancesFrom_rs : List (Bool × Ty) := [(true, LI), (true, .bool)]
noncomputable def impl_DistancesFrom_G (N : Nat) : GTab := gOf [(52, impl_IsSpace_S N), (54, impl_Space_isPlace_S N), (56, impl_Space_roads_S N), (55, impl_spread_S N)]
theorem impl_DistancesFrom_gok (N : Nat) : GOk Tryz.prog (impl_DistancesFrom_G N) := gOf_ok ⟨impl_IsSpace_pc N, impl_Space_isPlace_pc N, impl_Space_roads_pc N, impl_spread_pc N, trivial⟩
noncomputable def impl_DistancesFrom_code : Code := (Tryz.f12.body).getD .skip
noncomputable def impl_DistancesFrom (N : Nat) (x : ((List (List Int)) × (List (Int × Int)))) (i : Int) : Option (((List Int) × Bool × Unit) × (Unit)) :=
  ((impl_IsSpace N (x.1, x.2)).bind fun r =>
    (br (!r.1.1)
      (some (([], false, ()), ()))
      (((impl_Space_isPlace N (x.1, x.2) i).bind fun r1 =>
        (br (!r1.1.1)
          (some (([], false, ()), ()))
          (((impl_Space_roads N (x.1, x.2)).bind fun r2 =>
            ((impl_spread N r2.1.1 i).bind fun r3 =>
              some ((r3.1.1, true, ()), ())))))))))
noncomputable def impl_DistancesFrom_S (N : Nat) : FSum := ⟨impl_DistancesFrom_ps, impl_DistancesFrom_rs, fun x => impl_DistancesFrom N x.1 x.2.1⟩
theorem impl_DistancesFrom_run (N : Nat) (x : argsT impl_DistancesFrom_ps) : impl_DistancesFrom N x.1 x.2.1 = funF (impl_DistancesFrom_G N) tab [] Tryz.f12 impl_DistancesFrom_ps impl_DistancesFrom_rs x := by kernel_rfl
theorem impl_DistancesFrom_pc (N : Nat) : PC Tryz.prog 12 (impl_DistancesFrom_S N) := by
  have e : impl_DistancesFrom_S N = ⟨impl_DistancesFrom_ps, impl_DistancesFrom_rs, funF (impl_DistancesFrom_G N) tab [] Tryz.f12 impl_DistancesFrom_ps impl_DistancesFrom_rs⟩ := congrArg (FSum.mk impl_DistancesFrom_ps impl_DistancesFrom_rs) (funext (impl_DistancesFrom_run N))
  rw [e]
  exact fun_ok (c := impl_DistancesFrom_code) progOk (impl_DistancesFrom_gok N) (draw_ok progOk (impl_DistancesFrom_gok N)) Tryz.call12 Tryz.func12 (by kernel_rfl) (lsOk_at (L := []) trivial) (by kernel_rfl) (by kernel_rfl) (by kernel_rfl) (by kernel_rfl) (by kernel_rfl)

/-! ### impl_Space_areValues_c1 -/
abbrev impl_Space_areValues_c1_ps : List (PV.Mode × Ty) := [(.ro, I)]
abbrev impl_Space_areValues_c1_rs : List (Bool × Ty) := [(true, .bool)]
noncomputable def impl_Space_areValues_c1_G (N : Nat) : GTab := gOf [(97, impl_between_S N)]
theorem impl_Space_areValues_c1_gok (N : Nat) : GOk Tryz.prog (impl_Space_areValues_c1_G N) := gOf_ok ⟨impl_between_pc N, trivial⟩
noncomputable def impl_Space_areValues_c1_code : Code := (Tryz.f107.body).getD .skip
noncomputable def impl_Space_areValues_c1 (N : Nat) (n : Int) : Option ((Bool × Unit) × (Unit)) :=
  ((impl_between N n (-1000000) 1000000).bind fun r =>
    some (((!r.1.1), ()), ()))
noncomputable def impl_Space_areValues_c1_S (N : Nat) : FSum := ⟨impl_Space_areValues_c1_ps, impl_Space_areValues_c1_rs, fun x => impl_Space_areValues_c1 N x.1⟩
theorem impl_Space_areValues_c1_run (N : Nat) (x : argsT impl_Space_areValues_c1_ps) : impl_Space_areValues_c1 N x.1 = funF (impl_Space_areValues_c1_G N) tab [] Tryz.f107 impl_Space_areValues_c1_ps impl_Space_areValues_c1_rs x := by kernel_rfl
theorem impl_Space_areValues_c1_pc (N : Nat) : PC Tryz.prog 107 (impl_Space_areValues_c1_S N) := by
  have e : impl_Space_areValues_c1_S N = ⟨impl_Space_areValues_c1_ps, impl_Space_areValues_c1_rs, funF (impl_Space_areValues_c1_G N) tab [] Tryz.f107 impl_Space_areValues_c1_ps impl_Space_areValues_c1_rs⟩ := congrArg (FSum.mk impl_Space_areValues_c1_ps impl_Space_areValues_c1_rs) (funext (impl_Space_areValues_c1_run N))
  rw [e]
  exact fun_ok (c := impl_Space_areValues_c1_code) progOk (impl_Space_areValues_c1_gok N) (draw_ok progOk (impl_Space_areValues_c1_gok N)) Tryz.call107 Tryz.func107 (by kernel_rfl) (lsOk_at (L := []) trivial) (by kernel_rfl) (by kernel_rfl) (by kernel_rfl) (by kernel_rfl) (by kernel_rfl)

/-! ### impl_Space_areValues -/
abbrev impl_Space_areValues_ps : List (PV.Mode × Ty) := [(.ro, QLLILQII), (.ro, LI)]
abbrev impl_Space_areValues_rs : List (Bool × Ty) := [(true, .bool)]
noncomputable def impl_Space_areValues_G (N : Nat) : GTab := gOf [(65, slices_ContainsFunc_LI_int_S N), (107, impl_Space_areValues_c1_S N)]
theorem impl_Space_areValues_gok (N : Nat) : GOk Tryz.prog (impl_Space_areValues_G N) := gOf_ok ⟨slices_ContainsFunc_LI_int_pc N, impl_Space_areValues_c1_pc N, trivial⟩
noncomputable def impl_Space_areValues_code : Code := (Tryz.f57.body).getD .skip
noncomputable def impl_Space_areValues (N : Nat) (x : ((List (List Int)) × (List (Int × Int)))) (list : (List Int)) : Option ((Bool × Unit) × (Unit)) :=
  (br (ieq (tLen list) (tLen x.1))
    (((slices_ContainsFunc_LI_int N list (fun y0 => (impl_Space_areValues_c1 N y0).bind fun z => some z.1.1)).bind fun r =>
      some (((!r.1.1), ()), ())))
    (some ((false, ()), ())))
noncomputable def impl_Space_areValues_S (N : Nat) : FSum := ⟨impl_Space_areValues_ps, impl_Space_areValues_rs, fun x => impl_Space_areValues N x.1 x.2.1⟩
theorem impl_Space_areValues_run (N : Nat) (x : argsT impl_Space_areValues_ps) : impl_Space_areValues N x.1 x.2.1 = funF (impl_Space_areValues_G N) tab [] Tryz.f57 impl_Space_areValues_ps impl_Space_areValues_rs x := by kernel_rfl
theorem impl_Space_areValues_pc (N : Nat) : PC Tryz.prog 57 (impl_Space_areValues_S N) := by
  have e : impl_Space_areValues_S N = ⟨impl_Space_areValues_ps, impl_Space_areValues_rs, funF (impl_Space_areValues_G N) tab [] Tryz.f57 impl_Space_areValues_ps impl_Space_areValues_rs⟩ := congrArg (FSum.mk impl_Space_areValues_ps impl_Space_areValues_rs) (funext (impl_Space_areValues_run N))
  rw [e]
  exact fun_ok (c := impl_Space_areValues_code) progOk (impl_Space_areValues_gok N) (draw_ok progOk (impl_Space_areValues_gok N)) Tryz.call57 Tryz.func57 (by kernel_rfl) (lsOk_at (L := []) trivial) (by kernel_rfl) (by kernel_rfl) (by kernel_rfl) (by kernel_rfl) (by kernel_rfl)

/-! ### impl_differ -/
abbrev impl_differ_ps : List (PV.Mode × Ty) := [(.ro, LI), (.ro, I), (.ro, I)]
abbrev impl_differ_rs : List (Bool × Ty) := [(true, I)]
noncomputable def impl_differ_G (N : Nat) : GTab := gOf []
theorem impl_differ_gok (N : Nat) : GOk Tryz.prog (impl_differ_G N) := gOf_ok trivial
noncomputable def impl_differ_code : Code := (Tryz.f110.body).getD .skip
noncomputable def impl_differ (N : Nat) (list : (List Int)) (i : Int) (j : Int) : Option ((Int × Unit) × (Unit)) :=
  (chk (inb list i)
    (chk (inb list j)
    (chk (inb list j)
    (chk (inb list i)
    (some (((if (IntKind.i64.wrap ((rdI list j) - (rdI list i))) > (IntKind.i64.wrap ((rdI list i) - (rdI list j))) then (IntKind.i64.wrap ((rdI list j) - (rdI list i))) else (IntKind.i64.wrap ((rdI list i) - (rdI list j)))), ()), ()))))))
noncomputable def impl_differ_S (N : Nat) : FSum := ⟨impl_differ_ps, impl_differ_rs, fun x => impl_differ N x.1 x.2.1 x.2.2.1⟩
theorem impl_differ_run (N : Nat) (x : argsT impl_differ_ps) : impl_differ N x.1 x.2.1 x.2.2.1 = funF (impl_differ_G N) tab [] Tryz.f110 impl_differ_ps impl_differ_rs x := by kernel_rfl
theorem impl_differ_pc (N : Nat) : PC Tryz.prog 110 (impl_differ_S N) := by
  have e : impl_differ_S N = ⟨impl_differ_ps, impl_differ_rs, funF (impl_differ_G N) tab [] Tryz.f110 impl_differ_ps impl_differ_rs⟩ := congrArg (FSum.mk impl_differ_ps impl_differ_rs) (funext (impl_differ_run N))
  rw [e]
  exact fun_ok (c := impl_differ_code) progOk (impl_differ_gok N) (draw_ok progOk (impl_differ_gok N)) Tryz.call110 Tryz.func110 (by kernel_rfl) (lsOk_at (L := []) trivial) (by kernel_rfl) (by kernel_rfl) (by kernel_rfl) (by kernel_rfl) (by kernel_rfl)

/-! ### impl_Space_within_c1 -/
abbrev impl_Space_within_c1_ps : List (PV.Mode × Ty) := [(.ro, QII), (.ro, ALI), (.ro, AI)]
abbrev impl_Space_within_c1_rs : List (Bool × Ty) := [(true, .bool)]
noncomputable def impl_Space_within_c1_G (N : Nat) : GTab := gOf [(110, impl_differ_S N)]
theorem impl_Space_within_c1_gok (N : Nat) : GOk Tryz.prog (impl_Space_within_c1_G N) := gOf_ok ⟨impl_differ_pc N, trivial⟩
noncomputable def impl_Space_within_c1_code : Code := (Tryz.f109.body).getD .skip
noncomputable def impl_Space_within_c1 (N : Nat) (s : (Int × Int)) (c : (List Int)) (c1 : Int) : Option ((Bool × Unit) × (Unit)) :=
  ((impl_differ N c s.1 s.2).bind fun r =>
    some (((ilt c1 r.1.1), ()), ()))
noncomputable def impl_Space_within_c1_S (N : Nat) : FSum := ⟨impl_Space_within_c1_ps, impl_Space_within_c1_rs, fun x => impl_Space_within_c1 N x.1 x.2.1 x.2.2.1⟩
theorem impl_Space_within_c1_run (N : Nat) (x : argsT impl_Space_within_c1_ps) : impl_Space_within_c1 N x.1 x.2.1 x.2.2.1 = funF (impl_Space_within_c1_G N) tab [] Tryz.f109 impl_Space_within_c1_ps impl_Space_within_c1_rs x := by kernel_rfl
theorem impl_Space_within_c1_pc (N : Nat) : PC Tryz.prog 109 (impl_Space_within_c1_S N) := by
  have e : impl_Space_within_c1_S N = ⟨impl_Space_within_c1_ps, impl_Space_within_c1_rs, funF (impl_Space_within_c1_G N) tab [] Tryz.f109 impl_Space_within_c1_ps impl_Space_within_c1_rs⟩ := congrArg (FSum.mk impl_Space_within_c1_ps impl_Space_within_c1_rs) (funext (impl_Space_within_c1_run N))
  rw [e]
  exact fun_ok (c := impl_Space_within_c1_code) progOk (impl_Space_within_c1_gok N) (draw_ok progOk (impl_Space_within_c1_gok N)) Tryz.call109 Tryz.func109 (by kernel_rfl) (lsOk_at (L := []) trivial) (by kernel_rfl) (by kernel_rfl) (by kernel_rfl) (by kernel_rfl) (by kernel_rfl)

/-! ### impl_Space_within -/
abbrev impl_Space_within_ps : List (PV.Mode × Ty) := [(.ro, QLLILQII), (.ro, LI), (.ro, I)]
abbrev impl_Space_within_rs : List (Bool × Ty) := [(true, .bool)]
noncomputable def impl_Space_within_G (N : Nat) : GTab := gOf [(108, slices_ContainsFunc_LP_P2_S N), (109, impl_Space_within_c1_S N)]
theorem impl_Space_within_gok (N : Nat) : GOk Tryz.prog (impl_Space_within_G N) := gOf_ok ⟨slices_ContainsFunc_LP_P2_pc N, impl_Space_within_c1_pc N, trivial⟩
noncomputable def impl_Space_within_code : Code := (Tryz.f58.body).getD .skip
noncomputable def impl_Space_within (N : Nat) (x : ((List (List Int)) × (List (Int × Int)))) (list : (List Int)) (most : Int) : Option ((Bool × Unit) × (Unit)) :=
  ((slices_ContainsFunc_LP_P2 N x.2 (fun y0 => (impl_Space_within_c1 N y0 list most).bind fun z => some z.1.1)).bind fun r =>
    some (((!r.1.1), ()), ()))
noncomputable def impl_Space_within_S (N : Nat) : FSum := ⟨impl_Space_within_ps, impl_Space_within_rs, fun x => impl_Space_within N x.1 x.2.1 x.2.2.1⟩
theorem impl_Space_within_run (N : Nat) (x : argsT impl_Space_within_ps) : impl_Space_within N x.1 x.2.1 x.2.2.1 = funF (impl_Space_within_G N) tab [] Tryz.f58 impl_Space_within_ps impl_Space_within_rs x := by kernel_rfl
theorem impl_Space_within_pc (N : Nat) : PC Tryz.prog 58 (impl_Space_within_S N) := by
  have e : impl_Space_within_S N = ⟨impl_Space_within_ps, impl_Space_within_rs, funF (impl_Space_within_G N) tab [] Tryz.f58 impl_Space_within_ps impl_Space_within_rs⟩ := congrArg (FSum.mk impl_Space_within_ps impl_Space_within_rs) (funext (impl_Space_within_run N))
  rw [e]
  exact fun_ok (c := impl_Space_within_code) progOk (impl_Space_within_gok N) (draw_ok progOk (impl_Space_within_gok N)) Tryz.call58 Tryz.func58 (by kernel_rfl) (lsOk_at (L := []) trivial) (by kernel_rfl) (by kernel_rfl) (by kernel_rfl) (by kernel_rfl) (by kernel_rfl)

/-! ### impl_AreKept -/
abbrev impl_AreKept_ps : List (PV.Mode × Ty) := [(.ro, QLLILQII), (.ro, LI)]
abbrev impl_AreKept_rs : List (Bool × Ty) := [(true, .bool), (true, .bool)]
noncomputable def impl_AreKept_G (N : Nat) : GTab := gOf [(52, impl_IsSpace_S N), (57, impl_Space_areValues_S N), (58, impl_Space_within_S N)]
theorem impl_AreKept_gok (N : Nat) : GOk Tryz.prog (impl_AreKept_G N) := gOf_ok ⟨impl_IsSpace_pc N, impl_Space_areValues_pc N, impl_Space_within_pc N, trivial⟩
noncomputable def impl_AreKept_code : Code := (Tryz.f13.body).getD .skip
noncomputable def impl_AreKept (N : Nat) (x : ((List (List Int)) × (List (Int × Int)))) (labels : (List Int)) : Option ((Bool × Bool × Unit) × (Unit)) :=
  ((impl_IsSpace N (x.1, x.2)).bind fun r =>
    (br (!r.1.1)
      (some ((false, false, ()), ()))
      (((impl_Space_areValues N (x.1, x.2) labels).bind fun r1 =>
        (br (!r1.1.1)
          (some ((false, false, ()), ()))
          (((impl_Space_within N (x.1, x.2) labels 0).bind fun r2 =>
            some ((r2.1.1, true, ()), ()))))))))
noncomputable def impl_AreKept_S (N : Nat) : FSum := ⟨impl_AreKept_ps, impl_AreKept_rs, fun x => impl_AreKept N x.1 x.2.1⟩
theorem impl_AreKept_run (N : Nat) (x : argsT impl_AreKept_ps) : impl_AreKept N x.1 x.2.1 = funF (impl_AreKept_G N) tab [] Tryz.f13 impl_AreKept_ps impl_AreKept_rs x := by kernel_rfl
theorem impl_AreKept_pc (N : Nat) : PC Tryz.prog 13 (impl_AreKept_S N) := by
  have e : impl_AreKept_S N = ⟨impl_AreKept_ps, impl_AreKept_rs, funF (impl_AreKept_G N) tab [] Tryz.f13 impl_AreKept_ps impl_AreKept_rs⟩ := congrArg (FSum.mk impl_AreKept_ps impl_AreKept_rs) (funext (impl_AreKept_run N))
  rw [e]
  exact fun_ok (c := impl_AreKept_code) progOk (impl_AreKept_gok N) (draw_ok progOk (impl_AreKept_gok N)) Tryz.call13 Tryz.func13 (by kernel_rfl) (lsOk_at (L := []) trivial) (by kernel_rfl) (by kernel_rfl) (by kernel_rfl) (by kernel_rfl) (by kernel_rfl)

/-! ### laws_FnWindings -/
abbrev laws_FnWindings_ps : List (PV.Mode × Ty) := [(.ro, LU8)]
abbrev laws_FnWindings_rs : List (Bool × Ty) := [(true, .bool)]
noncomputable def laws_FnWindings_G (N : Nat) : GTab := gOf [(6, laws_vBig_S N), (7, spec_DrawWindingOf_S N), (8, impl_WindingOf_S N), (9, spec_WindingOf_S N), (10, impl_ColourSpace_S N), (11, impl_PlaceOf_S N), (12, impl_DistancesFrom_S N), (13, impl_AreKept_S N)]
theorem laws_FnWindings_gok (N : Nat) : GOk Tryz.prog (laws_FnWindings_G N) := gOf_ok ⟨laws_vBig_pc N, spec_DrawWindingOf_pc N, impl_WindingOf_pc N, spec_WindingOf_pc N, impl_ColourSpace_pc N, impl_PlaceOf_pc N, impl_DistancesFrom_pc N, impl_AreKept_pc N, trivial⟩
noncomputable def laws_FnWindings_code : Code := (Tryz.f3.body).getD .skip
noncomputable def laws_FnWindings_l0_sh : Sh := ⟨[(3, .one (.adr 0 0)), (4, .one (.ro LI)), (5, .one (.ro LI)), (6, .one (.ro I)), (10, .one (.ref 1)), (11, .one (.ro I))], [.box [.ro I, .ro LQII], .sl 3 I .own]⟩
noncomputable def laws_FnWindings_l0_ex : List (Ex × Sh) := [(.exit 0, ⟨[(3, .one (.adr 0 0)), (4, .one (.ro LI)), (5, .one (.ro LI)), (6, .one (.ro I)), (10, .one (.ref 1))], [.box [.ro I, .ro LQII], .sl 3 I .own]⟩)]
noncomputable def laws_FnWindings_l0 {R : Type} (N : Nat) (k0 : (List Int) → (List Int) → Int → Int → (List (Int × Int)) → (List Int) → Option R) : Nat → (List Int) → (List Int) → Int → Int → Int → (List (Int × Int)) → (List Int) → Option R
  | 0, _, _, _, _, _, _, _ => none
  | K + 1, x, x1, x2, x3, o, o1, o2 =>
    (br (ile 0 x3)
      ((chk (inb x1 x3)
        (chk (room o2 [(rdI x1 x3)])
        (laws_FnWindings_l0 N k0 K x x1 x2 (IntKind.i64.wrap (x3 - 1)) o o1 (tApp o2 [(rdI x1 x3)])))))
      (k0 x x1 x2 o o1 o2))
noncomputable def laws_FnWindings_l0_again {R : Type} (N : Nat) (ks : (j : Nat) → ((laws_FnWindings_l0_ex.getD j (.ret, Sh.none)).2).T → Option R) (k : Nat) (x : laws_FnWindings_l0_sh.T) : Option R :=
  laws_FnWindings_l0 N (fun y0 y1 y2 y3 y4 y5 => ks 0 (((), y0, y1, y2, (), ()), ((y3, y4, ()), y5, ()))) k x.1.2.1 x.1.2.2.1 x.1.2.2.2.1 x.1.2.2.2.2.2.1 x.2.1.1 x.2.1.2.1 x.2.2.1
noncomputable def laws_FnWindings_l0_s (N : Nat) : LSum := ⟨laws_FnWindings_l0_sh, laws_FnWindings_l0_ex, fun x ks => laws_FnWindings_l0_again N ks N x⟩
theorem laws_FnWindings_l0_step (N : Nat) (R : Type) (k : Nat) (x : laws_FnWindings_l0_sh.T) (ks : (j : Nat) → ((laws_FnWindings_l0_ex.getD j (.ret, Sh.none)).2).T → Option R) : laws_FnWindings_l0_again N ks (k + 1) x = roundF (laws_FnWindings_G N) tab [] (loopAt laws_FnWindings_code 0) laws_FnWindings_l0_sh laws_FnWindings_l0_ex (fun y => laws_FnWindings_l0_again N ks k y) ks x := by kernel_rfl
theorem laws_FnWindings_l0_ok (N : Nat) : LoopOk Tryz.prog Tryz.f3.ntmps (laws_FnWindings_l0_s N) (loopAt laws_FnWindings_code 0) :=
  loop_ok (l := laws_FnWindings_l0_s N) progOk (laws_FnWindings_gok N) (draw_ok progOk (laws_FnWindings_gok N)) (fun R k x ks => laws_FnWindings_l0_again N ks k x) (fun _ _ _ => rfl) (fun R k x ks => laws_FnWindings_l0_step N R k x ks) (fun R x ks r h => ⟨N, h⟩) (lsOk_at (L := []) trivial) (by kernel_rfl) (by kernel_rfl)
noncomputable def laws_FnWindings_l1_sh : Sh := ⟨[(3, .one (.adr 0 0)), (5, .one (.ro LI)), (6, .one (.ro I)), (14, .one (.adr 1 0)), (18, .one (.ref 2)), (19, .one (.ro .bool)), (20, .one (.ref 3)), (21, .one (.ro I))], [.box [.ro I, .ro LQII], .box [.ref 4, .ref 5], .sl 3 I .own, .sl 3 I .own, .sl 27 LI .deep, .sl 49 QII .own]⟩
noncomputable def laws_FnWindings_l1_ex : List (Ex × Sh) := [(.ret, ⟨[(2, .one (.ro .bool))], []⟩), (.exit 2, ⟨[(14, .one (.adr 0 0)), (19, .one (.ro .bool)), (20, .one (.ref 1))], [.box [.ref 2, .ref 3], .sl 3 I .own, .sl 27 LI .deep, .sl 49 QII .own]⟩)]
noncomputable def laws_FnWindings_l1 {R : Type} (N : Nat) (k0 : Bool → Option R) (k1 : Bool → (List Int) → (List (List Int)) → (List (Int × Int)) → Option R) : Nat → (List Int) → Int → Bool → Int → Int → (List (Int × Int)) → (List Int) → (List Int) → (List (List Int)) → (List (Int × Int)) → Option R
  | 0, _, _, _, _, _, _, _, _, _, _ => none
  | K + 1, x3, x4, x5, x6, o3, o4, o5, o6, o7, o8 =>
    (br x5
      ((br (ilt x6 (tLen o5))
        ((chk (inb o7 x6)
          ((impl_WindingOf N (o3, o4) (rdL o7 x6) x3).bind fun r8 =>
          (br (!r8.1.2.1)
            (k0 false)
            ((chk (inb o5 x6)
              (br (ile 0 (rdI o5 x6))
              ((br (ine r8.1.1 x4)
                (k0 false)
                ((chk (room o6 [r8.1.1])
                  (laws_FnWindings_l1 N k0 k1 K x3 x4 x5 (IntKind.i64.wrap (x6 + 1)) o3 o4 o5 (tApp o6 [r8.1.1]) o7 o8)))))
              ((chk (room o6 [r8.1.1])
                (laws_FnWindings_l1 N k0 k1 K x3 x4 x5 (IntKind.i64.wrap (x6 + 1)) o3 o4 o5 (tApp o6 [r8.1.1]) o7 o8))))))))))
        (k1 x5 o6 o7 o8)))
      (k1 x5 o6 o7 o8))
noncomputable def laws_FnWindings_l1_again {R : Type} (N : Nat) (ks : (j : Nat) → ((laws_FnWindings_l1_ex.getD j (.ret, Sh.none)).2).T → Option R) (k : Nat) (x : laws_FnWindings_l1_sh.T) : Option R :=
  laws_FnWindings_l1 N (fun y0 => ks 0 ((y0, ()), ())) (fun y0 y1 y2 y3 => ks 1 (((), y0, (), ()), (((), (), ()), y1, y2, y3, ()))) k x.1.2.1 x.1.2.2.1 x.1.2.2.2.2.2.1 x.1.2.2.2.2.2.2.2.1 x.2.1.1 x.2.1.2.1 x.2.2.2.1 x.2.2.2.2.1 x.2.2.2.2.2.1 x.2.2.2.2.2.2.1
noncomputable def laws_FnWindings_l1_s (N : Nat) : LSum := ⟨laws_FnWindings_l1_sh, laws_FnWindings_l1_ex, fun x ks => laws_FnWindings_l1_again N ks N x⟩
theorem laws_FnWindings_l1_step (N : Nat) (R : Type) (k : Nat) (x : laws_FnWindings_l1_sh.T) (ks : (j : Nat) → ((laws_FnWindings_l1_ex.getD j (.ret, Sh.none)).2).T → Option R) : laws_FnWindings_l1_again N ks (k + 1) x = roundF (laws_FnWindings_G N) tab [] (loopAt laws_FnWindings_code 1) laws_FnWindings_l1_sh laws_FnWindings_l1_ex (fun y => laws_FnWindings_l1_again N ks k y) ks x := by kernel_rfl
theorem laws_FnWindings_l1_ok (N : Nat) : LoopOk Tryz.prog Tryz.f3.ntmps (laws_FnWindings_l1_s N) (loopAt laws_FnWindings_code 1) :=
  loop_ok (l := laws_FnWindings_l1_s N) progOk (laws_FnWindings_gok N) (draw_ok progOk (laws_FnWindings_gok N)) (fun R k x ks => laws_FnWindings_l1_again N ks k x) (fun _ _ _ => rfl) (fun R k x ks => laws_FnWindings_l1_step N R k x ks) (fun R x ks r h => ⟨N, h⟩) (lsOk_at (L := []) trivial) (by kernel_rfl) (by kernel_rfl)
noncomputable def laws_FnWindings (N : Nat) (c : (List Int)) : Option ((Bool × Unit) × (Unit)) :=
  ((laws_vBig N c).bind fun r =>
    (br r.1.1
      (some ((true, ()), ()))
      (((spec_DrawWindingOf N c).bind fun r1 =>
        ((impl_WindingOf N (r1.1.1.1, r1.1.1.2) r1.1.2.1 r1.1.2.2.1).bind fun r2 =>
          ((spec_WindingOf N (r1.1.1.1, r1.1.1.2) r1.1.2.1 r1.1.2.2.1).bind fun r3 =>
            (br (ine r2.1.1 r3.1.1)
              (some ((false, ()), ()))
              ((br (!(r2.1.2.1 == r3.1.2.1))
                (some ((false, ()), ()))
                ((br (!r2.1.2.1)
                  (some ((true, ()), ()))
                  (laws_FnWindings_l0 N (fun x x1 x2 o o1 o2 => ((impl_WindingOf N (o, o1) x o2).bind fun r4 =>
                    (br (!r4.1.2.1)
                      (some ((false, ()), ()))
                      ((br (ine r4.1.1 (IntKind.i64.wrap (0 - x2)))
                        (some ((false, ()), ()))
                        (((impl_ColourSpace N (o, o1) 3).bind fun r5 =>
                          (br (!r5.1.2.1)
                            (some ((true, ()), ()))
                            (((impl_PlaceOf N (r5.1.1.1, r5.1.1.2) x).bind fun r6 =>
                              ((impl_DistancesFrom N (r5.1.1.1, r5.1.1.2) r6.1.1).bind fun r7 =>
                                laws_FnWindings_l1 N (fun x3 => some ((x3, ()), ())) (fun x4 o3 o4 o5 => ((impl_AreKept N (o4, o5) o3).bind fun r8 =>
                                  (br x4
                                    ((br r8.1.2.1
                                      (some ((r8.1.1, ()), ()))
                                      (some ((false, ()), ()))))
                                    (some ((false, ()), ()))))) N x1 x2 r7.1.2.1 0 o o1 r7.1.1 [] r5.1.1.1 r5.1.1.2))))))))))) N r1.1.2.1 r1.1.2.2.1 r2.1.1 (IntKind.i64.wrap ((tLen r1.1.2.2.1) - 1)) r1.1.1.1 r1.1.1.2 []))))))))))))
noncomputable def laws_FnWindings_S (N : Nat) : FSum := ⟨laws_FnWindings_ps, laws_FnWindings_rs, fun x => laws_FnWindings N x.1⟩
theorem laws_FnWindings_run (N : Nat) (x : argsT laws_FnWindings_ps) : laws_FnWindings N x.1 = funF (laws_FnWindings_G N) tab [laws_FnWindings_l0_s N, laws_FnWindings_l1_s N] Tryz.f3 laws_FnWindings_ps laws_FnWindings_rs x := by kernel_rfl
theorem laws_FnWindings_pc (N : Nat) : PC Tryz.prog 3 (laws_FnWindings_S N) := by
  have e : laws_FnWindings_S N = ⟨laws_FnWindings_ps, laws_FnWindings_rs, funF (laws_FnWindings_G N) tab [laws_FnWindings_l0_s N, laws_FnWindings_l1_s N] Tryz.f3 laws_FnWindings_ps laws_FnWindings_rs⟩ := congrArg (FSum.mk laws_FnWindings_ps laws_FnWindings_rs) (funext (laws_FnWindings_run N))
  rw [e]
  exact fun_ok (c := laws_FnWindings_code) progOk (laws_FnWindings_gok N) (draw_ok progOk (laws_FnWindings_gok N)) Tryz.call3 Tryz.func3 (by kernel_rfl) (lsOk_at (L := [laws_FnWindings_l0_s N, laws_FnWindings_l1_s N]) ⟨laws_FnWindings_l0_ok N, laws_FnWindings_l1_ok N, trivial⟩) (by kernel_rfl) (by kernel_rfl) (by kernel_rfl) (by kernel_rfl) (by kernel_rfl)
end Go.Proofs.YtkffaahlpdlkoaaGreat
