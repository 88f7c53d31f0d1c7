/- Functions of the program as functions on data. -/
import Derived.Test.YtaodifjegdpifaaGreatHornSa
set_option linter.all false
namespace Go.Proofs.YtaodifjegdpifaaGreat
open Go Go.PV
/-! ### laws_rBig -/
abbrev laws_rBig_ps : List (PV.Mode × Ty) := [(.ro, LU8)]
abbrev laws_rBig_rs : List (Bool × Ty) := [(true, .bool)]
noncomputable def laws_rBig_G (N : Nat) : GTab := gOf []
theorem laws_rBig_gok (N : Nat) : GOk Tryz.prog (laws_rBig_G N) := gOf_ok trivial
noncomputable def laws_rBig_code : Code := (Tryz.f4.body).getD .skip
noncomputable def laws_rBig (N : Nat) (code : (List Int)) : Option ((Bool × Unit) × (Unit)) :=
  some (((ilt 65536 (tLen code)), ()), ())
noncomputable def laws_rBig_S (N : Nat) : FSum := ⟨laws_rBig_ps, laws_rBig_rs, fun x => laws_rBig N x.1⟩
theorem laws_rBig_run (N : Nat) (x : argsT laws_rBig_ps) : laws_rBig N x.1 = funF (laws_rBig_G N) tab [] Tryz.f4 laws_rBig_ps laws_rBig_rs x := by kernel_rfl
theorem laws_rBig_pc (N : Nat) : PC Tryz.prog 4 (laws_rBig_S N) := by
  have e : laws_rBig_S N = ⟨laws_rBig_ps, laws_rBig_rs, funF (laws_rBig_G N) tab [] Tryz.f4 laws_rBig_ps laws_rBig_rs⟩ := congrArg (FSum.mk laws_rBig_ps laws_rBig_rs) (funext (laws_rBig_run N))
  rw [e]
  exact fun_ok (c := laws_rBig_code) progOk (laws_rBig_gok N) (draw_ok progOk (laws_rBig_gok N)) Tryz.call4 Tryz.func4 (by kernel_rfl) (lsOk_at (L := []) trivial) (by kernel_rfl) (by kernel_rfl) (by kernel_rfl) (by kernel_rfl) (by kernel_rfl)

/-! ### spec_l1Cur_next -/
abbrev spec_l1Cur_next_ps : List (PV.Mode × Ty) := [(.mut, BQOU8QIU64)]
abbrev spec_l1Cur_next_rs : List (Bool × Ty) := [(true, I)]
noncomputable def spec_l1Cur_next_G (N : Nat) : GTab := gOf []
theorem spec_l1Cur_next_gok (N : Nat) : GOk Tryz.prog (spec_l1Cur_next_G N) := gOf_ok trivial
noncomputable def spec_l1Cur_next_code : Code := (Tryz.f54.body).getD .skip
noncomputable def spec_l1Cur_next (N : Nat) (c : ((List Int) × (Int × Int))) : Option ((Int × Unit) × (((List Int) × (Int × Int)) × Unit)) :=
  (br (ilt c.2.1 (tLen c.1))
    ((chk (inb c.1 c.2.1)
      (br (ile (IntKind.i64.wrap (c.2.1 + 1)) (tLen c.1))
      (some (((IntKind.i64.wrap ((rd U8 c.1 c.2.1))), ()), ((c.1, ((IntKind.i64.wrap (c.2.1 + 1)), (IntKind.u64.wrap ((IntKind.u64.wrap ((IntKind.u64.wrap (c.2.2 * 6364136223846793005)) + (IntKind.u64.wrap ((IntKind.i64.wrap ((rd U8 c.1 c.2.1))))))) + 462197)))), ())))
      (some (((IntKind.i64.wrap ((bitop .and .u64 (shrI .u64 (IntKind.u64.wrap ((IntKind.u64.wrap ((IntKind.u64.wrap (c.2.2 * 6364136223846793005)) + (IntKind.u64.wrap ((IntKind.i64.wrap ((rd U8 c.1 c.2.1))))))) + 462197)) 40) 255))), ()), ((c.1, ((IntKind.i64.wrap (c.2.1 + 1)), (IntKind.u64.wrap ((IntKind.u64.wrap ((IntKind.u64.wrap (c.2.2 * 6364136223846793005)) + (IntKind.u64.wrap ((IntKind.i64.wrap ((rd U8 c.1 c.2.1))))))) + 462197)))), ()))))))
    ((br (ile (IntKind.i64.wrap (c.2.1 + 1)) (tLen c.1))
      (some ((0, ()), ((c.1, ((IntKind.i64.wrap (c.2.1 + 1)), (IntKind.u64.wrap ((IntKind.u64.wrap ((IntKind.u64.wrap (c.2.2 * 6364136223846793005)) + 0)) + 462197)))), ())))
      (some (((IntKind.i64.wrap ((bitop .and .u64 (shrI .u64 (IntKind.u64.wrap ((IntKind.u64.wrap ((IntKind.u64.wrap (c.2.2 * 6364136223846793005)) + 0)) + 462197)) 40) 255))), ()), ((c.1, ((IntKind.i64.wrap (c.2.1 + 1)), (IntKind.u64.wrap ((IntKind.u64.wrap ((IntKind.u64.wrap (c.2.2 * 6364136223846793005)) + 0)) + 462197)))), ()))))))
noncomputable def spec_l1Cur_next_S (N : Nat) : FSum := ⟨spec_l1Cur_next_ps, spec_l1Cur_next_rs, fun x => spec_l1Cur_next N x.1⟩
theorem spec_l1Cur_next_run (N : Nat) (x : argsT spec_l1Cur_next_ps) : spec_l1Cur_next N x.1 = funF (spec_l1Cur_next_G N) tab [] Tryz.f54 spec_l1Cur_next_ps spec_l1Cur_next_rs x := by kernel_rfl
theorem spec_l1Cur_next_pc (N : Nat) : PC Tryz.prog 54 (spec_l1Cur_next_S N) := by
  have e : spec_l1Cur_next_S N = ⟨spec_l1Cur_next_ps, spec_l1Cur_next_rs, funF (spec_l1Cur_next_G N) tab [] Tryz.f54 spec_l1Cur_next_ps spec_l1Cur_next_rs⟩ := congrArg (FSum.mk spec_l1Cur_next_ps spec_l1Cur_next_rs) (funext (spec_l1Cur_next_run N))
  rw [e]
  exact fun_ok (c := spec_l1Cur_next_code) progOk (spec_l1Cur_next_gok N) (draw_ok progOk (spec_l1Cur_next_gok N)) Tryz.call54 Tryz.func54 (by kernel_rfl) (lsOk_at (L := []) trivial) (by kernel_rfl) (by kernel_rfl) (by kernel_rfl) (by kernel_rfl) (by kernel_rfl)

/-! ### spec_l1Cur_pick -/
abbrev spec_l1Cur_pick_ps : List (PV.Mode × Ty) := [(.mut, BQOU8QIU64), (.ro, I)]
abbrev spec_l1Cur_pick_rs : List (Bool × Ty) := [(true, I)]
noncomputable def spec_l1Cur_pick_G (N : Nat) : GTab := gOf [(54, spec_l1Cur_next_S N)]
theorem spec_l1Cur_pick_gok (N : Nat) : GOk Tryz.prog (spec_l1Cur_pick_G N) := gOf_ok ⟨spec_l1Cur_next_pc N, trivial⟩
noncomputable def spec_l1Cur_pick_code : Code := (Tryz.f30.body).getD .skip
noncomputable def spec_l1Cur_pick (N : Nat) (c : ((List Int) × (Int × Int))) (n : Int) : Option ((Int × Unit) × (((List Int) × (Int × Int)) × Unit)) :=
  (br (ile n 1)
    (some ((0, ()), (c, ())))
    (((spec_l1Cur_next N c).bind fun r =>
      (br (ilt 200 n)
        (((spec_l1Cur_next N r.2.1).bind fun r1 =>
          (chk (ine n 0)
            (some ((((IntKind.i64.wrap ((IntKind.i64.wrap (r.1.1 * 256)) + r1.1.1)).tmod n), ()), (r1.2.1, ()))))))
        ((chk (ine n 0)
          (some (((r.1.1.tmod n), ()), (r.2.1, ())))))))))
noncomputable def spec_l1Cur_pick_S (N : Nat) : FSum := ⟨spec_l1Cur_pick_ps, spec_l1Cur_pick_rs, fun x => spec_l1Cur_pick N x.1 x.2.1⟩
theorem spec_l1Cur_pick_run (N : Nat) (x : argsT spec_l1Cur_pick_ps) : spec_l1Cur_pick N x.1 x.2.1 = funF (spec_l1Cur_pick_G N) tab [] Tryz.f30 spec_l1Cur_pick_ps spec_l1Cur_pick_rs x := by kernel_rfl
theorem spec_l1Cur_pick_pc (N : Nat) : PC Tryz.prog 30 (spec_l1Cur_pick_S N) := by
  have e : spec_l1Cur_pick_S N = ⟨spec_l1Cur_pick_ps, spec_l1Cur_pick_rs, funF (spec_l1Cur_pick_G N) tab [] Tryz.f30 spec_l1Cur_pick_ps spec_l1Cur_pick_rs⟩ := congrArg (FSum.mk spec_l1Cur_pick_ps spec_l1Cur_pick_rs) (funext (spec_l1Cur_pick_run N))
  rw [e]
  exact fun_ok (c := spec_l1Cur_pick_code) progOk (spec_l1Cur_pick_gok N) (draw_ok progOk (spec_l1Cur_pick_gok N)) Tryz.call30 Tryz.func30 (by kernel_rfl) (lsOk_at (L := []) trivial) (by kernel_rfl) (by kernel_rfl) (by kernel_rfl) (by kernel_rfl) (by kernel_rfl)

/-! ### spec_l1Cur_among -/
abbrev spec_l1Cur_among_ps : List (PV.Mode × Ty) := [(.mut, BQOU8QIU64), (.ro, LI)]
abbrev spec_l1Cur_among_rs : List (Bool × Ty) := [(true, I)]
noncomputable def spec_l1Cur_among_G (N : Nat) : GTab := gOf [(30, spec_l1Cur_pick_S N)]
theorem spec_l1Cur_among_gok (N : Nat) : GOk Tryz.prog (spec_l1Cur_among_G N) := gOf_ok ⟨spec_l1Cur_pick_pc N, trivial⟩
noncomputable def spec_l1Cur_among_code : Code := (Tryz.f29.body).getD .skip
noncomputable def spec_l1Cur_among (N : Nat) (c : ((List Int) × (Int × Int))) (list : (List Int)) : Option ((Int × Unit) × (((List Int) × (Int × Int)) × Unit)) :=
  ((spec_l1Cur_pick N c (tLen list)).bind fun r =>
    (chk (inb list r.1.1)
      (some (((rdI list r.1.1), ()), (r.2.1, ())))))
noncomputable def spec_l1Cur_among_S (N : Nat) : FSum := ⟨spec_l1Cur_among_ps, spec_l1Cur_among_rs, fun x => spec_l1Cur_among N x.1 x.2.1⟩
theorem spec_l1Cur_among_run (N : Nat) (x : argsT spec_l1Cur_among_ps) : spec_l1Cur_among N x.1 x.2.1 = funF (spec_l1Cur_among_G N) tab [] Tryz.f29 spec_l1Cur_among_ps spec_l1Cur_among_rs x := by kernel_rfl
theorem spec_l1Cur_among_pc (N : Nat) : PC Tryz.prog 29 (spec_l1Cur_among_S N) := by
  have e : spec_l1Cur_among_S N = ⟨spec_l1Cur_among_ps, spec_l1Cur_among_rs, funF (spec_l1Cur_among_G N) tab [] Tryz.f29 spec_l1Cur_among_ps spec_l1Cur_among_rs⟩ := congrArg (FSum.mk spec_l1Cur_among_ps spec_l1Cur_among_rs) (funext (spec_l1Cur_among_run N))
  rw [e]
  exact fun_ok (c := spec_l1Cur_among_code) progOk (spec_l1Cur_among_gok N) (draw_ok progOk (spec_l1Cur_among_gok N)) Tryz.call29 Tryz.func29 (by kernel_rfl) (lsOk_at (L := []) trivial) (by kernel_rfl) (by kernel_rfl) (by kernel_rfl) (by kernel_rfl) (by kernel_rfl)

/-! ### spec_l1Cur_one -/
abbrev spec_l1Cur_one_ps : List (PV.Mode × Ty) := [(.mut, BQOU8QIU64), (.ro, I)]
abbrev spec_l1Cur_one_rs : List (Bool × Ty) := [(true, .bool)]
noncomputable def spec_l1Cur_one_G (N : Nat) : GTab := gOf [(30, spec_l1Cur_pick_S N)]
theorem spec_l1Cur_one_gok (N : Nat) : GOk Tryz.prog (spec_l1Cur_one_G N) := gOf_ok ⟨spec_l1Cur_pick_pc N, trivial⟩
noncomputable def spec_l1Cur_one_code : Code := (Tryz.f31.body).getD .skip
noncomputable def spec_l1Cur_one (N : Nat) (c : ((List Int) × (Int × Int))) (n : Int) : Option ((Bool × Unit) × (((List Int) × (Int × Int)) × Unit)) :=
  ((spec_l1Cur_pick N c n).bind fun r =>
    some (((ieq r.1.1 0), ()), (r.2.1, ())))
noncomputable def spec_l1Cur_one_S (N : Nat) : FSum := ⟨spec_l1Cur_one_ps, spec_l1Cur_one_rs, fun x => spec_l1Cur_one N x.1 x.2.1⟩
theorem spec_l1Cur_one_run (N : Nat) (x : argsT spec_l1Cur_one_ps) : spec_l1Cur_one N x.1 x.2.1 = funF (spec_l1Cur_one_G N) tab [] Tryz.f31 spec_l1Cur_one_ps spec_l1Cur_one_rs x := by kernel_rfl
theorem spec_l1Cur_one_pc (N : Nat) : PC Tryz.prog 31 (spec_l1Cur_one_S N) := by
  have e : spec_l1Cur_one_S N = ⟨spec_l1Cur_one_ps, spec_l1Cur_one_rs, funF (spec_l1Cur_one_G N) tab [] Tryz.f31 spec_l1Cur_one_ps spec_l1Cur_one_rs⟩ := congrArg (FSum.mk spec_l1Cur_one_ps spec_l1Cur_one_rs) (funext (spec_l1Cur_one_run N))
  rw [e]
  exact fun_ok (c := spec_l1Cur_one_code) progOk (spec_l1Cur_one_gok N) (draw_ok progOk (spec_l1Cur_one_gok N)) Tryz.call31 Tryz.func31 (by kernel_rfl) (lsOk_at (L := []) trivial) (by kernel_rfl) (by kernel_rfl) (by kernel_rfl) (by kernel_rfl) (by kernel_rfl)

/-! ### spec_l1Most -/
abbrev spec_l1Most_ps : List (PV.Mode × Ty) := [(.ro, I), (.ro, I)]
abbrev spec_l1Most_rs : List (Bool × Ty) := [(true, I)]
noncomputable def spec_l1Most_G (N : Nat) : GTab := gOf []
theorem spec_l1Most_gok (N : Nat) : GOk Tryz.prog (spec_l1Most_G N) := gOf_ok trivial
noncomputable def spec_l1Most_code : Code := (Tryz.f32.body).getD .skip
noncomputable def spec_l1Most (N : Nat) (a : Int) (b : Int) : Option ((Int × Unit) × (Unit)) :=
  (br (ilt b a)
    (some ((a, ()), ()))
    (some ((b, ()), ())))
noncomputable def spec_l1Most_S (N : Nat) : FSum := ⟨spec_l1Most_ps, spec_l1Most_rs, fun x => spec_l1Most N x.1 x.2.1⟩
theorem spec_l1Most_run (N : Nat) (x : argsT spec_l1Most_ps) : spec_l1Most N x.1 x.2.1 = funF (spec_l1Most_G N) tab [] Tryz.f32 spec_l1Most_ps spec_l1Most_rs x := by kernel_rfl
theorem spec_l1Most_pc (N : Nat) : PC Tryz.prog 32 (spec_l1Most_S N) := by
  have e : spec_l1Most_S N = ⟨spec_l1Most_ps, spec_l1Most_rs, funF (spec_l1Most_G N) tab [] Tryz.f32 spec_l1Most_ps spec_l1Most_rs⟩ := congrArg (FSum.mk spec_l1Most_ps spec_l1Most_rs) (funext (spec_l1Most_run N))
  rw [e]
  exact fun_ok (c := spec_l1Most_code) progOk (spec_l1Most_gok N) (draw_ok progOk (spec_l1Most_gok N)) Tryz.call32 Tryz.func32 (by kernel_rfl) (lsOk_at (L := []) trivial) (by kernel_rfl) (by kernel_rfl) (by kernel_rfl) (by kernel_rfl) (by kernel_rfl)

/-! ### spec_l1Put -/
abbrev spec_l1Put_ps : List (PV.Mode × Ty) := [(.own, LI), (.ro, I)]
abbrev spec_l1Put_rs : List (Bool × Ty) := [(true, LI)]
noncomputable def spec_l1Put_G (N : Nat) : GTab := gOf []
theorem spec_l1Put_gok (N : Nat) : GOk Tryz.prog (spec_l1Put_G N) := gOf_ok trivial
noncomputable def spec_l1Put_code : Code := (Tryz.f33.body).getD .skip
noncomputable def spec_l1Put_l0_sh : Sh := ⟨[(0, .one (.ref 0)), (1, .one (.ro I)), (5, .one (.ro I))], [.sl 3 I .own]⟩
noncomputable def spec_l1Put_l0_ex : List (Ex × Sh) := [(.exit 0, ⟨[(0, .one (.ref 0)), (1, .one (.ro I)), (5, .one (.ro I))], [.sl 3 I .own]⟩)]
noncomputable def spec_l1Put_l0 {R : Type} (N : Nat) (k0 : Int → Int → (List Int) → Option R) : Nat → Int → Int → (List Int) → Option R
  | 0, _, _, _ => none
  | K + 1, n1, kv, o =>
    (br (ilt kv (tLen o))
      ((chk (inb o kv)
        (br (ilt (rdI o kv) n1)
        (spec_l1Put_l0 N k0 K n1 (IntKind.i64.wrap (kv + 1)) o)
        (k0 n1 kv o))))
      (k0 n1 kv o))
noncomputable def spec_l1Put_l0_again {R : Type} (N : Nat) (ks : (j : Nat) → ((spec_l1Put_l0_ex.getD j (.ret, Sh.none)).2).T → Option R) (k : Nat) (x : spec_l1Put_l0_sh.T) : Option R :=
  spec_l1Put_l0 N (fun y0 y1 y2 => ks 0 (((), y0, y1, ()), (y2, ()))) k x.1.2.1 x.1.2.2.1 x.2.1
noncomputable def spec_l1Put_l0_s (N : Nat) : LSum := ⟨spec_l1Put_l0_sh, spec_l1Put_l0_ex, fun x ks => spec_l1Put_l0_again N ks N x⟩
theorem spec_l1Put_l0_step (N : Nat) (R : Type) (k : Nat) (x : spec_l1Put_l0_sh.T) (ks : (j : Nat) → ((spec_l1Put_l0_ex.getD j (.ret, Sh.none)).2).T → Option R) : spec_l1Put_l0_again N ks (k + 1) x = roundF (spec_l1Put_G N) tab [] (loopAt spec_l1Put_code 0) spec_l1Put_l0_sh spec_l1Put_l0_ex (fun y => spec_l1Put_l0_again N ks k y) ks x := by kernel_rfl
theorem spec_l1Put_l0_ok (N : Nat) : LoopOk Tryz.prog Tryz.f33.ntmps (spec_l1Put_l0_s N) (loopAt spec_l1Put_code 0) :=
  loop_ok (l := spec_l1Put_l0_s N) progOk (spec_l1Put_gok N) (draw_ok progOk (spec_l1Put_gok N)) (fun R k x ks => spec_l1Put_l0_again N ks k x) (fun _ _ _ => rfl) (fun R k x ks => spec_l1Put_l0_step N R k x ks) (fun R x ks r h => ⟨N, h⟩) (lsOk_at (L := []) trivial) (by kernel_rfl) (by kernel_rfl)
noncomputable def spec_l1Put (N : Nat) (l : (List Int)) (n : Int) : Option (((List Int) × Unit) × (Unit)) :=
  spec_l1Put_l0 N (fun n1 kv o => (br (ilt kv (tLen o))
    ((chk (inb o kv)
      (br (ieq (rdI o kv) n1)
      (some ((o, ()), ()))
      ((chk (ile 0 0 && ile 0 kv && ile kv (tLen o))
        (chk (room (α := Int) (β := Int) [] (tCut o 0 kv))
        (chk (room (tApp [] (tCut o 0 kv)) [n1])
        (chk (ile 0 kv && ile kv (tLen o) && ile (tLen o) (tLen o))
        (chk (room (tApp (tApp [] (tCut o 0 kv)) [n1]) (tCut o kv (tLen o)))
        (some (((tApp (tApp (tApp [] (tCut o 0 kv)) [n1]) (tCut o kv (tLen o))), ()), ())))))))))))
    ((chk (ile 0 0 && ile 0 kv && ile kv (tLen o))
      (chk (room (α := Int) (β := Int) [] (tCut o 0 kv))
      (chk (room (tApp [] (tCut o 0 kv)) [n1])
      (chk (ile 0 kv && ile kv (tLen o) && ile (tLen o) (tLen o))
      (chk (room (tApp (tApp [] (tCut o 0 kv)) [n1]) (tCut o kv (tLen o)))
      (some (((tApp (tApp (tApp [] (tCut o 0 kv)) [n1]) (tCut o kv (tLen o))), ()), ())))))))))) N n 0 l
noncomputable def spec_l1Put_S (N : Nat) : FSum := ⟨spec_l1Put_ps, spec_l1Put_rs, fun x => spec_l1Put N x.1 x.2.1⟩
theorem spec_l1Put_run (N : Nat) (x : argsT spec_l1Put_ps) : spec_l1Put N x.1 x.2.1 = funF (spec_l1Put_G N) tab [spec_l1Put_l0_s N] Tryz.f33 spec_l1Put_ps spec_l1Put_rs x := by kernel_rfl
theorem spec_l1Put_pc (N : Nat) : PC Tryz.prog 33 (spec_l1Put_S N) := by
  have e : spec_l1Put_S N = ⟨spec_l1Put_ps, spec_l1Put_rs, funF (spec_l1Put_G N) tab [spec_l1Put_l0_s N] Tryz.f33 spec_l1Put_ps spec_l1Put_rs⟩ := congrArg (FSum.mk spec_l1Put_ps spec_l1Put_rs) (funext (spec_l1Put_run N))
  rw [e]
  exact fun_ok (c := spec_l1Put_code) progOk (spec_l1Put_gok N) (draw_ok progOk (spec_l1Put_gok N)) Tryz.call33 Tryz.func33 (by kernel_rfl) (lsOk_at (L := [spec_l1Put_l0_s N]) ⟨spec_l1Put_l0_ok N, trivial⟩) (by kernel_rfl) (by kernel_rfl) (by kernel_rfl) (by kernel_rfl) (by kernel_rfl)

/-! ### spec_l1Cur_formula -/
abbrev spec_l1Cur_formula_ps : List (PV.Mode × Ty) := [(.mut, BQOU8QIU64)]
abbrev spec_l1Cur_formula_rs : List (Bool × Ty) := [(false, QILLI)]
noncomputable def spec_l1Cur_formula_G (N : Nat) : GTab := gOf [(29, spec_l1Cur_among_S N), (30, spec_l1Cur_pick_S N), (31, spec_l1Cur_one_S N), (32, spec_l1Most_S N), (33, spec_l1Put_S N)]
theorem spec_l1Cur_formula_gok (N : Nat) : GOk Tryz.prog (spec_l1Cur_formula_G N) := gOf_ok ⟨spec_l1Cur_among_pc N, spec_l1Cur_pick_pc N, spec_l1Cur_one_pc N, spec_l1Most_pc N, spec_l1Put_pc N, trivial⟩
noncomputable def spec_l1Cur_formula_code : Code := (Tryz.f16.body).getD .skip
noncomputable def spec_l1Cur_formula_l0_0_sh : Sh := ⟨[(0, .one (.adr 0 0)), (2, .one (.adr 1 0)), (3, .one (.adr 2 0)), (4, .one (.ro I)), (5, .one (.ro I)), (6, .one (.ref 3)), (7, .one (.ro I)), (8, .one (.ro I))], [.mbox QOU8QIU64, .box [.ro I, .nilsl], .box [.ro I, .ref 4], .sl 3 I .own, .sl 27 LI .deep]⟩
noncomputable def spec_l1Cur_formula_l0_0_ex : List (Ex × Sh) := [(.exit 2, ⟨[(0, .one (.adr 0 0)), (2, .one (.adr 1 0)), (3, .one (.adr 2 0)), (4, .one (.ro I)), (5, .one (.ro I)), (6, .one (.ref 3))], [.mbox QOU8QIU64, .box [.ro I, .nilsl], .box [.ro I, .ref 4], .sl 3 I .own, .sl 27 LI .deep]⟩)]
noncomputable def spec_l1Cur_formula_l0_0 {R : Type} (N : Nat) (k0 : Int → Int → ((List Int) × (Int × Int)) → Int → Int → (List Int) → (List (List Int)) → Option R) : Nat → Int → Int → Int → Int → ((List Int) × (Int × Int)) → Int → Int → (List Int) → (List (List Int)) → Option R
  | 0, _, _, _, _, _, _, _, _, _ => none
  | K + 1, x2, x3, x4, x5, o4, o5, o6, o7, o8 =>
    (br (ilt x5 x4)
      ((br (ilt 0 o6)
        (((spec_l1Cur_pick N o4 o6).bind fun r4 =>
          ((spec_l1Cur_one N r4.2.1 2).bind fun r5 =>
            (br r5.1.1
              ((br (ieq x2 2)
                ((br (ilt 0 x5)
                  (((spec_l1Most N (IntKind.i64.wrap (0 - (IntKind.i64.wrap (1 + r4.1.1)))) (IntKind.i64.wrap (0 - (IntKind.i64.wrap (0 - (IntKind.i64.wrap (1 + r4.1.1))))))).bind fun r6 =>
                    (br (ieq x2 0)
                      ((br (ilt 1 x5)
                        (spec_l1Cur_formula_l0_0 N k0 K x2 x3 x4 (IntKind.i64.wrap (x5 + 1)) r5.2.1 o5 o6 o7 o8)
                        (((spec_l1Put N o7 r6.1.1).bind fun r7 =>
                          spec_l1Cur_formula_l0_0 N k0 K x2 x3 x4 (IntKind.i64.wrap (x5 + 1)) r5.2.1 o5 o6 r7.1.1 o8))))
                      (((spec_l1Put N o7 r6.1.1).bind fun r8 =>
                        spec_l1Cur_formula_l0_0 N k0 K x2 x3 x4 (IntKind.i64.wrap (x5 + 1)) r5.2.1 o5 o6 r8.1.1 o8)))))
                  ((br (ieq x2 0)
                    ((br (ilt 1 x5)
                      (spec_l1Cur_formula_l0_0 N k0 K x2 x3 x4 (IntKind.i64.wrap (x5 + 1)) r5.2.1 o5 o6 o7 o8)
                      (((spec_l1Put N o7 (IntKind.i64.wrap (0 - (IntKind.i64.wrap (1 + r4.1.1))))).bind fun r9 =>
                        spec_l1Cur_formula_l0_0 N k0 K x2 x3 x4 (IntKind.i64.wrap (x5 + 1)) r5.2.1 o5 o6 r9.1.1 o8))))
                    (((spec_l1Put N o7 (IntKind.i64.wrap (0 - (IntKind.i64.wrap (1 + r4.1.1))))).bind fun r10 =>
                      spec_l1Cur_formula_l0_0 N k0 K x2 x3 x4 (IntKind.i64.wrap (x5 + 1)) r5.2.1 o5 o6 r10.1.1 o8))))))
                ((br (ieq x2 0)
                  ((br (ilt 1 x5)
                    (spec_l1Cur_formula_l0_0 N k0 K x2 x3 x4 (IntKind.i64.wrap (x5 + 1)) r5.2.1 o5 o6 o7 o8)
                    (((spec_l1Put N o7 (IntKind.i64.wrap (0 - (IntKind.i64.wrap (1 + r4.1.1))))).bind fun r11 =>
                      spec_l1Cur_formula_l0_0 N k0 K x2 x3 x4 (IntKind.i64.wrap (x5 + 1)) r5.2.1 o5 o6 r11.1.1 o8))))
                  (((spec_l1Put N o7 (IntKind.i64.wrap (0 - (IntKind.i64.wrap (1 + r4.1.1))))).bind fun r12 =>
                    spec_l1Cur_formula_l0_0 N k0 K x2 x3 x4 (IntKind.i64.wrap (x5 + 1)) r5.2.1 o5 o6 r12.1.1 o8))))))
              ((br (ieq x2 1)
                ((br (ilt 0 x5)
                  ((br (ieq x2 2)
                    ((br (ilt 0 x5)
                      (((spec_l1Most N (IntKind.i64.wrap (0 - (IntKind.i64.wrap (1 + r4.1.1)))) (IntKind.i64.wrap (0 - (IntKind.i64.wrap (0 - (IntKind.i64.wrap (1 + r4.1.1))))))).bind fun r13 =>
                        (br (ieq x2 0)
                          ((br (ilt 1 x5)
                            (spec_l1Cur_formula_l0_0 N k0 K x2 x3 x4 (IntKind.i64.wrap (x5 + 1)) r5.2.1 o5 o6 o7 o8)
                            (((spec_l1Put N o7 r13.1.1).bind fun r14 =>
                              spec_l1Cur_formula_l0_0 N k0 K x2 x3 x4 (IntKind.i64.wrap (x5 + 1)) r5.2.1 o5 o6 r14.1.1 o8))))
                          (((spec_l1Put N o7 r13.1.1).bind fun r15 =>
                            spec_l1Cur_formula_l0_0 N k0 K x2 x3 x4 (IntKind.i64.wrap (x5 + 1)) r5.2.1 o5 o6 r15.1.1 o8)))))
                      ((br (ieq x2 0)
                        ((br (ilt 1 x5)
                          (spec_l1Cur_formula_l0_0 N k0 K x2 x3 x4 (IntKind.i64.wrap (x5 + 1)) r5.2.1 o5 o6 o7 o8)
                          (((spec_l1Put N o7 (IntKind.i64.wrap (0 - (IntKind.i64.wrap (1 + r4.1.1))))).bind fun r16 =>
                            spec_l1Cur_formula_l0_0 N k0 K x2 x3 x4 (IntKind.i64.wrap (x5 + 1)) r5.2.1 o5 o6 r16.1.1 o8))))
                        (((spec_l1Put N o7 (IntKind.i64.wrap (0 - (IntKind.i64.wrap (1 + r4.1.1))))).bind fun r17 =>
                          spec_l1Cur_formula_l0_0 N k0 K x2 x3 x4 (IntKind.i64.wrap (x5 + 1)) r5.2.1 o5 o6 r17.1.1 o8))))))
                    ((br (ieq x2 0)
                      ((br (ilt 1 x5)
                        (spec_l1Cur_formula_l0_0 N k0 K x2 x3 x4 (IntKind.i64.wrap (x5 + 1)) r5.2.1 o5 o6 o7 o8)
                        (((spec_l1Put N o7 (IntKind.i64.wrap (0 - (IntKind.i64.wrap (1 + r4.1.1))))).bind fun r18 =>
                          spec_l1Cur_formula_l0_0 N k0 K x2 x3 x4 (IntKind.i64.wrap (x5 + 1)) r5.2.1 o5 o6 r18.1.1 o8))))
                      (((spec_l1Put N o7 (IntKind.i64.wrap (0 - (IntKind.i64.wrap (1 + r4.1.1))))).bind fun r19 =>
                        spec_l1Cur_formula_l0_0 N k0 K x2 x3 x4 (IntKind.i64.wrap (x5 + 1)) r5.2.1 o5 o6 r19.1.1 o8))))))
                  ((br (ieq x2 2)
                    ((br (ilt 0 x5)
                      (((spec_l1Most N (IntKind.i64.wrap (1 + r4.1.1)) (IntKind.i64.wrap (0 - (IntKind.i64.wrap (1 + r4.1.1))))).bind fun r20 =>
                        (br (ieq x2 0)
                          ((br (ilt 1 x5)
                            (spec_l1Cur_formula_l0_0 N k0 K x2 x3 x4 (IntKind.i64.wrap (x5 + 1)) r5.2.1 o5 o6 o7 o8)
                            (((spec_l1Put N o7 r20.1.1).bind fun r21 =>
                              spec_l1Cur_formula_l0_0 N k0 K x2 x3 x4 (IntKind.i64.wrap (x5 + 1)) r5.2.1 o5 o6 r21.1.1 o8))))
                          (((spec_l1Put N o7 r20.1.1).bind fun r22 =>
                            spec_l1Cur_formula_l0_0 N k0 K x2 x3 x4 (IntKind.i64.wrap (x5 + 1)) r5.2.1 o5 o6 r22.1.1 o8)))))
                      ((br (ieq x2 0)
                        ((br (ilt 1 x5)
                          (spec_l1Cur_formula_l0_0 N k0 K x2 x3 x4 (IntKind.i64.wrap (x5 + 1)) r5.2.1 o5 o6 o7 o8)
                          (((spec_l1Put N o7 (IntKind.i64.wrap (1 + r4.1.1))).bind fun r23 =>
                            spec_l1Cur_formula_l0_0 N k0 K x2 x3 x4 (IntKind.i64.wrap (x5 + 1)) r5.2.1 o5 o6 r23.1.1 o8))))
                        (((spec_l1Put N o7 (IntKind.i64.wrap (1 + r4.1.1))).bind fun r24 =>
                          spec_l1Cur_formula_l0_0 N k0 K x2 x3 x4 (IntKind.i64.wrap (x5 + 1)) r5.2.1 o5 o6 r24.1.1 o8))))))
                    ((br (ieq x2 0)
                      ((br (ilt 1 x5)
                        (spec_l1Cur_formula_l0_0 N k0 K x2 x3 x4 (IntKind.i64.wrap (x5 + 1)) r5.2.1 o5 o6 o7 o8)
                        (((spec_l1Put N o7 (IntKind.i64.wrap (1 + r4.1.1))).bind fun r25 =>
                          spec_l1Cur_formula_l0_0 N k0 K x2 x3 x4 (IntKind.i64.wrap (x5 + 1)) r5.2.1 o5 o6 r25.1.1 o8))))
                      (((spec_l1Put N o7 (IntKind.i64.wrap (1 + r4.1.1))).bind fun r26 =>
                        spec_l1Cur_formula_l0_0 N k0 K x2 x3 x4 (IntKind.i64.wrap (x5 + 1)) r5.2.1 o5 o6 r26.1.1 o8))))))))
                ((br (ieq x2 2)
                  ((br (ilt 0 x5)
                    (((spec_l1Most N (IntKind.i64.wrap (1 + r4.1.1)) (IntKind.i64.wrap (0 - (IntKind.i64.wrap (1 + r4.1.1))))).bind fun r27 =>
                      (br (ieq x2 0)
                        ((br (ilt 1 x5)
                          (spec_l1Cur_formula_l0_0 N k0 K x2 x3 x4 (IntKind.i64.wrap (x5 + 1)) r5.2.1 o5 o6 o7 o8)
                          (((spec_l1Put N o7 r27.1.1).bind fun r28 =>
                            spec_l1Cur_formula_l0_0 N k0 K x2 x3 x4 (IntKind.i64.wrap (x5 + 1)) r5.2.1 o5 o6 r28.1.1 o8))))
                        (((spec_l1Put N o7 r27.1.1).bind fun r29 =>
                          spec_l1Cur_formula_l0_0 N k0 K x2 x3 x4 (IntKind.i64.wrap (x5 + 1)) r5.2.1 o5 o6 r29.1.1 o8)))))
                    ((br (ieq x2 0)
                      ((br (ilt 1 x5)
                        (spec_l1Cur_formula_l0_0 N k0 K x2 x3 x4 (IntKind.i64.wrap (x5 + 1)) r5.2.1 o5 o6 o7 o8)
                        (((spec_l1Put N o7 (IntKind.i64.wrap (1 + r4.1.1))).bind fun r30 =>
                          spec_l1Cur_formula_l0_0 N k0 K x2 x3 x4 (IntKind.i64.wrap (x5 + 1)) r5.2.1 o5 o6 r30.1.1 o8))))
                      (((spec_l1Put N o7 (IntKind.i64.wrap (1 + r4.1.1))).bind fun r31 =>
                        spec_l1Cur_formula_l0_0 N k0 K x2 x3 x4 (IntKind.i64.wrap (x5 + 1)) r5.2.1 o5 o6 r31.1.1 o8))))))
                  ((br (ieq x2 0)
                    ((br (ilt 1 x5)
                      (spec_l1Cur_formula_l0_0 N k0 K x2 x3 x4 (IntKind.i64.wrap (x5 + 1)) r5.2.1 o5 o6 o7 o8)
                      (((spec_l1Put N o7 (IntKind.i64.wrap (1 + r4.1.1))).bind fun r32 =>
                        spec_l1Cur_formula_l0_0 N k0 K x2 x3 x4 (IntKind.i64.wrap (x5 + 1)) r5.2.1 o5 o6 r32.1.1 o8))))
                    (((spec_l1Put N o7 (IntKind.i64.wrap (1 + r4.1.1))).bind fun r33 =>
                      spec_l1Cur_formula_l0_0 N k0 K x2 x3 x4 (IntKind.i64.wrap (x5 + 1)) r5.2.1 o5 o6 r33.1.1 o8))))))))))))
        (k0 x2 x3 o4 o5 o6 o7 o8)))
      (k0 x2 x3 o4 o5 o6 o7 o8))
noncomputable def spec_l1Cur_formula_l0_0_again {R : Type} (N : Nat) (ks : (j : Nat) → ((spec_l1Cur_formula_l0_0_ex.getD j (.ret, Sh.none)).2).T → Option R) (k : Nat) (x : spec_l1Cur_formula_l0_0_sh.T) : Option R :=
  spec_l1Cur_formula_l0_0 N (fun y0 y1 y2 y3 y4 y5 y6 => ks 0 (((), (), (), y0, y1, (), ()), (y2, (y3, (), ()), (y4, (), ()), y5, y6, ()))) k x.1.2.2.2.1 x.1.2.2.2.2.1 x.1.2.2.2.2.2.2.1 x.1.2.2.2.2.2.2.2.1 x.2.1 x.2.2.1.1 x.2.2.2.1.1 x.2.2.2.2.1 x.2.2.2.2.2.1
noncomputable def spec_l1Cur_formula_l0_0_s (N : Nat) : LSum := ⟨spec_l1Cur_formula_l0_0_sh, spec_l1Cur_formula_l0_0_ex, fun x ks => spec_l1Cur_formula_l0_0_again N ks N x⟩
theorem spec_l1Cur_formula_l0_0_step (N : Nat) (R : Type) (k : Nat) (x : spec_l1Cur_formula_l0_0_sh.T) (ks : (j : Nat) → ((spec_l1Cur_formula_l0_0_ex.getD j (.ret, Sh.none)).2).T → Option R) : spec_l1Cur_formula_l0_0_again N ks (k + 1) x = roundF (spec_l1Cur_formula_G N) tab [] (loopAt (loopAt spec_l1Cur_formula_code 0) 0) spec_l1Cur_formula_l0_0_sh spec_l1Cur_formula_l0_0_ex (fun y => spec_l1Cur_formula_l0_0_again N ks k y) ks x := by kernel_rfl
theorem spec_l1Cur_formula_l0_0_ok (N : Nat) : LoopOk Tryz.prog Tryz.f16.ntmps (spec_l1Cur_formula_l0_0_s N) (loopAt (loopAt spec_l1Cur_formula_code 0) 0) :=
  loop_ok (l := spec_l1Cur_formula_l0_0_s N) progOk (spec_l1Cur_formula_gok N) (draw_ok progOk (spec_l1Cur_formula_gok N)) (fun R k x ks => spec_l1Cur_formula_l0_0_again N ks k x) (fun _ _ _ => rfl) (fun R k x ks => spec_l1Cur_formula_l0_0_step N R k x ks) (fun R x ks r h => ⟨N, h⟩) (lsOk_at (L := []) trivial) (by kernel_rfl) (by kernel_rfl)
noncomputable def spec_l1Cur_formula_l0_sh : Sh := ⟨[(0, .one (.adr 0 0)), (2, .one (.adr 1 0)), (3, .one (.adr 2 0)), (4, .one (.ro I)), (5, .one (.ro I))], [.mbox QOU8QIU64, .box [.ro I, .nilsl], .box [.ro I, .ref 3], .sl 27 LI .deep]⟩
noncomputable def spec_l1Cur_formula_l0_ex : List (Ex × Sh) := [(.exit 0, ⟨[(0, .one (.adr 0 0)), (2, .one (.adr 1 0)), (3, .one (.adr 2 0))], [.mbox QOU8QIU64, .box [.ro I, .nilsl], .box [.ro I, .ref 3], .sl 27 LI .deep]⟩)]
noncomputable def spec_l1Cur_formula_l0 {R : Type} (N : Nat) (k0 : ((List Int) × (Int × Int)) → Int → Int → (List (List Int)) → Option R) : Nat → Int → Int → ((List Int) × (Int × Int)) → Int → Int → (List (List Int)) → Option R
  | 0, _, _, _, _, _, _ => none
  | K + 1, x, x1, o, o1, o2, o3 =>
    (br (ilt 0 x1)
      (((spec_l1Cur_pick N o 3).bind fun r3 =>
        spec_l1Cur_formula_l0_0 N (fun x2 x3 o4 o5 o6 o7 o8 => (br (ilt 0 (tLen o7))
          ((chk (room o8 [o7])
            (spec_l1Cur_formula_l0 N k0 K x2 (IntKind.i64.wrap (x3 - 1)) o4 o5 o6 (tApp o8 [o7]))))
          (((spec_l1Cur_one N o4 8).bind fun r4 =>
            (br r4.1.1
              ((chk (room o8 [o7])
                (spec_l1Cur_formula_l0 N k0 K x2 (IntKind.i64.wrap (x3 - 1)) r4.2.1 o5 o6 (tApp o8 [o7]))))
              (spec_l1Cur_formula_l0 N k0 K x2 (IntKind.i64.wrap (x3 - 1)) r4.2.1 o5 o6 o8)))))) N x x1 (IntKind.i64.wrap (1 + r3.1.1)) 0 r3.2.1 o1 o2 [] o3))
      (k0 o o1 o2 o3))
noncomputable def spec_l1Cur_formula_l0_again {R : Type} (N : Nat) (ks : (j : Nat) → ((spec_l1Cur_formula_l0_ex.getD j (.ret, Sh.none)).2).T → Option R) (k : Nat) (x : spec_l1Cur_formula_l0_sh.T) : Option R :=
  spec_l1Cur_formula_l0 N (fun y0 y1 y2 y3 => ks 0 (((), (), (), ()), (y0, (y1, (), ()), (y2, (), ()), y3, ()))) k x.1.2.2.2.1 x.1.2.2.2.2.1 x.2.1 x.2.2.1.1 x.2.2.2.1.1 x.2.2.2.2.1
noncomputable def spec_l1Cur_formula_l0_s (N : Nat) : LSum := ⟨spec_l1Cur_formula_l0_sh, spec_l1Cur_formula_l0_ex, fun x ks => spec_l1Cur_formula_l0_again N ks N x⟩
theorem spec_l1Cur_formula_l0_step (N : Nat) (R : Type) (k : Nat) (x : spec_l1Cur_formula_l0_sh.T) (ks : (j : Nat) → ((spec_l1Cur_formula_l0_ex.getD j (.ret, Sh.none)).2).T → Option R) : spec_l1Cur_formula_l0_again N ks (k + 1) x = roundF (spec_l1Cur_formula_G N) tab [spec_l1Cur_formula_l0_0_s N] (loopAt spec_l1Cur_formula_code 0) spec_l1Cur_formula_l0_sh spec_l1Cur_formula_l0_ex (fun y => spec_l1Cur_formula_l0_again N ks k y) ks x := by kernel_rfl
theorem spec_l1Cur_formula_l0_ok (N : Nat) : LoopOk Tryz.prog Tryz.f16.ntmps (spec_l1Cur_formula_l0_s N) (loopAt spec_l1Cur_formula_code 0) :=
  loop_ok (l := spec_l1Cur_formula_l0_s N) progOk (spec_l1Cur_formula_gok N) (draw_ok progOk (spec_l1Cur_formula_gok N)) (fun R k x ks => spec_l1Cur_formula_l0_again N ks k x) (fun _ _ _ => rfl) (fun R k x ks => spec_l1Cur_formula_l0_step N R k x ks) (fun R x ks r h => ⟨N, h⟩) (lsOk_at (L := [spec_l1Cur_formula_l0_0_s N]) ⟨spec_l1Cur_formula_l0_0_ok N, trivial⟩) (by kernel_rfl) (by kernel_rfl)
noncomputable def spec_l1Cur_formula_l1_sh : Sh := ⟨[(0, .one (.adr 0 0)), (2, .one (.adr 1 0)), (3, .one (.adr 2 0)), (10, .one (.ro I))], [.mbox QOU8QIU64, .box [.ro I, .nilsl], .box [.ro I, .ref 3], .sl 27 LI .deep]⟩
noncomputable def spec_l1Cur_formula_l1_ex : List (Ex × Sh) := [(.exit 5, ⟨[(0, .one (.adr 0 0)), (2, .one (.adr 1 0)), (3, .one (.adr 2 0))], [.mbox QOU8QIU64, .box [.ro I, .nilsl], .box [.ro I, .ref 3], .sl 27 LI .deep]⟩)]
noncomputable def spec_l1Cur_formula_l1 {R : Type} (N : Nat) (k0 : ((List Int) × (Int × Int)) → Int → Int → (List (List Int)) → Option R) : Nat → Int → ((List Int) × (Int × Int)) → Int → Int → (List (List Int)) → Option R
  | 0, _, _, _, _, _ => none
  | K + 1, x, o4, o5, o6, o7 =>
    (br (ilt (tLen o7) x)
      ((chk (room o7 [[(-1), 1]])
        (spec_l1Cur_formula_l1 N k0 K x o4 o5 o6 (tApp o7 [[(-1), 1]]))))
      (k0 o4 o5 o6 o7))
noncomputable def spec_l1Cur_formula_l1_again {R : Type} (N : Nat) (ks : (j : Nat) → ((spec_l1Cur_formula_l1_ex.getD j (.ret, Sh.none)).2).T → Option R) (k : Nat) (x : spec_l1Cur_formula_l1_sh.T) : Option R :=
  spec_l1Cur_formula_l1 N (fun y0 y1 y2 y3 => ks 0 (((), (), (), ()), (y0, (y1, (), ()), (y2, (), ()), y3, ()))) k x.1.2.2.2.1 x.2.1 x.2.2.1.1 x.2.2.2.1.1 x.2.2.2.2.1
noncomputable def spec_l1Cur_formula_l1_s (N : Nat) : LSum := ⟨spec_l1Cur_formula_l1_sh, spec_l1Cur_formula_l1_ex, fun x ks => spec_l1Cur_formula_l1_again N ks N x⟩
theorem spec_l1Cur_formula_l1_step (N : Nat) (R : Type) (k : Nat) (x : spec_l1Cur_formula_l1_sh.T) (ks : (j : Nat) → ((spec_l1Cur_formula_l1_ex.getD j (.ret, Sh.none)).2).T → Option R) : spec_l1Cur_formula_l1_again N ks (k + 1) x = roundF (spec_l1Cur_formula_G N) tab [] (loopAt spec_l1Cur_formula_code 1) spec_l1Cur_formula_l1_sh spec_l1Cur_formula_l1_ex (fun y => spec_l1Cur_formula_l1_again N ks k y) ks x := by kernel_rfl
theorem spec_l1Cur_formula_l1_ok (N : Nat) : LoopOk Tryz.prog Tryz.f16.ntmps (spec_l1Cur_formula_l1_s N) (loopAt spec_l1Cur_formula_code 1) :=
  loop_ok (l := spec_l1Cur_formula_l1_s N) progOk (spec_l1Cur_formula_gok N) (draw_ok progOk (spec_l1Cur_formula_gok N)) (fun R k x ks => spec_l1Cur_formula_l1_again N ks k x) (fun _ _ _ => rfl) (fun R k x ks => spec_l1Cur_formula_l1_step N R k x ks) (fun R x ks r h => ⟨N, h⟩) (lsOk_at (L := []) trivial) (by kernel_rfl) (by kernel_rfl)
noncomputable def spec_l1Cur_formula (N : Nat) (c : ((List Int) × (Int × Int))) : Option (((Int × (List (List Int))) × Unit) × (((List Int) × (Int × Int)) × Unit)) :=
  ((spec_l1Cur_among N c [4, 3, 5, 2, 6, 1, 0]).bind fun r =>
    ((spec_l1Cur_pick N r.2.1 5).bind fun r1 =>
      (br (ieq r1.1.1 4)
        (((spec_l1Cur_among N r1.2.1 [2, 3, 4, 6, 1, 0]).bind fun r2 =>
          spec_l1Cur_formula_l0 N (fun o o1 o2 o3 => ((spec_l1Cur_pick N o 40).bind fun r3 =>
            (br (ieq r3.1.1 0)
              (((spec_l1Cur_among N r3.2.1 [(-1), 7, 6]).bind fun r4 =>
                some (((r4.1.1, o3), ()), (r4.2.1, ()))))
              ((br (ieq r3.1.1 1)
                (((spec_l1Cur_among N (r3.2.1.1, (r3.2.1.2.1, r3.2.1.2.2)) [0, 7, (-7), 1]).bind fun r5 =>
                  (chk (room o3 [[r5.1.1]])
                    (some (((o2, (tApp o3 [[r5.1.1]])), ()), (r5.2.1, ()))))))
                ((br (ieq r3.1.1 2)
                  ((chk (room o3 [[2, 1]])
                    (some (((o2, (tApp o3 [[2, 1]])), ()), (r3.2.1, ())))))
                  ((br (ieq r3.1.1 3)
                    (((spec_l1Cur_pick N r3.2.1 2).bind fun r6 =>
                      spec_l1Cur_formula_l1 N (fun o4 o5 o6 o7 => some (((o6, o7), ()), (o4, ()))) N (IntKind.i64.wrap (64 + r6.1.1)) r6.2.1 o1 o2 o3))
                    (some (((o2, o3), ()), (r3.2.1, ())))))))))))) N 3 r2.1.1 r2.2.1 0 r.1.1 []))
        (((spec_l1Cur_among N r1.2.1 [2, 3, 4, 6, 1, 0]).bind fun r7 =>
          spec_l1Cur_formula_l0 N (fun o8 o9 o10 o11 => ((spec_l1Cur_pick N o8 40).bind fun r8 =>
            (br (ieq r8.1.1 0)
              (((spec_l1Cur_among N r8.2.1 [(-1), 7, 6]).bind fun r9 =>
                some (((r9.1.1, o11), ()), (r9.2.1, ()))))
              ((br (ieq r8.1.1 1)
                (((spec_l1Cur_among N (r8.2.1.1, (r8.2.1.2.1, r8.2.1.2.2)) [0, 7, (-7), 1]).bind fun r10 =>
                  (chk (room o11 [[r10.1.1]])
                    (some (((o10, (tApp o11 [[r10.1.1]])), ()), (r10.2.1, ()))))))
                ((br (ieq r8.1.1 2)
                  ((chk (room o11 [[2, 1]])
                    (some (((o10, (tApp o11 [[2, 1]])), ()), (r8.2.1, ())))))
                  ((br (ieq r8.1.1 3)
                    (((spec_l1Cur_pick N r8.2.1 2).bind fun r11 =>
                      spec_l1Cur_formula_l1 N (fun o12 o13 o14 o15 => some (((o14, o15), ()), (o12, ()))) N (IntKind.i64.wrap (64 + r11.1.1)) r11.2.1 o9 o10 o11))
                    (some (((o10, o11), ()), (r8.2.1, ())))))))))))) N r1.1.1 r7.1.1 r7.2.1 0 r.1.1 [])))))
noncomputable def spec_l1Cur_formula_S (N : Nat) : FSum := ⟨spec_l1Cur_formula_ps, spec_l1Cur_formula_rs, fun x => spec_l1Cur_formula N x.1⟩
theorem spec_l1Cur_formula_run (N : Nat) (x : argsT spec_l1Cur_formula_ps) : spec_l1Cur_formula N x.1 = funF (spec_l1Cur_formula_G N) tab [spec_l1Cur_formula_l0_s N, spec_l1Cur_formula_l1_s N] Tryz.f16 spec_l1Cur_formula_ps spec_l1Cur_formula_rs x := by kernel_rfl
theorem spec_l1Cur_formula_pc (N : Nat) : PC Tryz.prog 16 (spec_l1Cur_formula_S N) := by
  have e : spec_l1Cur_formula_S N = ⟨spec_l1Cur_formula_ps, spec_l1Cur_formula_rs, funF (spec_l1Cur_formula_G N) tab [spec_l1Cur_formula_l0_s N, spec_l1Cur_formula_l1_s N] Tryz.f16 spec_l1Cur_formula_ps spec_l1Cur_formula_rs⟩ := congrArg (FSum.mk spec_l1Cur_formula_ps spec_l1Cur_formula_rs) (funext (spec_l1Cur_formula_run N))
  rw [e]
  exact fun_ok (c := spec_l1Cur_formula_code) progOk (spec_l1Cur_formula_gok N) (draw_ok progOk (spec_l1Cur_formula_gok N)) Tryz.call16 Tryz.func16 (by kernel_rfl) (lsOk_at (L := [spec_l1Cur_formula_l0_s N, spec_l1Cur_formula_l1_s N]) ⟨spec_l1Cur_formula_l0_ok N, spec_l1Cur_formula_l1_ok N, trivial⟩) (by kernel_rfl) (by kernel_rfl) (by kernel_rfl) (by kernel_rfl) (by kernel_rfl)

/-! ### spec_l1In -/
abbrev spec_l1In_ps : List (PV.Mode × Ty) := [(.ro, I), (.ro, I), (.ro, I)]
abbrev spec_l1In_rs : List (Bool × Ty) := [(true, .bool)]
noncomputable def spec_l1In_G (N : Nat) : GTab := gOf []
theorem spec_l1In_gok (N : Nat) : GOk Tryz.prog (spec_l1In_G N) := gOf_ok trivial
noncomputable def spec_l1In_code : Code := (Tryz.f55.body).getD .skip
noncomputable def spec_l1In (N : Nat) (x : Int) (a : Int) (b : Int) : Option ((Bool × Unit) × (Unit)) :=
  (br (ile a x)
    (some (((ile x b), ()), ()))
    (some ((false, ()), ())))
noncomputable def spec_l1In_S (N : Nat) : FSum := ⟨spec_l1In_ps, spec_l1In_rs, fun x => spec_l1In N x.1 x.2.1 x.2.2.1⟩
theorem spec_l1In_run (N : Nat) (x : argsT spec_l1In_ps) : spec_l1In N x.1 x.2.1 x.2.2.1 = funF (spec_l1In_G N) tab [] Tryz.f55 spec_l1In_ps spec_l1In_rs x := by kernel_rfl
theorem spec_l1In_pc (N : Nat) : PC Tryz.prog 55 (spec_l1In_S N) := by
  have e : spec_l1In_S N = ⟨spec_l1In_ps, spec_l1In_rs, funF (spec_l1In_G N) tab [] Tryz.f55 spec_l1In_ps spec_l1In_rs⟩ := congrArg (FSum.mk spec_l1In_ps spec_l1In_rs) (funext (spec_l1In_run N))
  rw [e]
  exact fun_ok (c := spec_l1In_code) progOk (spec_l1In_gok N) (draw_ok progOk (spec_l1In_gok N)) Tryz.call55 Tryz.func55 (by kernel_rfl) (lsOk_at (L := []) trivial) (by kernel_rfl) (by kernel_rfl) (by kernel_rfl) (by kernel_rfl) (by kernel_rfl)

/-! ### spec_l6Literal -/
abbrev spec_l6Literal_ps : List (PV.Mode × Ty) := [(.ro, I), (.ro, I)]
abbrev spec_l6Literal_rs : List (Bool × Ty) := [(true, .bool)]
noncomputable def spec_l6Literal_G (N : Nat) : GTab := gOf [(55, spec_l1In_S N)]
theorem spec_l6Literal_gok (N : Nat) : GOk Tryz.prog (spec_l6Literal_G N) := gOf_ok ⟨spec_l1In_pc N, trivial⟩
noncomputable def spec_l6Literal_code : Code := (Tryz.f56.body).getD .skip
noncomputable def spec_l6Literal (N : Nat) (vars : Int) (x : Int) : Option ((Bool × Unit) × (Unit)) :=
  (br (ine x 0)
    (((spec_l1In N x (IntKind.i64.wrap (0 - vars)) vars).bind fun r =>
      some ((r.1.1, ()), ())))
    (some ((false, ()), ())))
noncomputable def spec_l6Literal_S (N : Nat) : FSum := ⟨spec_l6Literal_ps, spec_l6Literal_rs, fun x => spec_l6Literal N x.1 x.2.1⟩
theorem spec_l6Literal_run (N : Nat) (x : argsT spec_l6Literal_ps) : spec_l6Literal N x.1 x.2.1 = funF (spec_l6Literal_G N) tab [] Tryz.f56 spec_l6Literal_ps spec_l6Literal_rs x := by kernel_rfl
theorem spec_l6Literal_pc (N : Nat) : PC Tryz.prog 56 (spec_l6Literal_S N) := by
  have e : spec_l6Literal_S N = ⟨spec_l6Literal_ps, spec_l6Literal_rs, funF (spec_l6Literal_G N) tab [] Tryz.f56 spec_l6Literal_ps spec_l6Literal_rs⟩ := congrArg (FSum.mk spec_l6Literal_ps spec_l6Literal_rs) (funext (spec_l6Literal_run N))
  rw [e]
  exact fun_ok (c := spec_l6Literal_code) progOk (spec_l6Literal_gok N) (draw_ok progOk (spec_l6Literal_gok N)) Tryz.call56 Tryz.func56 (by kernel_rfl) (lsOk_at (L := []) trivial) (by kernel_rfl) (by kernel_rfl) (by kernel_rfl) (by kernel_rfl) (by kernel_rfl)

/-! ### spec_l6Good -/
abbrev spec_l6Good_ps : List (PV.Mode × Ty) := [(.ro, QILLI)]
abbrev spec_l6Good_rs : List (Bool × Ty) := [(true, .bool)]
noncomputable def spec_l6Good_G (N : Nat) : GTab := gOf [(55, spec_l1In_S N), (56, spec_l6Literal_S N)]
theorem spec_l6Good_gok (N : Nat) : GOk Tryz.prog (spec_l6Good_G N) := gOf_ok ⟨spec_l1In_pc N, spec_l6Literal_pc N, trivial⟩
noncomputable def spec_l6Good_code : Code := (Tryz.f34.body).getD .skip
noncomputable def spec_l6Good_l0_0_sh : Sh := ⟨[(1, .one (.adr 0 0)), (3, .one (.ro I)), (4, .one (.ro I))], [.box [.ro I, .ro LLI]]⟩
noncomputable def spec_l6Good_l0_0_ex : List (Ex × Sh) := [(.ret, ⟨[(2, .one (.ro .bool))], []⟩), (.exit 2, ⟨[(1, .one (.adr 0 0)), (3, .one (.ro I))], [.box [.ro I, .ro LLI]]⟩)]
noncomputable def spec_l6Good_l0_0 {R : Type} (N : Nat) (k0 : Bool → Option R) (k1 : Int → Int → (List (List Int)) → Option R) : Nat → Int → Int → Int → (List (List Int)) → Option R
  | 0, _, _, _, _ => none
  | K + 1, x1, x2, o2, o3 =>
    (chk (inb o3 x1)
      (br (ilt x2 (tLen (rdL o3 x1)))
      ((chk (inb o3 x1)
        (chk (inb (rdL o3 x1) x2)
        ((spec_l6Literal N o2 (rdI (rdL o3 x1) x2)).bind fun r1 =>
        (br (!r1.1.1)
          (k0 false)
          ((br (ilt 0 x2)
            ((chk (inb o3 x1)
              (chk (inb (rdL o3 x1) (IntKind.i64.wrap (x2 - 1)))
              (chk (inb o3 x1)
              (chk (inb (rdL o3 x1) x2)
              (br (ile (rdI (rdL o3 x1) x2) (rdI (rdL o3 x1) (IntKind.i64.wrap (x2 - 1))))
              (k0 false)
              (spec_l6Good_l0_0 N k0 k1 K x1 (IntKind.i64.wrap (x2 + 1)) o2 o3)))))))
            (spec_l6Good_l0_0 N k0 k1 K x1 (IntKind.i64.wrap (x2 + 1)) o2 o3))))))))
      (k1 x1 o2 o3)))
noncomputable def spec_l6Good_l0_0_again {R : Type} (N : Nat) (ks : (j : Nat) → ((spec_l6Good_l0_0_ex.getD j (.ret, Sh.none)).2).T → Option R) (k : Nat) (x : spec_l6Good_l0_0_sh.T) : Option R :=
  spec_l6Good_l0_0 N (fun y0 => ks 0 ((y0, ()), ())) (fun y0 y1 y2 => ks 1 (((), y0, ()), ((y1, y2, ()), ()))) k x.1.2.1 x.1.2.2.1 x.2.1.1 x.2.1.2.1
noncomputable def spec_l6Good_l0_0_s (N : Nat) : LSum := ⟨spec_l6Good_l0_0_sh, spec_l6Good_l0_0_ex, fun x ks => spec_l6Good_l0_0_again N ks N x⟩
theorem spec_l6Good_l0_0_step (N : Nat) (R : Type) (k : Nat) (x : spec_l6Good_l0_0_sh.T) (ks : (j : Nat) → ((spec_l6Good_l0_0_ex.getD j (.ret, Sh.none)).2).T → Option R) : spec_l6Good_l0_0_again N ks (k + 1) x = roundF (spec_l6Good_G N) tab [] (loopAt (loopAt spec_l6Good_code 0) 0) spec_l6Good_l0_0_sh spec_l6Good_l0_0_ex (fun y => spec_l6Good_l0_0_again N ks k y) ks x := by kernel_rfl
theorem spec_l6Good_l0_0_ok (N : Nat) : LoopOk Tryz.prog Tryz.f34.ntmps (spec_l6Good_l0_0_s N) (loopAt (loopAt spec_l6Good_code 0) 0) :=
  loop_ok (l := spec_l6Good_l0_0_s N) progOk (spec_l6Good_gok N) (draw_ok progOk (spec_l6Good_gok N)) (fun R k x ks => spec_l6Good_l0_0_again N ks k x) (fun _ _ _ => rfl) (fun R k x ks => spec_l6Good_l0_0_step N R k x ks) (fun R x ks r h => ⟨N, h⟩) (lsOk_at (L := []) trivial) (by kernel_rfl) (by kernel_rfl)
noncomputable def spec_l6Good_l0_sh : Sh := ⟨[(1, .one (.adr 0 0)), (3, .one (.ro I))], [.box [.ro I, .ro LLI]]⟩
noncomputable def spec_l6Good_l0_ex : List (Ex × Sh) := [(.ret, ⟨[(2, .one (.ro .bool))], []⟩), (.exit 0, ⟨[], []⟩)]
noncomputable def spec_l6Good_l0 {R : Type} (N : Nat) (k0 : Bool → Option R) (k1 : Unit → Option R) : Nat → Int → Int → (List (List Int)) → Option R
  | 0, _, _, _ => none
  | K + 1, x, o, o1 =>
    (br (ilt x (tLen o1))
      (spec_l6Good_l0_0 N (fun x1 => k0 x1) (fun x2 o2 o3 => spec_l6Good_l0 N k0 k1 K (IntKind.i64.wrap (x2 + 1)) o2 o3) N x 0 o o1)
      (k1 ()))
noncomputable def spec_l6Good_l0_again {R : Type} (N : Nat) (ks : (j : Nat) → ((spec_l6Good_l0_ex.getD j (.ret, Sh.none)).2).T → Option R) (k : Nat) (x : spec_l6Good_l0_sh.T) : Option R :=
  spec_l6Good_l0 N (fun y0 => ks 0 ((y0, ()), ())) (fun (_ : Unit) => ks 1 ((), ())) k x.1.2.1 x.2.1.1 x.2.1.2.1
noncomputable def spec_l6Good_l0_s (N : Nat) : LSum := ⟨spec_l6Good_l0_sh, spec_l6Good_l0_ex, fun x ks => spec_l6Good_l0_again N ks N x⟩
theorem spec_l6Good_l0_step (N : Nat) (R : Type) (k : Nat) (x : spec_l6Good_l0_sh.T) (ks : (j : Nat) → ((spec_l6Good_l0_ex.getD j (.ret, Sh.none)).2).T → Option R) : spec_l6Good_l0_again N ks (k + 1) x = roundF (spec_l6Good_G N) tab [spec_l6Good_l0_0_s N] (loopAt spec_l6Good_code 0) spec_l6Good_l0_sh spec_l6Good_l0_ex (fun y => spec_l6Good_l0_again N ks k y) ks x := by kernel_rfl
theorem spec_l6Good_l0_ok (N : Nat) : LoopOk Tryz.prog Tryz.f34.ntmps (spec_l6Good_l0_s N) (loopAt spec_l6Good_code 0) :=
  loop_ok (l := spec_l6Good_l0_s N) progOk (spec_l6Good_gok N) (draw_ok progOk (spec_l6Good_gok N)) (fun R k x ks => spec_l6Good_l0_again N ks k x) (fun _ _ _ => rfl) (fun R k x ks => spec_l6Good_l0_step N R k x ks) (fun R x ks r h => ⟨N, h⟩) (lsOk_at (L := [spec_l6Good_l0_0_s N]) ⟨spec_l6Good_l0_0_ok N, trivial⟩) (by kernel_rfl) (by kernel_rfl)
noncomputable def spec_l6Good (N : Nat) (c : (Int × (List (List Int)))) : Option ((Bool × Unit) × (Unit)) :=
  ((spec_l1In N c.1 0 6).bind fun r =>
    (br (!r.1.1)
      (some ((false, ()), ()))
      ((br (ilt 64 (tLen c.2))
        (some ((false, ()), ()))
        (spec_l6Good_l0 N (fun x => some ((x, ()), ())) (fun (_ : Unit) => some ((true, ()), ())) N 0 c.1 c.2)))))
noncomputable def spec_l6Good_S (N : Nat) : FSum := ⟨spec_l6Good_ps, spec_l6Good_rs, fun x => spec_l6Good N x.1⟩
theorem spec_l6Good_run (N : Nat) (x : argsT spec_l6Good_ps) : spec_l6Good N x.1 = funF (spec_l6Good_G N) tab [spec_l6Good_l0_s N] Tryz.f34 spec_l6Good_ps spec_l6Good_rs x := by kernel_rfl
theorem spec_l6Good_pc (N : Nat) : PC Tryz.prog 34 (spec_l6Good_S N) := by
  have e : spec_l6Good_S N = ⟨spec_l6Good_ps, spec_l6Good_rs, funF (spec_l6Good_G N) tab [spec_l6Good_l0_s N] Tryz.f34 spec_l6Good_ps spec_l6Good_rs⟩ := congrArg (FSum.mk spec_l6Good_ps spec_l6Good_rs) (funext (spec_l6Good_run N))
  rw [e]
  exact fun_ok (c := spec_l6Good_code) progOk (spec_l6Good_gok N) (draw_ok progOk (spec_l6Good_gok N)) Tryz.call34 Tryz.func34 (by kernel_rfl) (lsOk_at (L := [spec_l6Good_l0_s N]) ⟨spec_l6Good_l0_ok N, trivial⟩) (by kernel_rfl) (by kernel_rfl) (by kernel_rfl) (by kernel_rfl) (by kernel_rfl)

/-! ### spec_l6All -/
abbrev spec_l6All_ps : List (PV.Mode × Ty) := [(.ro, I)]
abbrev spec_l6All_rs : List (Bool × Ty) := [(false, LLI)]
noncomputable def spec_l6All_G (N : Nat) : GTab := gOf []
theorem spec_l6All_gok (N : Nat) : GOk Tryz.prog (spec_l6All_G N) := gOf_ok trivial
noncomputable def spec_l6All_code : Code := (Tryz.f57.body).getD .skip
noncomputable def spec_l6All_l0_0_sh : Sh := ⟨[(0, .one (.ro I)), (3, .one (.ref 0)), (4, .one (.ro I)), (5, .one (.ref 1)), (6, .one (.ro I))], [.sl 27 LI .deep, .sl 3 I .own]⟩
noncomputable def spec_l6All_l0_0_ex : List (Ex × Sh) := [(.exit 2, ⟨[(0, .one (.ro I)), (3, .one (.ref 0)), (4, .one (.ro I)), (5, .one (.ref 1))], [.sl 27 LI .deep, .sl 3 I .own]⟩)]
noncomputable def spec_l6All_l0_0 {R : Type} (N : Nat) (k0 : Int → Int → (List (List Int)) → (List Int) → Option R) : Nat → Int → Int → Int → (List (List Int)) → (List Int) → Option R
  | 0, _, _, _, _, _ => none
  | K + 1, vars2, code1, v, o1, o2 =>
    (br (ilt v vars2)
      ((chk (ile 0 (IntKind.i64.wrap ((IntKind.i64.wrap (vars2 - 1)) - v)))
        (chk (room o2 [(bitop .and .i64 (shrI .i64 code1 (IntKind.i64.wrap ((IntKind.i64.wrap (vars2 - 1)) - v))) 1)])
        (spec_l6All_l0_0 N k0 K vars2 code1 (IntKind.i64.wrap (v + 1)) o1 (tApp o2 [(bitop .and .i64 (shrI .i64 code1 (IntKind.i64.wrap ((IntKind.i64.wrap (vars2 - 1)) - v))) 1)])))))
      (k0 vars2 code1 o1 o2))
noncomputable def spec_l6All_l0_0_again {R : Type} (N : Nat) (ks : (j : Nat) → ((spec_l6All_l0_0_ex.getD j (.ret, Sh.none)).2).T → Option R) (k : Nat) (x : spec_l6All_l0_0_sh.T) : Option R :=
  spec_l6All_l0_0 N (fun y0 y1 y2 y3 => ks 0 ((y0, (), y1, (), ()), (y2, y3, ()))) k x.1.1 x.1.2.2.1 x.1.2.2.2.2.1 x.2.1 x.2.2.1
noncomputable def spec_l6All_l0_0_s (N : Nat) : LSum := ⟨spec_l6All_l0_0_sh, spec_l6All_l0_0_ex, fun x ks => spec_l6All_l0_0_again N ks N x⟩
theorem spec_l6All_l0_0_step (N : Nat) (R : Type) (k : Nat) (x : spec_l6All_l0_0_sh.T) (ks : (j : Nat) → ((spec_l6All_l0_0_ex.getD j (.ret, Sh.none)).2).T → Option R) : spec_l6All_l0_0_again N ks (k + 1) x = roundF (spec_l6All_G N) tab [] (loopAt (loopAt spec_l6All_code 0) 0) spec_l6All_l0_0_sh spec_l6All_l0_0_ex (fun y => spec_l6All_l0_0_again N ks k y) ks x := by kernel_rfl
theorem spec_l6All_l0_0_ok (N : Nat) : LoopOk Tryz.prog Tryz.f57.ntmps (spec_l6All_l0_0_s N) (loopAt (loopAt spec_l6All_code 0) 0) :=
  loop_ok (l := spec_l6All_l0_0_s N) progOk (spec_l6All_gok N) (draw_ok progOk (spec_l6All_gok N)) (fun R k x ks => spec_l6All_l0_0_again N ks k x) (fun _ _ _ => rfl) (fun R k x ks => spec_l6All_l0_0_step N R k x ks) (fun R x ks r h => ⟨N, h⟩) (lsOk_at (L := []) trivial) (by kernel_rfl) (by kernel_rfl)
noncomputable def spec_l6All_l0_sh : Sh := ⟨[(0, .one (.ro I)), (3, .one (.ref 0)), (4, .one (.ro I))], [.sl 27 LI .deep]⟩
noncomputable def spec_l6All_l0_ex : List (Ex × Sh) := [(.exit 0, ⟨[(3, .one (.ref 0))], [.sl 27 LI .deep]⟩)]
noncomputable def spec_l6All_l0 {R : Type} (N : Nat) (k0 : (List (List Int)) → Option R) : Nat → Int → Int → (List (List Int)) → Option R
  | 0, _, _, _ => none
  | K + 1, vars1, code, o =>
    (chk (ile 0 vars1)
      (br (ilt code (shlI .i64 1 vars1))
      (spec_l6All_l0_0 N (fun vars2 code1 o1 o2 => (chk (room o1 [o2])
        (spec_l6All_l0 N k0 K vars2 (IntKind.i64.wrap (code1 + 1)) (tApp o1 [o2])))) N vars1 code 0 o [])
      (k0 o)))
noncomputable def spec_l6All_l0_again {R : Type} (N : Nat) (ks : (j : Nat) → ((spec_l6All_l0_ex.getD j (.ret, Sh.none)).2).T → Option R) (k : Nat) (x : spec_l6All_l0_sh.T) : Option R :=
  spec_l6All_l0 N (fun y0 => ks 0 (((), ()), (y0, ()))) k x.1.1 x.1.2.2.1 x.2.1
noncomputable def spec_l6All_l0_s (N : Nat) : LSum := ⟨spec_l6All_l0_sh, spec_l6All_l0_ex, fun x ks => spec_l6All_l0_again N ks N x⟩
theorem spec_l6All_l0_step (N : Nat) (R : Type) (k : Nat) (x : spec_l6All_l0_sh.T) (ks : (j : Nat) → ((spec_l6All_l0_ex.getD j (.ret, Sh.none)).2).T → Option R) : spec_l6All_l0_again N ks (k + 1) x = roundF (spec_l6All_G N) tab [spec_l6All_l0_0_s N] (loopAt spec_l6All_code 0) spec_l6All_l0_sh spec_l6All_l0_ex (fun y => spec_l6All_l0_again N ks k y) ks x := by kernel_rfl
theorem spec_l6All_l0_ok (N : Nat) : LoopOk Tryz.prog Tryz.f57.ntmps (spec_l6All_l0_s N) (loopAt spec_l6All_code 0) :=
  loop_ok (l := spec_l6All_l0_s N) progOk (spec_l6All_gok N) (draw_ok progOk (spec_l6All_gok N)) (fun R k x ks => spec_l6All_l0_again N ks k x) (fun _ _ _ => rfl) (fun R k x ks => spec_l6All_l0_step N R k x ks) (fun R x ks r h => ⟨N, h⟩) (lsOk_at (L := [spec_l6All_l0_0_s N]) ⟨spec_l6All_l0_0_ok N, trivial⟩) (by kernel_rfl) (by kernel_rfl)
noncomputable def spec_l6All (N : Nat) (vars : Int) : Option (((List (List Int)) × Unit) × (Unit)) :=
  spec_l6All_l0 N (fun o => some ((o, ()), ())) N vars 0 []
noncomputable def spec_l6All_S (N : Nat) : FSum := ⟨spec_l6All_ps, spec_l6All_rs, fun x => spec_l6All N x.1⟩
theorem spec_l6All_run (N : Nat) (x : argsT spec_l6All_ps) : spec_l6All N x.1 = funF (spec_l6All_G N) tab [spec_l6All_l0_s N] Tryz.f57 spec_l6All_ps spec_l6All_rs x := by kernel_rfl
theorem spec_l6All_pc (N : Nat) : PC Tryz.prog 57 (spec_l6All_S N) := by
  have e : spec_l6All_S N = ⟨spec_l6All_ps, spec_l6All_rs, funF (spec_l6All_G N) tab [spec_l6All_l0_s N] Tryz.f57 spec_l6All_ps spec_l6All_rs⟩ := congrArg (FSum.mk spec_l6All_ps spec_l6All_rs) (funext (spec_l6All_run N))
  rw [e]
  exact fun_ok (c := spec_l6All_code) progOk (spec_l6All_gok N) (draw_ok progOk (spec_l6All_gok N)) Tryz.call57 Tryz.func57 (by kernel_rfl) (lsOk_at (L := [spec_l6All_l0_s N]) ⟨spec_l6All_l0_ok N, trivial⟩) (by kernel_rfl) (by kernel_rfl) (by kernel_rfl) (by kernel_rfl) (by kernel_rfl)

/-! ### spec_l6Meets -/
abbrev spec_l6Meets_ps : List (PV.Mode × Ty) := [(.ro, LI), (.ro, I)]
abbrev spec_l6Meets_rs : List (Bool × Ty) := [(true, .bool)]
noncomputable def spec_l6Meets_G (N : Nat) : GTab := gOf []
theorem spec_l6Meets_gok (N : Nat) : GOk Tryz.prog (spec_l6Meets_G N) := gOf_ok trivial
noncomputable def spec_l6Meets_code : Code := (Tryz.f52.body).getD .skip
noncomputable def spec_l6Meets (N : Nat) (bits : (List Int)) (x : Int) : Option ((Bool × Unit) × (Unit)) :=
  (br (ilt 0 x)
    ((chk (inb bits (IntKind.i64.wrap (x - 1)))
      (some (((ieq (rdI bits (IntKind.i64.wrap (x - 1))) 1), ()), ()))))
    ((chk (inb bits (IntKind.i64.wrap ((IntKind.i64.wrap (0 - x)) - 1)))
      (some (((ieq (rdI bits (IntKind.i64.wrap ((IntKind.i64.wrap (0 - x)) - 1))) 0), ()), ())))))
noncomputable def spec_l6Meets_S (N : Nat) : FSum := ⟨spec_l6Meets_ps, spec_l6Meets_rs, fun x => spec_l6Meets N x.1 x.2.1⟩
theorem spec_l6Meets_run (N : Nat) (x : argsT spec_l6Meets_ps) : spec_l6Meets N x.1 x.2.1 = funF (spec_l6Meets_G N) tab [] Tryz.f52 spec_l6Meets_ps spec_l6Meets_rs x := by kernel_rfl
theorem spec_l6Meets_pc (N : Nat) : PC Tryz.prog 52 (spec_l6Meets_S N) := by
  have e : spec_l6Meets_S N = ⟨spec_l6Meets_ps, spec_l6Meets_rs, funF (spec_l6Meets_G N) tab [] Tryz.f52 spec_l6Meets_ps spec_l6Meets_rs⟩ := congrArg (FSum.mk spec_l6Meets_ps spec_l6Meets_rs) (funext (spec_l6Meets_run N))
  rw [e]
  exact fun_ok (c := spec_l6Meets_code) progOk (spec_l6Meets_gok N) (draw_ok progOk (spec_l6Meets_gok N)) Tryz.call52 Tryz.func52 (by kernel_rfl) (lsOk_at (L := []) trivial) (by kernel_rfl) (by kernel_rfl) (by kernel_rfl) (by kernel_rfl) (by kernel_rfl)

/-! ### spec_l6Solves -/
abbrev spec_l6Solves_ps : List (PV.Mode × Ty) := [(.ro, QILLI), (.ro, LI)]
abbrev spec_l6Solves_rs : List (Bool × Ty) := [(true, .bool)]
noncomputable def spec_l6Solves_G (N : Nat) : GTab := gOf [(52, spec_l6Meets_S N)]
theorem spec_l6Solves_gok (N : Nat) : GOk Tryz.prog (spec_l6Solves_G N) := gOf_ok ⟨spec_l6Meets_pc N, trivial⟩
noncomputable def spec_l6Solves_code : Code := (Tryz.f26.body).getD .skip
noncomputable def spec_l6Solves_l0_0_sh : Sh := ⟨[(1, .one (.ro LI)), (2, .one (.adr 0 0)), (5, .one (.ro I)), (6, .one (.ro .bool)), (7, .one (.ro I))], [.box [.ro I, .ro LLI]]⟩
noncomputable def spec_l6Solves_l0_0_ex : List (Ex × Sh) := [(.exit 2, ⟨[(1, .one (.ro LI)), (2, .one (.adr 0 0)), (5, .one (.ro I)), (6, .one (.ro .bool))], [.box [.ro I, .ro LLI]]⟩)]
noncomputable def spec_l6Solves_l0_0 {R : Type} (N : Nat) (k0 : (List Int) → Int → Bool → Int → (List (List Int)) → Option R) : Nat → (List Int) → Int → Bool → Int → Int → (List (List Int)) → Option R
  | 0, _, _, _, _, _, _ => none
  | K + 1, bits2, i1, met, kv, o2, o3 =>
    (chk (inb o3 i1)
      (br (ilt kv (tLen (rdL o3 i1)))
      ((br met
        (spec_l6Solves_l0_0 N k0 K bits2 i1 true (IntKind.i64.wrap (kv + 1)) o2 o3)
        ((chk (inb o3 i1)
          (chk (inb (rdL o3 i1) kv)
          ((spec_l6Meets N bits2 (rdI (rdL o3 i1) kv)).bind fun r =>
          spec_l6Solves_l0_0 N k0 K bits2 i1 r.1.1 (IntKind.i64.wrap (kv + 1)) o2 o3))))))
      (k0 bits2 i1 met o2 o3)))
noncomputable def spec_l6Solves_l0_0_again {R : Type} (N : Nat) (ks : (j : Nat) → ((spec_l6Solves_l0_0_ex.getD j (.ret, Sh.none)).2).T → Option R) (k : Nat) (x : spec_l6Solves_l0_0_sh.T) : Option R :=
  spec_l6Solves_l0_0 N (fun y0 y1 y2 y3 y4 => ks 0 ((y0, (), y1, y2, ()), ((y3, y4, ()), ()))) k x.1.1 x.1.2.2.1 x.1.2.2.2.1 x.1.2.2.2.2.1 x.2.1.1 x.2.1.2.1
noncomputable def spec_l6Solves_l0_0_s (N : Nat) : LSum := ⟨spec_l6Solves_l0_0_sh, spec_l6Solves_l0_0_ex, fun x ks => spec_l6Solves_l0_0_again N ks N x⟩
theorem spec_l6Solves_l0_0_step (N : Nat) (R : Type) (k : Nat) (x : spec_l6Solves_l0_0_sh.T) (ks : (j : Nat) → ((spec_l6Solves_l0_0_ex.getD j (.ret, Sh.none)).2).T → Option R) : spec_l6Solves_l0_0_again N ks (k + 1) x = roundF (spec_l6Solves_G N) tab [] (loopAt (loopAt spec_l6Solves_code 0) 0) spec_l6Solves_l0_0_sh spec_l6Solves_l0_0_ex (fun y => spec_l6Solves_l0_0_again N ks k y) ks x := by kernel_rfl
theorem spec_l6Solves_l0_0_ok (N : Nat) : LoopOk Tryz.prog Tryz.f26.ntmps (spec_l6Solves_l0_0_s N) (loopAt (loopAt spec_l6Solves_code 0) 0) :=
  loop_ok (l := spec_l6Solves_l0_0_s N) progOk (spec_l6Solves_gok N) (draw_ok progOk (spec_l6Solves_gok N)) (fun R k x ks => spec_l6Solves_l0_0_again N ks k x) (fun _ _ _ => rfl) (fun R k x ks => spec_l6Solves_l0_0_step N R k x ks) (fun R x ks r h => ⟨N, h⟩) (lsOk_at (L := []) trivial) (by kernel_rfl) (by kernel_rfl)
noncomputable def spec_l6Solves_l0_sh : Sh := ⟨[(1, .one (.ro LI)), (2, .one (.adr 0 0)), (5, .one (.ro I))], [.box [.ro I, .ro LLI]]⟩
noncomputable def spec_l6Solves_l0_ex : List (Ex × Sh) := [(.ret, ⟨[(4, .one (.ro .bool))], []⟩), (.exit 0, ⟨[], []⟩)]
noncomputable def spec_l6Solves_l0 {R : Type} (N : Nat) (k0 : Bool → Option R) (k1 : Unit → Option R) : Nat → (List Int) → Int → Int → (List (List Int)) → Option R
  | 0, _, _, _, _ => none
  | K + 1, bits1, i, o, o1 =>
    (br (ilt i (tLen o1))
      (spec_l6Solves_l0_0 N (fun bits2 i1 met o2 o3 => (br (!met)
        (k0 false)
        (spec_l6Solves_l0 N k0 k1 K bits2 (IntKind.i64.wrap (i1 + 1)) o2 o3))) N bits1 i false 0 o o1)
      (k1 ()))
noncomputable def spec_l6Solves_l0_again {R : Type} (N : Nat) (ks : (j : Nat) → ((spec_l6Solves_l0_ex.getD j (.ret, Sh.none)).2).T → Option R) (k : Nat) (x : spec_l6Solves_l0_sh.T) : Option R :=
  spec_l6Solves_l0 N (fun y0 => ks 0 ((y0, ()), ())) (fun (_ : Unit) => ks 1 ((), ())) k x.1.1 x.1.2.2.1 x.2.1.1 x.2.1.2.1
noncomputable def spec_l6Solves_l0_s (N : Nat) : LSum := ⟨spec_l6Solves_l0_sh, spec_l6Solves_l0_ex, fun x ks => spec_l6Solves_l0_again N ks N x⟩
theorem spec_l6Solves_l0_step (N : Nat) (R : Type) (k : Nat) (x : spec_l6Solves_l0_sh.T) (ks : (j : Nat) → ((spec_l6Solves_l0_ex.getD j (.ret, Sh.none)).2).T → Option R) : spec_l6Solves_l0_again N ks (k + 1) x = roundF (spec_l6Solves_G N) tab [spec_l6Solves_l0_0_s N] (loopAt spec_l6Solves_code 0) spec_l6Solves_l0_sh spec_l6Solves_l0_ex (fun y => spec_l6Solves_l0_again N ks k y) ks x := by kernel_rfl
theorem spec_l6Solves_l0_ok (N : Nat) : LoopOk Tryz.prog Tryz.f26.ntmps (spec_l6Solves_l0_s N) (loopAt spec_l6Solves_code 0) :=
  loop_ok (l := spec_l6Solves_l0_s N) progOk (spec_l6Solves_gok N) (draw_ok progOk (spec_l6Solves_gok N)) (fun R k x ks => spec_l6Solves_l0_again N ks k x) (fun _ _ _ => rfl) (fun R k x ks => spec_l6Solves_l0_step N R k x ks) (fun R x ks r h => ⟨N, h⟩) (lsOk_at (L := [spec_l6Solves_l0_0_s N]) ⟨spec_l6Solves_l0_0_ok N, trivial⟩) (by kernel_rfl) (by kernel_rfl)
noncomputable def spec_l6Solves (N : Nat) (f : (Int × (List (List Int)))) (bits : (List Int)) : Option ((Bool × Unit) × (Unit)) :=
  spec_l6Solves_l0 N (fun x => some ((x, ()), ())) (fun (_ : Unit) => some ((true, ()), ())) N bits 0 f.1 f.2
noncomputable def spec_l6Solves_S (N : Nat) : FSum := ⟨spec_l6Solves_ps, spec_l6Solves_rs, fun x => spec_l6Solves N x.1 x.2.1⟩
theorem spec_l6Solves_run (N : Nat) (x : argsT spec_l6Solves_ps) : spec_l6Solves N x.1 x.2.1 = funF (spec_l6Solves_G N) tab [spec_l6Solves_l0_s N] Tryz.f26 spec_l6Solves_ps spec_l6Solves_rs x := by kernel_rfl
theorem spec_l6Solves_pc (N : Nat) : PC Tryz.prog 26 (spec_l6Solves_S N) := by
  have e : spec_l6Solves_S N = ⟨spec_l6Solves_ps, spec_l6Solves_rs, funF (spec_l6Solves_G N) tab [spec_l6Solves_l0_s N] Tryz.f26 spec_l6Solves_ps spec_l6Solves_rs⟩ := congrArg (FSum.mk spec_l6Solves_ps spec_l6Solves_rs) (funext (spec_l6Solves_run N))
  rw [e]
  exact fun_ok (c := spec_l6Solves_code) progOk (spec_l6Solves_gok N) (draw_ok progOk (spec_l6Solves_gok N)) Tryz.call26 Tryz.func26 (by kernel_rfl) (lsOk_at (L := [spec_l6Solves_l0_s N]) ⟨spec_l6Solves_l0_ok N, trivial⟩) (by kernel_rfl) (by kernel_rfl) (by kernel_rfl) (by kernel_rfl) (by kernel_rfl)

/-! ### spec_l6Solutions -/
abbrev spec_l6Solutions_ps : List (PV.Mode × Ty) := [(.ro, QILLI)]
abbrev spec_l6Solutions_rs : List (Bool × Ty) := [(false, LLI)]
noncomputable def spec_l6Solutions_G (N : Nat) : GTab := gOf [(57, spec_l6All_S N), (26, spec_l6Solves_S N)]
theorem spec_l6Solutions_gok (N : Nat) : GOk Tryz.prog (spec_l6Solutions_G N) := gOf_ok ⟨spec_l6All_pc N, spec_l6Solves_pc N, trivial⟩
noncomputable def spec_l6Solutions_code : Code := (Tryz.f35.body).getD .skip
noncomputable def spec_l6Solutions_l0_sh : Sh := ⟨[(1, .one (.adr 0 0)), (3, .one (.ref 1)), (4, .one (.ro LLI)), (5, .one (.ro I))], [.box [.ro I, .ro LLI], .sl 27 LI .own]⟩
noncomputable def spec_l6Solutions_l0_ex : List (Ex × Sh) := [(.exit 0, ⟨[(3, .one (.ref 0))], [.sl 27 LI .own]⟩)]
noncomputable def spec_l6Solutions_l0 {R : Type} (N : Nat) (k0 : (List (List Int)) → Option R) : Nat → (List (List Int)) → Int → Int → (List (List Int)) → (List (List Int)) → Option R
  | 0, _, _, _, _, _ => none
  | K + 1, all1, i1, o3, o4, o5 =>
    (br (ilt i1 (tLen all1))
      ((chk (inb all1 i1)
        ((spec_l6Solves N (o3, o4) (rdL all1 i1)).bind fun r2 =>
        (br r2.1.1
          ((chk (inb all1 i1)
            (chk (room o5 [(rdL all1 i1)])
            (spec_l6Solutions_l0 N k0 K all1 (IntKind.i64.wrap (i1 + 1)) o3 o4 (tApp o5 [(rdL all1 i1)])))))
          (spec_l6Solutions_l0 N k0 K all1 (IntKind.i64.wrap (i1 + 1)) o3 o4 o5)))))
      (k0 o5))
noncomputable def spec_l6Solutions_l0_again {R : Type} (N : Nat) (ks : (j : Nat) → ((spec_l6Solutions_l0_ex.getD j (.ret, Sh.none)).2).T → Option R) (k : Nat) (x : spec_l6Solutions_l0_sh.T) : Option R :=
  spec_l6Solutions_l0 N (fun y0 => ks 0 (((), ()), (y0, ()))) k x.1.2.2.1 x.1.2.2.2.1 x.2.1.1 x.2.1.2.1 x.2.2.1
noncomputable def spec_l6Solutions_l0_s (N : Nat) : LSum := ⟨spec_l6Solutions_l0_sh, spec_l6Solutions_l0_ex, fun x ks => spec_l6Solutions_l0_again N ks N x⟩
theorem spec_l6Solutions_l0_step (N : Nat) (R : Type) (k : Nat) (x : spec_l6Solutions_l0_sh.T) (ks : (j : Nat) → ((spec_l6Solutions_l0_ex.getD j (.ret, Sh.none)).2).T → Option R) : spec_l6Solutions_l0_again N ks (k + 1) x = roundF (spec_l6Solutions_G N) tab [] (loopAt spec_l6Solutions_code 0) spec_l6Solutions_l0_sh spec_l6Solutions_l0_ex (fun y => spec_l6Solutions_l0_again N ks k y) ks x := by kernel_rfl
theorem spec_l6Solutions_l0_ok (N : Nat) : LoopOk Tryz.prog Tryz.f35.ntmps (spec_l6Solutions_l0_s N) (loopAt spec_l6Solutions_code 0) :=
  loop_ok (l := spec_l6Solutions_l0_s N) progOk (spec_l6Solutions_gok N) (draw_ok progOk (spec_l6Solutions_gok N)) (fun R k x ks => spec_l6Solutions_l0_again N ks k x) (fun _ _ _ => rfl) (fun R k x ks => spec_l6Solutions_l0_step N R k x ks) (fun R x ks r h => ⟨N, h⟩) (lsOk_at (L := []) trivial) (by kernel_rfl) (by kernel_rfl)
noncomputable def spec_l6Solutions (N : Nat) (f : (Int × (List (List Int)))) : Option (((List (List Int)) × Unit) × (Unit)) :=
  ((spec_l6All N f.1).bind fun r =>
    spec_l6Solutions_l0 N (fun o3 => some ((o3, ()), ())) N r.1.1 0 f.1 f.2 [])
noncomputable def spec_l6Solutions_S (N : Nat) : FSum := ⟨spec_l6Solutions_ps, spec_l6Solutions_rs, fun x => spec_l6Solutions N x.1⟩
theorem spec_l6Solutions_run (N : Nat) (x : argsT spec_l6Solutions_ps) : spec_l6Solutions N x.1 = funF (spec_l6Solutions_G N) tab [spec_l6Solutions_l0_s N] Tryz.f35 spec_l6Solutions_ps spec_l6Solutions_rs x := by kernel_rfl
theorem spec_l6Solutions_pc (N : Nat) : PC Tryz.prog 35 (spec_l6Solutions_S N) := by
  have e : spec_l6Solutions_S N = ⟨spec_l6Solutions_ps, spec_l6Solutions_rs, funF (spec_l6Solutions_G N) tab [spec_l6Solutions_l0_s N] Tryz.f35 spec_l6Solutions_ps spec_l6Solutions_rs⟩ := congrArg (FSum.mk spec_l6Solutions_ps spec_l6Solutions_rs) (funext (spec_l6Solutions_run N))
  rw [e]
  exact fun_ok (c := spec_l6Solutions_code) progOk (spec_l6Solutions_gok N) (draw_ok progOk (spec_l6Solutions_gok N)) Tryz.call35 Tryz.func35 (by kernel_rfl) (lsOk_at (L := [spec_l6Solutions_l0_s N]) ⟨spec_l6Solutions_l0_ok N, trivial⟩) (by kernel_rfl) (by kernel_rfl) (by kernel_rfl) (by kernel_rfl) (by kernel_rfl)

/-! ### spec_l1Own -/
abbrev spec_l1Own_ps : List (PV.Mode × Ty) := [(.ro, LI)]
abbrev spec_l1Own_rs : List (Bool × Ty) := [(true, LI)]
noncomputable def spec_l1Own_G (N : Nat) : GTab := gOf []
theorem spec_l1Own_gok (N : Nat) : GOk Tryz.prog (spec_l1Own_G N) := gOf_ok trivial
noncomputable def spec_l1Own_code : Code := (Tryz.f36.body).getD .skip
noncomputable def spec_l1Own (N : Nat) (l : (List Int)) : Option (((List Int) × Unit) × (Unit)) :=
  (chk (room (α := Int) (β := Int) [] l)
    (some (((tApp [] l), ()), ())))
noncomputable def spec_l1Own_S (N : Nat) : FSum := ⟨spec_l1Own_ps, spec_l1Own_rs, fun x => spec_l1Own N x.1⟩
theorem spec_l1Own_run (N : Nat) (x : argsT spec_l1Own_ps) : spec_l1Own N x.1 = funF (spec_l1Own_G N) tab [] Tryz.f36 spec_l1Own_ps spec_l1Own_rs x := by kernel_rfl
theorem spec_l1Own_pc (N : Nat) : PC Tryz.prog 36 (spec_l1Own_S N) := by
  have e : spec_l1Own_S N = ⟨spec_l1Own_ps, spec_l1Own_rs, funF (spec_l1Own_G N) tab [] Tryz.f36 spec_l1Own_ps spec_l1Own_rs⟩ := congrArg (FSum.mk spec_l1Own_ps spec_l1Own_rs) (funext (spec_l1Own_run N))
  rw [e]
  exact fun_ok (c := spec_l1Own_code) progOk (spec_l1Own_gok N) (draw_ok progOk (spec_l1Own_gok N)) Tryz.call36 Tryz.func36 (by kernel_rfl) (lsOk_at (L := []) trivial) (by kernel_rfl) (by kernel_rfl) (by kernel_rfl) (by kernel_rfl) (by kernel_rfl)

/-! ### spec_l1Cur_bits -/
abbrev spec_l1Cur_bits_ps : List (PV.Mode × Ty) := [(.mut, BQOU8QIU64), (.ro, QILLI)]
abbrev spec_l1Cur_bits_rs : List (Bool × Ty) := [(true, LI)]
noncomputable def spec_l1Cur_bits_G (N : Nat) : GTab := gOf [(34, spec_l6Good_S N), (31, spec_l1Cur_one_S N), (35, spec_l6Solutions_S N), (30, spec_l1Cur_pick_S N), (36, spec_l1Own_S N), (29, spec_l1Cur_among_S N)]
theorem spec_l1Cur_bits_gok (N : Nat) : GOk Tryz.prog (spec_l1Cur_bits_G N) := gOf_ok ⟨spec_l6Good_pc N, spec_l1Cur_one_pc N, spec_l6Solutions_pc N, spec_l1Cur_pick_pc N, spec_l1Own_pc N, spec_l1Cur_among_pc N, trivial⟩
noncomputable def spec_l1Cur_bits_code : Code := (Tryz.f17.body).getD .skip
noncomputable def spec_l1Cur_bits_l0_sh : Sh := ⟨[(0, .one (.adr 0 0)), (3, .one (.adr 1 0)), (6, .one (.ref 2)), (7, .one (.ro I))], [.mbox QOU8QIU64, .box [.ro I, .ro LLI], .sl 3 I .own]⟩
noncomputable def spec_l1Cur_bits_l0_ex : List (Ex × Sh) := [(.exit 0, ⟨[(0, .one (.adr 0 0)), (6, .one (.ref 1))], [.mbox QOU8QIU64, .sl 3 I .own]⟩)]
noncomputable def spec_l1Cur_bits_l0 {R : Type} (N : Nat) (k0 : ((List Int) × (Int × Int)) → (List Int) → Option R) : Nat → Int → ((List Int) × (Int × Int)) → Int → (List (List Int)) → (List Int) → Option R
  | 0, _, _, _, _, _ => none
  | K + 1, v, o, o1, o2, o3 =>
    (br (ilt v o1)
      ((br (ilt v 7)
        (((spec_l1Cur_pick N o 2).bind fun r5 =>
          (chk (room o3 [r5.1.1])
            (spec_l1Cur_bits_l0 N k0 K (IntKind.i64.wrap (v + 1)) r5.2.1 o1 o2 (tApp o3 [r5.1.1])))))
        (k0 o o3)))
      (k0 o o3))
noncomputable def spec_l1Cur_bits_l0_again {R : Type} (N : Nat) (ks : (j : Nat) → ((spec_l1Cur_bits_l0_ex.getD j (.ret, Sh.none)).2).T → Option R) (k : Nat) (x : spec_l1Cur_bits_l0_sh.T) : Option R :=
  spec_l1Cur_bits_l0 N (fun y0 y1 => ks 0 (((), (), ()), (y0, y1, ()))) k x.1.2.2.2.1 x.2.1 x.2.2.1.1 x.2.2.1.2.1 x.2.2.2.1
noncomputable def spec_l1Cur_bits_l0_s (N : Nat) : LSum := ⟨spec_l1Cur_bits_l0_sh, spec_l1Cur_bits_l0_ex, fun x ks => spec_l1Cur_bits_l0_again N ks N x⟩
theorem spec_l1Cur_bits_l0_step (N : Nat) (R : Type) (k : Nat) (x : spec_l1Cur_bits_l0_sh.T) (ks : (j : Nat) → ((spec_l1Cur_bits_l0_ex.getD j (.ret, Sh.none)).2).T → Option R) : spec_l1Cur_bits_l0_again N ks (k + 1) x = roundF (spec_l1Cur_bits_G N) tab [] (loopAt spec_l1Cur_bits_code 0) spec_l1Cur_bits_l0_sh spec_l1Cur_bits_l0_ex (fun y => spec_l1Cur_bits_l0_again N ks k y) ks x := by kernel_rfl
theorem spec_l1Cur_bits_l0_ok (N : Nat) : LoopOk Tryz.prog Tryz.f17.ntmps (spec_l1Cur_bits_l0_s N) (loopAt spec_l1Cur_bits_code 0) :=
  loop_ok (l := spec_l1Cur_bits_l0_s N) progOk (spec_l1Cur_bits_gok N) (draw_ok progOk (spec_l1Cur_bits_gok N)) (fun R k x ks => spec_l1Cur_bits_l0_again N ks k x) (fun _ _ _ => rfl) (fun R k x ks => spec_l1Cur_bits_l0_step N R k x ks) (fun R x ks r h => ⟨N, h⟩) (lsOk_at (L := []) trivial) (by kernel_rfl) (by kernel_rfl)
noncomputable def spec_l1Cur_bits (N : Nat) (c : ((List Int) × (Int × Int))) (f : (Int × (List (List Int)))) : Option (((List Int) × Unit) × (((List Int) × (Int × Int)) × Unit)) :=
  ((spec_l6Good N (f.1, f.2)).bind fun r =>
    (br r.1.1
      (((spec_l1Cur_one N c 6).bind fun r1 =>
        (br (!r1.1.1)
          (((spec_l6Solutions N (f.1, f.2)).bind fun r2 =>
            (br (ilt 0 (tLen r2.1.1))
              (((spec_l1Cur_pick N r1.2.1 (tLen r2.1.1)).bind fun r3 =>
                (chk (inb r2.1.1 r3.1.1)
                  ((spec_l1Own N (rdL r2.1.1 r3.1.1)).bind fun r4 =>
                  some ((r4.1.1, ()), (r3.2.1, ()))))))
              (spec_l1Cur_bits_l0 N (fun o o1 => (br (ilt 0 (tLen o1))
                (((spec_l1Cur_one N o 8).bind fun r5 =>
                  (br r5.1.1
                    (((spec_l1Cur_among N r5.2.1 [2, (-1)]).bind fun r6 =>
                      (chk (inb o1 0)
                        ((spec_l1Cur_one N r6.2.1 12).bind fun r7 =>
                        (br r7.1.1
                          ((chk (room (tSet o1 0 r6.1.1) [0])
                            (some (((tApp (tSet o1 0 r6.1.1) [0]), ()), (r7.2.1, ())))))
                          (some (((tSet o1 0 r6.1.1), ()), (r7.2.1, ()))))))))
                    (((spec_l1Cur_one N r5.2.1 12).bind fun r8 =>
                      (br r8.1.1
                        ((chk (room o1 [0])
                          (some (((tApp o1 [0]), ()), (r8.2.1, ())))))
                        (some ((o1, ()), (r8.2.1, ())))))))))
                (((spec_l1Cur_one N o 12).bind fun r9 =>
                  (br r9.1.1
                    ((chk (room o1 [0])
                      (some (((tApp o1 [0]), ()), (r9.2.1, ())))))
                    (some ((o1, ()), (r9.2.1, ())))))))) N 0 r1.2.1 f.1 f.2 []))))
          (spec_l1Cur_bits_l0 N (fun o2 o3 => (br (ilt 0 (tLen o3))
            (((spec_l1Cur_one N o2 8).bind fun r10 =>
              (br r10.1.1
                (((spec_l1Cur_among N r10.2.1 [2, (-1)]).bind fun r11 =>
                  (chk (inb o3 0)
                    ((spec_l1Cur_one N r11.2.1 12).bind fun r12 =>
                    (br r12.1.1
                      ((chk (room (tSet o3 0 r11.1.1) [0])
                        (some (((tApp (tSet o3 0 r11.1.1) [0]), ()), (r12.2.1, ())))))
                      (some (((tSet o3 0 r11.1.1), ()), (r12.2.1, ()))))))))
                (((spec_l1Cur_one N r10.2.1 12).bind fun r13 =>
                  (br r13.1.1
                    ((chk (room o3 [0])
                      (some (((tApp o3 [0]), ()), (r13.2.1, ())))))
                    (some ((o3, ()), (r13.2.1, ())))))))))
            (((spec_l1Cur_one N o2 12).bind fun r14 =>
              (br r14.1.1
                ((chk (room o3 [0])
                  (some (((tApp o3 [0]), ()), (r14.2.1, ())))))
                (some ((o3, ()), (r14.2.1, ())))))))) N 0 r1.2.1 f.1 f.2 []))))
      (spec_l1Cur_bits_l0 N (fun o4 o5 => (br (ilt 0 (tLen o5))
        (((spec_l1Cur_one N o4 8).bind fun r15 =>
          (br r15.1.1
            (((spec_l1Cur_among N r15.2.1 [2, (-1)]).bind fun r16 =>
              (chk (inb o5 0)
                ((spec_l1Cur_one N r16.2.1 12).bind fun r17 =>
                (br r17.1.1
                  ((chk (room (tSet o5 0 r16.1.1) [0])
                    (some (((tApp (tSet o5 0 r16.1.1) [0]), ()), (r17.2.1, ())))))
                  (some (((tSet o5 0 r16.1.1), ()), (r17.2.1, ()))))))))
            (((spec_l1Cur_one N r15.2.1 12).bind fun r18 =>
              (br r18.1.1
                ((chk (room o5 [0])
                  (some (((tApp o5 [0]), ()), (r18.2.1, ())))))
                (some ((o5, ()), (r18.2.1, ())))))))))
        (((spec_l1Cur_one N o4 12).bind fun r19 =>
          (br r19.1.1
            ((chk (room o5 [0])
              (some (((tApp o5 [0]), ()), (r19.2.1, ())))))
            (some ((o5, ()), (r19.2.1, ())))))))) N 0 c f.1 f.2 [])))
noncomputable def spec_l1Cur_bits_S (N : Nat) : FSum := ⟨spec_l1Cur_bits_ps, spec_l1Cur_bits_rs, fun x => spec_l1Cur_bits N x.1 x.2.1⟩
theorem spec_l1Cur_bits_run (N : Nat) (x : argsT spec_l1Cur_bits_ps) : spec_l1Cur_bits N x.1 x.2.1 = funF (spec_l1Cur_bits_G N) tab [spec_l1Cur_bits_l0_s N] Tryz.f17 spec_l1Cur_bits_ps spec_l1Cur_bits_rs x := by kernel_rfl
theorem spec_l1Cur_bits_pc (N : Nat) : PC Tryz.prog 17 (spec_l1Cur_bits_S N) := by
  have e : spec_l1Cur_bits_S N = ⟨spec_l1Cur_bits_ps, spec_l1Cur_bits_rs, funF (spec_l1Cur_bits_G N) tab [spec_l1Cur_bits_l0_s N] Tryz.f17 spec_l1Cur_bits_ps spec_l1Cur_bits_rs⟩ := congrArg (FSum.mk spec_l1Cur_bits_ps spec_l1Cur_bits_rs) (funext (spec_l1Cur_bits_run N))
  rw [e]
  exact fun_ok (c := spec_l1Cur_bits_code) progOk (spec_l1Cur_bits_gok N) (draw_ok progOk (spec_l1Cur_bits_gok N)) Tryz.call17 Tryz.func17 (by kernel_rfl) (lsOk_at (L := [spec_l1Cur_bits_l0_s N]) ⟨spec_l1Cur_bits_l0_ok N, trivial⟩) (by kernel_rfl) (by kernel_rfl) (by kernel_rfl) (by kernel_rfl) (by kernel_rfl)

/-! ### spec_DrawFlipDistance -/
abbrev spec_DrawFlipDistance_ps : List (PV.Mode × Ty) := [(.ro, LU8)]
abbrev spec_DrawFlipDistance_rs : List (Bool × Ty) := [(false, QILLI), (false, LI), (false, LI)]
noncomputable def spec_DrawFlipDistance_G (N : Nat) : GTab := gOf [(16, spec_l1Cur_formula_S N), (17, spec_l1Cur_bits_S N)]
theorem spec_DrawFlipDistance_gok (N : Nat) : GOk Tryz.prog (spec_DrawFlipDistance_G N) := gOf_ok ⟨spec_l1Cur_formula_pc N, spec_l1Cur_bits_pc N, trivial⟩
noncomputable def spec_DrawFlipDistance_code : Code := (Tryz.f5.body).getD .skip
noncomputable def spec_DrawFlipDistance (N : Nat) (code : (List Int)) : Option (((Int × (List (List Int))) × (List Int) × (List Int) × Unit) × (Unit)) :=
  ((spec_l1Cur_formula N (code, (0, 0))).bind fun r =>
    ((spec_l1Cur_bits N (r.2.1.1, (r.2.1.2.1, r.2.1.2.2)) (r.1.1.1, r.1.1.2)).bind fun r1 =>
      ((spec_l1Cur_bits N r1.2.1 (r.1.1.1, r.1.1.2)).bind fun r2 =>
        some (((r.1.1.1, r.1.1.2), r1.1.1, r2.1.1, ()), ()))))
noncomputable def spec_DrawFlipDistance_S (N : Nat) : FSum := ⟨spec_DrawFlipDistance_ps, spec_DrawFlipDistance_rs, fun x => spec_DrawFlipDistance N x.1⟩
theorem spec_DrawFlipDistance_run (N : Nat) (x : argsT spec_DrawFlipDistance_ps) : spec_DrawFlipDistance N x.1 = funF (spec_DrawFlipDistance_G N) tab [] Tryz.f5 spec_DrawFlipDistance_ps spec_DrawFlipDistance_rs x := by kernel_rfl
theorem spec_DrawFlipDistance_pc (N : Nat) : PC Tryz.prog 5 (spec_DrawFlipDistance_S N) := by
  have e : spec_DrawFlipDistance_S N = ⟨spec_DrawFlipDistance_ps, spec_DrawFlipDistance_rs, funF (spec_DrawFlipDistance_G N) tab [] Tryz.f5 spec_DrawFlipDistance_ps spec_DrawFlipDistance_rs⟩ := congrArg (FSum.mk spec_DrawFlipDistance_ps spec_DrawFlipDistance_rs) (funext (spec_DrawFlipDistance_run N))
  rw [e]
  exact fun_ok (c := spec_DrawFlipDistance_code) progOk (spec_DrawFlipDistance_gok N) (draw_ok progOk (spec_DrawFlipDistance_gok N)) Tryz.call5 Tryz.func5 (by kernel_rfl) (lsOk_at (L := []) trivial) (by kernel_rfl) (by kernel_rfl) (by kernel_rfl) (by kernel_rfl) (by kernel_rfl)

/-! ### impl_between -/
abbrev impl_between_ps : List (PV.Mode × Ty) := [(.ro, I), (.ro, I), (.ro, I)]
abbrev impl_between_rs : List (Bool × Ty) := [(true, .bool)]
noncomputable def impl_between_G (N : Nat) : GTab := gOf []
theorem impl_between_gok (N : Nat) : GOk Tryz.prog (impl_between_G N) := gOf_ok trivial
noncomputable def impl_between_code : Code := (Tryz.f53.body).getD .skip
noncomputable def impl_between (N : Nat) (n : Int) (low : Int) (high : Int) : Option ((Bool × Unit) × (Unit)) :=
  (br (ile low n)
    (some (((ile n high), ()), ()))
    (some ((false, ()), ())))
noncomputable def impl_between_S (N : Nat) : FSum := ⟨impl_between_ps, impl_between_rs, fun x => impl_between N x.1 x.2.1 x.2.2.1⟩
theorem impl_between_run (N : Nat) (x : argsT impl_between_ps) : impl_between N x.1 x.2.1 x.2.2.1 = funF (impl_between_G N) tab [] Tryz.f53 impl_between_ps impl_between_rs x := by kernel_rfl
theorem impl_between_pc (N : Nat) : PC Tryz.prog 53 (impl_between_S N) := by
  have e : impl_between_S N = ⟨impl_between_ps, impl_between_rs, funF (impl_between_G N) tab [] Tryz.f53 impl_between_ps impl_between_rs⟩ := congrArg (FSum.mk impl_between_ps impl_between_rs) (funext (impl_between_run N))
  rw [e]
  exact fun_ok (c := impl_between_code) progOk (impl_between_gok N) (draw_ok progOk (impl_between_gok N)) Tryz.call53 Tryz.func53 (by kernel_rfl) (lsOk_at (L := []) trivial) (by kernel_rfl) (by kernel_rfl) (by kernel_rfl) (by kernel_rfl) (by kernel_rfl)

/-! ### impl_IsFormula -/
abbrev impl_IsFormula_ps : List (PV.Mode × Ty) := [(.ro, QILLI)]
abbrev impl_IsFormula_rs : List (Bool × Ty) := [(true, .bool)]
noncomputable def impl_IsFormula_G (N : Nat) : GTab := gOf [(53, impl_between_S N)]
theorem impl_IsFormula_gok (N : Nat) : GOk Tryz.prog (impl_IsFormula_G N) := gOf_ok ⟨impl_between_pc N, trivial⟩
noncomputable def impl_IsFormula_code : Code := (Tryz.f28.body).getD .skip
noncomputable def impl_IsFormula_l0_0_sh : Sh := ⟨[(1, .one (.adr 0 0)), (4, .one (.ro LI)), (18, .one (.ro LLI)), (19, .one (.ro I)), (20, .one (.ro I)), (24, .one (.ro LI)), (25, .one (.ro I)), (26, .one (.ro I))], [.box [.ro I, .ro LLI]]⟩
noncomputable def impl_IsFormula_l0_0_ex : List (Ex × Sh) := [(.ret, ⟨[(2, .one (.ro .bool))], []⟩), (.exit 2, ⟨[(1, .one (.adr 0 0)), (18, .one (.ro LLI)), (19, .one (.ro I)), (20, .one (.ro I))], [.box [.ro I, .ro LLI]]⟩)]
noncomputable def impl_IsFormula_l0_0 {R : Type} (N : Nat) (k0 : Bool → Option R) (k1 : (List (List Int)) → Int → Int → Int → (List (List Int)) → Option R) : Nat → (List Int) → (List (List Int)) → Int → Int → (List Int) → Int → Int → Int → (List (List Int)) → Option R
  | 0, _, _, _, _, _, _, _, _, _ => none
  | K + 1, clause, x3, x4, x5, x6, x7, x8, o2, o3 =>
    (br (ilt x8 x7)
      ((chk (inb x6 x8)
        (br (ieq (rdI x6 x8) 0)
        (k0 false)
        (((impl_between N (rdI x6 x8) (IntKind.i64.wrap (0 - o2)) o2).bind fun r1 =>
          (br (!r1.1.1)
            (k0 false)
            ((br (ilt 0 x8)
              ((chk (inb clause (IntKind.i64.wrap (x8 - 1)))
                (br (ile (rdI x6 x8) (rdI clause (IntKind.i64.wrap (x8 - 1))))
                (k0 false)
                (impl_IsFormula_l0_0 N k0 k1 K clause x3 x4 x5 x6 x7 (IntKind.i64.wrap (x8 + 1)) o2 o3))))
              (impl_IsFormula_l0_0 N k0 k1 K clause x3 x4 x5 x6 x7 (IntKind.i64.wrap (x8 + 1)) o2 o3)))))))))
      (k1 x3 x4 x5 o2 o3))
noncomputable def impl_IsFormula_l0_0_again {R : Type} (N : Nat) (ks : (j : Nat) → ((impl_IsFormula_l0_0_ex.getD j (.ret, Sh.none)).2).T → Option R) (k : Nat) (x : impl_IsFormula_l0_0_sh.T) : Option R :=
  impl_IsFormula_l0_0 N (fun y0 => ks 0 ((y0, ()), ())) (fun y0 y1 y2 y3 y4 => ks 1 (((), y0, y1, y2, ()), ((y3, y4, ()), ()))) k x.1.2.1 x.1.2.2.1 x.1.2.2.2.1 x.1.2.2.2.2.1 x.1.2.2.2.2.2.1 x.1.2.2.2.2.2.2.1 x.1.2.2.2.2.2.2.2.1 x.2.1.1 x.2.1.2.1
noncomputable def impl_IsFormula_l0_0_s (N : Nat) : LSum := ⟨impl_IsFormula_l0_0_sh, impl_IsFormula_l0_0_ex, fun x ks => impl_IsFormula_l0_0_again N ks N x⟩
theorem impl_IsFormula_l0_0_step (N : Nat) (R : Type) (k : Nat) (x : impl_IsFormula_l0_0_sh.T) (ks : (j : Nat) → ((impl_IsFormula_l0_0_ex.getD j (.ret, Sh.none)).2).T → Option R) : impl_IsFormula_l0_0_again N ks (k + 1) x = roundF (impl_IsFormula_G N) tab [] (loopAt (loopAt impl_IsFormula_code 0) 0) impl_IsFormula_l0_0_sh impl_IsFormula_l0_0_ex (fun y => impl_IsFormula_l0_0_again N ks k y) ks x := by kernel_rfl
theorem impl_IsFormula_l0_0_ok (N : Nat) : LoopOk Tryz.prog Tryz.f28.ntmps (impl_IsFormula_l0_0_s N) (loopAt (loopAt impl_IsFormula_code 0) 0) :=
  loop_ok (l := impl_IsFormula_l0_0_s N) progOk (impl_IsFormula_gok N) (draw_ok progOk (impl_IsFormula_gok N)) (fun R k x ks => impl_IsFormula_l0_0_again N ks k x) (fun _ _ _ => rfl) (fun R k x ks => impl_IsFormula_l0_0_step N R k x ks) (fun R x ks r h => ⟨N, h⟩) (lsOk_at (L := []) trivial) (by kernel_rfl) (by kernel_rfl)
noncomputable def impl_IsFormula_l0_sh : Sh := ⟨[(1, .one (.adr 0 0)), (18, .one (.ro LLI)), (19, .one (.ro I)), (20, .one (.ro I))], [.box [.ro I, .ro LLI]]⟩
noncomputable def impl_IsFormula_l0_ex : List (Ex × Sh) := [(.ret, ⟨[(2, .one (.ro .bool))], []⟩), (.exit 0, ⟨[], []⟩)]
noncomputable def impl_IsFormula_l0 {R : Type} (N : Nat) (k0 : Bool → Option R) (k1 : Unit → Option R) : Nat → (List (List Int)) → Int → Int → Int → (List (List Int)) → Option R
  | 0, _, _, _, _, _ => none
  | K + 1, x, x1, x2, o, o1 =>
    (br (ilt x2 x1)
      ((chk (inb x x2)
        (impl_IsFormula_l0_0 N (fun x3 => k0 x3) (fun x4 x5 x6 o2 o3 => impl_IsFormula_l0 N k0 k1 K x4 x5 (IntKind.i64.wrap (x6 + 1)) o2 o3) N (rdL x x2) x x1 x2 (rdL x x2) (tLen (rdL x x2)) 0 o o1)))
      (k1 ()))
noncomputable def impl_IsFormula_l0_again {R : Type} (N : Nat) (ks : (j : Nat) → ((impl_IsFormula_l0_ex.getD j (.ret, Sh.none)).2).T → Option R) (k : Nat) (x : impl_IsFormula_l0_sh.T) : Option R :=
  impl_IsFormula_l0 N (fun y0 => ks 0 ((y0, ()), ())) (fun (_ : Unit) => ks 1 ((), ())) k x.1.2.1 x.1.2.2.1 x.1.2.2.2.1 x.2.1.1 x.2.1.2.1
noncomputable def impl_IsFormula_l0_s (N : Nat) : LSum := ⟨impl_IsFormula_l0_sh, impl_IsFormula_l0_ex, fun x ks => impl_IsFormula_l0_again N ks N x⟩
theorem impl_IsFormula_l0_step (N : Nat) (R : Type) (k : Nat) (x : impl_IsFormula_l0_sh.T) (ks : (j : Nat) → ((impl_IsFormula_l0_ex.getD j (.ret, Sh.none)).2).T → Option R) : impl_IsFormula_l0_again N ks (k + 1) x = roundF (impl_IsFormula_G N) tab [impl_IsFormula_l0_0_s N] (loopAt impl_IsFormula_code 0) impl_IsFormula_l0_sh impl_IsFormula_l0_ex (fun y => impl_IsFormula_l0_again N ks k y) ks x := by kernel_rfl
theorem impl_IsFormula_l0_ok (N : Nat) : LoopOk Tryz.prog Tryz.f28.ntmps (impl_IsFormula_l0_s N) (loopAt impl_IsFormula_code 0) :=
  loop_ok (l := impl_IsFormula_l0_s N) progOk (impl_IsFormula_gok N) (draw_ok progOk (impl_IsFormula_gok N)) (fun R k x ks => impl_IsFormula_l0_again N ks k x) (fun _ _ _ => rfl) (fun R k x ks => impl_IsFormula_l0_step N R k x ks) (fun R x ks r h => ⟨N, h⟩) (lsOk_at (L := [impl_IsFormula_l0_0_s N]) ⟨impl_IsFormula_l0_0_ok N, trivial⟩) (by kernel_rfl) (by kernel_rfl)
noncomputable def impl_IsFormula (N : Nat) (f : (Int × (List (List Int)))) : Option ((Bool × Unit) × (Unit)) :=
  ((impl_between N f.1 0 6).bind fun r =>
    (br (!r.1.1)
      (some ((false, ()), ()))
      ((br (ilt 64 (tLen f.2))
        (some ((false, ()), ()))
        (impl_IsFormula_l0 N (fun x => some ((x, ()), ())) (fun (_ : Unit) => some ((true, ()), ())) N f.2 (tLen f.2) 0 f.1 f.2)))))
noncomputable def impl_IsFormula_S (N : Nat) : FSum := ⟨impl_IsFormula_ps, impl_IsFormula_rs, fun x => impl_IsFormula N x.1⟩
theorem impl_IsFormula_run (N : Nat) (x : argsT impl_IsFormula_ps) : impl_IsFormula N x.1 = funF (impl_IsFormula_G N) tab [impl_IsFormula_l0_s N] Tryz.f28 impl_IsFormula_ps impl_IsFormula_rs x := by kernel_rfl
theorem impl_IsFormula_pc (N : Nat) : PC Tryz.prog 28 (impl_IsFormula_S N) := by
  have e : impl_IsFormula_S N = ⟨impl_IsFormula_ps, impl_IsFormula_rs, funF (impl_IsFormula_G N) tab [impl_IsFormula_l0_s N] Tryz.f28 impl_IsFormula_ps impl_IsFormula_rs⟩ := congrArg (FSum.mk impl_IsFormula_ps impl_IsFormula_rs) (funext (impl_IsFormula_run N))
  rw [e]
  exact fun_ok (c := impl_IsFormula_code) progOk (impl_IsFormula_gok N) (draw_ok progOk (impl_IsFormula_gok N)) Tryz.call28 Tryz.func28 (by kernel_rfl) (lsOk_at (L := [impl_IsFormula_l0_s N]) ⟨impl_IsFormula_l0_ok N, trivial⟩) (by kernel_rfl) (by kernel_rfl) (by kernel_rfl) (by kernel_rfl) (by kernel_rfl)

/-! ### slices_IndexFunc_LI_int -/
abbrev slices_IndexFunc_LI_int_ps : List (PV.Mode × Ty) := [(.ro, LI), (.ro, FIBo)]
abbrev slices_IndexFunc_LI_int_rs : List (Bool × Ty) := [(true, I)]
noncomputable def slices_IndexFunc_LI_int_G (N : Nat) : GTab := gOf []
theorem slices_IndexFunc_LI_int_gok (N : Nat) : GOk Tryz.prog (slices_IndexFunc_LI_int_G N) := gOf_ok trivial
noncomputable def slices_IndexFunc_LI_int_code : Code := (Tryz.f69.body).getD .skip
noncomputable def slices_IndexFunc_LI_int_l0_sh : Sh := ⟨[(0, .one (.ro LI)), (1, .one (.ro FIBo)), (7, .one (.ro I)), (8, .one (.ro I))], []⟩
noncomputable def slices_IndexFunc_LI_int_l0_ex : List (Ex × Sh) := [(.ret, ⟨[(4, .one (.ro I))], []⟩), (.exit 0, ⟨[], []⟩)]
noncomputable def slices_IndexFunc_LI_int_l0 {R : Type} (N : Nat) (k0 : Int → Option R) (k1 : Unit → Option R) : Nat → (List Int) → (Int → Option Bool) → Int → Int → Option R
  | 0, _, _, _, _ => none
  | K + 1, s1, f1, x, x1 =>
    (br (ilt x1 x)
      ((chk (inb s1 x1)
        ((f1 (rdI s1 x1)).bind fun v =>
        (br v
        (k0 x1)
        (slices_IndexFunc_LI_int_l0 N k0 k1 K s1 f1 x (IntKind.i64.wrap (x1 + 1)))))))
      (k1 ()))
noncomputable def slices_IndexFunc_LI_int_l0_again {R : Type} (N : Nat) (ks : (j : Nat) → ((slices_IndexFunc_LI_int_l0_ex.getD j (.ret, Sh.none)).2).T → Option R) (k : Nat) (x : slices_IndexFunc_LI_int_l0_sh.T) : Option R :=
  slices_IndexFunc_LI_int_l0 N (fun y0 => ks 0 ((y0, ()), ())) (fun (_ : Unit) => ks 1 ((), ())) k x.1.1 x.1.2.1 x.1.2.2.1 x.1.2.2.2.1
noncomputable def slices_IndexFunc_LI_int_l0_s (N : Nat) : LSum := ⟨slices_IndexFunc_LI_int_l0_sh, slices_IndexFunc_LI_int_l0_ex, fun x ks => slices_IndexFunc_LI_int_l0_again N ks N x⟩
theorem slices_IndexFunc_LI_int_l0_step (N : Nat) (R : Type) (k : Nat) (x : slices_IndexFunc_LI_int_l0_sh.T) (ks : (j : Nat) → ((slices_IndexFunc_LI_int_l0_ex.getD j (.ret, Sh.none)).2).T → Option R) : slices_IndexFunc_LI_int_l0_again N ks (k + 1) x = roundF (slices_IndexFunc_LI_int_G N) tab [] (loopAt slices_IndexFunc_LI_int_code 0) slices_IndexFunc_LI_int_l0_sh slices_IndexFunc_LI_int_l0_ex (fun y => slices_IndexFunc_LI_int_l0_again N ks k y) ks x := by kernel_rfl
theorem slices_IndexFunc_LI_int_l0_ok (N : Nat) : LoopOk Tryz.prog Tryz.f69.ntmps (slices_IndexFunc_LI_int_l0_s N) (loopAt slices_IndexFunc_LI_int_code 0) :=
  loop_ok (l := slices_IndexFunc_LI_int_l0_s N) progOk (slices_IndexFunc_LI_int_gok N) (draw_ok progOk (slices_IndexFunc_LI_int_gok N)) (fun R k x ks => slices_IndexFunc_LI_int_l0_again N ks k x) (fun _ _ _ => rfl) (fun R k x ks => slices_IndexFunc_LI_int_l0_step N R k x ks) (fun R x ks r h => ⟨N, h⟩) (lsOk_at (L := []) trivial) (by kernel_rfl) (by kernel_rfl)
noncomputable def slices_IndexFunc_LI_int (N : Nat) (s : (List Int)) (f : (Int → Option Bool)) : Option ((Int × Unit) × (Unit)) :=
  slices_IndexFunc_LI_int_l0 N (fun x => some ((x, ()), ())) (fun (_ : Unit) => some (((-1), ()), ())) N s f (tLen s) 0
noncomputable def slices_IndexFunc_LI_int_S (N : Nat) : FSum := ⟨slices_IndexFunc_LI_int_ps, slices_IndexFunc_LI_int_rs, fun x => slices_IndexFunc_LI_int N x.1 x.2.1⟩
theorem slices_IndexFunc_LI_int_run (N : Nat) (x : argsT slices_IndexFunc_LI_int_ps) : slices_IndexFunc_LI_int N x.1 x.2.1 = funF (slices_IndexFunc_LI_int_G N) tab [slices_IndexFunc_LI_int_l0_s N] Tryz.f69 slices_IndexFunc_LI_int_ps slices_IndexFunc_LI_int_rs x := by kernel_rfl
theorem slices_IndexFunc_LI_int_pc (N : Nat) : PC Tryz.prog 69 (slices_IndexFunc_LI_int_S N) := by
  have e : slices_IndexFunc_LI_int_S N = ⟨slices_IndexFunc_LI_int_ps, slices_IndexFunc_LI_int_rs, funF (slices_IndexFunc_LI_int_G N) tab [slices_IndexFunc_LI_int_l0_s N] Tryz.f69 slices_IndexFunc_LI_int_ps slices_IndexFunc_LI_int_rs⟩ := congrArg (FSum.mk slices_IndexFunc_LI_int_ps slices_IndexFunc_LI_int_rs) (funext (slices_IndexFunc_LI_int_run N))
  rw [e]
  exact fun_ok (c := slices_IndexFunc_LI_int_code) progOk (slices_IndexFunc_LI_int_gok N) (draw_ok progOk (slices_IndexFunc_LI_int_gok N)) Tryz.call69 Tryz.func69 (by kernel_rfl) (lsOk_at (L := [slices_IndexFunc_LI_int_l0_s N]) ⟨slices_IndexFunc_LI_int_l0_ok N, trivial⟩) (by kernel_rfl) (by kernel_rfl) (by kernel_rfl) (by kernel_rfl) (by kernel_rfl)

/-! ### slices_ContainsFunc_LI_int -/
abbrev slices_ContainsFunc_LI_int_ps : List (PV.Mode × Ty) := [(.ro, LI), (.ro, FIBo)]
abbrev slices_ContainsFunc_LI_int_rs : List (Bool × Ty) := [(true, .bool)]
noncomputable def slices_ContainsFunc_LI_int_G (N : Nat) : GTab := gOf [(69, slices_IndexFunc_LI_int_S N)]
theorem slices_ContainsFunc_LI_int_gok (N : Nat) : GOk Tryz.prog (slices_ContainsFunc_LI_int_G N) := gOf_ok ⟨slices_IndexFunc_LI_int_pc N, trivial⟩
noncomputable def slices_ContainsFunc_LI_int_code : Code := (Tryz.f49.body).getD .skip
noncomputable def slices_ContainsFunc_LI_int (N : Nat) (s : (List Int)) (f : (Int → Option Bool)) : Option ((Bool × Unit) × (Unit)) :=
  ((slices_IndexFunc_LI_int N s f).bind fun r =>
    some (((ile 0 r.1.1), ()), ()))
noncomputable def slices_ContainsFunc_LI_int_S (N : Nat) : FSum := ⟨slices_ContainsFunc_LI_int_ps, slices_ContainsFunc_LI_int_rs, fun x => slices_ContainsFunc_LI_int N x.1 x.2.1⟩
theorem slices_ContainsFunc_LI_int_run (N : Nat) (x : argsT slices_ContainsFunc_LI_int_ps) : slices_ContainsFunc_LI_int N x.1 x.2.1 = funF (slices_ContainsFunc_LI_int_G N) tab [] Tryz.f49 slices_ContainsFunc_LI_int_ps slices_ContainsFunc_LI_int_rs x := by kernel_rfl
theorem slices_ContainsFunc_LI_int_pc (N : Nat) : PC Tryz.prog 49 (slices_ContainsFunc_LI_int_S N) := by
  have e : slices_ContainsFunc_LI_int_S N = ⟨slices_ContainsFunc_LI_int_ps, slices_ContainsFunc_LI_int_rs, funF (slices_ContainsFunc_LI_int_G N) tab [] Tryz.f49 slices_ContainsFunc_LI_int_ps slices_ContainsFunc_LI_int_rs⟩ := congrArg (FSum.mk slices_ContainsFunc_LI_int_ps slices_ContainsFunc_LI_int_rs) (funext (slices_ContainsFunc_LI_int_run N))
  rw [e]
  exact fun_ok (c := slices_ContainsFunc_LI_int_code) progOk (slices_ContainsFunc_LI_int_gok N) (draw_ok progOk (slices_ContainsFunc_LI_int_gok N)) Tryz.call49 Tryz.func49 (by kernel_rfl) (lsOk_at (L := []) trivial) (by kernel_rfl) (by kernel_rfl) (by kernel_rfl) (by kernel_rfl) (by kernel_rfl)

/-! ### impl_isAssignment_c1 -/
abbrev impl_isAssignment_c1_ps : List (PV.Mode × Ty) := [(.ro, I)]
abbrev impl_isAssignment_c1_rs : List (Bool × Ty) := [(true, .bool)]
noncomputable def impl_isAssignment_c1_G (N : Nat) : GTab := gOf [(53, impl_between_S N)]
theorem impl_isAssignment_c1_gok (N : Nat) : GOk Tryz.prog (impl_isAssignment_c1_G N) := gOf_ok ⟨impl_between_pc N, trivial⟩
noncomputable def impl_isAssignment_c1_code : Code := (Tryz.f76.body).getD .skip
noncomputable def impl_isAssignment_c1 (N : Nat) (n : Int) : Option ((Bool × Unit) × (Unit)) :=
  ((impl_between N n 0 1).bind fun r =>
    some (((!r.1.1), ()), ()))
noncomputable def impl_isAssignment_c1_S (N : Nat) : FSum := ⟨impl_isAssignment_c1_ps, impl_isAssignment_c1_rs, fun x => impl_isAssignment_c1 N x.1⟩
theorem impl_isAssignment_c1_run (N : Nat) (x : argsT impl_isAssignment_c1_ps) : impl_isAssignment_c1 N x.1 = funF (impl_isAssignment_c1_G N) tab [] Tryz.f76 impl_isAssignment_c1_ps impl_isAssignment_c1_rs x := by kernel_rfl
theorem impl_isAssignment_c1_pc (N : Nat) : PC Tryz.prog 76 (impl_isAssignment_c1_S N) := by
  have e : impl_isAssignment_c1_S N = ⟨impl_isAssignment_c1_ps, impl_isAssignment_c1_rs, funF (impl_isAssignment_c1_G N) tab [] Tryz.f76 impl_isAssignment_c1_ps impl_isAssignment_c1_rs⟩ := congrArg (FSum.mk impl_isAssignment_c1_ps impl_isAssignment_c1_rs) (funext (impl_isAssignment_c1_run N))
  rw [e]
  exact fun_ok (c := impl_isAssignment_c1_code) progOk (impl_isAssignment_c1_gok N) (draw_ok progOk (impl_isAssignment_c1_gok N)) Tryz.call76 Tryz.func76 (by kernel_rfl) (lsOk_at (L := []) trivial) (by kernel_rfl) (by kernel_rfl) (by kernel_rfl) (by kernel_rfl) (by kernel_rfl)

/-! ### impl_isAssignment -/
abbrev impl_isAssignment_ps : List (PV.Mode × Ty) := [(.ro, I), (.ro, LI)]
abbrev impl_isAssignment_rs : List (Bool × Ty) := [(true, .bool)]
noncomputable def impl_isAssignment_G (N : Nat) : GTab := gOf [(49, slices_ContainsFunc_LI_int_S N), (76, impl_isAssignment_c1_S N)]
theorem impl_isAssignment_gok (N : Nat) : GOk Tryz.prog (impl_isAssignment_G N) := gOf_ok ⟨slices_ContainsFunc_LI_int_pc N, impl_isAssignment_c1_pc N, trivial⟩
noncomputable def impl_isAssignment_code : Code := (Tryz.f67.body).getD .skip
noncomputable def impl_isAssignment (N : Nat) (vars : Int) (list : (List Int)) : Option ((Bool × Unit) × (Unit)) :=
  (br (ieq (tLen list) vars)
    (((slices_ContainsFunc_LI_int N list (fun y0 => (impl_isAssignment_c1 N y0).bind fun z => some z.1.1)).bind fun r =>
      some (((!r.1.1), ()), ())))
    (some ((false, ()), ())))
noncomputable def impl_isAssignment_S (N : Nat) : FSum := ⟨impl_isAssignment_ps, impl_isAssignment_rs, fun x => impl_isAssignment N x.1 x.2.1⟩
theorem impl_isAssignment_run (N : Nat) (x : argsT impl_isAssignment_ps) : impl_isAssignment N x.1 x.2.1 = funF (impl_isAssignment_G N) tab [] Tryz.f67 impl_isAssignment_ps impl_isAssignment_rs x := by kernel_rfl
theorem impl_isAssignment_pc (N : Nat) : PC Tryz.prog 67 (impl_isAssignment_S N) := by
  have e : impl_isAssignment_S N = ⟨impl_isAssignment_ps, impl_isAssignment_rs, funF (impl_isAssignment_G N) tab [] Tryz.f67 impl_isAssignment_ps impl_isAssignment_rs⟩ := congrArg (FSum.mk impl_isAssignment_ps impl_isAssignment_rs) (funext (impl_isAssignment_run N))
  rw [e]
  exact fun_ok (c := impl_isAssignment_code) progOk (impl_isAssignment_gok N) (draw_ok progOk (impl_isAssignment_gok N)) Tryz.call67 Tryz.func67 (by kernel_rfl) (lsOk_at (L := []) trivial) (by kernel_rfl) (by kernel_rfl) (by kernel_rfl) (by kernel_rfl) (by kernel_rfl)

/-! ### slices_IndexFunc_LLI_LI -/
abbrev slices_IndexFunc_LLI_LI_ps : List (PV.Mode × Ty) := [(.ro, LLI), (.ro, FLIBo)]
abbrev slices_IndexFunc_LLI_LI_rs : List (Bool × Ty) := [(true, I)]
noncomputable def slices_IndexFunc_LLI_LI_G (N : Nat) : GTab := gOf []
theorem slices_IndexFunc_LLI_LI_gok (N : Nat) : GOk Tryz.prog (slices_IndexFunc_LLI_LI_G N) := gOf_ok trivial
noncomputable def slices_IndexFunc_LLI_LI_code : Code := (Tryz.f68.body).getD .skip
noncomputable def slices_IndexFunc_LLI_LI_l0_sh : Sh := ⟨[(0, .one (.ro LLI)), (1, .one (.ro FLIBo)), (7, .one (.ro I)), (8, .one (.ro I))], []⟩
noncomputable def slices_IndexFunc_LLI_LI_l0_ex : List (Ex × Sh) := [(.ret, ⟨[(4, .one (.ro I))], []⟩), (.exit 0, ⟨[], []⟩)]
noncomputable def slices_IndexFunc_LLI_LI_l0 {R : Type} (N : Nat) (k0 : Int → Option R) (k1 : Unit → Option R) : Nat → (List (List Int)) → ((List Int) → Option Bool) → Int → Int → Option R
  | 0, _, _, _, _ => none
  | K + 1, s1, f1, x, x1 =>
    (br (ilt x1 x)
      ((chk (inb s1 x1)
        ((f1 (rdL s1 x1)).bind fun v =>
        (br v
        (k0 x1)
        (slices_IndexFunc_LLI_LI_l0 N k0 k1 K s1 f1 x (IntKind.i64.wrap (x1 + 1)))))))
      (k1 ()))
noncomputable def slices_IndexFunc_LLI_LI_l0_again {R : Type} (N : Nat) (ks : (j : Nat) → ((slices_IndexFunc_LLI_LI_l0_ex.getD j (.ret, Sh.none)).2).T → Option R) (k : Nat) (x : slices_IndexFunc_LLI_LI_l0_sh.T) : Option R :=
  slices_IndexFunc_LLI_LI_l0 N (fun y0 => ks 0 ((y0, ()), ())) (fun (_ : Unit) => ks 1 ((), ())) k x.1.1 x.1.2.1 x.1.2.2.1 x.1.2.2.2.1
noncomputable def slices_IndexFunc_LLI_LI_l0_s (N : Nat) : LSum := ⟨slices_IndexFunc_LLI_LI_l0_sh, slices_IndexFunc_LLI_LI_l0_ex, fun x ks => slices_IndexFunc_LLI_LI_l0_again N ks N x⟩
theorem slices_IndexFunc_LLI_LI_l0_step (N : Nat) (R : Type) (k : Nat) (x : slices_IndexFunc_LLI_LI_l0_sh.T) (ks : (j : Nat) → ((slices_IndexFunc_LLI_LI_l0_ex.getD j (.ret, Sh.none)).2).T → Option R) : slices_IndexFunc_LLI_LI_l0_again N ks (k + 1) x = roundF (slices_IndexFunc_LLI_LI_G N) tab [] (loopAt slices_IndexFunc_LLI_LI_code 0) slices_IndexFunc_LLI_LI_l0_sh slices_IndexFunc_LLI_LI_l0_ex (fun y => slices_IndexFunc_LLI_LI_l0_again N ks k y) ks x := by kernel_rfl
theorem slices_IndexFunc_LLI_LI_l0_ok (N : Nat) : LoopOk Tryz.prog Tryz.f68.ntmps (slices_IndexFunc_LLI_LI_l0_s N) (loopAt slices_IndexFunc_LLI_LI_code 0) :=
  loop_ok (l := slices_IndexFunc_LLI_LI_l0_s N) progOk (slices_IndexFunc_LLI_LI_gok N) (draw_ok progOk (slices_IndexFunc_LLI_LI_gok N)) (fun R k x ks => slices_IndexFunc_LLI_LI_l0_again N ks k x) (fun _ _ _ => rfl) (fun R k x ks => slices_IndexFunc_LLI_LI_l0_step N R k x ks) (fun R x ks r h => ⟨N, h⟩) (lsOk_at (L := []) trivial) (by kernel_rfl) (by kernel_rfl)
noncomputable def slices_IndexFunc_LLI_LI (N : Nat) (s : (List (List Int))) (f : ((List Int) → Option Bool)) : Option ((Int × Unit) × (Unit)) :=
  slices_IndexFunc_LLI_LI_l0 N (fun x => some ((x, ()), ())) (fun (_ : Unit) => some (((-1), ()), ())) N s f (tLen s) 0
noncomputable def slices_IndexFunc_LLI_LI_S (N : Nat) : FSum := ⟨slices_IndexFunc_LLI_LI_ps, slices_IndexFunc_LLI_LI_rs, fun x => slices_IndexFunc_LLI_LI N x.1 x.2.1⟩
theorem slices_IndexFunc_LLI_LI_run (N : Nat) (x : argsT slices_IndexFunc_LLI_LI_ps) : slices_IndexFunc_LLI_LI N x.1 x.2.1 = funF (slices_IndexFunc_LLI_LI_G N) tab [slices_IndexFunc_LLI_LI_l0_s N] Tryz.f68 slices_IndexFunc_LLI_LI_ps slices_IndexFunc_LLI_LI_rs x := by kernel_rfl
theorem slices_IndexFunc_LLI_LI_pc (N : Nat) : PC Tryz.prog 68 (slices_IndexFunc_LLI_LI_S N) := by
  have e : slices_IndexFunc_LLI_LI_S N = ⟨slices_IndexFunc_LLI_LI_ps, slices_IndexFunc_LLI_LI_rs, funF (slices_IndexFunc_LLI_LI_G N) tab [slices_IndexFunc_LLI_LI_l0_s N] Tryz.f68 slices_IndexFunc_LLI_LI_ps slices_IndexFunc_LLI_LI_rs⟩ := congrArg (FSum.mk slices_IndexFunc_LLI_LI_ps slices_IndexFunc_LLI_LI_rs) (funext (slices_IndexFunc_LLI_LI_run N))
  rw [e]
  exact fun_ok (c := slices_IndexFunc_LLI_LI_code) progOk (slices_IndexFunc_LLI_LI_gok N) (draw_ok progOk (slices_IndexFunc_LLI_LI_gok N)) Tryz.call68 Tryz.func68 (by kernel_rfl) (lsOk_at (L := [slices_IndexFunc_LLI_LI_l0_s N]) ⟨slices_IndexFunc_LLI_LI_l0_ok N, trivial⟩) (by kernel_rfl) (by kernel_rfl) (by kernel_rfl) (by kernel_rfl) (by kernel_rfl)
end Go.Proofs.YtaodifjegdpifaaGreat
