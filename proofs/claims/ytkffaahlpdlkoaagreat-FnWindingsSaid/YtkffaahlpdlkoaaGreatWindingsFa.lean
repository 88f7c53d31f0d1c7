/- Functions of the program as functions on data. -/
import Derived.Test.YtkffaahlpdlkoaaGreatWindingsSa
set_option linter.all false
namespace Go.Proofs.YtkffaahlpdlkoaaGreat
open Go Go.PV
/-! ### laws_vBig -/
abbrev laws_vBig_ps : List (PV.Mode × Ty) := [(.ro, LU8)]
abbrev laws_vBig_rs : List (Bool × Ty) := [(true, .bool)]
noncomputable def laws_vBig_G (N : Nat) : GTab := gOf []
theorem laws_vBig_gok (N : Nat) : GOk Tryz.prog (laws_vBig_G N) := gOf_ok trivial
noncomputable def laws_vBig_code : Code := (Tryz.f6.body).getD .skip
noncomputable def laws_vBig (N : Nat) (code : (List Int)) : Option ((Bool × Unit) × (Unit)) :=
  some (((ilt 65536 (tLen code)), ()), ())
noncomputable def laws_vBig_S (N : Nat) : FSum := ⟨laws_vBig_ps, laws_vBig_rs, fun x => laws_vBig N x.1⟩
theorem laws_vBig_run (N : Nat) (x : argsT laws_vBig_ps) : laws_vBig N x.1 = funF (laws_vBig_G N) tab [] Tryz.f6 laws_vBig_ps laws_vBig_rs x := by kernel_rfl
theorem laws_vBig_pc (N : Nat) : PC Tryz.prog 6 (laws_vBig_S N) := by
  have e : laws_vBig_S N = ⟨laws_vBig_ps, laws_vBig_rs, funF (laws_vBig_G N) tab [] Tryz.f6 laws_vBig_ps laws_vBig_rs⟩ := congrArg (FSum.mk laws_vBig_ps laws_vBig_rs) (funext (laws_vBig_run N))
  rw [e]
  exact fun_ok (c := laws_vBig_code) progOk (laws_vBig_gok N) (draw_ok progOk (laws_vBig_gok N)) Tryz.call6 Tryz.func6 (by kernel_rfl) (lsOk_at (L := []) trivial) (by kernel_rfl) (by kernel_rfl) (by kernel_rfl) (by kernel_rfl) (by kernel_rfl)

/-! ### spec_l1Cur_next -/
abbrev spec_l1Cur_next_ps : List (PV.Mode × Ty) := [(.mut, BQOU8QIU64)]
abbrev spec_l1Cur_next_rs : List (Bool × Ty) := [(true, I)]
noncomputable def spec_l1Cur_next_G (N : Nat) : GTab := gOf []
theorem spec_l1Cur_next_gok (N : Nat) : GOk Tryz.prog (spec_l1Cur_next_G N) := gOf_ok trivial
noncomputable def spec_l1Cur_next_code : Code := (Tryz.f94.body).getD .skip
noncomputable def spec_l1Cur_next (N : Nat) (c : ((List Int) × (Int × Int))) : Option ((Int × Unit) × (((List Int) × (Int × Int)) × Unit)) :=
  (br (ilt c.2.1 (tLen c.1))
    ((chk (inb c.1 c.2.1)
      (br (ile (IntKind.i64.wrap (c.2.1 + 1)) (tLen c.1))
      (some (((IntKind.i64.wrap ((rd U8 c.1 c.2.1))), ()), ((c.1, ((IntKind.i64.wrap (c.2.1 + 1)), (IntKind.u64.wrap ((IntKind.u64.wrap ((IntKind.u64.wrap (c.2.2 * 6364136223846793005)) + (IntKind.u64.wrap ((IntKind.i64.wrap ((rd U8 c.1 c.2.1))))))) + 462197)))), ())))
      (some (((IntKind.i64.wrap ((bitop .and .u64 (shrI .u64 (IntKind.u64.wrap ((IntKind.u64.wrap ((IntKind.u64.wrap (c.2.2 * 6364136223846793005)) + (IntKind.u64.wrap ((IntKind.i64.wrap ((rd U8 c.1 c.2.1))))))) + 462197)) 40) 255))), ()), ((c.1, ((IntKind.i64.wrap (c.2.1 + 1)), (IntKind.u64.wrap ((IntKind.u64.wrap ((IntKind.u64.wrap (c.2.2 * 6364136223846793005)) + (IntKind.u64.wrap ((IntKind.i64.wrap ((rd U8 c.1 c.2.1))))))) + 462197)))), ()))))))
    ((br (ile (IntKind.i64.wrap (c.2.1 + 1)) (tLen c.1))
      (some ((0, ()), ((c.1, ((IntKind.i64.wrap (c.2.1 + 1)), (IntKind.u64.wrap ((IntKind.u64.wrap ((IntKind.u64.wrap (c.2.2 * 6364136223846793005)) + 0)) + 462197)))), ())))
      (some (((IntKind.i64.wrap ((bitop .and .u64 (shrI .u64 (IntKind.u64.wrap ((IntKind.u64.wrap ((IntKind.u64.wrap (c.2.2 * 6364136223846793005)) + 0)) + 462197)) 40) 255))), ()), ((c.1, ((IntKind.i64.wrap (c.2.1 + 1)), (IntKind.u64.wrap ((IntKind.u64.wrap ((IntKind.u64.wrap (c.2.2 * 6364136223846793005)) + 0)) + 462197)))), ()))))))
noncomputable def spec_l1Cur_next_S (N : Nat) : FSum := ⟨spec_l1Cur_next_ps, spec_l1Cur_next_rs, fun x => spec_l1Cur_next N x.1⟩
theorem spec_l1Cur_next_run (N : Nat) (x : argsT spec_l1Cur_next_ps) : spec_l1Cur_next N x.1 = funF (spec_l1Cur_next_G N) tab [] Tryz.f94 spec_l1Cur_next_ps spec_l1Cur_next_rs x := by kernel_rfl
theorem spec_l1Cur_next_pc (N : Nat) : PC Tryz.prog 94 (spec_l1Cur_next_S N) := by
  have e : spec_l1Cur_next_S N = ⟨spec_l1Cur_next_ps, spec_l1Cur_next_rs, funF (spec_l1Cur_next_G N) tab [] Tryz.f94 spec_l1Cur_next_ps spec_l1Cur_next_rs⟩ := congrArg (FSum.mk spec_l1Cur_next_ps spec_l1Cur_next_rs) (funext (spec_l1Cur_next_run N))
  rw [e]
  exact fun_ok (c := spec_l1Cur_next_code) progOk (spec_l1Cur_next_gok N) (draw_ok progOk (spec_l1Cur_next_gok N)) Tryz.call94 Tryz.func94 (by kernel_rfl) (lsOk_at (L := []) trivial) (by kernel_rfl) (by kernel_rfl) (by kernel_rfl) (by kernel_rfl) (by kernel_rfl)

/-! ### spec_l1Cur_pick -/
abbrev spec_l1Cur_pick_ps : List (PV.Mode × Ty) := [(.mut, BQOU8QIU64), (.ro, I)]
abbrev spec_l1Cur_pick_rs : List (Bool × Ty) := [(true, I)]
noncomputable def spec_l1Cur_pick_G (N : Nat) : GTab := gOf [(94, spec_l1Cur_next_S N)]
theorem spec_l1Cur_pick_gok (N : Nat) : GOk Tryz.prog (spec_l1Cur_pick_G N) := gOf_ok ⟨spec_l1Cur_next_pc N, trivial⟩
noncomputable def spec_l1Cur_pick_code : Code := (Tryz.f42.body).getD .skip
noncomputable def spec_l1Cur_pick (N : Nat) (c : ((List Int) × (Int × Int))) (n : Int) : Option ((Int × Unit) × (((List Int) × (Int × Int)) × Unit)) :=
  (br (ile n 1)
    (some ((0, ()), (c, ())))
    (((spec_l1Cur_next N c).bind fun r =>
      (br (ilt 200 n)
        (((spec_l1Cur_next N r.2.1).bind fun r1 =>
          (chk (ine n 0)
            (some ((((IntKind.i64.wrap ((IntKind.i64.wrap (r.1.1 * 256)) + r1.1.1)).tmod n), ()), (r1.2.1, ()))))))
        ((chk (ine n 0)
          (some (((r.1.1.tmod n), ()), (r.2.1, ())))))))))
noncomputable def spec_l1Cur_pick_S (N : Nat) : FSum := ⟨spec_l1Cur_pick_ps, spec_l1Cur_pick_rs, fun x => spec_l1Cur_pick N x.1 x.2.1⟩
theorem spec_l1Cur_pick_run (N : Nat) (x : argsT spec_l1Cur_pick_ps) : spec_l1Cur_pick N x.1 x.2.1 = funF (spec_l1Cur_pick_G N) tab [] Tryz.f42 spec_l1Cur_pick_ps spec_l1Cur_pick_rs x := by kernel_rfl
theorem spec_l1Cur_pick_pc (N : Nat) : PC Tryz.prog 42 (spec_l1Cur_pick_S N) := by
  have e : spec_l1Cur_pick_S N = ⟨spec_l1Cur_pick_ps, spec_l1Cur_pick_rs, funF (spec_l1Cur_pick_G N) tab [] Tryz.f42 spec_l1Cur_pick_ps spec_l1Cur_pick_rs⟩ := congrArg (FSum.mk spec_l1Cur_pick_ps spec_l1Cur_pick_rs) (funext (spec_l1Cur_pick_run N))
  rw [e]
  exact fun_ok (c := spec_l1Cur_pick_code) progOk (spec_l1Cur_pick_gok N) (draw_ok progOk (spec_l1Cur_pick_gok N)) Tryz.call42 Tryz.func42 (by kernel_rfl) (lsOk_at (L := []) trivial) (by kernel_rfl) (by kernel_rfl) (by kernel_rfl) (by kernel_rfl) (by kernel_rfl)

/-! ### spec_l1Cur_among -/
abbrev spec_l1Cur_among_ps : List (PV.Mode × Ty) := [(.mut, BQOU8QIU64), (.ro, LI)]
abbrev spec_l1Cur_among_rs : List (Bool × Ty) := [(true, I)]
noncomputable def spec_l1Cur_among_G (N : Nat) : GTab := gOf [(42, spec_l1Cur_pick_S N)]
theorem spec_l1Cur_among_gok (N : Nat) : GOk Tryz.prog (spec_l1Cur_among_G N) := gOf_ok ⟨spec_l1Cur_pick_pc N, trivial⟩
noncomputable def spec_l1Cur_among_code : Code := (Tryz.f91.body).getD .skip
noncomputable def spec_l1Cur_among (N : Nat) (c : ((List Int) × (Int × Int))) (list : (List Int)) : Option ((Int × Unit) × (((List Int) × (Int × Int)) × Unit)) :=
  ((spec_l1Cur_pick N c (tLen list)).bind fun r =>
    (chk (inb list r.1.1)
      (some (((rdI list r.1.1), ()), (r.2.1, ())))))
noncomputable def spec_l1Cur_among_S (N : Nat) : FSum := ⟨spec_l1Cur_among_ps, spec_l1Cur_among_rs, fun x => spec_l1Cur_among N x.1 x.2.1⟩
theorem spec_l1Cur_among_run (N : Nat) (x : argsT spec_l1Cur_among_ps) : spec_l1Cur_among N x.1 x.2.1 = funF (spec_l1Cur_among_G N) tab [] Tryz.f91 spec_l1Cur_among_ps spec_l1Cur_among_rs x := by kernel_rfl
theorem spec_l1Cur_among_pc (N : Nat) : PC Tryz.prog 91 (spec_l1Cur_among_S N) := by
  have e : spec_l1Cur_among_S N = ⟨spec_l1Cur_among_ps, spec_l1Cur_among_rs, funF (spec_l1Cur_among_G N) tab [] Tryz.f91 spec_l1Cur_among_ps spec_l1Cur_among_rs⟩ := congrArg (FSum.mk spec_l1Cur_among_ps spec_l1Cur_among_rs) (funext (spec_l1Cur_among_run N))
  rw [e]
  exact fun_ok (c := spec_l1Cur_among_code) progOk (spec_l1Cur_among_gok N) (draw_ok progOk (spec_l1Cur_among_gok N)) Tryz.call91 Tryz.func91 (by kernel_rfl) (lsOk_at (L := []) trivial) (by kernel_rfl) (by kernel_rfl) (by kernel_rfl) (by kernel_rfl) (by kernel_rfl)

/-! ### spec_l1Cur_one -/
abbrev spec_l1Cur_one_ps : List (PV.Mode × Ty) := [(.mut, BQOU8QIU64), (.ro, I)]
abbrev spec_l1Cur_one_rs : List (Bool × Ty) := [(true, .bool)]
noncomputable def spec_l1Cur_one_G (N : Nat) : GTab := gOf [(42, spec_l1Cur_pick_S N)]
theorem spec_l1Cur_one_gok (N : Nat) : GOk Tryz.prog (spec_l1Cur_one_G N) := gOf_ok ⟨spec_l1Cur_pick_pc N, trivial⟩
noncomputable def spec_l1Cur_one_code : Code := (Tryz.f61.body).getD .skip
noncomputable def spec_l1Cur_one (N : Nat) (c : ((List Int) × (Int × Int))) (n : Int) : Option ((Bool × Unit) × (((List Int) × (Int × Int)) × Unit)) :=
  ((spec_l1Cur_pick N c n).bind fun r =>
    some (((ieq r.1.1 0), ()), (r.2.1, ())))
noncomputable def spec_l1Cur_one_S (N : Nat) : FSum := ⟨spec_l1Cur_one_ps, spec_l1Cur_one_rs, fun x => spec_l1Cur_one N x.1 x.2.1⟩
theorem spec_l1Cur_one_run (N : Nat) (x : argsT spec_l1Cur_one_ps) : spec_l1Cur_one N x.1 x.2.1 = funF (spec_l1Cur_one_G N) tab [] Tryz.f61 spec_l1Cur_one_ps spec_l1Cur_one_rs x := by kernel_rfl
theorem spec_l1Cur_one_pc (N : Nat) : PC Tryz.prog 61 (spec_l1Cur_one_S N) := by
  have e : spec_l1Cur_one_S N = ⟨spec_l1Cur_one_ps, spec_l1Cur_one_rs, funF (spec_l1Cur_one_G N) tab [] Tryz.f61 spec_l1Cur_one_ps spec_l1Cur_one_rs⟩ := congrArg (FSum.mk spec_l1Cur_one_ps spec_l1Cur_one_rs) (funext (spec_l1Cur_one_run N))
  rw [e]
  exact fun_ok (c := spec_l1Cur_one_code) progOk (spec_l1Cur_one_gok N) (draw_ok progOk (spec_l1Cur_one_gok N)) Tryz.call61 Tryz.func61 (by kernel_rfl) (lsOk_at (L := []) trivial) (by kernel_rfl) (by kernel_rfl) (by kernel_rfl) (by kernel_rfl) (by kernel_rfl)

/-! ### spec_l1Least -/
abbrev spec_l1Least_ps : List (PV.Mode × Ty) := [(.ro, I), (.ro, I)]
abbrev spec_l1Least_rs : List (Bool × Ty) := [(true, I)]
noncomputable def spec_l1Least_G (N : Nat) : GTab := gOf []
theorem spec_l1Least_gok (N : Nat) : GOk Tryz.prog (spec_l1Least_G N) := gOf_ok trivial
noncomputable def spec_l1Least_code : Code := (Tryz.f145.body).getD .skip
noncomputable def spec_l1Least (N : Nat) (a : Int) (b : Int) : Option ((Int × Unit) × (Unit)) :=
  (br (ilt a b)
    (some ((a, ()), ()))
    (some ((b, ()), ())))
noncomputable def spec_l1Least_S (N : Nat) : FSum := ⟨spec_l1Least_ps, spec_l1Least_rs, fun x => spec_l1Least N x.1 x.2.1⟩
theorem spec_l1Least_run (N : Nat) (x : argsT spec_l1Least_ps) : spec_l1Least N x.1 x.2.1 = funF (spec_l1Least_G N) tab [] Tryz.f145 spec_l1Least_ps spec_l1Least_rs x := by kernel_rfl
theorem spec_l1Least_pc (N : Nat) : PC Tryz.prog 145 (spec_l1Least_S N) := by
  have e : spec_l1Least_S N = ⟨spec_l1Least_ps, spec_l1Least_rs, funF (spec_l1Least_G N) tab [] Tryz.f145 spec_l1Least_ps spec_l1Least_rs⟩ := congrArg (FSum.mk spec_l1Least_ps spec_l1Least_rs) (funext (spec_l1Least_run N))
  rw [e]
  exact fun_ok (c := spec_l1Least_code) progOk (spec_l1Least_gok N) (draw_ok progOk (spec_l1Least_gok N)) Tryz.call145 Tryz.func145 (by kernel_rfl) (lsOk_at (L := []) trivial) (by kernel_rfl) (by kernel_rfl) (by kernel_rfl) (by kernel_rfl) (by kernel_rfl)

/-! ### spec_l2Edge -/
abbrev spec_l2Edge_ps : List (PV.Mode × Ty) := [(.ro, QII), (.ro, QII)]
abbrev spec_l2Edge_rs : List (Bool × Ty) := [(true, .bool)]
noncomputable def spec_l2Edge_G (N : Nat) : GTab := gOf []
theorem spec_l2Edge_gok (N : Nat) : GOk Tryz.prog (spec_l2Edge_G N) := gOf_ok trivial
noncomputable def spec_l2Edge_code : Code := (Tryz.f131.body).getD .skip
noncomputable def spec_l2Edge (N : Nat) (a : (Int × Int)) (b : (Int × Int)) : Option ((Bool × Unit) × (Unit)) :=
  (br (ilt a.1 b.1)
    (some ((true, ()), ()))
    ((br (ieq a.1 b.1)
      (some (((ilt a.2 b.2), ()), ()))
      (some ((false, ()), ())))))
noncomputable def spec_l2Edge_S (N : Nat) : FSum := ⟨spec_l2Edge_ps, spec_l2Edge_rs, fun x => spec_l2Edge N x.1 x.2.1⟩
theorem spec_l2Edge_run (N : Nat) (x : argsT spec_l2Edge_ps) : spec_l2Edge N x.1 x.2.1 = funF (spec_l2Edge_G N) tab [] Tryz.f131 spec_l2Edge_ps spec_l2Edge_rs x := by kernel_rfl
theorem spec_l2Edge_pc (N : Nat) : PC Tryz.prog 131 (spec_l2Edge_S N) := by
  have e : spec_l2Edge_S N = ⟨spec_l2Edge_ps, spec_l2Edge_rs, funF (spec_l2Edge_G N) tab [] Tryz.f131 spec_l2Edge_ps spec_l2Edge_rs⟩ := congrArg (FSum.mk spec_l2Edge_ps spec_l2Edge_rs) (funext (spec_l2Edge_run N))
  rw [e]
  exact fun_ok (c := spec_l2Edge_code) progOk (spec_l2Edge_gok N) (draw_ok progOk (spec_l2Edge_gok N)) Tryz.call131 Tryz.func131 (by kernel_rfl) (lsOk_at (L := []) trivial) (by kernel_rfl) (by kernel_rfl) (by kernel_rfl) (by kernel_rfl) (by kernel_rfl)

/-! ### spec_l2PutPair -/
abbrev spec_l2PutPair_ps : List (PV.Mode × Ty) := [(.own, LQII), (.ro, QII)]
abbrev spec_l2PutPair_rs : List (Bool × Ty) := [(true, LQII)]
noncomputable def spec_l2PutPair_G (N : Nat) : GTab := gOf [(131, spec_l2Edge_S N)]
theorem spec_l2PutPair_gok (N : Nat) : GOk Tryz.prog (spec_l2PutPair_G N) := gOf_ok ⟨spec_l2Edge_pc N, trivial⟩
noncomputable def spec_l2PutPair_code : Code := (Tryz.f89.body).getD .skip
noncomputable def spec_l2PutPair_l0_sh : Sh := ⟨[(0, .one (.ref 0)), (3, .one (.adr 1 0)), (5, .one (.ro I))], [.sl 49 QII .own, .box [.ro I, .ro I]]⟩
noncomputable def spec_l2PutPair_l0_ex : List (Ex × Sh) := [(.exit 0, ⟨[(0, .one (.ref 0)), (3, .one (.adr 1 0)), (5, .one (.ro I))], [.sl 49 QII .own, .box [.ro I, .ro I]]⟩)]
noncomputable def spec_l2PutPair_l0 {R : Type} (N : Nat) (k0 : Int → (List (Int × Int)) → Int → Int → Option R) : Nat → Int → (List (Int × Int)) → Int → Int → Option R
  | 0, _, _, _, _ => none
  | K + 1, kv, o, o1, o2 =>
    (br (ilt 0 kv)
      ((chk (inb o (IntKind.i64.wrap (kv - 1)))
        ((spec_l2Edge N (o1, o2) (rdP o (IntKind.i64.wrap (kv - 1)))).bind fun r =>
        (br r.1.1
          (spec_l2PutPair_l0 N k0 K (IntKind.i64.wrap (kv - 1)) o o1 o2)
          (k0 kv o o1 o2)))))
      (k0 kv o o1 o2))
noncomputable def spec_l2PutPair_l0_again {R : Type} (N : Nat) (ks : (j : Nat) → ((spec_l2PutPair_l0_ex.getD j (.ret, Sh.none)).2).T → Option R) (k : Nat) (x : spec_l2PutPair_l0_sh.T) : Option R :=
  spec_l2PutPair_l0 N (fun y0 y1 y2 y3 => ks 0 (((), (), y0, ()), (y1, (y2, y3, ()), ()))) k x.1.2.2.1 x.2.1 x.2.2.1.1 x.2.2.1.2.1
noncomputable def spec_l2PutPair_l0_s (N : Nat) : LSum := ⟨spec_l2PutPair_l0_sh, spec_l2PutPair_l0_ex, fun x ks => spec_l2PutPair_l0_again N ks N x⟩
theorem spec_l2PutPair_l0_step (N : Nat) (R : Type) (k : Nat) (x : spec_l2PutPair_l0_sh.T) (ks : (j : Nat) → ((spec_l2PutPair_l0_ex.getD j (.ret, Sh.none)).2).T → Option R) : spec_l2PutPair_l0_again N ks (k + 1) x = roundF (spec_l2PutPair_G N) tab [] (loopAt spec_l2PutPair_code 0) spec_l2PutPair_l0_sh spec_l2PutPair_l0_ex (fun y => spec_l2PutPair_l0_again N ks k y) ks x := by kernel_rfl
theorem spec_l2PutPair_l0_ok (N : Nat) : LoopOk Tryz.prog Tryz.f89.ntmps (spec_l2PutPair_l0_s N) (loopAt spec_l2PutPair_code 0) :=
  loop_ok (l := spec_l2PutPair_l0_s N) progOk (spec_l2PutPair_gok N) (draw_ok progOk (spec_l2PutPair_gok N)) (fun R k x ks => spec_l2PutPair_l0_again N ks k x) (fun _ _ _ => rfl) (fun R k x ks => spec_l2PutPair_l0_step N R k x ks) (fun R x ks r h => ⟨N, h⟩) (lsOk_at (L := []) trivial) (by kernel_rfl) (by kernel_rfl)
noncomputable def spec_l2PutPair (N : Nat) (list : (List (Int × Int))) (e : (Int × Int)) : Option (((List (Int × Int)) × Unit) × (Unit)) :=
  spec_l2PutPair_l0 N (fun kv o o1 o2 => (br (ilt 0 kv)
    ((chk (inb o (IntKind.i64.wrap (kv - 1)))
      (br (ieq ((rdP o (IntKind.i64.wrap (kv - 1))).1) o1 && ieq ((rdP o (IntKind.i64.wrap (kv - 1))).2) o2)
      (some ((o, ()), ()))
      ((chk (ile 0 0 && ile 0 kv && ile kv (tLen o))
        (chk (room (α := (Int × Int)) (β := (Int × Int)) [] (tCut o 0 kv))
        (chk (room (tApp [] (tCut o 0 kv)) [(o1, o2)])
        (chk (ile 0 kv && ile kv (tLen o) && ile (tLen o) (tLen o))
        (chk (room (tApp (tApp [] (tCut o 0 kv)) [(o1, o2)]) (tCut o kv (tLen o)))
        (some (((tApp (tApp (tApp [] (tCut o 0 kv)) [(o1, o2)]) (tCut o kv (tLen o))), ()), ())))))))))))
    ((chk (ile 0 0 && ile 0 kv && ile kv (tLen o))
      (chk (room (α := (Int × Int)) (β := (Int × Int)) [] (tCut o 0 kv))
      (chk (room (tApp [] (tCut o 0 kv)) [(o1, o2)])
      (chk (ile 0 kv && ile kv (tLen o) && ile (tLen o) (tLen o))
      (chk (room (tApp (tApp [] (tCut o 0 kv)) [(o1, o2)]) (tCut o kv (tLen o)))
      (some (((tApp (tApp (tApp [] (tCut o 0 kv)) [(o1, o2)]) (tCut o kv (tLen o))), ()), ())))))))))) N (tLen list) list e.1 e.2
noncomputable def spec_l2PutPair_S (N : Nat) : FSum := ⟨spec_l2PutPair_ps, spec_l2PutPair_rs, fun x => spec_l2PutPair N x.1 x.2.1⟩
theorem spec_l2PutPair_run (N : Nat) (x : argsT spec_l2PutPair_ps) : spec_l2PutPair N x.1 x.2.1 = funF (spec_l2PutPair_G N) tab [spec_l2PutPair_l0_s N] Tryz.f89 spec_l2PutPair_ps spec_l2PutPair_rs x := by kernel_rfl
theorem spec_l2PutPair_pc (N : Nat) : PC Tryz.prog 89 (spec_l2PutPair_S N) := by
  have e : spec_l2PutPair_S N = ⟨spec_l2PutPair_ps, spec_l2PutPair_rs, funF (spec_l2PutPair_G N) tab [spec_l2PutPair_l0_s N] Tryz.f89 spec_l2PutPair_ps spec_l2PutPair_rs⟩ := congrArg (FSum.mk spec_l2PutPair_ps spec_l2PutPair_rs) (funext (spec_l2PutPair_run N))
  rw [e]
  exact fun_ok (c := spec_l2PutPair_code) progOk (spec_l2PutPair_gok N) (draw_ok progOk (spec_l2PutPair_gok N)) Tryz.call89 Tryz.func89 (by kernel_rfl) (lsOk_at (L := [spec_l2PutPair_l0_s N]) ⟨spec_l2PutPair_l0_ok N, trivial⟩) (by kernel_rfl) (by kernel_rfl) (by kernel_rfl) (by kernel_rfl) (by kernel_rfl)

/-! ### spec_l1Cur_someGraph -/
abbrev spec_l1Cur_someGraph_ps : List (PV.Mode × Ty) := [(.mut, BQOU8QIU64), (.ro, I)]
abbrev spec_l1Cur_someGraph_rs : List (Bool × Ty) := [(true, QILQII)]
noncomputable def spec_l1Cur_someGraph_G (N : Nat) : GTab := gOf [(91, spec_l1Cur_among_S N), (61, spec_l1Cur_one_S N), (42, spec_l1Cur_pick_S N), (145, spec_l1Least_S N), (89, spec_l2PutPair_S N)]
theorem spec_l1Cur_someGraph_gok (N : Nat) : GOk Tryz.prog (spec_l1Cur_someGraph_G N) := gOf_ok ⟨spec_l1Cur_among_pc N, spec_l1Cur_one_pc N, spec_l1Cur_pick_pc N, spec_l1Least_pc N, spec_l2PutPair_pc N, trivial⟩
noncomputable def spec_l1Cur_someGraph_code : Code := (Tryz.f111.body).getD .skip
noncomputable def spec_l1Cur_someGraph_l0_0_sh : Sh := ⟨[(0, .one (.adr 0 0)), (4, .one (.adr 1 0)), (5, .one (.ro I)), (6, .one (.adr 2 0)), (7, .one (.ro I)), (8, .one (.ro .bool)), (9, .one (.ro I)), (10, .one (.ro I))], [.mbox QOU8QIU64, .box [.ro I, .nilsl], .box [.ro I, .ref 3], .sl 49 QII .own]⟩
noncomputable def spec_l1Cur_someGraph_l0_0_ex : List (Ex × Sh) := [(.exit 2, ⟨[(0, .one (.adr 0 0)), (4, .one (.adr 1 0)), (5, .one (.ro I)), (6, .one (.adr 2 0)), (7, .one (.ro I)), (8, .one (.ro .bool)), (9, .one (.ro I))], [.mbox QOU8QIU64, .box [.ro I, .nilsl], .box [.ro I, .ref 3], .sl 49 QII .own]⟩)]
noncomputable def spec_l1Cur_someGraph_l0_0 {R : Type} (N : Nat) (k0 : Int → Int → Bool → Int → ((List Int) × (Int × Int)) → Int → Int → (List (Int × Int)) → Option R) : Nat → Int → Int → Bool → Int → Int → ((List Int) × (Int × Int)) → Int → Int → (List (Int × Int)) → Option R
  | 0, _, _, _, _, _, _, _, _, _ => none
  | K + 1, x4, x5, x6, x7, x8, o4, o5, o6, o7 =>
    (br (ilt x8 x4)
      (((spec_l1Cur_pick N o4 x5).bind fun r6 =>
        (br (ieq r6.1.1 0)
          (((spec_l2PutPair N o7 (x7, x8)).bind fun r7 =>
            spec_l1Cur_someGraph_l0_0 N k0 K x4 x5 x6 x7 (IntKind.i64.wrap (x8 + 1)) r6.2.1 o5 o6 r7.1.1))
          (spec_l1Cur_someGraph_l0_0 N k0 K x4 x5 x6 x7 (IntKind.i64.wrap (x8 + 1)) r6.2.1 o5 o6 o7))))
      (k0 x4 x5 x6 x7 o4 o5 o6 o7))
noncomputable def spec_l1Cur_someGraph_l0_0_again {R : Type} (N : Nat) (ks : (j : Nat) → ((spec_l1Cur_someGraph_l0_0_ex.getD j (.ret, Sh.none)).2).T → Option R) (k : Nat) (x : spec_l1Cur_someGraph_l0_0_sh.T) : Option R :=
  spec_l1Cur_someGraph_l0_0 N (fun y0 y1 y2 y3 y4 y5 y6 y7 => ks 0 (((), (), y0, (), y1, y2, y3, ()), (y4, (y5, (), ()), (y6, (), ()), y7, ()))) k x.1.2.2.1 x.1.2.2.2.2.1 x.1.2.2.2.2.2.1 x.1.2.2.2.2.2.2.1 x.1.2.2.2.2.2.2.2.1 x.2.1 x.2.2.1.1 x.2.2.2.1.1 x.2.2.2.2.1
noncomputable def spec_l1Cur_someGraph_l0_0_s (N : Nat) : LSum := ⟨spec_l1Cur_someGraph_l0_0_sh, spec_l1Cur_someGraph_l0_0_ex, fun x ks => spec_l1Cur_someGraph_l0_0_again N ks N x⟩
theorem spec_l1Cur_someGraph_l0_0_step (N : Nat) (R : Type) (k : Nat) (x : spec_l1Cur_someGraph_l0_0_sh.T) (ks : (j : Nat) → ((spec_l1Cur_someGraph_l0_0_ex.getD j (.ret, Sh.none)).2).T → Option R) : spec_l1Cur_someGraph_l0_0_again N ks (k + 1) x = roundF (spec_l1Cur_someGraph_G N) tab [] (loopAt (loopAt spec_l1Cur_someGraph_code 0) 0) spec_l1Cur_someGraph_l0_0_sh spec_l1Cur_someGraph_l0_0_ex (fun y => spec_l1Cur_someGraph_l0_0_again N ks k y) ks x := by kernel_rfl
theorem spec_l1Cur_someGraph_l0_0_ok (N : Nat) : LoopOk Tryz.prog Tryz.f111.ntmps (spec_l1Cur_someGraph_l0_0_s N) (loopAt (loopAt spec_l1Cur_someGraph_code 0) 0) :=
  loop_ok (l := spec_l1Cur_someGraph_l0_0_s N) progOk (spec_l1Cur_someGraph_gok N) (draw_ok progOk (spec_l1Cur_someGraph_gok N)) (fun R k x ks => spec_l1Cur_someGraph_l0_0_again N ks k x) (fun _ _ _ => rfl) (fun R k x ks => spec_l1Cur_someGraph_l0_0_step N R k x ks) (fun R x ks r h => ⟨N, h⟩) (lsOk_at (L := []) trivial) (by kernel_rfl) (by kernel_rfl)
noncomputable def spec_l1Cur_someGraph_l0_sh : Sh := ⟨[(0, .one (.adr 0 0)), (4, .one (.adr 1 0)), (5, .one (.ro I)), (6, .one (.adr 2 0)), (7, .one (.ro I)), (8, .one (.ro .bool)), (9, .one (.ro I))], [.mbox QOU8QIU64, .box [.ro I, .nilsl], .box [.ro I, .ref 3], .sl 49 QII .own]⟩
noncomputable def spec_l1Cur_someGraph_l0_ex : List (Ex × Sh) := [(.exit 0, ⟨[(0, .one (.adr 0 0)), (4, .one (.adr 1 0)), (6, .one (.adr 2 0))], [.mbox QOU8QIU64, .box [.ro I, .nilsl], .box [.ro I, .ref 3], .sl 49 QII .own]⟩)]
noncomputable def spec_l1Cur_someGraph_l0 {R : Type} (N : Nat) (k0 : ((List Int) × (Int × Int)) → Int → Int → (List (Int × Int)) → Option R) : Nat → Int → Int → Bool → Int → ((List Int) × (Int × Int)) → Int → Int → (List (Int × Int)) → Option R
  | 0, _, _, _, _, _, _, _, _ => none
  | K + 1, x, x1, x2, x3, o, o1, o2, o3 =>
    (br (ilt x3 x)
      (spec_l1Cur_someGraph_l0_0 N (fun x4 x5 x6 x7 o4 o5 o6 o7 => (br (ilt 0 x7)
        ((br (!x6)
          (((spec_l1Cur_pick N (o4.1, (o4.2.1, o4.2.2)) x7).bind fun r6 =>
            ((spec_l2PutPair N o7 (r6.1.1, x7)).bind fun r7 =>
              spec_l1Cur_someGraph_l0 N k0 K x4 x5 x6 (IntKind.i64.wrap (x7 + 1)) r6.2.1 o5 o6 r7.1.1)))
          (spec_l1Cur_someGraph_l0 N k0 K x4 x5 x6 (IntKind.i64.wrap (x7 + 1)) o4 o5 o6 o7)))
        (spec_l1Cur_someGraph_l0 N k0 K x4 x5 x6 (IntKind.i64.wrap (x7 + 1)) o4 o5 o6 o7))) N x x1 x2 x3 (IntKind.i64.wrap (x3 + 1)) o o1 o2 o3)
      (k0 o o1 o2 o3))
noncomputable def spec_l1Cur_someGraph_l0_again {R : Type} (N : Nat) (ks : (j : Nat) → ((spec_l1Cur_someGraph_l0_ex.getD j (.ret, Sh.none)).2).T → Option R) (k : Nat) (x : spec_l1Cur_someGraph_l0_sh.T) : Option R :=
  spec_l1Cur_someGraph_l0 N (fun y0 y1 y2 y3 => ks 0 (((), (), (), ()), (y0, (y1, (), ()), (y2, (), ()), y3, ()))) k x.1.2.2.1 x.1.2.2.2.2.1 x.1.2.2.2.2.2.1 x.1.2.2.2.2.2.2.1 x.2.1 x.2.2.1.1 x.2.2.2.1.1 x.2.2.2.2.1
noncomputable def spec_l1Cur_someGraph_l0_s (N : Nat) : LSum := ⟨spec_l1Cur_someGraph_l0_sh, spec_l1Cur_someGraph_l0_ex, fun x ks => spec_l1Cur_someGraph_l0_again N ks N x⟩
theorem spec_l1Cur_someGraph_l0_step (N : Nat) (R : Type) (k : Nat) (x : spec_l1Cur_someGraph_l0_sh.T) (ks : (j : Nat) → ((spec_l1Cur_someGraph_l0_ex.getD j (.ret, Sh.none)).2).T → Option R) : spec_l1Cur_someGraph_l0_again N ks (k + 1) x = roundF (spec_l1Cur_someGraph_G N) tab [spec_l1Cur_someGraph_l0_0_s N] (loopAt spec_l1Cur_someGraph_code 0) spec_l1Cur_someGraph_l0_sh spec_l1Cur_someGraph_l0_ex (fun y => spec_l1Cur_someGraph_l0_again N ks k y) ks x := by kernel_rfl
theorem spec_l1Cur_someGraph_l0_ok (N : Nat) : LoopOk Tryz.prog Tryz.f111.ntmps (spec_l1Cur_someGraph_l0_s N) (loopAt spec_l1Cur_someGraph_code 0) :=
  loop_ok (l := spec_l1Cur_someGraph_l0_s N) progOk (spec_l1Cur_someGraph_gok N) (draw_ok progOk (spec_l1Cur_someGraph_gok N)) (fun R k x ks => spec_l1Cur_someGraph_l0_again N ks k x) (fun _ _ _ => rfl) (fun R k x ks => spec_l1Cur_someGraph_l0_step N R k x ks) (fun R x ks r h => ⟨N, h⟩) (lsOk_at (L := [spec_l1Cur_someGraph_l0_0_s N]) ⟨spec_l1Cur_someGraph_l0_0_ok N, trivial⟩) (by kernel_rfl) (by kernel_rfl)
noncomputable def spec_l1Cur_someGraph (N : Nat) (c : ((List Int) × (Int × Int))) (c1 : Int) : Option (((Int × (List (Int × Int))) × Unit) × (((List Int) × (Int × Int)) × Unit)) :=
  ((spec_l1Cur_among N c [4, 5, 3, 6, 2, 1, 0]).bind fun r =>
    (br (ilt 6 c1)
      (((spec_l1Cur_one N r.2.1 4).bind fun r1 =>
        (br r1.1.1
          (((spec_l1Cur_pick N r1.2.1 2).bind fun r2 =>
            ((spec_l1Least N (IntKind.i64.wrap (7 + r2.1.1)) c1).bind fun r3 =>
              ((spec_l1Cur_among N r2.2.1 [1, 3, 4, 6]).bind fun r4 =>
                ((spec_l1Cur_one N r4.2.1 5).bind fun r5 =>
                  spec_l1Cur_someGraph_l0 N (fun o o1 o2 o3 => ((spec_l1Cur_pick N o 50).bind fun r6 =>
                    (br (ieq r6.1.1 0)
                      (((spec_l1Cur_among N r6.2.1 [(-1), 8, 9, 0, 4611686018427387904]).bind fun r7 =>
                        some (((r7.1.1, o3), ()), (r7.2.1, ()))))
                      ((br (ieq r6.1.1 1)
                        (((spec_l1Cur_pick N (r6.2.1.1, (r6.2.1.2.1, r6.2.1.2.2)) 4).bind fun r8 =>
                          ((spec_l1Cur_pick N r8.2.1 9).bind fun r9 =>
                            (chk (room o3 [(r8.1.1, (IntKind.i64.wrap (r9.1.1 - 1)))])
                              (some (((o2, (tApp o3 [(r8.1.1, (IntKind.i64.wrap (r9.1.1 - 1)))])), ()), (r9.2.1, ())))))))
                        ((br (ieq r6.1.1 2)
                          ((br (ilt 0 (tLen o3))
                            (((spec_l1Cur_pick N (r6.2.1.1, (r6.2.1.2.1, r6.2.1.2.2)) (tLen o3)).bind fun r10 =>
                              (chk (inb o3 r10.1.1)
                                (chk (room o3 [(rdP o3 r10.1.1)])
                                (some (((o2, (tApp o3 [(rdP o3 r10.1.1)])), ()), (r10.2.1, ())))))))
                            (some (((o2, o3), ()), (r6.2.1, ())))))
                          (some (((o2, o3), ()), (r6.2.1, ())))))))))) N r3.1.1 r4.1.1 r5.1.1 0 r5.2.1 0 r3.1.1 [])))))
          (((spec_l1Least N r.1.1 c1).bind fun r11 =>
            ((spec_l1Cur_among N r1.2.1 [1, 3, 4, 6]).bind fun r12 =>
              ((spec_l1Cur_one N r12.2.1 5).bind fun r13 =>
                spec_l1Cur_someGraph_l0 N (fun o4 o5 o6 o7 => ((spec_l1Cur_pick N o4 50).bind fun r14 =>
                  (br (ieq r14.1.1 0)
                    (((spec_l1Cur_among N r14.2.1 [(-1), 8, 9, 0, 4611686018427387904]).bind fun r15 =>
                      some (((r15.1.1, o7), ()), (r15.2.1, ()))))
                    ((br (ieq r14.1.1 1)
                      (((spec_l1Cur_pick N (r14.2.1.1, (r14.2.1.2.1, r14.2.1.2.2)) 4).bind fun r16 =>
                        ((spec_l1Cur_pick N r16.2.1 9).bind fun r17 =>
                          (chk (room o7 [(r16.1.1, (IntKind.i64.wrap (r17.1.1 - 1)))])
                            (some (((o6, (tApp o7 [(r16.1.1, (IntKind.i64.wrap (r17.1.1 - 1)))])), ()), (r17.2.1, ())))))))
                      ((br (ieq r14.1.1 2)
                        ((br (ilt 0 (tLen o7))
                          (((spec_l1Cur_pick N (r14.2.1.1, (r14.2.1.2.1, r14.2.1.2.2)) (tLen o7)).bind fun r18 =>
                            (chk (inb o7 r18.1.1)
                              (chk (room o7 [(rdP o7 r18.1.1)])
                              (some (((o6, (tApp o7 [(rdP o7 r18.1.1)])), ()), (r18.2.1, ())))))))
                          (some (((o6, o7), ()), (r14.2.1, ())))))
                        (some (((o6, o7), ()), (r14.2.1, ())))))))))) N r11.1.1 r12.1.1 r13.1.1 0 r13.2.1 0 r11.1.1 [])))))))
      (((spec_l1Least N r.1.1 c1).bind fun r19 =>
        ((spec_l1Cur_among N r.2.1 [1, 3, 4, 6]).bind fun r20 =>
          ((spec_l1Cur_one N r20.2.1 5).bind fun r21 =>
            spec_l1Cur_someGraph_l0 N (fun o8 o9 o10 o11 => ((spec_l1Cur_pick N o8 50).bind fun r22 =>
              (br (ieq r22.1.1 0)
                (((spec_l1Cur_among N r22.2.1 [(-1), 8, 9, 0, 4611686018427387904]).bind fun r23 =>
                  some (((r23.1.1, o11), ()), (r23.2.1, ()))))
                ((br (ieq r22.1.1 1)
                  (((spec_l1Cur_pick N (r22.2.1.1, (r22.2.1.2.1, r22.2.1.2.2)) 4).bind fun r24 =>
                    ((spec_l1Cur_pick N r24.2.1 9).bind fun r25 =>
                      (chk (room o11 [(r24.1.1, (IntKind.i64.wrap (r25.1.1 - 1)))])
                        (some (((o10, (tApp o11 [(r24.1.1, (IntKind.i64.wrap (r25.1.1 - 1)))])), ()), (r25.2.1, ())))))))
                  ((br (ieq r22.1.1 2)
                    ((br (ilt 0 (tLen o11))
                      (((spec_l1Cur_pick N (r22.2.1.1, (r22.2.1.2.1, r22.2.1.2.2)) (tLen o11)).bind fun r26 =>
                        (chk (inb o11 r26.1.1)
                          (chk (room o11 [(rdP o11 r26.1.1)])
                          (some (((o10, (tApp o11 [(rdP o11 r26.1.1)])), ()), (r26.2.1, ())))))))
                      (some (((o10, o11), ()), (r22.2.1, ())))))
                    (some (((o10, o11), ()), (r22.2.1, ())))))))))) N r19.1.1 r20.1.1 r21.1.1 0 r21.2.1 0 r19.1.1 []))))))
noncomputable def spec_l1Cur_someGraph_S (N : Nat) : FSum := ⟨spec_l1Cur_someGraph_ps, spec_l1Cur_someGraph_rs, fun x => spec_l1Cur_someGraph N x.1 x.2.1⟩
theorem spec_l1Cur_someGraph_run (N : Nat) (x : argsT spec_l1Cur_someGraph_ps) : spec_l1Cur_someGraph N x.1 x.2.1 = funF (spec_l1Cur_someGraph_G N) tab [spec_l1Cur_someGraph_l0_s N] Tryz.f111 spec_l1Cur_someGraph_ps spec_l1Cur_someGraph_rs x := by kernel_rfl
theorem spec_l1Cur_someGraph_pc (N : Nat) : PC Tryz.prog 111 (spec_l1Cur_someGraph_S N) := by
  have e : spec_l1Cur_someGraph_S N = ⟨spec_l1Cur_someGraph_ps, spec_l1Cur_someGraph_rs, funF (spec_l1Cur_someGraph_G N) tab [spec_l1Cur_someGraph_l0_s N] Tryz.f111 spec_l1Cur_someGraph_ps spec_l1Cur_someGraph_rs⟩ := congrArg (FSum.mk spec_l1Cur_someGraph_ps spec_l1Cur_someGraph_rs) (funext (spec_l1Cur_someGraph_run N))
  rw [e]
  exact fun_ok (c := spec_l1Cur_someGraph_code) progOk (spec_l1Cur_someGraph_gok N) (draw_ok progOk (spec_l1Cur_someGraph_gok N)) Tryz.call111 Tryz.func111 (by kernel_rfl) (lsOk_at (L := [spec_l1Cur_someGraph_l0_s N]) ⟨spec_l1Cur_someGraph_l0_ok N, trivial⟩) (by kernel_rfl) (by kernel_rfl) (by kernel_rfl) (by kernel_rfl) (by kernel_rfl)

/-! ### spec_l1Cur_graph -/
abbrev spec_l1Cur_graph_ps : List (PV.Mode × Ty) := [(.mut, BQOU8QIU64)]
abbrev spec_l1Cur_graph_rs : List (Bool × Ty) := [(true, QILQII)]
noncomputable def spec_l1Cur_graph_G (N : Nat) : GTab := gOf [(111, spec_l1Cur_someGraph_S N)]
theorem spec_l1Cur_graph_gok (N : Nat) : GOk Tryz.prog (spec_l1Cur_graph_G N) := gOf_ok ⟨spec_l1Cur_someGraph_pc N, trivial⟩
noncomputable def spec_l1Cur_graph_code : Code := (Tryz.f88.body).getD .skip
noncomputable def spec_l1Cur_graph (N : Nat) (c : ((List Int) × (Int × Int))) : Option (((Int × (List (Int × Int))) × Unit) × (((List Int) × (Int × Int)) × Unit)) :=
  ((spec_l1Cur_someGraph N c 6).bind fun r =>
    some (((r.1.1.1, r.1.1.2), ()), (r.2.1, ())))
noncomputable def spec_l1Cur_graph_S (N : Nat) : FSum := ⟨spec_l1Cur_graph_ps, spec_l1Cur_graph_rs, fun x => spec_l1Cur_graph N x.1⟩
theorem spec_l1Cur_graph_run (N : Nat) (x : argsT spec_l1Cur_graph_ps) : spec_l1Cur_graph N x.1 = funF (spec_l1Cur_graph_G N) tab [] Tryz.f88 spec_l1Cur_graph_ps spec_l1Cur_graph_rs x := by kernel_rfl
theorem spec_l1Cur_graph_pc (N : Nat) : PC Tryz.prog 88 (spec_l1Cur_graph_S N) := by
  have e : spec_l1Cur_graph_S N = ⟨spec_l1Cur_graph_ps, spec_l1Cur_graph_rs, funF (spec_l1Cur_graph_G N) tab [] Tryz.f88 spec_l1Cur_graph_ps spec_l1Cur_graph_rs⟩ := congrArg (FSum.mk spec_l1Cur_graph_ps spec_l1Cur_graph_rs) (funext (spec_l1Cur_graph_run N))
  rw [e]
  exact fun_ok (c := spec_l1Cur_graph_code) progOk (spec_l1Cur_graph_gok N) (draw_ok progOk (spec_l1Cur_graph_gok N)) Tryz.call88 Tryz.func88 (by kernel_rfl) (lsOk_at (L := []) trivial) (by kernel_rfl) (by kernel_rfl) (by kernel_rfl) (by kernel_rfl) (by kernel_rfl)

/-! ### spec_l1In -/
abbrev spec_l1In_ps : List (PV.Mode × Ty) := [(.ro, I), (.ro, I), (.ro, I)]
abbrev spec_l1In_rs : List (Bool × Ty) := [(true, .bool)]
noncomputable def spec_l1In_G (N : Nat) : GTab := gOf []
theorem spec_l1In_gok (N : Nat) : GOk Tryz.prog (spec_l1In_G N) := gOf_ok trivial
noncomputable def spec_l1In_code : Code := (Tryz.f92.body).getD .skip
noncomputable def spec_l1In (N : Nat) (x : Int) (a : Int) (b : Int) : Option ((Bool × Unit) × (Unit)) :=
  (br (ile a x)
    (some (((ile x b), ()), ()))
    (some ((false, ()), ())))
noncomputable def spec_l1In_S (N : Nat) : FSum := ⟨spec_l1In_ps, spec_l1In_rs, fun x => spec_l1In N x.1 x.2.1 x.2.2.1⟩
theorem spec_l1In_run (N : Nat) (x : argsT spec_l1In_ps) : spec_l1In N x.1 x.2.1 x.2.2.1 = funF (spec_l1In_G N) tab [] Tryz.f92 spec_l1In_ps spec_l1In_rs x := by kernel_rfl
theorem spec_l1In_pc (N : Nat) : PC Tryz.prog 92 (spec_l1In_S N) := by
  have e : spec_l1In_S N = ⟨spec_l1In_ps, spec_l1In_rs, funF (spec_l1In_G N) tab [] Tryz.f92 spec_l1In_ps spec_l1In_rs⟩ := congrArg (FSum.mk spec_l1In_ps spec_l1In_rs) (funext (spec_l1In_run N))
  rw [e]
  exact fun_ok (c := spec_l1In_code) progOk (spec_l1In_gok N) (draw_ok progOk (spec_l1In_gok N)) Tryz.call92 Tryz.func92 (by kernel_rfl) (lsOk_at (L := []) trivial) (by kernel_rfl) (by kernel_rfl) (by kernel_rfl) (by kernel_rfl) (by kernel_rfl)

/-! ### spec_l2Pairs -/
abbrev spec_l2Pairs_ps : List (PV.Mode × Ty) := [(.ro, LQII), (.ro, I)]
abbrev spec_l2Pairs_rs : List (Bool × Ty) := [(true, .bool)]
noncomputable def spec_l2Pairs_G (N : Nat) : GTab := gOf [(92, spec_l1In_S N), (131, spec_l2Edge_S N)]
theorem spec_l2Pairs_gok (N : Nat) : GOk Tryz.prog (spec_l2Pairs_G N) := gOf_ok ⟨spec_l1In_pc N, spec_l2Edge_pc N, trivial⟩
noncomputable def spec_l2Pairs_code : Code := (Tryz.f93.body).getD .skip
noncomputable def spec_l2Pairs_l0_sh : Sh := ⟨[(0, .one (.ro LQII)), (1, .one (.ro I)), (5, .one (.ro I))], []⟩
noncomputable def spec_l2Pairs_l0_ex : List (Ex × Sh) := [(.ret, ⟨[(4, .one (.ro .bool))], []⟩), (.exit 0, ⟨[], []⟩)]
noncomputable def spec_l2Pairs_l0 {R : Type} (N : Nat) (k0 : Bool → Option R) (k1 : Unit → Option R) : Nat → (List (Int × Int)) → Int → Int → Option R
  | 0, _, _, _ => none
  | K + 1, pairs1, n1, i =>
    (br (ilt i (tLen pairs1))
      ((chk (inb pairs1 i)
        ((spec_l1In N ((rdP pairs1 i).1) 0 (IntKind.i64.wrap (n1 - 1))).bind fun r =>
        (br (!r.1.1)
          (k0 false)
          (((spec_l1In N ((rdP pairs1 i).2) 0 (IntKind.i64.wrap (n1 - 1))).bind fun r1 =>
            (br (!r1.1.1)
              (k0 false)
              ((br (ile ((rdP pairs1 i).2) ((rdP pairs1 i).1))
                (k0 false)
                ((br (ilt 0 i)
                  ((chk (inb pairs1 (IntKind.i64.wrap (i - 1)))
                    ((spec_l2Edge N (rdP pairs1 (IntKind.i64.wrap (i - 1))) ((rdP pairs1 i).1, (rdP pairs1 i).2)).bind fun r2 =>
                    (br (!r2.1.1)
                      (k0 false)
                      (spec_l2Pairs_l0 N k0 k1 K pairs1 n1 (IntKind.i64.wrap (i + 1)))))))
                  (spec_l2Pairs_l0 N k0 k1 K pairs1 n1 (IntKind.i64.wrap (i + 1))))))))))))))
      (k1 ()))
noncomputable def spec_l2Pairs_l0_again {R : Type} (N : Nat) (ks : (j : Nat) → ((spec_l2Pairs_l0_ex.getD j (.ret, Sh.none)).2).T → Option R) (k : Nat) (x : spec_l2Pairs_l0_sh.T) : Option R :=
  spec_l2Pairs_l0 N (fun y0 => ks 0 ((y0, ()), ())) (fun (_ : Unit) => ks 1 ((), ())) k x.1.1 x.1.2.1 x.1.2.2.1
noncomputable def spec_l2Pairs_l0_s (N : Nat) : LSum := ⟨spec_l2Pairs_l0_sh, spec_l2Pairs_l0_ex, fun x ks => spec_l2Pairs_l0_again N ks N x⟩
theorem spec_l2Pairs_l0_step (N : Nat) (R : Type) (k : Nat) (x : spec_l2Pairs_l0_sh.T) (ks : (j : Nat) → ((spec_l2Pairs_l0_ex.getD j (.ret, Sh.none)).2).T → Option R) : spec_l2Pairs_l0_again N ks (k + 1) x = roundF (spec_l2Pairs_G N) tab [] (loopAt spec_l2Pairs_code 0) spec_l2Pairs_l0_sh spec_l2Pairs_l0_ex (fun y => spec_l2Pairs_l0_again N ks k y) ks x := by kernel_rfl
theorem spec_l2Pairs_l0_ok (N : Nat) : LoopOk Tryz.prog Tryz.f93.ntmps (spec_l2Pairs_l0_s N) (loopAt spec_l2Pairs_code 0) :=
  loop_ok (l := spec_l2Pairs_l0_s N) progOk (spec_l2Pairs_gok N) (draw_ok progOk (spec_l2Pairs_gok N)) (fun R k x ks => spec_l2Pairs_l0_again N ks k x) (fun _ _ _ => rfl) (fun R k x ks => spec_l2Pairs_l0_step N R k x ks) (fun R x ks r h => ⟨N, h⟩) (lsOk_at (L := []) trivial) (by kernel_rfl) (by kernel_rfl)
noncomputable def spec_l2Pairs (N : Nat) (pairs : (List (Int × Int))) (n : Int) : Option ((Bool × Unit) × (Unit)) :=
  spec_l2Pairs_l0 N (fun x => some ((x, ()), ())) (fun (_ : Unit) => some ((true, ()), ())) N pairs n 0
noncomputable def spec_l2Pairs_S (N : Nat) : FSum := ⟨spec_l2Pairs_ps, spec_l2Pairs_rs, fun x => spec_l2Pairs N x.1 x.2.1⟩
theorem spec_l2Pairs_run (N : Nat) (x : argsT spec_l2Pairs_ps) : spec_l2Pairs N x.1 x.2.1 = funF (spec_l2Pairs_G N) tab [spec_l2Pairs_l0_s N] Tryz.f93 spec_l2Pairs_ps spec_l2Pairs_rs x := by kernel_rfl
theorem spec_l2Pairs_pc (N : Nat) : PC Tryz.prog 93 (spec_l2Pairs_S N) := by
  have e : spec_l2Pairs_S N = ⟨spec_l2Pairs_ps, spec_l2Pairs_rs, funF (spec_l2Pairs_G N) tab [spec_l2Pairs_l0_s N] Tryz.f93 spec_l2Pairs_ps spec_l2Pairs_rs⟩ := congrArg (FSum.mk spec_l2Pairs_ps spec_l2Pairs_rs) (funext (spec_l2Pairs_run N))
  rw [e]
  exact fun_ok (c := spec_l2Pairs_code) progOk (spec_l2Pairs_gok N) (draw_ok progOk (spec_l2Pairs_gok N)) Tryz.call93 Tryz.func93 (by kernel_rfl) (lsOk_at (L := [spec_l2Pairs_l0_s N]) ⟨spec_l2Pairs_l0_ok N, trivial⟩) (by kernel_rfl) (by kernel_rfl) (by kernel_rfl) (by kernel_rfl) (by kernel_rfl)

/-! ### spec_l2Good -/
abbrev spec_l2Good_ps : List (PV.Mode × Ty) := [(.ro, QILQII)]
abbrev spec_l2Good_rs : List (Bool × Ty) := [(true, .bool)]
noncomputable def spec_l2Good_G (N : Nat) : GTab := gOf [(92, spec_l1In_S N), (93, spec_l2Pairs_S N)]
theorem spec_l2Good_gok (N : Nat) : GOk Tryz.prog (spec_l2Good_G N) := gOf_ok ⟨spec_l1In_pc N, spec_l2Pairs_pc N, trivial⟩
noncomputable def spec_l2Good_code : Code := (Tryz.f41.body).getD .skip
noncomputable def spec_l2Good (N : Nat) (g : (Int × (List (Int × Int)))) : Option ((Bool × Unit) × (Unit)) :=
  ((spec_l1In N g.1 0 8).bind fun r =>
    (br r.1.1
      (((spec_l2Pairs N g.2 g.1).bind fun r1 =>
        some ((r1.1.1, ()), ())))
      (some ((false, ()), ()))))
noncomputable def spec_l2Good_S (N : Nat) : FSum := ⟨spec_l2Good_ps, spec_l2Good_rs, fun x => spec_l2Good N x.1⟩
theorem spec_l2Good_run (N : Nat) (x : argsT spec_l2Good_ps) : spec_l2Good N x.1 = funF (spec_l2Good_G N) tab [] Tryz.f41 spec_l2Good_ps spec_l2Good_rs x := by kernel_rfl
theorem spec_l2Good_pc (N : Nat) : PC Tryz.prog 41 (spec_l2Good_S N) := by
  have e : spec_l2Good_S N = ⟨spec_l2Good_ps, spec_l2Good_rs, funF (spec_l2Good_G N) tab [] Tryz.f41 spec_l2Good_ps spec_l2Good_rs⟩ := congrArg (FSum.mk spec_l2Good_ps spec_l2Good_rs) (funext (spec_l2Good_run N))
  rw [e]
  exact fun_ok (c := spec_l2Good_code) progOk (spec_l2Good_gok N) (draw_ok progOk (spec_l2Good_gok N)) Tryz.call41 Tryz.func41 (by kernel_rfl) (lsOk_at (L := []) trivial) (by kernel_rfl) (by kernel_rfl) (by kernel_rfl) (by kernel_rfl) (by kernel_rfl)

/-! ### spec_l2Near -/
abbrev spec_l2Near_ps : List (PV.Mode × Ty) := [(.ro, QILQII), (.ro, I), (.ro, I)]
abbrev spec_l2Near_rs : List (Bool × Ty) := [(true, .bool)]
noncomputable def spec_l2Near_G (N : Nat) : GTab := gOf []
theorem spec_l2Near_gok (N : Nat) : GOk Tryz.prog (spec_l2Near_G N) := gOf_ok trivial
noncomputable def spec_l2Near_code : Code := (Tryz.f69.body).getD .skip
noncomputable def spec_l2Near_l0_sh : Sh := ⟨[(1, .one (.ro I)), (2, .one (.ro I)), (3, .one (.adr 0 0)), (7, .one (.ro I))], [.box [.ro I, .ro LQII]]⟩
noncomputable def spec_l2Near_l0_ex : List (Ex × Sh) := [(.ret, ⟨[(6, .one (.ro .bool))], []⟩), (.exit 0, ⟨[], []⟩)]
noncomputable def spec_l2Near_l0 {R : Type} (N : Nat) (k0 : Bool → Option R) (k1 : Unit → Option R) : Nat → Int → Int → Int → Int → (List (Int × Int)) → Option R
  | 0, _, _, _, _, _ => none
  | K + 1, a1, b1, i, o, o1 =>
    (br (ilt i (tLen o1))
      ((chk (inb o1 i)
        (br (ieq ((rdP o1 i).1) a1)
        ((br (ieq ((rdP o1 i).2) b1)
          (k0 true)
          ((br (ieq ((rdP o1 i).1) b1)
            ((br (ieq ((rdP o1 i).2) a1)
              (k0 true)
              (spec_l2Near_l0 N k0 k1 K a1 b1 (IntKind.i64.wrap (i + 1)) o o1)))
            (spec_l2Near_l0 N k0 k1 K a1 b1 (IntKind.i64.wrap (i + 1)) o o1)))))
        ((br (ieq ((rdP o1 i).1) b1)
          ((br (ieq ((rdP o1 i).2) a1)
            (k0 true)
            (spec_l2Near_l0 N k0 k1 K a1 b1 (IntKind.i64.wrap (i + 1)) o o1)))
          (spec_l2Near_l0 N k0 k1 K a1 b1 (IntKind.i64.wrap (i + 1)) o o1))))))
      (k1 ()))
noncomputable def spec_l2Near_l0_again {R : Type} (N : Nat) (ks : (j : Nat) → ((spec_l2Near_l0_ex.getD j (.ret, Sh.none)).2).T → Option R) (k : Nat) (x : spec_l2Near_l0_sh.T) : Option R :=
  spec_l2Near_l0 N (fun y0 => ks 0 ((y0, ()), ())) (fun (_ : Unit) => ks 1 ((), ())) k x.1.1 x.1.2.1 x.1.2.2.2.1 x.2.1.1 x.2.1.2.1
noncomputable def spec_l2Near_l0_s (N : Nat) : LSum := ⟨spec_l2Near_l0_sh, spec_l2Near_l0_ex, fun x ks => spec_l2Near_l0_again N ks N x⟩
theorem spec_l2Near_l0_step (N : Nat) (R : Type) (k : Nat) (x : spec_l2Near_l0_sh.T) (ks : (j : Nat) → ((spec_l2Near_l0_ex.getD j (.ret, Sh.none)).2).T → Option R) : spec_l2Near_l0_again N ks (k + 1) x = roundF (spec_l2Near_G N) tab [] (loopAt spec_l2Near_code 0) spec_l2Near_l0_sh spec_l2Near_l0_ex (fun y => spec_l2Near_l0_again N ks k y) ks x := by kernel_rfl
theorem spec_l2Near_l0_ok (N : Nat) : LoopOk Tryz.prog Tryz.f69.ntmps (spec_l2Near_l0_s N) (loopAt spec_l2Near_code 0) :=
  loop_ok (l := spec_l2Near_l0_s N) progOk (spec_l2Near_gok N) (draw_ok progOk (spec_l2Near_gok N)) (fun R k x ks => spec_l2Near_l0_again N ks k x) (fun _ _ _ => rfl) (fun R k x ks => spec_l2Near_l0_step N R k x ks) (fun R x ks r h => ⟨N, h⟩) (lsOk_at (L := []) trivial) (by kernel_rfl) (by kernel_rfl)
noncomputable def spec_l2Near (N : Nat) (g : (Int × (List (Int × Int)))) (a : Int) (b : Int) : Option ((Bool × Unit) × (Unit)) :=
  spec_l2Near_l0 N (fun x => some ((x, ()), ())) (fun (_ : Unit) => some ((false, ()), ())) N a b 0 g.1 g.2
noncomputable def spec_l2Near_S (N : Nat) : FSum := ⟨spec_l2Near_ps, spec_l2Near_rs, fun x => spec_l2Near N x.1 x.2.1 x.2.2.1⟩
theorem spec_l2Near_run (N : Nat) (x : argsT spec_l2Near_ps) : spec_l2Near N x.1 x.2.1 x.2.2.1 = funF (spec_l2Near_G N) tab [spec_l2Near_l0_s N] Tryz.f69 spec_l2Near_ps spec_l2Near_rs x := by kernel_rfl
theorem spec_l2Near_pc (N : Nat) : PC Tryz.prog 69 (spec_l2Near_S N) := by
  have e : spec_l2Near_S N = ⟨spec_l2Near_ps, spec_l2Near_rs, funF (spec_l2Near_G N) tab [spec_l2Near_l0_s N] Tryz.f69 spec_l2Near_ps spec_l2Near_rs⟩ := congrArg (FSum.mk spec_l2Near_ps spec_l2Near_rs) (funext (spec_l2Near_run N))
  rw [e]
  exact fun_ok (c := spec_l2Near_code) progOk (spec_l2Near_gok N) (draw_ok progOk (spec_l2Near_gok N)) Tryz.call69 Tryz.func69 (by kernel_rfl) (lsOk_at (L := [spec_l2Near_l0_s N]) ⟨spec_l2Near_l0_ok N, trivial⟩) (by kernel_rfl) (by kernel_rfl) (by kernel_rfl) (by kernel_rfl) (by kernel_rfl)

/-! ### spec_l2Neighbors -/
abbrev spec_l2Neighbors_ps : List (PV.Mode × Ty) := [(.ro, QILQII), (.ro, I)]
abbrev spec_l2Neighbors_rs : List (Bool × Ty) := [(true, LI)]
noncomputable def spec_l2Neighbors_G (N : Nat) : GTab := gOf [(69, spec_l2Near_S N)]
theorem spec_l2Neighbors_gok (N : Nat) : GOk Tryz.prog (spec_l2Neighbors_G N) := gOf_ok ⟨spec_l2Near_pc N, trivial⟩
noncomputable def spec_l2Neighbors_code : Code := (Tryz.f43.body).getD .skip
noncomputable def spec_l2Neighbors_l0_sh : Sh := ⟨[(1, .one (.ro I)), (2, .one (.adr 0 0)), (5, .one (.ref 1)), (6, .one (.ro I))], [.box [.ro I, .ro LQII], .sl 3 I .own]⟩
noncomputable def spec_l2Neighbors_l0_ex : List (Ex × Sh) := [(.exit 0, ⟨[(5, .one (.ref 0))], [.sl 3 I .own]⟩)]
noncomputable def spec_l2Neighbors_l0 {R : Type} (N : Nat) (k0 : (List Int) → Option R) : Nat → Int → Int → Int → (List (Int × Int)) → (List Int) → Option R
  | 0, _, _, _, _, _ => none
  | K + 1, x1, y, o, o1, o2 =>
    (br (ilt y o)
      (((spec_l2Near N (o, o1) x1 y).bind fun r =>
        (br r.1.1
          ((chk (room o2 [y])
            (spec_l2Neighbors_l0 N k0 K x1 (IntKind.i64.wrap (y + 1)) o o1 (tApp o2 [y]))))
          (spec_l2Neighbors_l0 N k0 K x1 (IntKind.i64.wrap (y + 1)) o o1 o2))))
      (k0 o2))
noncomputable def spec_l2Neighbors_l0_again {R : Type} (N : Nat) (ks : (j : Nat) → ((spec_l2Neighbors_l0_ex.getD j (.ret, Sh.none)).2).T → Option R) (k : Nat) (x : spec_l2Neighbors_l0_sh.T) : Option R :=
  spec_l2Neighbors_l0 N (fun y0 => ks 0 (((), ()), (y0, ()))) k x.1.1 x.1.2.2.2.1 x.2.1.1 x.2.1.2.1 x.2.2.1
noncomputable def spec_l2Neighbors_l0_s (N : Nat) : LSum := ⟨spec_l2Neighbors_l0_sh, spec_l2Neighbors_l0_ex, fun x ks => spec_l2Neighbors_l0_again N ks N x⟩
theorem spec_l2Neighbors_l0_step (N : Nat) (R : Type) (k : Nat) (x : spec_l2Neighbors_l0_sh.T) (ks : (j : Nat) → ((spec_l2Neighbors_l0_ex.getD j (.ret, Sh.none)).2).T → Option R) : spec_l2Neighbors_l0_again N ks (k + 1) x = roundF (spec_l2Neighbors_G N) tab [] (loopAt spec_l2Neighbors_code 0) spec_l2Neighbors_l0_sh spec_l2Neighbors_l0_ex (fun y => spec_l2Neighbors_l0_again N ks k y) ks x := by kernel_rfl
theorem spec_l2Neighbors_l0_ok (N : Nat) : LoopOk Tryz.prog Tryz.f43.ntmps (spec_l2Neighbors_l0_s N) (loopAt spec_l2Neighbors_code 0) :=
  loop_ok (l := spec_l2Neighbors_l0_s N) progOk (spec_l2Neighbors_gok N) (draw_ok progOk (spec_l2Neighbors_gok N)) (fun R k x ks => spec_l2Neighbors_l0_again N ks k x) (fun _ _ _ => rfl) (fun R k x ks => spec_l2Neighbors_l0_step N R k x ks) (fun R x ks r h => ⟨N, h⟩) (lsOk_at (L := []) trivial) (by kernel_rfl) (by kernel_rfl)
noncomputable def spec_l2Neighbors (N : Nat) (g : (Int × (List (Int × Int)))) (x : Int) : Option (((List Int) × Unit) × (Unit)) :=
  spec_l2Neighbors_l0 N (fun o => some ((o, ()), ())) N x 0 g.1 g.2 []
noncomputable def spec_l2Neighbors_S (N : Nat) : FSum := ⟨spec_l2Neighbors_ps, spec_l2Neighbors_rs, fun x => spec_l2Neighbors N x.1 x.2.1⟩
theorem spec_l2Neighbors_run (N : Nat) (x : argsT spec_l2Neighbors_ps) : spec_l2Neighbors N x.1 x.2.1 = funF (spec_l2Neighbors_G N) tab [spec_l2Neighbors_l0_s N] Tryz.f43 spec_l2Neighbors_ps spec_l2Neighbors_rs x := by kernel_rfl
theorem spec_l2Neighbors_pc (N : Nat) : PC Tryz.prog 43 (spec_l2Neighbors_S N) := by
  have e : spec_l2Neighbors_S N = ⟨spec_l2Neighbors_ps, spec_l2Neighbors_rs, funF (spec_l2Neighbors_G N) tab [spec_l2Neighbors_l0_s N] Tryz.f43 spec_l2Neighbors_ps spec_l2Neighbors_rs⟩ := congrArg (FSum.mk spec_l2Neighbors_ps spec_l2Neighbors_rs) (funext (spec_l2Neighbors_run N))
  rw [e]
  exact fun_ok (c := spec_l2Neighbors_code) progOk (spec_l2Neighbors_gok N) (draw_ok progOk (spec_l2Neighbors_gok N)) Tryz.call43 Tryz.func43 (by kernel_rfl) (lsOk_at (L := [spec_l2Neighbors_l0_s N]) ⟨spec_l2Neighbors_l0_ok N, trivial⟩) (by kernel_rfl) (by kernel_rfl) (by kernel_rfl) (by kernel_rfl) (by kernel_rfl)

/-! ### spec_l1Cur_dense5 -/
abbrev spec_l1Cur_dense5_ps : List (PV.Mode × Ty) := [(.mut, BQOU8QIU64)]
abbrev spec_l1Cur_dense5_rs : List (Bool × Ty) := [(false, QILQII)]
noncomputable def spec_l1Cur_dense5_G (N : Nat) : GTab := gOf [(88, spec_l1Cur_graph_S N), (41, spec_l2Good_S N), (61, spec_l1Cur_one_S N), (43, spec_l2Neighbors_S N), (89, spec_l2PutPair_S N)]
theorem spec_l1Cur_dense5_gok (N : Nat) : GOk Tryz.prog (spec_l1Cur_dense5_G N) := gOf_ok ⟨spec_l1Cur_graph_pc N, spec_l2Good_pc N, spec_l1Cur_one_pc N, spec_l2Neighbors_pc N, spec_l2PutPair_pc N, trivial⟩
noncomputable def spec_l1Cur_dense5_code : Code := (Tryz.f39.body).getD .skip
noncomputable def spec_l1Cur_dense5_l0_sh : Sh := ⟨[(0, .one (.adr 0 0)), (2, .one (.adr 1 0)), (3, .one (.adr 2 0)), (4, .one (.ro I))], [.mbox QOU8QIU64, .box [.ro I, .nilsl], .box [.ro I, .ref 3], .sl 49 QII .own]⟩
noncomputable def spec_l1Cur_dense5_l0_ex : List (Ex × Sh) := [(.exit 0, ⟨[(0, .one (.adr 0 0)), (2, .one (.adr 1 0)), (3, .one (.adr 2 0))], [.mbox QOU8QIU64, .box [.ro I, .nilsl], .box [.ro I, .ref 3], .sl 49 QII .own]⟩)]
noncomputable def spec_l1Cur_dense5_l0 {R : Type} (N : Nat) (k0 : ((List Int) × (Int × Int)) → Int → Int → (List (Int × Int)) → Option R) : Nat → Int → ((List Int) × (Int × Int)) → Int → Int → (List (Int × Int)) → Option R
  | 0, _, _, _, _, _ => none
  | K + 1, x, o, o1, o2, o3 =>
    (br (ilt x o2)
      (((spec_l2Neighbors N (o2, o3) x).bind fun r3 =>
        (br (ilt (tLen r3.1.1) 2)
          (((spec_l2PutPair N o3 ((IntKind.i64.wrap (x - 1)), x)).bind fun r4 =>
            spec_l1Cur_dense5_l0 N k0 K (IntKind.i64.wrap (x + 1)) o o1 o2 r4.1.1))
          (spec_l1Cur_dense5_l0 N k0 K (IntKind.i64.wrap (x + 1)) o o1 o2 o3))))
      (k0 o o1 o2 o3))
noncomputable def spec_l1Cur_dense5_l0_again {R : Type} (N : Nat) (ks : (j : Nat) → ((spec_l1Cur_dense5_l0_ex.getD j (.ret, Sh.none)).2).T → Option R) (k : Nat) (x : spec_l1Cur_dense5_l0_sh.T) : Option R :=
  spec_l1Cur_dense5_l0 N (fun y0 y1 y2 y3 => ks 0 (((), (), (), ()), (y0, (y1, (), ()), (y2, (), ()), y3, ()))) k x.1.2.2.2.1 x.2.1 x.2.2.1.1 x.2.2.2.1.1 x.2.2.2.2.1
noncomputable def spec_l1Cur_dense5_l0_s (N : Nat) : LSum := ⟨spec_l1Cur_dense5_l0_sh, spec_l1Cur_dense5_l0_ex, fun x ks => spec_l1Cur_dense5_l0_again N ks N x⟩
theorem spec_l1Cur_dense5_l0_step (N : Nat) (R : Type) (k : Nat) (x : spec_l1Cur_dense5_l0_sh.T) (ks : (j : Nat) → ((spec_l1Cur_dense5_l0_ex.getD j (.ret, Sh.none)).2).T → Option R) : spec_l1Cur_dense5_l0_again N ks (k + 1) x = roundF (spec_l1Cur_dense5_G N) tab [] (loopAt spec_l1Cur_dense5_code 0) spec_l1Cur_dense5_l0_sh spec_l1Cur_dense5_l0_ex (fun y => spec_l1Cur_dense5_l0_again N ks k y) ks x := by kernel_rfl
theorem spec_l1Cur_dense5_l0_ok (N : Nat) : LoopOk Tryz.prog Tryz.f39.ntmps (spec_l1Cur_dense5_l0_s N) (loopAt spec_l1Cur_dense5_code 0) :=
  loop_ok (l := spec_l1Cur_dense5_l0_s N) progOk (spec_l1Cur_dense5_gok N) (draw_ok progOk (spec_l1Cur_dense5_gok N)) (fun R k x ks => spec_l1Cur_dense5_l0_again N ks k x) (fun _ _ _ => rfl) (fun R k x ks => spec_l1Cur_dense5_l0_step N R k x ks) (fun R x ks r h => ⟨N, h⟩) (lsOk_at (L := []) trivial) (by kernel_rfl) (by kernel_rfl)
noncomputable def spec_l1Cur_dense5 (N : Nat) (c : ((List Int) × (Int × Int))) : Option (((Int × (List (Int × Int))) × Unit) × (((List Int) × (Int × Int)) × Unit)) :=
  ((spec_l1Cur_graph N c).bind fun r =>
    ((spec_l2Good N (r.1.1.1, r.1.1.2)).bind fun r1 =>
      (br (!r1.1.1)
        (some (((r.1.1.1, r.1.1.2), ()), (r.2.1, ())))
        (((spec_l1Cur_one N r.2.1 4).bind fun r2 =>
          (br r2.1.1
            (some (((r.1.1.1, r.1.1.2), ()), (r2.2.1, ())))
            (spec_l1Cur_dense5_l0 N (fun o o1 o2 o3 => some (((o2, o3), ()), (o, ()))) N 1 r2.2.1 0 r.1.1.1 r.1.1.2)))))))
noncomputable def spec_l1Cur_dense5_S (N : Nat) : FSum := ⟨spec_l1Cur_dense5_ps, spec_l1Cur_dense5_rs, fun x => spec_l1Cur_dense5 N x.1⟩
theorem spec_l1Cur_dense5_run (N : Nat) (x : argsT spec_l1Cur_dense5_ps) : spec_l1Cur_dense5 N x.1 = funF (spec_l1Cur_dense5_G N) tab [spec_l1Cur_dense5_l0_s N] Tryz.f39 spec_l1Cur_dense5_ps spec_l1Cur_dense5_rs x := by kernel_rfl
theorem spec_l1Cur_dense5_pc (N : Nat) : PC Tryz.prog 39 (spec_l1Cur_dense5_S N) := by
  have e : spec_l1Cur_dense5_S N = ⟨spec_l1Cur_dense5_ps, spec_l1Cur_dense5_rs, funF (spec_l1Cur_dense5_G N) tab [spec_l1Cur_dense5_l0_s N] Tryz.f39 spec_l1Cur_dense5_ps spec_l1Cur_dense5_rs⟩ := congrArg (FSum.mk spec_l1Cur_dense5_ps spec_l1Cur_dense5_rs) (funext (spec_l1Cur_dense5_run N))
  rw [e]
  exact fun_ok (c := spec_l1Cur_dense5_code) progOk (spec_l1Cur_dense5_gok N) (draw_ok progOk (spec_l1Cur_dense5_gok N)) Tryz.call39 Tryz.func39 (by kernel_rfl) (lsOk_at (L := [spec_l1Cur_dense5_l0_s N]) ⟨spec_l1Cur_dense5_l0_ok N, trivial⟩) (by kernel_rfl) (by kernel_rfl) (by kernel_rfl) (by kernel_rfl) (by kernel_rfl)

/-! ### spec_l5Ask -/
abbrev spec_l5Ask_ps : List (PV.Mode × Ty) := [(.ro, QILQII), (.ro, I)]
abbrev spec_l5Ask_rs : List (Bool × Ty) := [(true, .bool)]
noncomputable def spec_l5Ask_G (N : Nat) : GTab := gOf [(41, spec_l2Good_S N), (92, spec_l1In_S N)]
theorem spec_l5Ask_gok (N : Nat) : GOk Tryz.prog (spec_l5Ask_G N) := gOf_ok ⟨spec_l2Good_pc N, spec_l1In_pc N, trivial⟩
noncomputable def spec_l5Ask_code : Code := (Tryz.f99.body).getD .skip
noncomputable def spec_l5Ask (N : Nat) (g : (Int × (List (Int × Int)))) (kv : Int) : Option ((Bool × Unit) × (Unit)) :=
  ((spec_l2Good N (g.1, g.2)).bind fun r =>
    (br r.1.1
      (((spec_l1In N kv 1 5).bind fun r1 =>
        some ((r1.1.1, ()), ())))
      (some ((false, ()), ()))))
noncomputable def spec_l5Ask_S (N : Nat) : FSum := ⟨spec_l5Ask_ps, spec_l5Ask_rs, fun x => spec_l5Ask N x.1 x.2.1⟩
theorem spec_l5Ask_run (N : Nat) (x : argsT spec_l5Ask_ps) : spec_l5Ask N x.1 x.2.1 = funF (spec_l5Ask_G N) tab [] Tryz.f99 spec_l5Ask_ps spec_l5Ask_rs x := by kernel_rfl
theorem spec_l5Ask_pc (N : Nat) : PC Tryz.prog 99 (spec_l5Ask_S N) := by
  have e : spec_l5Ask_S N = ⟨spec_l5Ask_ps, spec_l5Ask_rs, funF (spec_l5Ask_G N) tab [] Tryz.f99 spec_l5Ask_ps spec_l5Ask_rs⟩ := congrArg (FSum.mk spec_l5Ask_ps spec_l5Ask_rs) (funext (spec_l5Ask_run N))
  rw [e]
  exact fun_ok (c := spec_l5Ask_code) progOk (spec_l5Ask_gok N) (draw_ok progOk (spec_l5Ask_gok N)) Tryz.call99 Tryz.func99 (by kernel_rfl) (lsOk_at (L := []) trivial) (by kernel_rfl) (by kernel_rfl) (by kernel_rfl) (by kernel_rfl) (by kernel_rfl)

/-! ### spec_l1Own -/
abbrev spec_l1Own_ps : List (PV.Mode × Ty) := [(.ro, LI)]
abbrev spec_l1Own_rs : List (Bool × Ty) := [(true, LI)]
noncomputable def spec_l1Own_G (N : Nat) : GTab := gOf []
theorem spec_l1Own_gok (N : Nat) : GOk Tryz.prog (spec_l1Own_G N) := gOf_ok trivial
noncomputable def spec_l1Own_code : Code := (Tryz.f60.body).getD .skip
noncomputable def spec_l1Own (N : Nat) (l : (List Int)) : Option (((List Int) × Unit) × (Unit)) :=
  (chk (room (α := Int) (β := Int) [] l)
    (some (((tApp [] l), ()), ())))
noncomputable def spec_l1Own_S (N : Nat) : FSum := ⟨spec_l1Own_ps, spec_l1Own_rs, fun x => spec_l1Own N x.1⟩
theorem spec_l1Own_run (N : Nat) (x : argsT spec_l1Own_ps) : spec_l1Own N x.1 = funF (spec_l1Own_G N) tab [] Tryz.f60 spec_l1Own_ps spec_l1Own_rs x := by kernel_rfl
theorem spec_l1Own_pc (N : Nat) : PC Tryz.prog 60 (spec_l1Own_S N) := by
  have e : spec_l1Own_S N = ⟨spec_l1Own_ps, spec_l1Own_rs, funF (spec_l1Own_G N) tab [] Tryz.f60 spec_l1Own_ps spec_l1Own_rs⟩ := congrArg (FSum.mk spec_l1Own_ps spec_l1Own_rs) (funext (spec_l1Own_run N))
  rw [e]
  exact fun_ok (c := spec_l1Own_code) progOk (spec_l1Own_gok N) (draw_ok progOk (spec_l1Own_gok N)) Tryz.call60 Tryz.func60 (by kernel_rfl) (lsOk_at (L := []) trivial) (by kernel_rfl) (by kernel_rfl) (by kernel_rfl) (by kernel_rfl) (by kernel_rfl)

/-! ### spec_l5More -/
abbrev spec_l5More_ps : List (PV.Mode × Ty) := [(.ro, QILQII), (.ro, I), (.ro, LI), (.own, LLI)]
abbrev spec_l5More_rs : List (Bool × Ty) := [(true, LLI)]
noncomputable def spec_l5More_T (slf : ((Int × (List (Int × Int))) → Int → (List Int) → (List (List Int)) → Option (((List (List Int)) × Unit) × (Unit)))) : FSum := ⟨spec_l5More_ps, spec_l5More_rs, fun x => slf x.1 x.2.1 x.2.2.1 x.2.2.2.1⟩
noncomputable def spec_l5More_G (N : Nat) (slf : ((Int × (List (Int × Int))) → Int → (List Int) → (List (List Int)) → Option (((List (List Int)) × Unit) × (Unit)))) : GTab := gOf [(132, spec_l5More_T slf), (60, spec_l1Own_S N), (69, spec_l2Near_S N)]
theorem spec_l5More_gok (N : Nat) (slf : ((Int × (List (Int × Int))) → Int → (List Int) → (List (List Int)) → Option (((List (List Int)) × Unit) × (Unit)))) (hslf : PC Tryz.prog 132 (spec_l5More_T slf)) : GOk Tryz.prog (spec_l5More_G N slf) := gOf_ok ⟨hslf, spec_l1Own_pc N, spec_l2Near_pc N, trivial⟩
noncomputable def spec_l5More_code : Code := (Tryz.f132.body).getD .skip
noncomputable def spec_l5More_l0_0_sh : Sh := ⟨[(1, .one (.ro I)), (2, .one (.ro LI)), (3, .one (.ref 0)), (4, .one (.adr 1 0)), (9, .one (.ro I)), (10, .one (.ro .bool)), (11, .one (.ro I)), (26, .one (.ref 0)), (27, .one (.ro I)), (28, .one (.ro .bool))], [.sl 27 LI .deep, .box [.ro I, .ro LQII]]⟩
noncomputable def spec_l5More_l0_0_ex : List (Ex × Sh) := [(.exit 2, ⟨[(1, .one (.ro I)), (2, .one (.ro LI)), (3, .one (.ref 0)), (4, .one (.adr 1 0)), (9, .one (.ro I)), (10, .one (.ro .bool)), (26, .one (.ref 0)), (27, .one (.ro I)), (28, .one (.ro .bool))], [.sl 27 LI .deep, .box [.ro I, .ro LQII]]⟩)]
noncomputable def spec_l5More_l0_0 {R : Type} (N : Nat) (slf : ((Int × (List (Int × Int))) → Int → (List Int) → (List (List Int)) → Option (((List (List Int)) × Unit) × (Unit)))) (k0 : Int → (List Int) → Int → Bool → Int → Bool → (List (List Int)) → Int → (List (Int × Int)) → Option R) : Nat → Int → (List Int) → Int → Bool → Int → Int → Bool → (List (List Int)) → Int → (List (Int × Int)) → Option R
  | 0, _, _, _, _, _, _, _, _, _, _ => none
  | K + 1, x3, x4, x5, x6, x7, x8, x9, o3, o4, o5 =>
    (br (ilt x7 (tLen x4))
      ((br x6
        ((chk (inb x4 x7)
          (br (ine (rdI x4 x7) x5)
          (spec_l5More_l0_0 N slf k0 K x3 x4 x5 true (IntKind.i64.wrap (x7 + 1)) x8 x9 o3 o4 o5)
          (((spec_l2Near N (o4, o5) x7 (tLen x4)).bind fun r1 =>
            spec_l5More_l0_0 N slf k0 K x3 x4 x5 (!r1.1.1) (IntKind.i64.wrap (x7 + 1)) x8 x9 o3 o4 o5)))))
        (spec_l5More_l0_0 N slf k0 K x3 x4 x5 false (IntKind.i64.wrap (x7 + 1)) x8 x9 o3 o4 o5)))
      (k0 x3 x4 x5 x6 x8 x9 o3 o4 o5))
noncomputable def spec_l5More_l0_0_again {R : Type} (N : Nat) (slf : ((Int × (List (Int × Int))) → Int → (List Int) → (List (List Int)) → Option (((List (List Int)) × Unit) × (Unit)))) (ks : (j : Nat) → ((spec_l5More_l0_0_ex.getD j (.ret, Sh.none)).2).T → Option R) (k : Nat) (x : spec_l5More_l0_0_sh.T) : Option R :=
  spec_l5More_l0_0 N slf (fun y0 y1 y2 y3 y4 y5 y6 y7 y8 => ks 0 ((y0, y1, (), (), y2, y3, (), y4, y5, ()), (y6, (y7, y8, ()), ()))) k x.1.1 x.1.2.1 x.1.2.2.2.2.1 x.1.2.2.2.2.2.1 x.1.2.2.2.2.2.2.1 x.1.2.2.2.2.2.2.2.2.1 x.1.2.2.2.2.2.2.2.2.2.1 x.2.1 x.2.2.1.1 x.2.2.1.2.1
noncomputable def spec_l5More_l0_0_s (N : Nat) (slf : ((Int × (List (Int × Int))) → Int → (List Int) → (List (List Int)) → Option (((List (List Int)) × Unit) × (Unit)))) : LSum := ⟨spec_l5More_l0_0_sh, spec_l5More_l0_0_ex, fun x ks => spec_l5More_l0_0_again N slf ks N x⟩
theorem spec_l5More_l0_0_step (N : Nat) (slf : ((Int × (List (Int × Int))) → Int → (List Int) → (List (List Int)) → Option (((List (List Int)) × Unit) × (Unit)))) (R : Type) (k : Nat) (x : spec_l5More_l0_0_sh.T) (ks : (j : Nat) → ((spec_l5More_l0_0_ex.getD j (.ret, Sh.none)).2).T → Option R) : spec_l5More_l0_0_again N slf ks (k + 1) x = roundF (spec_l5More_G N slf) tab [] (loopAt (loopAt spec_l5More_code 0) 0) spec_l5More_l0_0_sh spec_l5More_l0_0_ex (fun y => spec_l5More_l0_0_again N slf ks k y) ks x := by kernel_rfl
theorem spec_l5More_l0_0_ok (N : Nat) (slf : ((Int × (List (Int × Int))) → Int → (List Int) → (List (List Int)) → Option (((List (List Int)) × Unit) × (Unit)))) (hslf : PC Tryz.prog 132 (spec_l5More_T slf)) : LoopOk Tryz.prog Tryz.f132.ntmps (spec_l5More_l0_0_s N slf) (loopAt (loopAt spec_l5More_code 0) 0) :=
  loop_ok (l := spec_l5More_l0_0_s N slf) progOk (spec_l5More_gok N slf hslf) (draw_ok progOk (spec_l5More_gok N slf hslf)) (fun R k x ks => spec_l5More_l0_0_again N slf ks k x) (fun _ _ _ => rfl) (fun R k x ks => spec_l5More_l0_0_step N slf R k x ks) (fun R x ks r h => ⟨N, h⟩) (lsOk_at (L := []) trivial) (by kernel_rfl) (by kernel_rfl)
noncomputable def spec_l5More_l0_sh : Sh := ⟨[(1, .one (.ro I)), (2, .one (.ro LI)), (3, .one (.ref 0)), (4, .one (.adr 1 0)), (9, .one (.ro I))], [.sl 27 LI .deep, .box [.ro I, .ro LQII]]⟩
noncomputable def spec_l5More_l0_ex : List (Ex × Sh) := [(.exit 0, ⟨[(3, .one (.ref 0))], [.sl 27 LI .deep]⟩)]
noncomputable def spec_l5More_l0 {R : Type} (N : Nat) (slf : ((Int × (List (Int × Int))) → Int → (List Int) → (List (List Int)) → Option (((List (List Int)) × Unit) × (Unit)))) (k0 : (List (List Int)) → Option R) : Nat → Int → (List Int) → Int → (List (List Int)) → Int → (List (Int × Int)) → Option R
  | 0, _, _, _, _, _, _ => none
  | K + 1, x, x1, x2, o, o1, o2 =>
    (br (ilt x2 x)
      ((br (ile (tLen o) 300)
        (spec_l5More_l0_0 N slf (fun x3 x4 x5 x6 x7 x8 o3 o4 o5 => (br x6
          (((spec_l1Own N x4).bind fun r1 =>
            (chk (room r1.1.1 [x5])
              ((slf (o4, o5) x3 (tApp r1.1.1 [x5]) o3).bind fun r2 =>
              spec_l5More_l0 N slf k0 K x3 x4 (IntKind.i64.wrap (x5 + 1)) r2.1.1 o4 o5))))
          (spec_l5More_l0 N slf k0 K x3 x4 (IntKind.i64.wrap (x5 + 1)) o3 o4 o5))) N x x1 x2 true 0 (tLen o) (ile (tLen o) 300) o o1 o2)
        (k0 o)))
      (k0 o))
noncomputable def spec_l5More_l0_again {R : Type} (N : Nat) (slf : ((Int × (List (Int × Int))) → Int → (List Int) → (List (List Int)) → Option (((List (List Int)) × Unit) × (Unit)))) (ks : (j : Nat) → ((spec_l5More_l0_ex.getD j (.ret, Sh.none)).2).T → Option R) (k : Nat) (x : spec_l5More_l0_sh.T) : Option R :=
  spec_l5More_l0 N slf (fun y0 => ks 0 (((), ()), (y0, ()))) k x.1.1 x.1.2.1 x.1.2.2.2.2.1 x.2.1 x.2.2.1.1 x.2.2.1.2.1
noncomputable def spec_l5More_l0_s (N : Nat) (slf : ((Int × (List (Int × Int))) → Int → (List Int) → (List (List Int)) → Option (((List (List Int)) × Unit) × (Unit)))) : LSum := ⟨spec_l5More_l0_sh, spec_l5More_l0_ex, fun x ks => spec_l5More_l0_again N slf ks N x⟩
theorem spec_l5More_l0_step (N : Nat) (slf : ((Int × (List (Int × Int))) → Int → (List Int) → (List (List Int)) → Option (((List (List Int)) × Unit) × (Unit)))) (R : Type) (k : Nat) (x : spec_l5More_l0_sh.T) (ks : (j : Nat) → ((spec_l5More_l0_ex.getD j (.ret, Sh.none)).2).T → Option R) : spec_l5More_l0_again N slf ks (k + 1) x = roundF (spec_l5More_G N slf) tab [spec_l5More_l0_0_s N slf] (loopAt spec_l5More_code 0) spec_l5More_l0_sh spec_l5More_l0_ex (fun y => spec_l5More_l0_again N slf ks k y) ks x := by kernel_rfl
theorem spec_l5More_l0_ok (N : Nat) (slf : ((Int × (List (Int × Int))) → Int → (List Int) → (List (List Int)) → Option (((List (List Int)) × Unit) × (Unit)))) (hslf : PC Tryz.prog 132 (spec_l5More_T slf)) : LoopOk Tryz.prog Tryz.f132.ntmps (spec_l5More_l0_s N slf) (loopAt spec_l5More_code 0) :=
  loop_ok (l := spec_l5More_l0_s N slf) progOk (spec_l5More_gok N slf hslf) (draw_ok progOk (spec_l5More_gok N slf hslf)) (fun R k x ks => spec_l5More_l0_again N slf ks k x) (fun _ _ _ => rfl) (fun R k x ks => spec_l5More_l0_step N slf R k x ks) (fun R x ks r h => ⟨N, h⟩) (lsOk_at (L := [spec_l5More_l0_0_s N slf]) ⟨spec_l5More_l0_0_ok N slf hslf, trivial⟩) (by kernel_rfl) (by kernel_rfl)
noncomputable def spec_l5More_b (N : Nat) (slf : ((Int × (List (Int × Int))) → Int → (List Int) → (List (List Int)) → Option (((List (List Int)) × Unit) × (Unit)))) (c : (Int × (List (Int × Int)))) (c1 : Int) (c2 : (List Int)) (c3 : (List (List Int))) : Option (((List (List Int)) × Unit) × (Unit)) :=
  (br (ieq (tLen c2) c.1)
    (((spec_l1Own N c2).bind fun r =>
      (chk (room c3 [r.1.1])
        (some (((tApp c3 [r.1.1]), ()), ())))))
    (spec_l5More_l0 N slf (fun o => some ((o, ()), ())) N c1 c2 0 c3 c.1 c.2))
theorem spec_l5More_run (N : Nat) (slf : ((Int × (List (Int × Int))) → Int → (List Int) → (List (List Int)) → Option (((List (List Int)) × Unit) × (Unit)))) (x : argsT spec_l5More_ps) : spec_l5More_b N slf x.1 x.2.1 x.2.2.1 x.2.2.2.1 = funF (spec_l5More_G N slf) tab [spec_l5More_l0_s N slf] Tryz.f132 spec_l5More_ps spec_l5More_rs x := by kernel_rfl
theorem spec_l5More_bpc (N : Nat) (slf : ((Int × (List (Int × Int))) → Int → (List Int) → (List (List Int)) → Option (((List (List Int)) × Unit) × (Unit)))) (hslf : PC Tryz.prog 132 (spec_l5More_T slf)) : PC Tryz.prog 132 (spec_l5More_T (spec_l5More_b N slf)) := by
  have e : spec_l5More_T (spec_l5More_b N slf) = ⟨spec_l5More_ps, spec_l5More_rs, funF (spec_l5More_G N slf) tab [spec_l5More_l0_s N slf] Tryz.f132 spec_l5More_ps spec_l5More_rs⟩ := congrArg (FSum.mk spec_l5More_ps spec_l5More_rs) (funext (spec_l5More_run N slf))
  rw [e]
  exact fun_ok (c := spec_l5More_code) progOk (spec_l5More_gok N slf hslf) (draw_ok progOk (spec_l5More_gok N slf hslf)) Tryz.call132 Tryz.func132 (by kernel_rfl) (lsOk_at (L := [spec_l5More_l0_s N slf]) ⟨spec_l5More_l0_ok N slf hslf, trivial⟩) (by kernel_rfl) (by kernel_rfl) (by kernel_rfl) (by kernel_rfl) (by kernel_rfl)
noncomputable def spec_l5More_r (N : Nat) : Nat → ((Int × (List (Int × Int))) → Int → (List Int) → (List (List Int)) → Option (((List (List Int)) × Unit) × (Unit)))
  | 0 => fun _ _ _ _ => none
  | K + 1 => spec_l5More_b N (spec_l5More_r N K)
theorem spec_l5More_rpc (N : Nat) : ∀ K, PC Tryz.prog 132 (spec_l5More_T (spec_l5More_r N K))
  | 0 => pc_none Tryz.call132
  | K + 1 => spec_l5More_bpc N (spec_l5More_r N K) (spec_l5More_rpc N K)
noncomputable def spec_l5More (N : Nat) (c : (Int × (List (Int × Int)))) (c1 : Int) (c2 : (List Int)) (c3 : (List (List Int))) : Option (((List (List Int)) × Unit) × (Unit)) := spec_l5More_r N N c c1 c2 c3
noncomputable def spec_l5More_S (N : Nat) : FSum := ⟨spec_l5More_ps, spec_l5More_rs, fun x => spec_l5More N x.1 x.2.1 x.2.2.1 x.2.2.2.1⟩
theorem spec_l5More_pc (N : Nat) : PC Tryz.prog 132 (spec_l5More_S N) := spec_l5More_rpc N N

/-! ### spec_l5All -/
abbrev spec_l5All_ps : List (PV.Mode × Ty) := [(.ro, QILQII), (.ro, I)]
abbrev spec_l5All_rs : List (Bool × Ty) := [(true, LLI), (true, .bool)]
noncomputable def spec_l5All_G (N : Nat) : GTab := gOf [(99, spec_l5Ask_S N), (132, spec_l5More_S N)]
theorem spec_l5All_gok (N : Nat) : GOk Tryz.prog (spec_l5All_G N) := gOf_ok ⟨spec_l5Ask_pc N, spec_l5More_pc N, trivial⟩
noncomputable def spec_l5All_code : Code := (Tryz.f90.body).getD .skip
noncomputable def spec_l5All (N : Nat) (g : (Int × (List (Int × Int)))) (kv : Int) : Option (((List (List Int)) × Bool × Unit) × (Unit)) :=
  ((spec_l5Ask N (g.1, g.2) kv).bind fun r =>
    (br (!r.1.1)
      (some (([], false, ()), ()))
      (((spec_l5More N (g.1, g.2) kv [] []).bind fun r1 =>
        (br (ilt 300 (tLen r1.1.1))
          (some (([], false, ()), ()))
          (some ((r1.1.1, true, ()), ())))))))
noncomputable def spec_l5All_S (N : Nat) : FSum := ⟨spec_l5All_ps, spec_l5All_rs, fun x => spec_l5All N x.1 x.2.1⟩
theorem spec_l5All_run (N : Nat) (x : argsT spec_l5All_ps) : spec_l5All N x.1 x.2.1 = funF (spec_l5All_G N) tab [] Tryz.f90 spec_l5All_ps spec_l5All_rs x := by kernel_rfl
theorem spec_l5All_pc (N : Nat) : PC Tryz.prog 90 (spec_l5All_S N) := by
  have e : spec_l5All_S N = ⟨spec_l5All_ps, spec_l5All_rs, funF (spec_l5All_G N) tab [] Tryz.f90 spec_l5All_ps spec_l5All_rs⟩ := congrArg (FSum.mk spec_l5All_ps spec_l5All_rs) (funext (spec_l5All_run N))
  rw [e]
  exact fun_ok (c := spec_l5All_code) progOk (spec_l5All_gok N) (draw_ok progOk (spec_l5All_gok N)) Tryz.call90 Tryz.func90 (by kernel_rfl) (lsOk_at (L := []) trivial) (by kernel_rfl) (by kernel_rfl) (by kernel_rfl) (by kernel_rfl) (by kernel_rfl)

/-! ### spec_l1Cur_colours5 -/
abbrev spec_l1Cur_colours5_ps : List (PV.Mode × Ty) := [(.mut, BQOU8QIU64), (.ro, QILQII), (.ro, I)]
abbrev spec_l1Cur_colours5_rs : List (Bool × Ty) := [(true, LI)]
noncomputable def spec_l1Cur_colours5_G (N : Nat) : GTab := gOf [(90, spec_l5All_S N), (61, spec_l1Cur_one_S N), (42, spec_l1Cur_pick_S N), (91, spec_l1Cur_among_S N)]
theorem spec_l1Cur_colours5_gok (N : Nat) : GOk Tryz.prog (spec_l1Cur_colours5_G N) := gOf_ok ⟨spec_l5All_pc N, spec_l1Cur_one_pc N, spec_l1Cur_pick_pc N, spec_l1Cur_among_pc N, trivial⟩
noncomputable def spec_l1Cur_colours5_code : Code := (Tryz.f40.body).getD .skip
noncomputable def spec_l1Cur_colours5_l0_sh : Sh := ⟨[(0, .one (.adr 0 0)), (4, .one (.adr 1 0)), (9, .one (.ref 2)), (10, .one (.ro I))], [.mbox QOU8QIU64, .box [.ro I, .ro LQII], .sl 3 I .own]⟩
noncomputable def spec_l1Cur_colours5_l0_ex : List (Ex × Sh) := [(.exit 0, ⟨[(0, .one (.adr 0 0)), (9, .one (.ref 1))], [.mbox QOU8QIU64, .sl 3 I .own]⟩)]
noncomputable def spec_l1Cur_colours5_l0 {R : Type} (N : Nat) (k0 : ((List Int) × (Int × Int)) → (List Int) → Option R) : Nat → Int → ((List Int) × (Int × Int)) → Int → (List (Int × Int)) → (List Int) → Option R
  | 0, _, _, _, _, _ => none
  | K + 1, x, o, o1, o2, o3 =>
    (br (ilt x o1)
      ((br (ilt x 9)
        (((spec_l1Cur_pick N o 4).bind fun r3 =>
          (chk (room o3 [r3.1.1])
            (spec_l1Cur_colours5_l0 N k0 K (IntKind.i64.wrap (x + 1)) r3.2.1 o1 o2 (tApp o3 [r3.1.1])))))
        (k0 o o3)))
      (k0 o o3))
noncomputable def spec_l1Cur_colours5_l0_again {R : Type} (N : Nat) (ks : (j : Nat) → ((spec_l1Cur_colours5_l0_ex.getD j (.ret, Sh.none)).2).T → Option R) (k : Nat) (x : spec_l1Cur_colours5_l0_sh.T) : Option R :=
  spec_l1Cur_colours5_l0 N (fun y0 y1 => ks 0 (((), (), ()), (y0, y1, ()))) k x.1.2.2.2.1 x.2.1 x.2.2.1.1 x.2.2.1.2.1 x.2.2.2.1
noncomputable def spec_l1Cur_colours5_l0_s (N : Nat) : LSum := ⟨spec_l1Cur_colours5_l0_sh, spec_l1Cur_colours5_l0_ex, fun x ks => spec_l1Cur_colours5_l0_again N ks N x⟩
theorem spec_l1Cur_colours5_l0_step (N : Nat) (R : Type) (k : Nat) (x : spec_l1Cur_colours5_l0_sh.T) (ks : (j : Nat) → ((spec_l1Cur_colours5_l0_ex.getD j (.ret, Sh.none)).2).T → Option R) : spec_l1Cur_colours5_l0_again N ks (k + 1) x = roundF (spec_l1Cur_colours5_G N) tab [] (loopAt spec_l1Cur_colours5_code 0) spec_l1Cur_colours5_l0_sh spec_l1Cur_colours5_l0_ex (fun y => spec_l1Cur_colours5_l0_again N ks k y) ks x := by kernel_rfl
theorem spec_l1Cur_colours5_l0_ok (N : Nat) : LoopOk Tryz.prog Tryz.f40.ntmps (spec_l1Cur_colours5_l0_s N) (loopAt spec_l1Cur_colours5_code 0) :=
  loop_ok (l := spec_l1Cur_colours5_l0_s N) progOk (spec_l1Cur_colours5_gok N) (draw_ok progOk (spec_l1Cur_colours5_gok N)) (fun R k x ks => spec_l1Cur_colours5_l0_again N ks k x) (fun _ _ _ => rfl) (fun R k x ks => spec_l1Cur_colours5_l0_step N R k x ks) (fun R x ks r h => ⟨N, h⟩) (lsOk_at (L := []) trivial) (by kernel_rfl) (by kernel_rfl)
noncomputable def spec_l1Cur_colours5 (N : Nat) (c : ((List Int) × (Int × Int))) (g : (Int × (List (Int × Int)))) (kv : Int) : Option (((List Int) × Unit) × (((List Int) × (Int × Int)) × Unit)) :=
  ((spec_l5All N (g.1, g.2) kv).bind fun r =>
    (br r.1.2.1
      ((br (ilt 0 (tLen r.1.1))
        (((spec_l1Cur_one N c 10).bind fun r1 =>
          (br (!r1.1.1)
            (((spec_l1Cur_pick N r1.2.1 (tLen r.1.1)).bind fun r2 =>
              (chk (inb r.1.1 r2.1.1)
                (some (((rdL r.1.1 r2.1.1), ()), (r2.2.1, ()))))))
            (spec_l1Cur_colours5_l0 N (fun o o1 => ((spec_l1Cur_one N o 8).bind fun r3 =>
              (br r3.1.1
                (((spec_l1Cur_among N r3.2.1 [(-1), 0, 9]).bind fun r4 =>
                  (chk (room o1 [r4.1.1])
                    (some (((tApp o1 [r4.1.1]), ()), (r4.2.1, ()))))))
                (some ((o1, ()), (r3.2.1, ())))))) N 0 r1.2.1 g.1 g.2 []))))
        (spec_l1Cur_colours5_l0 N (fun o2 o3 => ((spec_l1Cur_one N o2 8).bind fun r5 =>
          (br r5.1.1
            (((spec_l1Cur_among N r5.2.1 [(-1), 0, 9]).bind fun r6 =>
              (chk (room o3 [r6.1.1])
                (some (((tApp o3 [r6.1.1]), ()), (r6.2.1, ()))))))
            (some ((o3, ()), (r5.2.1, ())))))) N 0 c g.1 g.2 [])))
      (spec_l1Cur_colours5_l0 N (fun o4 o5 => ((spec_l1Cur_one N o4 8).bind fun r7 =>
        (br r7.1.1
          (((spec_l1Cur_among N r7.2.1 [(-1), 0, 9]).bind fun r8 =>
            (chk (room o5 [r8.1.1])
              (some (((tApp o5 [r8.1.1]), ()), (r8.2.1, ()))))))
          (some ((o5, ()), (r7.2.1, ())))))) N 0 c g.1 g.2 [])))
noncomputable def spec_l1Cur_colours5_S (N : Nat) : FSum := ⟨spec_l1Cur_colours5_ps, spec_l1Cur_colours5_rs, fun x => spec_l1Cur_colours5 N x.1 x.2.1 x.2.2.1⟩
theorem spec_l1Cur_colours5_run (N : Nat) (x : argsT spec_l1Cur_colours5_ps) : spec_l1Cur_colours5 N x.1 x.2.1 x.2.2.1 = funF (spec_l1Cur_colours5_G N) tab [spec_l1Cur_colours5_l0_s N] Tryz.f40 spec_l1Cur_colours5_ps spec_l1Cur_colours5_rs x := by kernel_rfl
theorem spec_l1Cur_colours5_pc (N : Nat) : PC Tryz.prog 40 (spec_l1Cur_colours5_S N) := by
  have e : spec_l1Cur_colours5_S N = ⟨spec_l1Cur_colours5_ps, spec_l1Cur_colours5_rs, funF (spec_l1Cur_colours5_G N) tab [spec_l1Cur_colours5_l0_s N] Tryz.f40 spec_l1Cur_colours5_ps spec_l1Cur_colours5_rs⟩ := congrArg (FSum.mk spec_l1Cur_colours5_ps spec_l1Cur_colours5_rs) (funext (spec_l1Cur_colours5_run N))
  rw [e]
  exact fun_ok (c := spec_l1Cur_colours5_code) progOk (spec_l1Cur_colours5_gok N) (draw_ok progOk (spec_l1Cur_colours5_gok N)) Tryz.call40 Tryz.func40 (by kernel_rfl) (lsOk_at (L := [spec_l1Cur_colours5_l0_s N]) ⟨spec_l1Cur_colours5_l0_ok N, trivial⟩) (by kernel_rfl) (by kernel_rfl) (by kernel_rfl) (by kernel_rfl) (by kernel_rfl)

/-! ### spec_DrawWindingOf -/
abbrev spec_DrawWindingOf_ps : List (PV.Mode × Ty) := [(.ro, LU8)]
abbrev spec_DrawWindingOf_rs : List (Bool × Ty) := [(false, QILQII), (false, LI), (false, LI)]
noncomputable def spec_DrawWindingOf_G (N : Nat) : GTab := gOf [(39, spec_l1Cur_dense5_S N), (40, spec_l1Cur_colours5_S N), (41, spec_l2Good_S N), (42, spec_l1Cur_pick_S N), (43, spec_l2Neighbors_S N)]
theorem spec_DrawWindingOf_gok (N : Nat) : GOk Tryz.prog (spec_DrawWindingOf_G N) := gOf_ok ⟨spec_l1Cur_dense5_pc N, spec_l1Cur_colours5_pc N, spec_l2Good_pc N, spec_l1Cur_pick_pc N, spec_l2Neighbors_pc N, trivial⟩
noncomputable def spec_DrawWindingOf_code : Code := (Tryz.f7.body).getD .skip
noncomputable def spec_DrawWindingOf_l0_sh : Sh := ⟨[(2, .one (.adr 0 0)), (5, .one (.adr 1 0)), (6, .one (.adr 2 0)), (7, .one (.ref 3)), (8, .one (.ref 4)), (9, .one (.ro I)), (10, .one (.ro I))], [.box [.ro I, .nilsl], .mbox QOU8QIU64, .box [.ro I, .ro LQII], .sl 3 I .own, .sl 3 I .own]⟩
noncomputable def spec_DrawWindingOf_l0_ex : List (Ex × Sh) := [(.exit 0, ⟨[(2, .one (.adr 0 0)), (6, .one (.adr 1 0)), (7, .one (.ref 2)), (8, .one (.ref 3))], [.box [.ro I, .nilsl], .box [.ro I, .ro LQII], .sl 3 I .own, .sl 3 I .own]⟩)]
noncomputable def spec_DrawWindingOf_l0 {R : Type} (N : Nat) (k0 : Int → Int → (List (Int × Int)) → (List Int) → (List Int) → Option R) : Nat → Int → Int → Int → ((List Int) × (Int × Int)) → Int → (List (Int × Int)) → (List Int) → (List Int) → Option R
  | 0, _, _, _, _, _, _, _, _ => none
  | K + 1, x, x1, o, o1, o2, o3, o4, o5 =>
    (br (ilt 0 x1)
      ((chk (room o5 [x])
        ((spec_l2Neighbors N (o2, o3) x).bind fun r5 =>
        (br (ilt 0 (tLen r5.1.1))
          (((spec_l1Cur_pick N o1 (tLen r5.1.1)).bind fun r6 =>
            (chk (inb r5.1.1 r6.1.1)
              (br (ilt 1 (tLen (tApp o5 [x])))
              ((chk (inb (tApp o5 [x]) 0)
                (br (ieq (rdI r5.1.1 r6.1.1) (rdI (tApp o5 [x]) 0))
                (k0 o o2 o3 o4 (tApp o5 [x]))
                (spec_DrawWindingOf_l0 N k0 K (rdI r5.1.1 r6.1.1) (IntKind.i64.wrap (x1 - 1)) o r6.2.1 o2 o3 o4 (tApp o5 [x])))))
              (spec_DrawWindingOf_l0 N k0 K (rdI r5.1.1 r6.1.1) (IntKind.i64.wrap (x1 - 1)) o r6.2.1 o2 o3 o4 (tApp o5 [x]))))))
          ((br (ilt 1 (tLen (tApp o5 [x])))
            ((chk (inb (tApp o5 [x]) 0)
              (br (ieq x (rdI (tApp o5 [x]) 0))
              (k0 o o2 o3 o4 (tApp o5 [x]))
              (spec_DrawWindingOf_l0 N k0 K x (IntKind.i64.wrap (x1 - 1)) o o1 o2 o3 o4 (tApp o5 [x])))))
            (spec_DrawWindingOf_l0 N k0 K x (IntKind.i64.wrap (x1 - 1)) o o1 o2 o3 o4 (tApp o5 [x]))))))))
      (k0 o o2 o3 o4 o5))
noncomputable def spec_DrawWindingOf_l0_again {R : Type} (N : Nat) (ks : (j : Nat) → ((spec_DrawWindingOf_l0_ex.getD j (.ret, Sh.none)).2).T → Option R) (k : Nat) (x : spec_DrawWindingOf_l0_sh.T) : Option R :=
  spec_DrawWindingOf_l0 N (fun y0 y1 y2 y3 y4 => ks 0 (((), (), (), (), ()), ((y0, (), ()), (y1, y2, ()), y3, y4, ()))) k x.1.2.2.2.2.2.1 x.1.2.2.2.2.2.2.1 x.2.1.1 x.2.2.1 x.2.2.2.1.1 x.2.2.2.1.2.1 x.2.2.2.2.1 x.2.2.2.2.2.1
noncomputable def spec_DrawWindingOf_l0_s (N : Nat) : LSum := ⟨spec_DrawWindingOf_l0_sh, spec_DrawWindingOf_l0_ex, fun x ks => spec_DrawWindingOf_l0_again N ks N x⟩
theorem spec_DrawWindingOf_l0_step (N : Nat) (R : Type) (k : Nat) (x : spec_DrawWindingOf_l0_sh.T) (ks : (j : Nat) → ((spec_DrawWindingOf_l0_ex.getD j (.ret, Sh.none)).2).T → Option R) : spec_DrawWindingOf_l0_again N ks (k + 1) x = roundF (spec_DrawWindingOf_G N) tab [] (loopAt spec_DrawWindingOf_code 0) spec_DrawWindingOf_l0_sh spec_DrawWindingOf_l0_ex (fun y => spec_DrawWindingOf_l0_again N ks k y) ks x := by kernel_rfl
theorem spec_DrawWindingOf_l0_ok (N : Nat) : LoopOk Tryz.prog Tryz.f7.ntmps (spec_DrawWindingOf_l0_s N) (loopAt spec_DrawWindingOf_code 0) :=
  loop_ok (l := spec_DrawWindingOf_l0_s N) progOk (spec_DrawWindingOf_gok N) (draw_ok progOk (spec_DrawWindingOf_gok N)) (fun R k x ks => spec_DrawWindingOf_l0_again N ks k x) (fun _ _ _ => rfl) (fun R k x ks => spec_DrawWindingOf_l0_step N R k x ks) (fun R x ks r h => ⟨N, h⟩) (lsOk_at (L := []) trivial) (by kernel_rfl) (by kernel_rfl)
noncomputable def spec_DrawWindingOf (N : Nat) (c : (List Int)) : Option (((Int × (List (Int × Int))) × (List Int) × (List Int) × Unit) × (Unit)) :=
  ((spec_l1Cur_dense5 N (c, (0, 0))).bind fun r =>
    ((spec_l1Cur_colours5 N r.2.1 (r.1.1.1, r.1.1.2) 3).bind fun r1 =>
      (br (ilt r.1.1.1 1)
        (some (((r.1.1.1, r.1.1.2), r1.1.1, [0, 1], ()), ()))
        (((spec_l2Good N (r.1.1.1, r.1.1.2)).bind fun r2 =>
          (br (!r2.1.1)
            (some (((r.1.1.1, r.1.1.2), r1.1.1, [0, 1], ()), ()))
            (((spec_l1Cur_pick N r1.2.1 r.1.1.1).bind fun r3 =>
              ((spec_l1Cur_pick N r3.2.1 7).bind fun r4 =>
                spec_DrawWindingOf_l0 N (fun o o1 o2 o3 o4 => some (((o1, o2), o3, o4, ()), ())) N r3.1.1 (IntKind.i64.wrap (2 + r4.1.1)) 0 r4.2.1 r.1.1.1 r.1.1.2 r1.1.1 [])))))))))
noncomputable def spec_DrawWindingOf_S (N : Nat) : FSum := ⟨spec_DrawWindingOf_ps, spec_DrawWindingOf_rs, fun x => spec_DrawWindingOf N x.1⟩
theorem spec_DrawWindingOf_run (N : Nat) (x : argsT spec_DrawWindingOf_ps) : spec_DrawWindingOf N x.1 = funF (spec_DrawWindingOf_G N) tab [spec_DrawWindingOf_l0_s N] Tryz.f7 spec_DrawWindingOf_ps spec_DrawWindingOf_rs x := by kernel_rfl
theorem spec_DrawWindingOf_pc (N : Nat) : PC Tryz.prog 7 (spec_DrawWindingOf_S N) := by
  have e : spec_DrawWindingOf_S N = ⟨spec_DrawWindingOf_ps, spec_DrawWindingOf_rs, funF (spec_DrawWindingOf_G N) tab [spec_DrawWindingOf_l0_s N] Tryz.f7 spec_DrawWindingOf_ps spec_DrawWindingOf_rs⟩ := congrArg (FSum.mk spec_DrawWindingOf_ps spec_DrawWindingOf_rs) (funext (spec_DrawWindingOf_run N))
  rw [e]
  exact fun_ok (c := spec_DrawWindingOf_code) progOk (spec_DrawWindingOf_gok N) (draw_ok progOk (spec_DrawWindingOf_gok N)) Tryz.call7 Tryz.func7 (by kernel_rfl) (lsOk_at (L := [spec_DrawWindingOf_l0_s N]) ⟨spec_DrawWindingOf_l0_ok N, trivial⟩) (by kernel_rfl) (by kernel_rfl) (by kernel_rfl) (by kernel_rfl) (by kernel_rfl)

/-! ### impl_between -/
abbrev impl_between_ps : List (PV.Mode × Ty) := [(.ro, I), (.ro, I), (.ro, I)]
abbrev impl_between_rs : List (Bool × Ty) := [(true, .bool)]
noncomputable def impl_between_G (N : Nat) : GTab := gOf []
theorem impl_between_gok (N : Nat) : GOk Tryz.prog (impl_between_G N) := gOf_ok trivial
noncomputable def impl_between_code : Code := (Tryz.f97.body).getD .skip
noncomputable def impl_between (N : Nat) (n : Int) (low : Int) (high : Int) : Option ((Bool × Unit) × (Unit)) :=
  (br (ile low n)
    (some (((ile n high), ()), ()))
    (some ((false, ()), ())))
noncomputable def impl_between_S (N : Nat) : FSum := ⟨impl_between_ps, impl_between_rs, fun x => impl_between N x.1 x.2.1 x.2.2.1⟩
theorem impl_between_run (N : Nat) (x : argsT impl_between_ps) : impl_between N x.1 x.2.1 x.2.2.1 = funF (impl_between_G N) tab [] Tryz.f97 impl_between_ps impl_between_rs x := by kernel_rfl
theorem impl_between_pc (N : Nat) : PC Tryz.prog 97 (impl_between_S N) := by
  have e : impl_between_S N = ⟨impl_between_ps, impl_between_rs, funF (impl_between_G N) tab [] Tryz.f97 impl_between_ps impl_between_rs⟩ := congrArg (FSum.mk impl_between_ps impl_between_rs) (funext (impl_between_run N))
  rw [e]
  exact fun_ok (c := impl_between_code) progOk (impl_between_gok N) (draw_ok progOk (impl_between_gok N)) Tryz.call97 Tryz.func97 (by kernel_rfl) (lsOk_at (L := []) trivial) (by kernel_rfl) (by kernel_rfl) (by kernel_rfl) (by kernel_rfl) (by kernel_rfl)

/-! ### cmp_isNaN_int -/
abbrev cmp_isNaN_int_ps : List (PV.Mode × Ty) := [(.ro, I)]
abbrev cmp_isNaN_int_rs : List (Bool × Ty) := [(true, .bool)]
noncomputable def cmp_isNaN_int_G (N : Nat) : GTab := gOf []
theorem cmp_isNaN_int_gok (N : Nat) : GOk Tryz.prog (cmp_isNaN_int_G N) := gOf_ok trivial
noncomputable def cmp_isNaN_int_code : Code := (Tryz.f167.body).getD .skip
noncomputable def cmp_isNaN_int (N : Nat) (x : Int) : Option ((Bool × Unit) × (Unit)) :=
  some (((ine x x), ()), ())
noncomputable def cmp_isNaN_int_S (N : Nat) : FSum := ⟨cmp_isNaN_int_ps, cmp_isNaN_int_rs, fun x => cmp_isNaN_int N x.1⟩
theorem cmp_isNaN_int_run (N : Nat) (x : argsT cmp_isNaN_int_ps) : cmp_isNaN_int N x.1 = funF (cmp_isNaN_int_G N) tab [] Tryz.f167 cmp_isNaN_int_ps cmp_isNaN_int_rs x := by kernel_rfl
theorem cmp_isNaN_int_pc (N : Nat) : PC Tryz.prog 167 (cmp_isNaN_int_S N) := by
  have e : cmp_isNaN_int_S N = ⟨cmp_isNaN_int_ps, cmp_isNaN_int_rs, funF (cmp_isNaN_int_G N) tab [] Tryz.f167 cmp_isNaN_int_ps cmp_isNaN_int_rs⟩ := congrArg (FSum.mk cmp_isNaN_int_ps cmp_isNaN_int_rs) (funext (cmp_isNaN_int_run N))
  rw [e]
  exact fun_ok (c := cmp_isNaN_int_code) progOk (cmp_isNaN_int_gok N) (draw_ok progOk (cmp_isNaN_int_gok N)) Tryz.call167 Tryz.func167 (by kernel_rfl) (lsOk_at (L := []) trivial) (by kernel_rfl) (by kernel_rfl) (by kernel_rfl) (by kernel_rfl) (by kernel_rfl)

/-! ### cmp_Compare_int -/
abbrev cmp_Compare_int_ps : List (PV.Mode × Ty) := [(.ro, I), (.ro, I)]
abbrev cmp_Compare_int_rs : List (Bool × Ty) := [(true, I)]
noncomputable def cmp_Compare_int_G (N : Nat) : GTab := gOf [(167, cmp_isNaN_int_S N)]
theorem cmp_Compare_int_gok (N : Nat) : GOk Tryz.prog (cmp_Compare_int_G N) := gOf_ok ⟨cmp_isNaN_int_pc N, trivial⟩
noncomputable def cmp_Compare_int_code : Code := (Tryz.f140.body).getD .skip
noncomputable def cmp_Compare_int (N : Nat) (x : Int) (y : Int) : Option ((Int × Unit) × (Unit)) :=
  ((cmp_isNaN_int N x).bind fun r =>
    ((cmp_isNaN_int N y).bind fun r1 =>
      (br r.1.1
        ((br r1.1.1
          (some ((0, ()), ()))
          (some (((-1), ()), ()))))
        ((br r1.1.1
          (some ((1, ()), ()))
          ((br (ilt x y)
            (some (((-1), ()), ()))
            ((br (ilt y x)
              (some ((1, ()), ()))
              (some ((0, ()), ())))))))))))
noncomputable def cmp_Compare_int_S (N : Nat) : FSum := ⟨cmp_Compare_int_ps, cmp_Compare_int_rs, fun x => cmp_Compare_int N x.1 x.2.1⟩
theorem cmp_Compare_int_run (N : Nat) (x : argsT cmp_Compare_int_ps) : cmp_Compare_int N x.1 x.2.1 = funF (cmp_Compare_int_G N) tab [] Tryz.f140 cmp_Compare_int_ps cmp_Compare_int_rs x := by kernel_rfl
theorem cmp_Compare_int_pc (N : Nat) : PC Tryz.prog 140 (cmp_Compare_int_S N) := by
  have e : cmp_Compare_int_S N = ⟨cmp_Compare_int_ps, cmp_Compare_int_rs, funF (cmp_Compare_int_G N) tab [] Tryz.f140 cmp_Compare_int_ps cmp_Compare_int_rs⟩ := congrArg (FSum.mk cmp_Compare_int_ps cmp_Compare_int_rs) (funext (cmp_Compare_int_run N))
  rw [e]
  exact fun_ok (c := cmp_Compare_int_code) progOk (cmp_Compare_int_gok N) (draw_ok progOk (cmp_Compare_int_gok N)) Tryz.call140 Tryz.func140 (by kernel_rfl) (lsOk_at (L := []) trivial) (by kernel_rfl) (by kernel_rfl) (by kernel_rfl) (by kernel_rfl) (by kernel_rfl)
end Go.Proofs.YtkffaahlpdlkoaaGreat
