/- Functions of the program as functions on data. -/
import Derived.Test.YtbnjcjpnpidhmaaGreatColouringsLawFb
set_option linter.all false
namespace Go.Proofs.YtbnjcjpnpidhmaaGreat
open Go Go.PV
/-! ### spec_l5Changed -/
abbrev spec_l5Changed_ps : List (PV.Mode × Ty) := [(.ro, LI), (.ro, LI)]
abbrev spec_l5Changed_rs : List (Bool × Ty) := [(true, LI)]
noncomputable def spec_l5Changed_G (N : Nat) : GTab := gOf []
theorem spec_l5Changed_gok (N : Nat) : GOk Tryz.prog (spec_l5Changed_G N) := gOf_ok trivial
noncomputable def spec_l5Changed_code : Code := (Tryz.f321.body).getD .skip
noncomputable def spec_l5Changed_l0_sh : Sh := ⟨[(0, .one (.ro LI)), (1, .one (.ro LI)), (5, .one (.ref 0)), (6, .one (.ro I))], [.sl 3 I .own]⟩
noncomputable def spec_l5Changed_l0_ex : List (Ex × Sh) := [(.exit 0, ⟨[(5, .one (.ref 0))], [.sl 3 I .own]⟩)]
noncomputable def spec_l5Changed_l0 {R : Type} (N : Nat) (k0 : (List Int) → Option R) : Nat → (List Int) → (List Int) → Int → (List Int) → Option R
  | 0, _, _, _, _ => none
  | K + 1, a1, b1, x, o =>
    (br (ilt x (tLen a1))
      ((chk (inb a1 x)
        (chk (inb b1 x)
        (br (ine (rdI a1 x) (rdI b1 x))
        ((chk (room o [x])
          (spec_l5Changed_l0 N k0 K a1 b1 (IntKind.i64.wrap (x + 1)) (tApp o [x]))))
        (spec_l5Changed_l0 N k0 K a1 b1 (IntKind.i64.wrap (x + 1)) o)))))
      (k0 o))
noncomputable def spec_l5Changed_l0_again {R : Type} (N : Nat) (ks : (j : Nat) → ((spec_l5Changed_l0_ex.getD j (.ret, Sh.none)).2).T → Option R) (k : Nat) (x : spec_l5Changed_l0_sh.T) : Option R :=
  spec_l5Changed_l0 N (fun y0 => ks 0 (((), ()), (y0, ()))) k x.1.1 x.1.2.1 x.1.2.2.2.1 x.2.1
noncomputable def spec_l5Changed_l0_s (N : Nat) : LSum := ⟨spec_l5Changed_l0_sh, spec_l5Changed_l0_ex, fun x ks => spec_l5Changed_l0_again N ks N x⟩
theorem spec_l5Changed_l0_step (N : Nat) (R : Type) (k : Nat) (x : spec_l5Changed_l0_sh.T) (ks : (j : Nat) → ((spec_l5Changed_l0_ex.getD j (.ret, Sh.none)).2).T → Option R) : spec_l5Changed_l0_again N ks (k + 1) x = roundF (spec_l5Changed_G N) tab [] (loopAt spec_l5Changed_code 0) spec_l5Changed_l0_sh spec_l5Changed_l0_ex (fun y => spec_l5Changed_l0_again N ks k y) ks x := by kernel_rfl
theorem spec_l5Changed_l0_ok (N : Nat) : LoopOk Tryz.prog Tryz.f321.ntmps (spec_l5Changed_l0_s N) (loopAt spec_l5Changed_code 0) :=
  loop_ok (l := spec_l5Changed_l0_s N) progOk (spec_l5Changed_gok N) (draw_ok progOk (spec_l5Changed_gok N)) (fun R k x ks => spec_l5Changed_l0_again N ks k x) (fun _ _ _ => rfl) (fun R k x ks => spec_l5Changed_l0_step N R k x ks) (fun R x ks r h => ⟨N, h⟩) (lsOk_at (L := []) trivial) (by kernel_rfl) (by kernel_rfl)
noncomputable def spec_l5Changed (N : Nat) (a : (List Int)) (b : (List Int)) : Option (((List Int) × Unit) × (Unit)) :=
  spec_l5Changed_l0 N (fun o => some ((o, ()), ())) N a b 0 []
noncomputable def spec_l5Changed_S (N : Nat) : FSum := ⟨spec_l5Changed_ps, spec_l5Changed_rs, fun x => spec_l5Changed N x.1 x.2.1⟩
theorem spec_l5Changed_run (N : Nat) (x : argsT spec_l5Changed_ps) : spec_l5Changed N x.1 x.2.1 = funF (spec_l5Changed_G N) tab [spec_l5Changed_l0_s N] Tryz.f321 spec_l5Changed_ps spec_l5Changed_rs x := by kernel_rfl
theorem spec_l5Changed_pc (N : Nat) : PC Tryz.prog 321 (spec_l5Changed_S N) := by
  have e : spec_l5Changed_S N = ⟨spec_l5Changed_ps, spec_l5Changed_rs, funF (spec_l5Changed_G N) tab [spec_l5Changed_l0_s N] Tryz.f321 spec_l5Changed_ps spec_l5Changed_rs⟩ := congrArg (FSum.mk spec_l5Changed_ps spec_l5Changed_rs) (funext (spec_l5Changed_run N))
  rw [e]
  exact fun_ok (c := spec_l5Changed_code) progOk (spec_l5Changed_gok N) (draw_ok progOk (spec_l5Changed_gok N)) Tryz.call321 Tryz.func321 (by kernel_rfl) (lsOk_at (L := [spec_l5Changed_l0_s N]) ⟨spec_l5Changed_l0_ok N, trivial⟩) (by kernel_rfl) (by kernel_rfl) (by kernel_rfl) (by kernel_rfl) (by kernel_rfl)

/-! ### spec_l1Has -/
abbrev spec_l1Has_ps : List (PV.Mode × Ty) := [(.ro, LI), (.ro, I)]
abbrev spec_l1Has_rs : List (Bool × Ty) := [(true, .bool)]
noncomputable def spec_l1Has_G (N : Nat) : GTab := gOf []
theorem spec_l1Has_gok (N : Nat) : GOk Tryz.prog (spec_l1Has_G N) := gOf_ok trivial
noncomputable def spec_l1Has_code : Code := (Tryz.f136.body).getD .skip
noncomputable def spec_l1Has_l0_sh : Sh := ⟨[(0, .one (.ro LI)), (1, .one (.ro I)), (5, .one (.ro I))], []⟩
noncomputable def spec_l1Has_l0_ex : List (Ex × Sh) := [(.ret, ⟨[(4, .one (.ro .bool))], []⟩), (.exit 0, ⟨[], []⟩)]
noncomputable def spec_l1Has_l0 {R : Type} (N : Nat) (k0 : Bool → Option R) (k1 : Unit → Option R) : Nat → (List Int) → Int → Int → Option R
  | 0, _, _, _ => none
  | K + 1, l1, n1, i =>
    (br (ilt i (tLen l1))
      ((chk (inb l1 i)
        (br (ieq (rdI l1 i) n1)
        (k0 true)
        (spec_l1Has_l0 N k0 k1 K l1 n1 (IntKind.i64.wrap (i + 1))))))
      (k1 ()))
noncomputable def spec_l1Has_l0_again {R : Type} (N : Nat) (ks : (j : Nat) → ((spec_l1Has_l0_ex.getD j (.ret, Sh.none)).2).T → Option R) (k : Nat) (x : spec_l1Has_l0_sh.T) : Option R :=
  spec_l1Has_l0 N (fun y0 => ks 0 ((y0, ()), ())) (fun (_ : Unit) => ks 1 ((), ())) k x.1.1 x.1.2.1 x.1.2.2.1
noncomputable def spec_l1Has_l0_s (N : Nat) : LSum := ⟨spec_l1Has_l0_sh, spec_l1Has_l0_ex, fun x ks => spec_l1Has_l0_again N ks N x⟩
theorem spec_l1Has_l0_step (N : Nat) (R : Type) (k : Nat) (x : spec_l1Has_l0_sh.T) (ks : (j : Nat) → ((spec_l1Has_l0_ex.getD j (.ret, Sh.none)).2).T → Option R) : spec_l1Has_l0_again N ks (k + 1) x = roundF (spec_l1Has_G N) tab [] (loopAt spec_l1Has_code 0) spec_l1Has_l0_sh spec_l1Has_l0_ex (fun y => spec_l1Has_l0_again N ks k y) ks x := by kernel_rfl
theorem spec_l1Has_l0_ok (N : Nat) : LoopOk Tryz.prog Tryz.f136.ntmps (spec_l1Has_l0_s N) (loopAt spec_l1Has_code 0) :=
  loop_ok (l := spec_l1Has_l0_s N) progOk (spec_l1Has_gok N) (draw_ok progOk (spec_l1Has_gok N)) (fun R k x ks => spec_l1Has_l0_again N ks k x) (fun _ _ _ => rfl) (fun R k x ks => spec_l1Has_l0_step N R k x ks) (fun R x ks r h => ⟨N, h⟩) (lsOk_at (L := []) trivial) (by kernel_rfl) (by kernel_rfl)
noncomputable def spec_l1Has (N : Nat) (l : (List Int)) (n : Int) : Option ((Bool × Unit) × (Unit)) :=
  spec_l1Has_l0 N (fun x => some ((x, ()), ())) (fun (_ : Unit) => some ((false, ()), ())) N l n 0
noncomputable def spec_l1Has_S (N : Nat) : FSum := ⟨spec_l1Has_ps, spec_l1Has_rs, fun x => spec_l1Has N x.1 x.2.1⟩
theorem spec_l1Has_run (N : Nat) (x : argsT spec_l1Has_ps) : spec_l1Has N x.1 x.2.1 = funF (spec_l1Has_G N) tab [spec_l1Has_l0_s N] Tryz.f136 spec_l1Has_ps spec_l1Has_rs x := by kernel_rfl
theorem spec_l1Has_pc (N : Nat) : PC Tryz.prog 136 (spec_l1Has_S N) := by
  have e : spec_l1Has_S N = ⟨spec_l1Has_ps, spec_l1Has_rs, funF (spec_l1Has_G N) tab [spec_l1Has_l0_s N] Tryz.f136 spec_l1Has_ps spec_l1Has_rs⟩ := congrArg (FSum.mk spec_l1Has_ps spec_l1Has_rs) (funext (spec_l1Has_run N))
  rw [e]
  exact fun_ok (c := spec_l1Has_code) progOk (spec_l1Has_gok N) (draw_ok progOk (spec_l1Has_gok N)) Tryz.call136 Tryz.func136 (by kernel_rfl) (lsOk_at (L := [spec_l1Has_l0_s N]) ⟨spec_l1Has_l0_ok N, trivial⟩) (by kernel_rfl) (by kernel_rfl) (by kernel_rfl) (by kernel_rfl) (by kernel_rfl)

/-! ### spec_l1Put -/
abbrev spec_l1Put_ps : List (PV.Mode × Ty) := [(.own, LI), (.ro, I)]
abbrev spec_l1Put_rs : List (Bool × Ty) := [(true, LI)]
noncomputable def spec_l1Put_G (N : Nat) : GTab := gOf []
theorem spec_l1Put_gok (N : Nat) : GOk Tryz.prog (spec_l1Put_G N) := gOf_ok trivial
noncomputable def spec_l1Put_code : Code := (Tryz.f231.body).getD .skip
noncomputable def spec_l1Put_l0_sh : Sh := ⟨[(0, .one (.ref 0)), (1, .one (.ro I)), (5, .one (.ro I))], [.sl 3 I .own]⟩
noncomputable def spec_l1Put_l0_ex : List (Ex × Sh) := [(.exit 0, ⟨[(0, .one (.ref 0)), (1, .one (.ro I)), (5, .one (.ro I))], [.sl 3 I .own]⟩)]
noncomputable def spec_l1Put_l0 {R : Type} (N : Nat) (k0 : Int → Int → (List Int) → Option R) : Nat → Int → Int → (List Int) → Option R
  | 0, _, _, _ => none
  | K + 1, n1, kv, o =>
    (br (ilt kv (tLen o))
      ((chk (inb o kv)
        (br (ilt (rdI o kv) n1)
        (spec_l1Put_l0 N k0 K n1 (IntKind.i64.wrap (kv + 1)) o)
        (k0 n1 kv o))))
      (k0 n1 kv o))
noncomputable def spec_l1Put_l0_again {R : Type} (N : Nat) (ks : (j : Nat) → ((spec_l1Put_l0_ex.getD j (.ret, Sh.none)).2).T → Option R) (k : Nat) (x : spec_l1Put_l0_sh.T) : Option R :=
  spec_l1Put_l0 N (fun y0 y1 y2 => ks 0 (((), y0, y1, ()), (y2, ()))) k x.1.2.1 x.1.2.2.1 x.2.1
noncomputable def spec_l1Put_l0_s (N : Nat) : LSum := ⟨spec_l1Put_l0_sh, spec_l1Put_l0_ex, fun x ks => spec_l1Put_l0_again N ks N x⟩
theorem spec_l1Put_l0_step (N : Nat) (R : Type) (k : Nat) (x : spec_l1Put_l0_sh.T) (ks : (j : Nat) → ((spec_l1Put_l0_ex.getD j (.ret, Sh.none)).2).T → Option R) : spec_l1Put_l0_again N ks (k + 1) x = roundF (spec_l1Put_G N) tab [] (loopAt spec_l1Put_code 0) spec_l1Put_l0_sh spec_l1Put_l0_ex (fun y => spec_l1Put_l0_again N ks k y) ks x := by kernel_rfl
theorem spec_l1Put_l0_ok (N : Nat) : LoopOk Tryz.prog Tryz.f231.ntmps (spec_l1Put_l0_s N) (loopAt spec_l1Put_code 0) :=
  loop_ok (l := spec_l1Put_l0_s N) progOk (spec_l1Put_gok N) (draw_ok progOk (spec_l1Put_gok N)) (fun R k x ks => spec_l1Put_l0_again N ks k x) (fun _ _ _ => rfl) (fun R k x ks => spec_l1Put_l0_step N R k x ks) (fun R x ks r h => ⟨N, h⟩) (lsOk_at (L := []) trivial) (by kernel_rfl) (by kernel_rfl)
noncomputable def spec_l1Put (N : Nat) (l : (List Int)) (n : Int) : Option (((List Int) × Unit) × (Unit)) :=
  spec_l1Put_l0 N (fun n1 kv o => (br (ilt kv (tLen o))
    ((chk (inb o kv)
      (br (ieq (rdI o kv) n1)
      (some ((o, ()), ()))
      ((chk (ile 0 0 && ile 0 kv && ile kv (tLen o))
        (chk (room (α := Int) (β := Int) [] (tCut o 0 kv))
        (chk (room (tApp [] (tCut o 0 kv)) [n1])
        (chk (ile 0 kv && ile kv (tLen o) && ile (tLen o) (tLen o))
        (chk (room (tApp (tApp [] (tCut o 0 kv)) [n1]) (tCut o kv (tLen o)))
        (some (((tApp (tApp (tApp [] (tCut o 0 kv)) [n1]) (tCut o kv (tLen o))), ()), ())))))))))))
    ((chk (ile 0 0 && ile 0 kv && ile kv (tLen o))
      (chk (room (α := Int) (β := Int) [] (tCut o 0 kv))
      (chk (room (tApp [] (tCut o 0 kv)) [n1])
      (chk (ile 0 kv && ile kv (tLen o) && ile (tLen o) (tLen o))
      (chk (room (tApp (tApp [] (tCut o 0 kv)) [n1]) (tCut o kv (tLen o)))
      (some (((tApp (tApp (tApp [] (tCut o 0 kv)) [n1]) (tCut o kv (tLen o))), ()), ())))))))))) N n 0 l
noncomputable def spec_l1Put_S (N : Nat) : FSum := ⟨spec_l1Put_ps, spec_l1Put_rs, fun x => spec_l1Put N x.1 x.2.1⟩
theorem spec_l1Put_run (N : Nat) (x : argsT spec_l1Put_ps) : spec_l1Put N x.1 x.2.1 = funF (spec_l1Put_G N) tab [spec_l1Put_l0_s N] Tryz.f231 spec_l1Put_ps spec_l1Put_rs x := by kernel_rfl
theorem spec_l1Put_pc (N : Nat) : PC Tryz.prog 231 (spec_l1Put_S N) := by
  have e : spec_l1Put_S N = ⟨spec_l1Put_ps, spec_l1Put_rs, funF (spec_l1Put_G N) tab [spec_l1Put_l0_s N] Tryz.f231 spec_l1Put_ps spec_l1Put_rs⟩ := congrArg (FSum.mk spec_l1Put_ps spec_l1Put_rs) (funext (spec_l1Put_run N))
  rw [e]
  exact fun_ok (c := spec_l1Put_code) progOk (spec_l1Put_gok N) (draw_ok progOk (spec_l1Put_gok N)) Tryz.call231 Tryz.func231 (by kernel_rfl) (lsOk_at (L := [spec_l1Put_l0_s N]) ⟨spec_l1Put_l0_ok N, trivial⟩) (by kernel_rfl) (by kernel_rfl) (by kernel_rfl) (by kernel_rfl) (by kernel_rfl)

/-! ### spec_l2Reach -/
abbrev spec_l2Reach_ps : List (PV.Mode × Ty) := [(.ro, QILQII), (.ro, LI), (.ro, I)]
abbrev spec_l2Reach_rs : List (Bool × Ty) := [(true, LI)]
noncomputable def spec_l2Reach_G (N : Nat) : GTab := gOf [(136, spec_l1Has_S N), (149, spec_l2Near_S N), (231, spec_l1Put_S N)]
theorem spec_l2Reach_gok (N : Nat) : GOk Tryz.prog (spec_l2Reach_G N) := gOf_ok ⟨spec_l1Has_pc N, spec_l2Near_pc N, spec_l1Put_pc N, trivial⟩
noncomputable def spec_l2Reach_code : Code := (Tryz.f360.body).getD .skip
noncomputable def spec_l2Reach_l0_0_0_sh : Sh := ⟨[(1, .one (.ro LI)), (3, .one (.adr 0 0)), (7, .one (.ref 1)), (8, .one (.ro I)), (9, .one (.ro I)), (10, .one (.ro I))], [.box [.ro I, .ro LQII], .sl 3 I .own]⟩
noncomputable def spec_l2Reach_l0_0_0_ex : List (Ex × Sh) := [(.exit 4, ⟨[(1, .one (.ro LI)), (3, .one (.adr 0 0)), (7, .one (.ref 1)), (8, .one (.ro I)), (9, .one (.ro I))], [.box [.ro I, .ro LQII], .sl 3 I .own]⟩)]
noncomputable def spec_l2Reach_l0_0_0 {R : Type} (N : Nat) (k0 : (List Int) → Int → Int → Int → (List (Int × Int)) → (List Int) → Option R) : Nat → (List Int) → Int → Int → Int → Int → (List (Int × Int)) → (List Int) → Option R
  | 0, _, _, _, _, _, _, _ => none
  | K + 1, setv3, round2, i1, kv, o6, o7, o8 =>
    (br (ilt kv (tLen o8))
      ((chk (inb setv3 i1)
        ((spec_l1Has N o8 (rdI setv3 i1)).bind fun r =>
        (br (!r.1.1)
          ((chk (inb o8 kv)
            (chk (inb setv3 i1)
            ((spec_l2Near N (o6, o7) (rdI o8 kv) (rdI setv3 i1)).bind fun r1 =>
            (br r1.1.1
              ((chk (inb setv3 i1)
                ((spec_l1Put N o8 (rdI setv3 i1)).bind fun r2 =>
                spec_l2Reach_l0_0_0 N k0 K setv3 round2 i1 (IntKind.i64.wrap (kv + 1)) o6 o7 r2.1.1)))
              (spec_l2Reach_l0_0_0 N k0 K setv3 round2 i1 (IntKind.i64.wrap (kv + 1)) o6 o7 o8))))))
          (k0 setv3 round2 i1 o6 o7 o8)))))
      (k0 setv3 round2 i1 o6 o7 o8))
noncomputable def spec_l2Reach_l0_0_0_again {R : Type} (N : Nat) (ks : (j : Nat) → ((spec_l2Reach_l0_0_0_ex.getD j (.ret, Sh.none)).2).T → Option R) (k : Nat) (x : spec_l2Reach_l0_0_0_sh.T) : Option R :=
  spec_l2Reach_l0_0_0 N (fun y0 y1 y2 y3 y4 y5 => ks 0 ((y0, (), (), y1, y2, ()), ((y3, y4, ()), y5, ()))) k x.1.1 x.1.2.2.2.1 x.1.2.2.2.2.1 x.1.2.2.2.2.2.1 x.2.1.1 x.2.1.2.1 x.2.2.1
noncomputable def spec_l2Reach_l0_0_0_s (N : Nat) : LSum := ⟨spec_l2Reach_l0_0_0_sh, spec_l2Reach_l0_0_0_ex, fun x ks => spec_l2Reach_l0_0_0_again N ks N x⟩
theorem spec_l2Reach_l0_0_0_step (N : Nat) (R : Type) (k : Nat) (x : spec_l2Reach_l0_0_0_sh.T) (ks : (j : Nat) → ((spec_l2Reach_l0_0_0_ex.getD j (.ret, Sh.none)).2).T → Option R) : spec_l2Reach_l0_0_0_again N ks (k + 1) x = roundF (spec_l2Reach_G N) tab [] (loopAt (loopAt (loopAt spec_l2Reach_code 0) 0) 0) spec_l2Reach_l0_0_0_sh spec_l2Reach_l0_0_0_ex (fun y => spec_l2Reach_l0_0_0_again N ks k y) ks x := by kernel_rfl
theorem spec_l2Reach_l0_0_0_ok (N : Nat) : LoopOk Tryz.prog Tryz.f360.ntmps (spec_l2Reach_l0_0_0_s N) (loopAt (loopAt (loopAt spec_l2Reach_code 0) 0) 0) :=
  loop_ok (l := spec_l2Reach_l0_0_0_s N) progOk (spec_l2Reach_gok N) (draw_ok progOk (spec_l2Reach_gok N)) (fun R k x ks => spec_l2Reach_l0_0_0_again N ks k x) (fun _ _ _ => rfl) (fun R k x ks => spec_l2Reach_l0_0_0_step N R k x ks) (fun R x ks r h => ⟨N, h⟩) (lsOk_at (L := []) trivial) (by kernel_rfl) (by kernel_rfl)
noncomputable def spec_l2Reach_l0_0_sh : Sh := ⟨[(1, .one (.ro LI)), (3, .one (.adr 0 0)), (7, .one (.ref 1)), (8, .one (.ro I)), (9, .one (.ro I))], [.box [.ro I, .ro LQII], .sl 3 I .own]⟩
noncomputable def spec_l2Reach_l0_0_ex : List (Ex × Sh) := [(.exit 2, ⟨[(1, .one (.ro LI)), (3, .one (.adr 0 0)), (7, .one (.ref 1)), (8, .one (.ro I))], [.box [.ro I, .ro LQII], .sl 3 I .own]⟩)]
noncomputable def spec_l2Reach_l0_0 {R : Type} (N : Nat) (k0 : (List Int) → Int → Int → (List (Int × Int)) → (List Int) → Option R) : Nat → (List Int) → Int → Int → Int → (List (Int × Int)) → (List Int) → Option R
  | 0, _, _, _, _, _, _ => none
  | K + 1, setv2, round1, i, o3, o4, o5 =>
    (br (ilt i (tLen setv2))
      (spec_l2Reach_l0_0_0 N (fun setv3 round2 i1 o6 o7 o8 => spec_l2Reach_l0_0 N k0 K setv3 round2 (IntKind.i64.wrap (i1 + 1)) o6 o7 o8) N setv2 round1 i 0 o3 o4 o5)
      (k0 setv2 round1 o3 o4 o5))
noncomputable def spec_l2Reach_l0_0_again {R : Type} (N : Nat) (ks : (j : Nat) → ((spec_l2Reach_l0_0_ex.getD j (.ret, Sh.none)).2).T → Option R) (k : Nat) (x : spec_l2Reach_l0_0_sh.T) : Option R :=
  spec_l2Reach_l0_0 N (fun y0 y1 y2 y3 y4 => ks 0 ((y0, (), (), y1, ()), ((y2, y3, ()), y4, ()))) k x.1.1 x.1.2.2.2.1 x.1.2.2.2.2.1 x.2.1.1 x.2.1.2.1 x.2.2.1
noncomputable def spec_l2Reach_l0_0_s (N : Nat) : LSum := ⟨spec_l2Reach_l0_0_sh, spec_l2Reach_l0_0_ex, fun x ks => spec_l2Reach_l0_0_again N ks N x⟩
theorem spec_l2Reach_l0_0_step (N : Nat) (R : Type) (k : Nat) (x : spec_l2Reach_l0_0_sh.T) (ks : (j : Nat) → ((spec_l2Reach_l0_0_ex.getD j (.ret, Sh.none)).2).T → Option R) : spec_l2Reach_l0_0_again N ks (k + 1) x = roundF (spec_l2Reach_G N) tab [spec_l2Reach_l0_0_0_s N] (loopAt (loopAt spec_l2Reach_code 0) 0) spec_l2Reach_l0_0_sh spec_l2Reach_l0_0_ex (fun y => spec_l2Reach_l0_0_again N ks k y) ks x := by kernel_rfl
theorem spec_l2Reach_l0_0_ok (N : Nat) : LoopOk Tryz.prog Tryz.f360.ntmps (spec_l2Reach_l0_0_s N) (loopAt (loopAt spec_l2Reach_code 0) 0) :=
  loop_ok (l := spec_l2Reach_l0_0_s N) progOk (spec_l2Reach_gok N) (draw_ok progOk (spec_l2Reach_gok N)) (fun R k x ks => spec_l2Reach_l0_0_again N ks k x) (fun _ _ _ => rfl) (fun R k x ks => spec_l2Reach_l0_0_step N R k x ks) (fun R x ks r h => ⟨N, h⟩) (lsOk_at (L := [spec_l2Reach_l0_0_0_s N]) ⟨spec_l2Reach_l0_0_0_ok N, trivial⟩) (by kernel_rfl) (by kernel_rfl)
noncomputable def spec_l2Reach_l0_sh : Sh := ⟨[(1, .one (.ro LI)), (3, .one (.adr 0 0)), (7, .one (.ref 1)), (8, .one (.ro I))], [.box [.ro I, .ro LQII], .sl 3 I .own]⟩
noncomputable def spec_l2Reach_l0_ex : List (Ex × Sh) := [(.exit 0, ⟨[(7, .one (.ref 0))], [.sl 3 I .own]⟩)]
noncomputable def spec_l2Reach_l0 {R : Type} (N : Nat) (k0 : (List Int) → Option R) : Nat → (List Int) → Int → Int → (List (Int × Int)) → (List Int) → Option R
  | 0, _, _, _, _, _ => none
  | K + 1, setv1, round, o, o1, o2 =>
    (br (ilt round (tLen setv1))
      (spec_l2Reach_l0_0 N (fun setv2 round1 o3 o4 o5 => spec_l2Reach_l0 N k0 K setv2 (IntKind.i64.wrap (round1 + 1)) o3 o4 o5) N setv1 round 0 o o1 o2)
      (k0 o2))
noncomputable def spec_l2Reach_l0_again {R : Type} (N : Nat) (ks : (j : Nat) → ((spec_l2Reach_l0_ex.getD j (.ret, Sh.none)).2).T → Option R) (k : Nat) (x : spec_l2Reach_l0_sh.T) : Option R :=
  spec_l2Reach_l0 N (fun y0 => ks 0 (((), ()), (y0, ()))) k x.1.1 x.1.2.2.2.1 x.2.1.1 x.2.1.2.1 x.2.2.1
noncomputable def spec_l2Reach_l0_s (N : Nat) : LSum := ⟨spec_l2Reach_l0_sh, spec_l2Reach_l0_ex, fun x ks => spec_l2Reach_l0_again N ks N x⟩
theorem spec_l2Reach_l0_step (N : Nat) (R : Type) (k : Nat) (x : spec_l2Reach_l0_sh.T) (ks : (j : Nat) → ((spec_l2Reach_l0_ex.getD j (.ret, Sh.none)).2).T → Option R) : spec_l2Reach_l0_again N ks (k + 1) x = roundF (spec_l2Reach_G N) tab [spec_l2Reach_l0_0_s N] (loopAt spec_l2Reach_code 0) spec_l2Reach_l0_sh spec_l2Reach_l0_ex (fun y => spec_l2Reach_l0_again N ks k y) ks x := by kernel_rfl
theorem spec_l2Reach_l0_ok (N : Nat) : LoopOk Tryz.prog Tryz.f360.ntmps (spec_l2Reach_l0_s N) (loopAt spec_l2Reach_code 0) :=
  loop_ok (l := spec_l2Reach_l0_s N) progOk (spec_l2Reach_gok N) (draw_ok progOk (spec_l2Reach_gok N)) (fun R k x ks => spec_l2Reach_l0_again N ks k x) (fun _ _ _ => rfl) (fun R k x ks => spec_l2Reach_l0_step N R k x ks) (fun R x ks r h => ⟨N, h⟩) (lsOk_at (L := [spec_l2Reach_l0_0_s N]) ⟨spec_l2Reach_l0_0_ok N, trivial⟩) (by kernel_rfl) (by kernel_rfl)
noncomputable def spec_l2Reach (N : Nat) (g : (Int × (List (Int × Int)))) (setv : (List Int)) (x : Int) : Option (((List Int) × Unit) × (Unit)) :=
  spec_l2Reach_l0 N (fun o => some ((o, ()), ())) N setv 0 g.1 g.2 [x]
noncomputable def spec_l2Reach_S (N : Nat) : FSum := ⟨spec_l2Reach_ps, spec_l2Reach_rs, fun x => spec_l2Reach N x.1 x.2.1 x.2.2.1⟩
theorem spec_l2Reach_run (N : Nat) (x : argsT spec_l2Reach_ps) : spec_l2Reach N x.1 x.2.1 x.2.2.1 = funF (spec_l2Reach_G N) tab [spec_l2Reach_l0_s N] Tryz.f360 spec_l2Reach_ps spec_l2Reach_rs x := by kernel_rfl
theorem spec_l2Reach_pc (N : Nat) : PC Tryz.prog 360 (spec_l2Reach_S N) := by
  have e : spec_l2Reach_S N = ⟨spec_l2Reach_ps, spec_l2Reach_rs, funF (spec_l2Reach_G N) tab [spec_l2Reach_l0_s N] Tryz.f360 spec_l2Reach_ps spec_l2Reach_rs⟩ := congrArg (FSum.mk spec_l2Reach_ps spec_l2Reach_rs) (funext (spec_l2Reach_run N))
  rw [e]
  exact fun_ok (c := spec_l2Reach_code) progOk (spec_l2Reach_gok N) (draw_ok progOk (spec_l2Reach_gok N)) Tryz.call360 Tryz.func360 (by kernel_rfl) (lsOk_at (L := [spec_l2Reach_l0_s N]) ⟨spec_l2Reach_l0_ok N, trivial⟩) (by kernel_rfl) (by kernel_rfl) (by kernel_rfl) (by kernel_rfl) (by kernel_rfl)

/-! ### spec_l5Chain -/
abbrev spec_l5Chain_ps : List (PV.Mode × Ty) := [(.ro, QILQII), (.ro, LI), (.ro, I), (.ro, I)]
abbrev spec_l5Chain_rs : List (Bool × Ty) := [(true, LI)]
noncomputable def spec_l5Chain_G (N : Nat) : GTab := gOf [(360, spec_l2Reach_S N)]
theorem spec_l5Chain_gok (N : Nat) : GOk Tryz.prog (spec_l5Chain_G N) := gOf_ok ⟨spec_l2Reach_pc N, trivial⟩
noncomputable def spec_l5Chain_code : Code := (Tryz.f350.body).getD .skip
noncomputable def spec_l5Chain_l0_sh : Sh := ⟨[(1, .one (.ro LI)), (2, .one (.ro I)), (3, .one (.ro I)), (4, .one (.adr 0 0)), (9, .one (.ref 1)), (10, .one (.ro I))], [.box [.ro I, .ro LQII], .sl 3 I .own]⟩
noncomputable def spec_l5Chain_l0_ex : List (Ex × Sh) := [(.exit 0, ⟨[(2, .one (.ro I)), (4, .one (.adr 0 0)), (9, .one (.ref 1))], [.box [.ro I, .ro LQII], .sl 3 I .own]⟩)]
noncomputable def spec_l5Chain_l0 {R : Type} (N : Nat) (k0 : Int → Int → (List (Int × Int)) → (List Int) → Option R) : Nat → (List Int) → Int → Int → Int → Int → (List (Int × Int)) → (List Int) → Option R
  | 0, _, _, _, _, _, _, _ => none
  | K + 1, colours1, x1, c1, y, o, o1, o2 =>
    (br (ilt y o)
      ((chk (inb colours1 y)
        (br (ieq (rdI colours1 y) c1)
        ((chk (room o2 [y])
          (spec_l5Chain_l0 N k0 K colours1 x1 c1 (IntKind.i64.wrap (y + 1)) o o1 (tApp o2 [y]))))
        ((chk (inb colours1 y)
          (chk (inb colours1 x1)
          (br (ieq (rdI colours1 y) (rdI colours1 x1))
          ((chk (room o2 [y])
            (spec_l5Chain_l0 N k0 K colours1 x1 c1 (IntKind.i64.wrap (y + 1)) o o1 (tApp o2 [y]))))
          (spec_l5Chain_l0 N k0 K colours1 x1 c1 (IntKind.i64.wrap (y + 1)) o o1 o2))))))))
      (k0 x1 o o1 o2))
noncomputable def spec_l5Chain_l0_again {R : Type} (N : Nat) (ks : (j : Nat) → ((spec_l5Chain_l0_ex.getD j (.ret, Sh.none)).2).T → Option R) (k : Nat) (x : spec_l5Chain_l0_sh.T) : Option R :=
  spec_l5Chain_l0 N (fun y0 y1 y2 y3 => ks 0 ((y0, (), (), ()), ((y1, y2, ()), y3, ()))) k x.1.1 x.1.2.1 x.1.2.2.1 x.1.2.2.2.2.2.1 x.2.1.1 x.2.1.2.1 x.2.2.1
noncomputable def spec_l5Chain_l0_s (N : Nat) : LSum := ⟨spec_l5Chain_l0_sh, spec_l5Chain_l0_ex, fun x ks => spec_l5Chain_l0_again N ks N x⟩
theorem spec_l5Chain_l0_step (N : Nat) (R : Type) (k : Nat) (x : spec_l5Chain_l0_sh.T) (ks : (j : Nat) → ((spec_l5Chain_l0_ex.getD j (.ret, Sh.none)).2).T → Option R) : spec_l5Chain_l0_again N ks (k + 1) x = roundF (spec_l5Chain_G N) tab [] (loopAt spec_l5Chain_code 0) spec_l5Chain_l0_sh spec_l5Chain_l0_ex (fun y => spec_l5Chain_l0_again N ks k y) ks x := by kernel_rfl
theorem spec_l5Chain_l0_ok (N : Nat) : LoopOk Tryz.prog Tryz.f350.ntmps (spec_l5Chain_l0_s N) (loopAt spec_l5Chain_code 0) :=
  loop_ok (l := spec_l5Chain_l0_s N) progOk (spec_l5Chain_gok N) (draw_ok progOk (spec_l5Chain_gok N)) (fun R k x ks => spec_l5Chain_l0_again N ks k x) (fun _ _ _ => rfl) (fun R k x ks => spec_l5Chain_l0_step N R k x ks) (fun R x ks r h => ⟨N, h⟩) (lsOk_at (L := []) trivial) (by kernel_rfl) (by kernel_rfl)
noncomputable def spec_l5Chain (N : Nat) (g : (Int × (List (Int × Int)))) (colours : (List Int)) (x : Int) (c : Int) : Option (((List Int) × Unit) × (Unit)) :=
  spec_l5Chain_l0 N (fun x1 o o1 o2 => ((spec_l2Reach N (o, o1) o2 x1).bind fun r =>
    some ((r.1.1, ()), ()))) N colours x c 0 g.1 g.2 []
noncomputable def spec_l5Chain_S (N : Nat) : FSum := ⟨spec_l5Chain_ps, spec_l5Chain_rs, fun x => spec_l5Chain N x.1 x.2.1 x.2.2.1 x.2.2.2.1⟩
theorem spec_l5Chain_run (N : Nat) (x : argsT spec_l5Chain_ps) : spec_l5Chain N x.1 x.2.1 x.2.2.1 x.2.2.2.1 = funF (spec_l5Chain_G N) tab [spec_l5Chain_l0_s N] Tryz.f350 spec_l5Chain_ps spec_l5Chain_rs x := by kernel_rfl
theorem spec_l5Chain_pc (N : Nat) : PC Tryz.prog 350 (spec_l5Chain_S N) := by
  have e : spec_l5Chain_S N = ⟨spec_l5Chain_ps, spec_l5Chain_rs, funF (spec_l5Chain_G N) tab [spec_l5Chain_l0_s N] Tryz.f350 spec_l5Chain_ps spec_l5Chain_rs⟩ := congrArg (FSum.mk spec_l5Chain_ps spec_l5Chain_rs) (funext (spec_l5Chain_run N))
  rw [e]
  exact fun_ok (c := spec_l5Chain_code) progOk (spec_l5Chain_gok N) (draw_ok progOk (spec_l5Chain_gok N)) Tryz.call350 Tryz.func350 (by kernel_rfl) (lsOk_at (L := [spec_l5Chain_l0_s N]) ⟨spec_l5Chain_l0_ok N, trivial⟩) (by kernel_rfl) (by kernel_rfl) (by kernel_rfl) (by kernel_rfl) (by kernel_rfl)

/-! ### spec_l5Kempe -/
abbrev spec_l5Kempe_ps : List (PV.Mode × Ty) := [(.ro, QILQII), (.ro, LI), (.ro, I), (.ro, I)]
abbrev spec_l5Kempe_rs : List (Bool × Ty) := [(true, LI)]
noncomputable def spec_l5Kempe_G (N : Nat) : GTab := gOf [(135, spec_l1Own_S N), (350, spec_l5Chain_S N)]
theorem spec_l5Kempe_gok (N : Nat) : GOk Tryz.prog (spec_l5Kempe_G N) := gOf_ok ⟨spec_l1Own_pc N, spec_l5Chain_pc N, trivial⟩
noncomputable def spec_l5Kempe_code : Code := (Tryz.f322.body).getD .skip
noncomputable def spec_l5Kempe_l0_sh : Sh := ⟨[(1, .one (.ro LI)), (2, .one (.ro I)), (3, .one (.ro I)), (9, .one (.ref 0)), (10, .one (.ref 1)), (11, .one (.ro I))], [.sl 3 I .own, .sl 3 I .own]⟩
noncomputable def spec_l5Kempe_l0_ex : List (Ex × Sh) := [(.exit 0, ⟨[(9, .one (.ref 0))], [.sl 3 I .own]⟩)]
noncomputable def spec_l5Kempe_l0 {R : Type} (N : Nat) (k0 : (List Int) → Option R) : Nat → (List Int) → Int → Int → Int → (List Int) → (List Int) → Option R
  | 0, _, _, _, _, _, _ => none
  | K + 1, colours1, x1, c1, i, o, o1 =>
    (br (ilt i (tLen o1))
      ((chk (inb o1 i)
        (chk (inb colours1 x1)
        (chk (inb o1 i)
        (chk (inb colours1 (rdI o1 i))
        (chk (inb o (rdI o1 i))
        (spec_l5Kempe_l0 N k0 K colours1 x1 c1 (IntKind.i64.wrap (i + 1)) (tSet o (rdI o1 i) (IntKind.i64.wrap ((IntKind.i64.wrap ((rdI colours1 x1) + c1)) - (rdI colours1 (rdI o1 i))))) o1)))))))
      (k0 o))
noncomputable def spec_l5Kempe_l0_again {R : Type} (N : Nat) (ks : (j : Nat) → ((spec_l5Kempe_l0_ex.getD j (.ret, Sh.none)).2).T → Option R) (k : Nat) (x : spec_l5Kempe_l0_sh.T) : Option R :=
  spec_l5Kempe_l0 N (fun y0 => ks 0 (((), ()), (y0, ()))) k x.1.1 x.1.2.1 x.1.2.2.1 x.1.2.2.2.2.2.1 x.2.1 x.2.2.1
noncomputable def spec_l5Kempe_l0_s (N : Nat) : LSum := ⟨spec_l5Kempe_l0_sh, spec_l5Kempe_l0_ex, fun x ks => spec_l5Kempe_l0_again N ks N x⟩
theorem spec_l5Kempe_l0_step (N : Nat) (R : Type) (k : Nat) (x : spec_l5Kempe_l0_sh.T) (ks : (j : Nat) → ((spec_l5Kempe_l0_ex.getD j (.ret, Sh.none)).2).T → Option R) : spec_l5Kempe_l0_again N ks (k + 1) x = roundF (spec_l5Kempe_G N) tab [] (loopAt spec_l5Kempe_code 0) spec_l5Kempe_l0_sh spec_l5Kempe_l0_ex (fun y => spec_l5Kempe_l0_again N ks k y) ks x := by kernel_rfl
theorem spec_l5Kempe_l0_ok (N : Nat) : LoopOk Tryz.prog Tryz.f322.ntmps (spec_l5Kempe_l0_s N) (loopAt spec_l5Kempe_code 0) :=
  loop_ok (l := spec_l5Kempe_l0_s N) progOk (spec_l5Kempe_gok N) (draw_ok progOk (spec_l5Kempe_gok N)) (fun R k x ks => spec_l5Kempe_l0_again N ks k x) (fun _ _ _ => rfl) (fun R k x ks => spec_l5Kempe_l0_step N R k x ks) (fun R x ks r h => ⟨N, h⟩) (lsOk_at (L := []) trivial) (by kernel_rfl) (by kernel_rfl)
noncomputable def spec_l5Kempe (N : Nat) (g : (Int × (List (Int × Int)))) (colours : (List Int)) (x : Int) (c : Int) : Option (((List Int) × Unit) × (Unit)) :=
  ((spec_l1Own N colours).bind fun r =>
    ((spec_l5Chain N (g.1, g.2) colours x c).bind fun r1 =>
      spec_l5Kempe_l0 N (fun o => some ((o, ()), ())) N colours x c 0 r.1.1 r1.1.1))
noncomputable def spec_l5Kempe_S (N : Nat) : FSum := ⟨spec_l5Kempe_ps, spec_l5Kempe_rs, fun x => spec_l5Kempe N x.1 x.2.1 x.2.2.1 x.2.2.2.1⟩
theorem spec_l5Kempe_run (N : Nat) (x : argsT spec_l5Kempe_ps) : spec_l5Kempe N x.1 x.2.1 x.2.2.1 x.2.2.2.1 = funF (spec_l5Kempe_G N) tab [spec_l5Kempe_l0_s N] Tryz.f322 spec_l5Kempe_ps spec_l5Kempe_rs x := by kernel_rfl
theorem spec_l5Kempe_pc (N : Nat) : PC Tryz.prog 322 (spec_l5Kempe_S N) := by
  have e : spec_l5Kempe_S N = ⟨spec_l5Kempe_ps, spec_l5Kempe_rs, funF (spec_l5Kempe_G N) tab [spec_l5Kempe_l0_s N] Tryz.f322 spec_l5Kempe_ps spec_l5Kempe_rs⟩ := congrArg (FSum.mk spec_l5Kempe_ps spec_l5Kempe_rs) (funext (spec_l5Kempe_run N))
  rw [e]
  exact fun_ok (c := spec_l5Kempe_code) progOk (spec_l5Kempe_gok N) (draw_ok progOk (spec_l5Kempe_gok N)) Tryz.call322 Tryz.func322 (by kernel_rfl) (lsOk_at (L := [spec_l5Kempe_l0_s N]) ⟨spec_l5Kempe_l0_ok N, trivial⟩) (by kernel_rfl) (by kernel_rfl) (by kernel_rfl) (by kernel_rfl) (by kernel_rfl)

/-! ### spec_l1Same -/
abbrev spec_l1Same_ps : List (PV.Mode × Ty) := [(.ro, LI), (.ro, LI)]
abbrev spec_l1Same_rs : List (Bool × Ty) := [(true, .bool)]
noncomputable def spec_l1Same_G (N : Nat) : GTab := gOf []
theorem spec_l1Same_gok (N : Nat) : GOk Tryz.prog (spec_l1Same_G N) := gOf_ok trivial
noncomputable def spec_l1Same_code : Code := (Tryz.f246.body).getD .skip
noncomputable def spec_l1Same_l0_sh : Sh := ⟨[(0, .one (.ro LI)), (1, .one (.ro LI)), (5, .one (.ro I))], []⟩
noncomputable def spec_l1Same_l0_ex : List (Ex × Sh) := [(.ret, ⟨[(4, .one (.ro .bool))], []⟩), (.exit 0, ⟨[], []⟩)]
noncomputable def spec_l1Same_l0 {R : Type} (N : Nat) (k0 : Bool → Option R) (k1 : Unit → Option R) : Nat → (List Int) → (List Int) → Int → Option R
  | 0, _, _, _ => none
  | K + 1, a1, b1, i =>
    (br (ilt i (tLen a1))
      ((chk (inb a1 i)
        (chk (inb b1 i)
        (br (ine (rdI a1 i) (rdI b1 i))
        (k0 false)
        (spec_l1Same_l0 N k0 k1 K a1 b1 (IntKind.i64.wrap (i + 1)))))))
      (k1 ()))
noncomputable def spec_l1Same_l0_again {R : Type} (N : Nat) (ks : (j : Nat) → ((spec_l1Same_l0_ex.getD j (.ret, Sh.none)).2).T → Option R) (k : Nat) (x : spec_l1Same_l0_sh.T) : Option R :=
  spec_l1Same_l0 N (fun y0 => ks 0 ((y0, ()), ())) (fun (_ : Unit) => ks 1 ((), ())) k x.1.1 x.1.2.1 x.1.2.2.1
noncomputable def spec_l1Same_l0_s (N : Nat) : LSum := ⟨spec_l1Same_l0_sh, spec_l1Same_l0_ex, fun x ks => spec_l1Same_l0_again N ks N x⟩
theorem spec_l1Same_l0_step (N : Nat) (R : Type) (k : Nat) (x : spec_l1Same_l0_sh.T) (ks : (j : Nat) → ((spec_l1Same_l0_ex.getD j (.ret, Sh.none)).2).T → Option R) : spec_l1Same_l0_again N ks (k + 1) x = roundF (spec_l1Same_G N) tab [] (loopAt spec_l1Same_code 0) spec_l1Same_l0_sh spec_l1Same_l0_ex (fun y => spec_l1Same_l0_again N ks k y) ks x := by kernel_rfl
theorem spec_l1Same_l0_ok (N : Nat) : LoopOk Tryz.prog Tryz.f246.ntmps (spec_l1Same_l0_s N) (loopAt spec_l1Same_code 0) :=
  loop_ok (l := spec_l1Same_l0_s N) progOk (spec_l1Same_gok N) (draw_ok progOk (spec_l1Same_gok N)) (fun R k x ks => spec_l1Same_l0_again N ks k x) (fun _ _ _ => rfl) (fun R k x ks => spec_l1Same_l0_step N R k x ks) (fun R x ks r h => ⟨N, h⟩) (lsOk_at (L := []) trivial) (by kernel_rfl) (by kernel_rfl)
noncomputable def spec_l1Same (N : Nat) (a : (List Int)) (b : (List Int)) : Option ((Bool × Unit) × (Unit)) :=
  (br (ine (tLen a) (tLen b))
    (some ((false, ()), ()))
    (spec_l1Same_l0 N (fun x => some ((x, ()), ())) (fun (_ : Unit) => some ((true, ()), ())) N a b 0))
noncomputable def spec_l1Same_S (N : Nat) : FSum := ⟨spec_l1Same_ps, spec_l1Same_rs, fun x => spec_l1Same N x.1 x.2.1⟩
theorem spec_l1Same_run (N : Nat) (x : argsT spec_l1Same_ps) : spec_l1Same N x.1 x.2.1 = funF (spec_l1Same_G N) tab [spec_l1Same_l0_s N] Tryz.f246 spec_l1Same_ps spec_l1Same_rs x := by kernel_rfl
theorem spec_l1Same_pc (N : Nat) : PC Tryz.prog 246 (spec_l1Same_S N) := by
  have e : spec_l1Same_S N = ⟨spec_l1Same_ps, spec_l1Same_rs, funF (spec_l1Same_G N) tab [spec_l1Same_l0_s N] Tryz.f246 spec_l1Same_ps spec_l1Same_rs⟩ := congrArg (FSum.mk spec_l1Same_ps spec_l1Same_rs) (funext (spec_l1Same_run N))
  rw [e]
  exact fun_ok (c := spec_l1Same_code) progOk (spec_l1Same_gok N) (draw_ok progOk (spec_l1Same_gok N)) Tryz.call246 Tryz.func246 (by kernel_rfl) (lsOk_at (L := [spec_l1Same_l0_s N]) ⟨spec_l1Same_l0_ok N, trivial⟩) (by kernel_rfl) (by kernel_rfl) (by kernel_rfl) (by kernel_rfl) (by kernel_rfl)

/-! ### spec_l5Step -/
abbrev spec_l5Step_ps : List (PV.Mode × Ty) := [(.ro, QILQII), (.ro, .bool), (.ro, LI), (.ro, LI)]
abbrev spec_l5Step_rs : List (Bool × Ty) := [(true, .bool)]
noncomputable def spec_l5Step_G (N : Nat) : GTab := gOf [(321, spec_l5Changed_S N), (322, spec_l5Kempe_S N), (246, spec_l1Same_S N)]
theorem spec_l5Step_gok (N : Nat) : GOk Tryz.prog (spec_l5Step_G N) := gOf_ok ⟨spec_l5Changed_pc N, spec_l5Kempe_pc N, spec_l1Same_pc N, trivial⟩
noncomputable def spec_l5Step_code : Code := (Tryz.f261.body).getD .skip
noncomputable def spec_l5Step (N : Nat) (g : (Int × (List (Int × Int)))) (kempe : Bool) (a : (List Int)) (b : (List Int)) : Option ((Bool × Unit) × (Unit)) :=
  ((spec_l5Changed N a b).bind fun r =>
    (br (!kempe)
      (some (((ieq (tLen r.1.1) 1), ()), ()))
      ((br (ieq (tLen r.1.1) 0)
        (some (((ieq (tLen r.1.1) 1), ()), ()))
        ((chk (inb r.1.1 0)
          (chk (inb r.1.1 0)
          (chk (inb b (rdI r.1.1 0))
          ((spec_l5Kempe N (g.1, g.2) a (rdI r.1.1 0) (rdI b (rdI r.1.1 0))).bind fun r1 =>
          ((spec_l1Same N r1.1.1 b).bind fun r2 =>
            some ((r2.1.1, ()), ())))))))))))
noncomputable def spec_l5Step_S (N : Nat) : FSum := ⟨spec_l5Step_ps, spec_l5Step_rs, fun x => spec_l5Step N x.1 x.2.1 x.2.2.1 x.2.2.2.1⟩
theorem spec_l5Step_run (N : Nat) (x : argsT spec_l5Step_ps) : spec_l5Step N x.1 x.2.1 x.2.2.1 x.2.2.2.1 = funF (spec_l5Step_G N) tab [] Tryz.f261 spec_l5Step_ps spec_l5Step_rs x := by kernel_rfl
theorem spec_l5Step_pc (N : Nat) : PC Tryz.prog 261 (spec_l5Step_S N) := by
  have e : spec_l5Step_S N = ⟨spec_l5Step_ps, spec_l5Step_rs, funF (spec_l5Step_G N) tab [] Tryz.f261 spec_l5Step_ps spec_l5Step_rs⟩ := congrArg (FSum.mk spec_l5Step_ps spec_l5Step_rs) (funext (spec_l5Step_run N))
  rw [e]
  exact fun_ok (c := spec_l5Step_code) progOk (spec_l5Step_gok N) (draw_ok progOk (spec_l5Step_gok N)) Tryz.call261 Tryz.func261 (by kernel_rfl) (lsOk_at (L := []) trivial) (by kernel_rfl) (by kernel_rfl) (by kernel_rfl) (by kernel_rfl) (by kernel_rfl)

/-! ### spec_l5Space -/
abbrev spec_l5Space_ps : List (PV.Mode × Ty) := [(.ro, QILQII), (.ro, I), (.ro, .bool)]
abbrev spec_l5Space_rs : List (Bool × Ty) := [(true, QLLILQII), (true, .bool)]
noncomputable def spec_l5Space_G (N : Nat) : GTab := gOf [(192, spec_l5All_S N), (261, spec_l5Step_S N)]
theorem spec_l5Space_gok (N : Nat) : GOk Tryz.prog (spec_l5Space_G N) := gOf_ok ⟨spec_l5All_pc N, spec_l5Step_pc N, trivial⟩
noncomputable def spec_l5Space_code : Code := (Tryz.f186.body).getD .skip
noncomputable def spec_l5Space_l0_0_sh : Sh := ⟨[(2, .one (.ro .bool)), (3, .one (.adr 0 0)), (6, .one (.adr 1 0)), (8, .one (.ref 2)), (10, .one (.adr 3 0)), (11, .one (.ro I)), (12, .one (.ro I))], [.box [.ro I, .ro LQII], .box [.nilsl, .nilsl], .sl 25 LI .deep, .box [.ref 2, .ref 4], .sl 123 QII .own]⟩
noncomputable def spec_l5Space_l0_0_ex : List (Ex × Sh) := [(.exit 2, ⟨[(2, .one (.ro .bool)), (3, .one (.adr 0 0)), (6, .one (.adr 1 0)), (8, .one (.ref 2)), (10, .one (.adr 3 0)), (11, .one (.ro I))], [.box [.ro I, .ro LQII], .box [.nilsl, .nilsl], .sl 25 LI .deep, .box [.ref 2, .ref 4], .sl 123 QII .own]⟩)]
noncomputable def spec_l5Space_l0_0 {R : Type} (N : Nat) (k0 : Bool → Int → Int → (List (Int × Int)) → (List (List Int)) → (List (Int × Int)) → Option R) : Nat → Bool → Int → Int → Int → (List (Int × Int)) → (List (List Int)) → (List (Int × Int)) → Option R
  | 0, _, _, _, _, _, _, _ => none
  | K + 1, kempe2, i1, j, o4, o5, o6, o7 =>
    (br (ilt j (tLen o6))
      ((chk (inb o6 i1)
        (chk (inb o6 j)
        ((spec_l5Step N (o4, o5) kempe2 (rdL o6 i1) (rdL o6 j)).bind fun r1 =>
        (br r1.1.1
          ((chk (room o7 [(i1, j)])
            (spec_l5Space_l0_0 N k0 K kempe2 i1 (IntKind.i64.wrap (j + 1)) o4 o5 o6 (tApp o7 [(i1, j)]))))
          (spec_l5Space_l0_0 N k0 K kempe2 i1 (IntKind.i64.wrap (j + 1)) o4 o5 o6 o7))))))
      (k0 kempe2 i1 o4 o5 o6 o7))
noncomputable def spec_l5Space_l0_0_again {R : Type} (N : Nat) (ks : (j : Nat) → ((spec_l5Space_l0_0_ex.getD j (.ret, Sh.none)).2).T → Option R) (k : Nat) (x : spec_l5Space_l0_0_sh.T) : Option R :=
  spec_l5Space_l0_0 N (fun y0 y1 y2 y3 y4 y5 => ks 0 ((y0, (), (), (), (), y1, ()), ((y2, y3, ()), ((), (), ()), y4, ((), (), ()), y5, ()))) k x.1.1 x.1.2.2.2.2.2.1 x.1.2.2.2.2.2.2.1 x.2.1.1 x.2.1.2.1 x.2.2.2.1 x.2.2.2.2.2.1
noncomputable def spec_l5Space_l0_0_s (N : Nat) : LSum := ⟨spec_l5Space_l0_0_sh, spec_l5Space_l0_0_ex, fun x ks => spec_l5Space_l0_0_again N ks N x⟩
theorem spec_l5Space_l0_0_step (N : Nat) (R : Type) (k : Nat) (x : spec_l5Space_l0_0_sh.T) (ks : (j : Nat) → ((spec_l5Space_l0_0_ex.getD j (.ret, Sh.none)).2).T → Option R) : spec_l5Space_l0_0_again N ks (k + 1) x = roundF (spec_l5Space_G N) tab [] (loopAt (loopAt spec_l5Space_code 0) 0) spec_l5Space_l0_0_sh spec_l5Space_l0_0_ex (fun y => spec_l5Space_l0_0_again N ks k y) ks x := by kernel_rfl
theorem spec_l5Space_l0_0_ok (N : Nat) : LoopOk Tryz.prog Tryz.f186.ntmps (spec_l5Space_l0_0_s N) (loopAt (loopAt spec_l5Space_code 0) 0) :=
  loop_ok (l := spec_l5Space_l0_0_s N) progOk (spec_l5Space_gok N) (draw_ok progOk (spec_l5Space_gok N)) (fun R k x ks => spec_l5Space_l0_0_again N ks k x) (fun _ _ _ => rfl) (fun R k x ks => spec_l5Space_l0_0_step N R k x ks) (fun R x ks r h => ⟨N, h⟩) (lsOk_at (L := []) trivial) (by kernel_rfl) (by kernel_rfl)
noncomputable def spec_l5Space_l0_sh : Sh := ⟨[(2, .one (.ro .bool)), (3, .one (.adr 0 0)), (6, .one (.adr 1 0)), (8, .one (.ref 2)), (10, .one (.adr 3 0)), (11, .one (.ro I))], [.box [.ro I, .ro LQII], .box [.nilsl, .nilsl], .sl 25 LI .deep, .box [.ref 2, .ref 4], .sl 123 QII .own]⟩
noncomputable def spec_l5Space_l0_ex : List (Ex × Sh) := [(.exit 0, ⟨[(6, .one (.adr 0 0)), (10, .one (.adr 1 0))], [.box [.nilsl, .nilsl], .box [.ref 2, .ref 3], .sl 25 LI .deep, .sl 123 QII .own]⟩)]
noncomputable def spec_l5Space_l0 {R : Type} (N : Nat) (k0 : (List (List Int)) → (List (Int × Int)) → Option R) : Nat → Bool → Int → Int → (List (Int × Int)) → (List (List Int)) → (List (Int × Int)) → Option R
  | 0, _, _, _, _, _, _ => none
  | K + 1, kempe1, i, o, o1, o2, o3 =>
    (br (ilt i (tLen o2))
      (spec_l5Space_l0_0 N (fun kempe2 i1 o4 o5 o6 o7 => spec_l5Space_l0 N k0 K kempe2 (IntKind.i64.wrap (i1 + 1)) o4 o5 o6 o7) N kempe1 i (IntKind.i64.wrap (i + 1)) o o1 o2 o3)
      (k0 o2 o3))
noncomputable def spec_l5Space_l0_again {R : Type} (N : Nat) (ks : (j : Nat) → ((spec_l5Space_l0_ex.getD j (.ret, Sh.none)).2).T → Option R) (k : Nat) (x : spec_l5Space_l0_sh.T) : Option R :=
  spec_l5Space_l0 N (fun y0 y1 => ks 0 (((), (), ()), (((), (), ()), ((), (), ()), y0, y1, ()))) k x.1.1 x.1.2.2.2.2.2.1 x.2.1.1 x.2.1.2.1 x.2.2.2.1 x.2.2.2.2.2.1
noncomputable def spec_l5Space_l0_s (N : Nat) : LSum := ⟨spec_l5Space_l0_sh, spec_l5Space_l0_ex, fun x ks => spec_l5Space_l0_again N ks N x⟩
theorem spec_l5Space_l0_step (N : Nat) (R : Type) (k : Nat) (x : spec_l5Space_l0_sh.T) (ks : (j : Nat) → ((spec_l5Space_l0_ex.getD j (.ret, Sh.none)).2).T → Option R) : spec_l5Space_l0_again N ks (k + 1) x = roundF (spec_l5Space_G N) tab [spec_l5Space_l0_0_s N] (loopAt spec_l5Space_code 0) spec_l5Space_l0_sh spec_l5Space_l0_ex (fun y => spec_l5Space_l0_again N ks k y) ks x := by kernel_rfl
theorem spec_l5Space_l0_ok (N : Nat) : LoopOk Tryz.prog Tryz.f186.ntmps (spec_l5Space_l0_s N) (loopAt spec_l5Space_code 0) :=
  loop_ok (l := spec_l5Space_l0_s N) progOk (spec_l5Space_gok N) (draw_ok progOk (spec_l5Space_gok N)) (fun R k x ks => spec_l5Space_l0_again N ks k x) (fun _ _ _ => rfl) (fun R k x ks => spec_l5Space_l0_step N R k x ks) (fun R x ks r h => ⟨N, h⟩) (lsOk_at (L := [spec_l5Space_l0_0_s N]) ⟨spec_l5Space_l0_0_ok N, trivial⟩) (by kernel_rfl) (by kernel_rfl)
noncomputable def spec_l5Space (N : Nat) (g : (Int × (List (Int × Int)))) (kv : Int) (kempe : Bool) : Option ((((List (List Int)) × (List (Int × Int))) × Bool × Unit) × (Unit)) :=
  ((spec_l5All N (g.1, g.2) kv).bind fun r =>
    (br (!r.1.2.1)
      (some ((([], []), false, ()), ()))
      (spec_l5Space_l0 N (fun o o1 => some (((o, o1), true, ()), ())) N kempe 0 g.1 g.2 r.1.1 [])))
noncomputable def spec_l5Space_S (N : Nat) : FSum := ⟨spec_l5Space_ps, spec_l5Space_rs, fun x => spec_l5Space N x.1 x.2.1 x.2.2.1⟩
theorem spec_l5Space_run (N : Nat) (x : argsT spec_l5Space_ps) : spec_l5Space N x.1 x.2.1 x.2.2.1 = funF (spec_l5Space_G N) tab [spec_l5Space_l0_s N] Tryz.f186 spec_l5Space_ps spec_l5Space_rs x := by kernel_rfl
theorem spec_l5Space_pc (N : Nat) : PC Tryz.prog 186 (spec_l5Space_S N) := by
  have e : spec_l5Space_S N = ⟨spec_l5Space_ps, spec_l5Space_rs, funF (spec_l5Space_G N) tab [spec_l5Space_l0_s N] Tryz.f186 spec_l5Space_ps spec_l5Space_rs⟩ := congrArg (FSum.mk spec_l5Space_ps spec_l5Space_rs) (funext (spec_l5Space_run N))
  rw [e]
  exact fun_ok (c := spec_l5Space_code) progOk (spec_l5Space_gok N) (draw_ok progOk (spec_l5Space_gok N)) Tryz.call186 Tryz.func186 (by kernel_rfl) (lsOk_at (L := [spec_l5Space_l0_s N]) ⟨spec_l5Space_l0_ok N, trivial⟩) (by kernel_rfl) (by kernel_rfl) (by kernel_rfl) (by kernel_rfl) (by kernel_rfl)

/-! ### spec_ColourSpace -/
abbrev spec_ColourSpace_ps : List (PV.Mode × Ty) := [(.ro, QILQII), (.ro, I)]
abbrev spec_ColourSpace_rs : List (Bool × Ty) := [(true, QLLILQII), (true, .bool)]
noncomputable def spec_ColourSpace_G (N : Nat) : GTab := gOf [(186, spec_l5Space_S N)]
theorem spec_ColourSpace_gok (N : Nat) : GOk Tryz.prog (spec_ColourSpace_G N) := gOf_ok ⟨spec_l5Space_pc N, trivial⟩
noncomputable def spec_ColourSpace_code : Code := (Tryz.f72.body).getD .skip
noncomputable def spec_ColourSpace (N : Nat) (g : (Int × (List (Int × Int)))) (kv : Int) : Option ((((List (List Int)) × (List (Int × Int))) × Bool × Unit) × (Unit)) :=
  ((spec_l5Space N (g.1, g.2) kv false).bind fun r =>
    some (((r.1.1.1, r.1.1.2), r.1.2.1, ()), ()))
noncomputable def spec_ColourSpace_S (N : Nat) : FSum := ⟨spec_ColourSpace_ps, spec_ColourSpace_rs, fun x => spec_ColourSpace N x.1 x.2.1⟩
theorem spec_ColourSpace_run (N : Nat) (x : argsT spec_ColourSpace_ps) : spec_ColourSpace N x.1 x.2.1 = funF (spec_ColourSpace_G N) tab [] Tryz.f72 spec_ColourSpace_ps spec_ColourSpace_rs x := by kernel_rfl
theorem spec_ColourSpace_pc (N : Nat) : PC Tryz.prog 72 (spec_ColourSpace_S N) := by
  have e : spec_ColourSpace_S N = ⟨spec_ColourSpace_ps, spec_ColourSpace_rs, funF (spec_ColourSpace_G N) tab [] Tryz.f72 spec_ColourSpace_ps spec_ColourSpace_rs⟩ := congrArg (FSum.mk spec_ColourSpace_ps spec_ColourSpace_rs) (funext (spec_ColourSpace_run N))
  rw [e]
  exact fun_ok (c := spec_ColourSpace_code) progOk (spec_ColourSpace_gok N) (draw_ok progOk (spec_ColourSpace_gok N)) Tryz.call72 Tryz.func72 (by kernel_rfl) (lsOk_at (L := []) trivial) (by kernel_rfl) (by kernel_rfl) (by kernel_rfl) (by kernel_rfl) (by kernel_rfl)

/-! ### slices_Index_LI_int -/
abbrev slices_Index_LI_int_ps : List (PV.Mode × Ty) := [(.ro, LI), (.ro, I)]
abbrev slices_Index_LI_int_rs : List (Bool × Ty) := [(true, I)]
noncomputable def slices_Index_LI_int_G (N : Nat) : GTab := gOf []
theorem slices_Index_LI_int_gok (N : Nat) : GOk Tryz.prog (slices_Index_LI_int_G N) := gOf_ok trivial
noncomputable def slices_Index_LI_int_code : Code := (Tryz.f351.body).getD .skip
noncomputable def slices_Index_LI_int_l0_sh : Sh := ⟨[(0, .one (.ro LI)), (1, .one (.ro I)), (7, .one (.ro I)), (8, .one (.ro I))], []⟩
noncomputable def slices_Index_LI_int_l0_ex : List (Ex × Sh) := [(.ret, ⟨[(4, .one (.ro I))], []⟩), (.exit 0, ⟨[], []⟩)]
noncomputable def slices_Index_LI_int_l0 {R : Type} (N : Nat) (k0 : Int → Option R) (k1 : Unit → Option R) : Nat → (List Int) → Int → Int → Int → Option R
  | 0, _, _, _, _ => none
  | K + 1, s1, v1, x, x1 =>
    (br (ilt x1 x)
      ((chk (inb s1 x1)
        (br (ieq v1 (rdI s1 x1))
        (k0 x1)
        (slices_Index_LI_int_l0 N k0 k1 K s1 v1 x (IntKind.i64.wrap (x1 + 1))))))
      (k1 ()))
noncomputable def slices_Index_LI_int_l0_again {R : Type} (N : Nat) (ks : (j : Nat) → ((slices_Index_LI_int_l0_ex.getD j (.ret, Sh.none)).2).T → Option R) (k : Nat) (x : slices_Index_LI_int_l0_sh.T) : Option R :=
  slices_Index_LI_int_l0 N (fun y0 => ks 0 ((y0, ()), ())) (fun (_ : Unit) => ks 1 ((), ())) k x.1.1 x.1.2.1 x.1.2.2.1 x.1.2.2.2.1
noncomputable def slices_Index_LI_int_l0_s (N : Nat) : LSum := ⟨slices_Index_LI_int_l0_sh, slices_Index_LI_int_l0_ex, fun x ks => slices_Index_LI_int_l0_again N ks N x⟩
theorem slices_Index_LI_int_l0_step (N : Nat) (R : Type) (k : Nat) (x : slices_Index_LI_int_l0_sh.T) (ks : (j : Nat) → ((slices_Index_LI_int_l0_ex.getD j (.ret, Sh.none)).2).T → Option R) : slices_Index_LI_int_l0_again N ks (k + 1) x = roundF (slices_Index_LI_int_G N) tab [] (loopAt slices_Index_LI_int_code 0) slices_Index_LI_int_l0_sh slices_Index_LI_int_l0_ex (fun y => slices_Index_LI_int_l0_again N ks k y) ks x := by kernel_rfl
theorem slices_Index_LI_int_l0_ok (N : Nat) : LoopOk Tryz.prog Tryz.f351.ntmps (slices_Index_LI_int_l0_s N) (loopAt slices_Index_LI_int_code 0) :=
  loop_ok (l := slices_Index_LI_int_l0_s N) progOk (slices_Index_LI_int_gok N) (draw_ok progOk (slices_Index_LI_int_gok N)) (fun R k x ks => slices_Index_LI_int_l0_again N ks k x) (fun _ _ _ => rfl) (fun R k x ks => slices_Index_LI_int_l0_step N R k x ks) (fun R x ks r h => ⟨N, h⟩) (lsOk_at (L := []) trivial) (by kernel_rfl) (by kernel_rfl)
noncomputable def slices_Index_LI_int (N : Nat) (s : (List Int)) (v : Int) : Option ((Int × Unit) × (Unit)) :=
  slices_Index_LI_int_l0 N (fun x => some ((x, ()), ())) (fun (_ : Unit) => some (((-1), ()), ())) N s v (tLen s) 0
noncomputable def slices_Index_LI_int_S (N : Nat) : FSum := ⟨slices_Index_LI_int_ps, slices_Index_LI_int_rs, fun x => slices_Index_LI_int N x.1 x.2.1⟩
theorem slices_Index_LI_int_run (N : Nat) (x : argsT slices_Index_LI_int_ps) : slices_Index_LI_int N x.1 x.2.1 = funF (slices_Index_LI_int_G N) tab [slices_Index_LI_int_l0_s N] Tryz.f351 slices_Index_LI_int_ps slices_Index_LI_int_rs x := by kernel_rfl
theorem slices_Index_LI_int_pc (N : Nat) : PC Tryz.prog 351 (slices_Index_LI_int_S N) := by
  have e : slices_Index_LI_int_S N = ⟨slices_Index_LI_int_ps, slices_Index_LI_int_rs, funF (slices_Index_LI_int_G N) tab [slices_Index_LI_int_l0_s N] Tryz.f351 slices_Index_LI_int_ps slices_Index_LI_int_rs⟩ := congrArg (FSum.mk slices_Index_LI_int_ps slices_Index_LI_int_rs) (funext (slices_Index_LI_int_run N))
  rw [e]
  exact fun_ok (c := slices_Index_LI_int_code) progOk (slices_Index_LI_int_gok N) (draw_ok progOk (slices_Index_LI_int_gok N)) Tryz.call351 Tryz.func351 (by kernel_rfl) (lsOk_at (L := [slices_Index_LI_int_l0_s N]) ⟨slices_Index_LI_int_l0_ok N, trivial⟩) (by kernel_rfl) (by kernel_rfl) (by kernel_rfl) (by kernel_rfl) (by kernel_rfl)

/-! ### slices_Contains_LI_int -/
abbrev slices_Contains_LI_int_ps : List (PV.Mode × Ty) := [(.ro, LI), (.ro, I)]
abbrev slices_Contains_LI_int_rs : List (Bool × Ty) := [(true, .bool)]
noncomputable def slices_Contains_LI_int_G (N : Nat) : GTab := gOf [(351, slices_Index_LI_int_S N)]
theorem slices_Contains_LI_int_gok (N : Nat) : GOk Tryz.prog (slices_Contains_LI_int_G N) := gOf_ok ⟨slices_Index_LI_int_pc N, trivial⟩
noncomputable def slices_Contains_LI_int_code : Code := (Tryz.f323.body).getD .skip
noncomputable def slices_Contains_LI_int (N : Nat) (s : (List Int)) (v : Int) : Option ((Bool × Unit) × (Unit)) :=
  ((slices_Index_LI_int N s v).bind fun r =>
    some (((ile 0 r.1.1), ()), ()))
noncomputable def slices_Contains_LI_int_S (N : Nat) : FSum := ⟨slices_Contains_LI_int_ps, slices_Contains_LI_int_rs, fun x => slices_Contains_LI_int N x.1 x.2.1⟩
theorem slices_Contains_LI_int_run (N : Nat) (x : argsT slices_Contains_LI_int_ps) : slices_Contains_LI_int N x.1 x.2.1 = funF (slices_Contains_LI_int_G N) tab [] Tryz.f323 slices_Contains_LI_int_ps slices_Contains_LI_int_rs x := by kernel_rfl
theorem slices_Contains_LI_int_pc (N : Nat) : PC Tryz.prog 323 (slices_Contains_LI_int_S N) := by
  have e : slices_Contains_LI_int_S N = ⟨slices_Contains_LI_int_ps, slices_Contains_LI_int_rs, funF (slices_Contains_LI_int_G N) tab [] Tryz.f323 slices_Contains_LI_int_ps slices_Contains_LI_int_rs⟩ := congrArg (FSum.mk slices_Contains_LI_int_ps slices_Contains_LI_int_rs) (funext (slices_Contains_LI_int_run N))
  rw [e]
  exact fun_ok (c := slices_Contains_LI_int_code) progOk (slices_Contains_LI_int_gok N) (draw_ok progOk (slices_Contains_LI_int_gok N)) Tryz.call323 Tryz.func323 (by kernel_rfl) (lsOk_at (L := []) trivial) (by kernel_rfl) (by kernel_rfl) (by kernel_rfl) (by kernel_rfl) (by kernel_rfl)

/-! ### slices_Sort_LI_int -/
abbrev slices_Sort_LI_int_ps : List (PV.Mode × Ty) := [(.mut, LI)]
abbrev slices_Sort_LI_int_rs : List (Bool × Ty) := []
noncomputable def slices_Sort_LI_int (N : Nat) (x : List Int) : Option (Unit × (List Int × Unit)) := sortIF x
noncomputable def slices_Sort_LI_int_S (N : Nat) : FSum := ⟨slices_Sort_LI_int_ps, slices_Sort_LI_int_rs, fun x => slices_Sort_LI_int N x.1⟩
theorem slices_Sort_LI_int_pc (N : Nat) : PC Tryz.prog 260 (slices_Sort_LI_int_S N) := sortInts_pc (sortsI Tryz.sortIL) (sortsINone Tryz.sortIL) Tryz.call260

/-! ### impl_Graph_chain -/
abbrev impl_Graph_chain_ps : List (PV.Mode × Ty) := [(.ro, QILQII), (.ro, LI), (.ro, I), (.ro, I)]
abbrev impl_Graph_chain_rs : List (Bool × Ty) := [(true, LI)]
noncomputable def impl_Graph_chain_G (N : Nat) : GTab := gOf [(193, impl_Graph_neighbors_S N), (323, slices_Contains_LI_int_S N), (260, slices_Sort_LI_int_S N)]
theorem impl_Graph_chain_gok (N : Nat) : GOk Tryz.prog (impl_Graph_chain_G N) := gOf_ok ⟨impl_Graph_neighbors_pc N, slices_Contains_LI_int_pc N, slices_Sort_LI_int_pc N, trivial⟩
noncomputable def impl_Graph_chain_code : Code := (Tryz.f262.body).getD .skip
noncomputable def impl_Graph_chain_l0_0_sh : Sh := ⟨[(1, .one (.ro LI)), (3, .one (.ro I)), (4, .one (.adr 0 0)), (9, .one (.ro I)), (10, .one (.ref 1)), (11, .one (.ro I)), (31, .one (.ref 2)), (32, .one (.ro I)), (33, .one (.ro I))], [.box [.ro I, .ro LQII], .sl 3 I .own, .sl 3 I .own]⟩
noncomputable def impl_Graph_chain_l0_0_ex : List (Ex × Sh) := [(.exit 2, ⟨[(1, .one (.ro LI)), (3, .one (.ro I)), (4, .one (.adr 0 0)), (9, .one (.ro I)), (10, .one (.ref 1)), (11, .one (.ro I))], [.box [.ro I, .ro LQII], .sl 3 I .own]⟩)]
noncomputable def impl_Graph_chain_l0_0 {R : Type} (N : Nat) (k0 : (List Int) → Int → Int → Int → Int → (List (Int × Int)) → (List Int) → Option R) : Nat → (List Int) → Int → Int → Int → Int → Int → Int → (List (Int × Int)) → (List Int) → (List Int) → Option R
  | 0, _, _, _, _, _, _, _, _, _, _ => none
  | K + 1, x4, x5, x6, x7, x8, x9, o3, o4, o5, o6 =>
    (br (ilt x9 x8)
      ((chk (inb o6 x9)
        (chk (inb x4 (rdI o6 x9))
        (br (ieq (rdI x4 (rdI o6 x9)) x6)
        (((slices_Contains_LI_int N o5 (rdI o6 x9)).bind fun r1 =>
          (br (!r1.1.1)
            ((chk (room o5 [(rdI o6 x9)])
              (impl_Graph_chain_l0_0 N k0 K x4 x5 x6 x7 x8 (IntKind.i64.wrap (x9 + 1)) o3 o4 (tApp o5 [(rdI o6 x9)]) o6)))
            (impl_Graph_chain_l0_0 N k0 K x4 x5 x6 x7 x8 (IntKind.i64.wrap (x9 + 1)) o3 o4 o5 o6))))
        ((chk (inb x4 (rdI o6 x9))
          (br (ieq (rdI x4 (rdI o6 x9)) x5)
          (((slices_Contains_LI_int N o5 (rdI o6 x9)).bind fun r2 =>
            (br (!r2.1.1)
              ((chk (room o5 [(rdI o6 x9)])
                (impl_Graph_chain_l0_0 N k0 K x4 x5 x6 x7 x8 (IntKind.i64.wrap (x9 + 1)) o3 o4 (tApp o5 [(rdI o6 x9)]) o6)))
              (impl_Graph_chain_l0_0 N k0 K x4 x5 x6 x7 x8 (IntKind.i64.wrap (x9 + 1)) o3 o4 o5 o6))))
          (impl_Graph_chain_l0_0 N k0 K x4 x5 x6 x7 x8 (IntKind.i64.wrap (x9 + 1)) o3 o4 o5 o6))))))))
      (k0 x4 x5 x6 x7 o3 o4 o5))
noncomputable def impl_Graph_chain_l0_0_again {R : Type} (N : Nat) (ks : (j : Nat) → ((impl_Graph_chain_l0_0_ex.getD j (.ret, Sh.none)).2).T → Option R) (k : Nat) (x : impl_Graph_chain_l0_0_sh.T) : Option R :=
  impl_Graph_chain_l0_0 N (fun y0 y1 y2 y3 y4 y5 y6 => ks 0 ((y0, y1, (), y2, (), y3, ()), ((y4, y5, ()), y6, ()))) k x.1.1 x.1.2.1 x.1.2.2.2.1 x.1.2.2.2.2.2.1 x.1.2.2.2.2.2.2.2.1 x.1.2.2.2.2.2.2.2.2.1 x.2.1.1 x.2.1.2.1 x.2.2.1 x.2.2.2.1
noncomputable def impl_Graph_chain_l0_0_s (N : Nat) : LSum := ⟨impl_Graph_chain_l0_0_sh, impl_Graph_chain_l0_0_ex, fun x ks => impl_Graph_chain_l0_0_again N ks N x⟩
theorem impl_Graph_chain_l0_0_step (N : Nat) (R : Type) (k : Nat) (x : impl_Graph_chain_l0_0_sh.T) (ks : (j : Nat) → ((impl_Graph_chain_l0_0_ex.getD j (.ret, Sh.none)).2).T → Option R) : impl_Graph_chain_l0_0_again N ks (k + 1) x = roundF (impl_Graph_chain_G N) tab [] (loopAt (loopAt impl_Graph_chain_code 0) 0) impl_Graph_chain_l0_0_sh impl_Graph_chain_l0_0_ex (fun y => impl_Graph_chain_l0_0_again N ks k y) ks x := by kernel_rfl
theorem impl_Graph_chain_l0_0_ok (N : Nat) : LoopOk Tryz.prog Tryz.f262.ntmps (impl_Graph_chain_l0_0_s N) (loopAt (loopAt impl_Graph_chain_code 0) 0) :=
  loop_ok (l := impl_Graph_chain_l0_0_s N) progOk (impl_Graph_chain_gok N) (draw_ok progOk (impl_Graph_chain_gok N)) (fun R k x ks => impl_Graph_chain_l0_0_again N ks k x) (fun _ _ _ => rfl) (fun R k x ks => impl_Graph_chain_l0_0_step N R k x ks) (fun R x ks r h => ⟨N, h⟩) (lsOk_at (L := []) trivial) (by kernel_rfl) (by kernel_rfl)
noncomputable def impl_Graph_chain_l0_sh : Sh := ⟨[(1, .one (.ro LI)), (3, .one (.ro I)), (4, .one (.adr 0 0)), (9, .one (.ro I)), (10, .one (.ref 1)), (11, .one (.ro I))], [.box [.ro I, .ro LQII], .sl 3 I .own]⟩
noncomputable def impl_Graph_chain_l0_ex : List (Ex × Sh) := [(.exit 0, ⟨[(10, .one (.ref 0))], [.sl 3 I .own]⟩)]
noncomputable def impl_Graph_chain_l0 {R : Type} (N : Nat) (k0 : (List Int) → Option R) : Nat → (List Int) → Int → Int → Int → Int → (List (Int × Int)) → (List Int) → Option R
  | 0, _, _, _, _, _, _, _ => none
  | K + 1, x, x1, x2, x3, o, o1, o2 =>
    (br (ilt x3 (tLen o2))
      ((chk (inb o2 x3)
        ((impl_Graph_neighbors N (o, o1) (rdI o2 x3)).bind fun r =>
        impl_Graph_chain_l0_0 N (fun x4 x5 x6 x7 o3 o4 o5 => impl_Graph_chain_l0 N k0 K x4 x5 x6 (IntKind.i64.wrap (x7 + 1)) o3 o4 o5) N x x1 x2 x3 (tLen r.1.1) 0 o o1 o2 r.1.1)))
      (k0 o2))
noncomputable def impl_Graph_chain_l0_again {R : Type} (N : Nat) (ks : (j : Nat) → ((impl_Graph_chain_l0_ex.getD j (.ret, Sh.none)).2).T → Option R) (k : Nat) (x : impl_Graph_chain_l0_sh.T) : Option R :=
  impl_Graph_chain_l0 N (fun y0 => ks 0 (((), ()), (y0, ()))) k x.1.1 x.1.2.1 x.1.2.2.2.1 x.1.2.2.2.2.2.1 x.2.1.1 x.2.1.2.1 x.2.2.1
noncomputable def impl_Graph_chain_l0_s (N : Nat) : LSum := ⟨impl_Graph_chain_l0_sh, impl_Graph_chain_l0_ex, fun x ks => impl_Graph_chain_l0_again N ks N x⟩
theorem impl_Graph_chain_l0_step (N : Nat) (R : Type) (k : Nat) (x : impl_Graph_chain_l0_sh.T) (ks : (j : Nat) → ((impl_Graph_chain_l0_ex.getD j (.ret, Sh.none)).2).T → Option R) : impl_Graph_chain_l0_again N ks (k + 1) x = roundF (impl_Graph_chain_G N) tab [impl_Graph_chain_l0_0_s N] (loopAt impl_Graph_chain_code 0) impl_Graph_chain_l0_sh impl_Graph_chain_l0_ex (fun y => impl_Graph_chain_l0_again N ks k y) ks x := by kernel_rfl
theorem impl_Graph_chain_l0_ok (N : Nat) : LoopOk Tryz.prog Tryz.f262.ntmps (impl_Graph_chain_l0_s N) (loopAt impl_Graph_chain_code 0) :=
  loop_ok (l := impl_Graph_chain_l0_s N) progOk (impl_Graph_chain_gok N) (draw_ok progOk (impl_Graph_chain_gok N)) (fun R k x ks => impl_Graph_chain_l0_again N ks k x) (fun _ _ _ => rfl) (fun R k x ks => impl_Graph_chain_l0_step N R k x ks) (fun R x ks r h => ⟨N, h⟩) (lsOk_at (L := [impl_Graph_chain_l0_0_s N]) ⟨impl_Graph_chain_l0_0_ok N, trivial⟩) (by kernel_rfl) (by kernel_rfl)
noncomputable def impl_Graph_chain (N : Nat) (c : (Int × (List (Int × Int)))) (c1 : (List Int)) (c2 : Int) (c3 : Int) : Option (((List Int) × Unit) × (Unit)) :=
  (chk (inb c1 c2)
    (impl_Graph_chain_l0 N (fun o => ((slices_Sort_LI_int N o).bind fun r =>
    some ((r.2.1, ()), ()))) N c1 c3 (rdI c1 c2) 0 c.1 c.2 [c2]))
noncomputable def impl_Graph_chain_S (N : Nat) : FSum := ⟨impl_Graph_chain_ps, impl_Graph_chain_rs, fun x => impl_Graph_chain N x.1 x.2.1 x.2.2.1 x.2.2.2.1⟩
theorem impl_Graph_chain_run (N : Nat) (x : argsT impl_Graph_chain_ps) : impl_Graph_chain N x.1 x.2.1 x.2.2.1 x.2.2.2.1 = funF (impl_Graph_chain_G N) tab [impl_Graph_chain_l0_s N] Tryz.f262 impl_Graph_chain_ps impl_Graph_chain_rs x := by kernel_rfl
theorem impl_Graph_chain_pc (N : Nat) : PC Tryz.prog 262 (impl_Graph_chain_S N) := by
  have e : impl_Graph_chain_S N = ⟨impl_Graph_chain_ps, impl_Graph_chain_rs, funF (impl_Graph_chain_G N) tab [impl_Graph_chain_l0_s N] Tryz.f262 impl_Graph_chain_ps impl_Graph_chain_rs⟩ := congrArg (FSum.mk impl_Graph_chain_ps impl_Graph_chain_rs) (funext (impl_Graph_chain_run N))
  rw [e]
  exact fun_ok (c := impl_Graph_chain_code) progOk (impl_Graph_chain_gok N) (draw_ok progOk (impl_Graph_chain_gok N)) Tryz.call262 Tryz.func262 (by kernel_rfl) (lsOk_at (L := [impl_Graph_chain_l0_s N]) ⟨impl_Graph_chain_l0_ok N, trivial⟩) (by kernel_rfl) (by kernel_rfl) (by kernel_rfl) (by kernel_rfl) (by kernel_rfl)

/-! ### impl_Graph_kempe -/
abbrev impl_Graph_kempe_ps : List (PV.Mode × Ty) := [(.ro, QILQII), (.ro, LI), (.ro, I), (.ro, I)]
abbrev impl_Graph_kempe_rs : List (Bool × Ty) := [(true, LI)]
noncomputable def impl_Graph_kempe_G (N : Nat) : GTab := gOf [(242, slices_Clone_LI_int_S N), (262, impl_Graph_chain_S N)]
theorem impl_Graph_kempe_gok (N : Nat) : GOk Tryz.prog (impl_Graph_kempe_G N) := gOf_ok ⟨slices_Clone_LI_int_pc N, impl_Graph_chain_pc N, trivial⟩
noncomputable def impl_Graph_kempe_code : Code := (Tryz.f189.body).getD .skip
noncomputable def impl_Graph_kempe_l0_sh : Sh := ⟨[(1, .one (.ro LI)), (3, .one (.ro I)), (9, .one (.ref 0)), (10, .one (.ro I)), (23, .one (.ref 1)), (24, .one (.ro I)), (25, .one (.ro I))], [.sl 3 I .own, .sl 3 I .own]⟩
noncomputable def impl_Graph_kempe_l0_ex : List (Ex × Sh) := [(.exit 0, ⟨[(9, .one (.ref 0))], [.sl 3 I .own]⟩)]
noncomputable def impl_Graph_kempe_l0 {R : Type} (N : Nat) (k0 : (List Int) → Option R) : Nat → (List Int) → Int → Int → Int → Int → (List Int) → (List Int) → Option R
  | 0, _, _, _, _, _, _, _ => none
  | K + 1, colours1, c1, own, x1, x2, o, o1 =>
    (br (ilt x2 x1)
      ((chk (inb o1 x2)
        (chk (inb colours1 (rdI o1 x2))
        (br (ieq (rdI colours1 (rdI o1 x2)) own)
        ((chk (inb o (rdI o1 x2))
          (impl_Graph_kempe_l0 N k0 K colours1 c1 own x1 (IntKind.i64.wrap (x2 + 1)) (tSet o (rdI o1 x2) c1) o1)))
        ((chk (inb o (rdI o1 x2))
          (impl_Graph_kempe_l0 N k0 K colours1 c1 own x1 (IntKind.i64.wrap (x2 + 1)) (tSet o (rdI o1 x2) own) o1)))))))
      (k0 o))
noncomputable def impl_Graph_kempe_l0_again {R : Type} (N : Nat) (ks : (j : Nat) → ((impl_Graph_kempe_l0_ex.getD j (.ret, Sh.none)).2).T → Option R) (k : Nat) (x : impl_Graph_kempe_l0_sh.T) : Option R :=
  impl_Graph_kempe_l0 N (fun y0 => ks 0 (((), ()), (y0, ()))) k x.1.1 x.1.2.1 x.1.2.2.2.1 x.1.2.2.2.2.2.1 x.1.2.2.2.2.2.2.1 x.2.1 x.2.2.1
noncomputable def impl_Graph_kempe_l0_s (N : Nat) : LSum := ⟨impl_Graph_kempe_l0_sh, impl_Graph_kempe_l0_ex, fun x ks => impl_Graph_kempe_l0_again N ks N x⟩
theorem impl_Graph_kempe_l0_step (N : Nat) (R : Type) (k : Nat) (x : impl_Graph_kempe_l0_sh.T) (ks : (j : Nat) → ((impl_Graph_kempe_l0_ex.getD j (.ret, Sh.none)).2).T → Option R) : impl_Graph_kempe_l0_again N ks (k + 1) x = roundF (impl_Graph_kempe_G N) tab [] (loopAt impl_Graph_kempe_code 0) impl_Graph_kempe_l0_sh impl_Graph_kempe_l0_ex (fun y => impl_Graph_kempe_l0_again N ks k y) ks x := by kernel_rfl
theorem impl_Graph_kempe_l0_ok (N : Nat) : LoopOk Tryz.prog Tryz.f189.ntmps (impl_Graph_kempe_l0_s N) (loopAt impl_Graph_kempe_code 0) :=
  loop_ok (l := impl_Graph_kempe_l0_s N) progOk (impl_Graph_kempe_gok N) (draw_ok progOk (impl_Graph_kempe_gok N)) (fun R k x ks => impl_Graph_kempe_l0_again N ks k x) (fun _ _ _ => rfl) (fun R k x ks => impl_Graph_kempe_l0_step N R k x ks) (fun R x ks r h => ⟨N, h⟩) (lsOk_at (L := []) trivial) (by kernel_rfl) (by kernel_rfl)
noncomputable def impl_Graph_kempe (N : Nat) (g : (Int × (List (Int × Int)))) (colours : (List Int)) (x : Int) (c : Int) : Option (((List Int) × Unit) × (Unit)) :=
  ((slices_Clone_LI_int N colours).bind fun r =>
    (chk (inb colours x)
      ((impl_Graph_chain N (g.1, g.2) colours x c).bind fun r1 =>
      impl_Graph_kempe_l0 N (fun o => some ((o, ()), ())) N colours c (rdI colours x) (tLen r1.1.1) 0 r.1.1 r1.1.1)))
noncomputable def impl_Graph_kempe_S (N : Nat) : FSum := ⟨impl_Graph_kempe_ps, impl_Graph_kempe_rs, fun x => impl_Graph_kempe N x.1 x.2.1 x.2.2.1 x.2.2.2.1⟩
theorem impl_Graph_kempe_run (N : Nat) (x : argsT impl_Graph_kempe_ps) : impl_Graph_kempe N x.1 x.2.1 x.2.2.1 x.2.2.2.1 = funF (impl_Graph_kempe_G N) tab [impl_Graph_kempe_l0_s N] Tryz.f189 impl_Graph_kempe_ps impl_Graph_kempe_rs x := by kernel_rfl
theorem impl_Graph_kempe_pc (N : Nat) : PC Tryz.prog 189 (impl_Graph_kempe_S N) := by
  have e : impl_Graph_kempe_S N = ⟨impl_Graph_kempe_ps, impl_Graph_kempe_rs, funF (impl_Graph_kempe_G N) tab [impl_Graph_kempe_l0_s N] Tryz.f189 impl_Graph_kempe_ps impl_Graph_kempe_rs⟩ := congrArg (FSum.mk impl_Graph_kempe_ps impl_Graph_kempe_rs) (funext (impl_Graph_kempe_run N))
  rw [e]
  exact fun_ok (c := impl_Graph_kempe_code) progOk (impl_Graph_kempe_gok N) (draw_ok progOk (impl_Graph_kempe_gok N)) Tryz.call189 Tryz.func189 (by kernel_rfl) (lsOk_at (L := [impl_Graph_kempe_l0_s N]) ⟨impl_Graph_kempe_l0_ok N, trivial⟩) (by kernel_rfl) (by kernel_rfl) (by kernel_rfl) (by kernel_rfl) (by kernel_rfl)

/-! ### slices_Equal_LI_int -/
abbrev slices_Equal_LI_int_ps : List (PV.Mode × Ty) := [(.ro, LI), (.ro, LI)]
abbrev slices_Equal_LI_int_rs : List (Bool × Ty) := [(true, .bool)]
noncomputable def slices_Equal_LI_int_G (N : Nat) : GTab := gOf []
theorem slices_Equal_LI_int_gok (N : Nat) : GOk Tryz.prog (slices_Equal_LI_int_G N) := gOf_ok trivial
noncomputable def slices_Equal_LI_int_code : Code := (Tryz.f168.body).getD .skip
noncomputable def slices_Equal_LI_int_l0_sh : Sh := ⟨[(0, .one (.ro LI)), (1, .one (.ro LI)), (12, .one (.ro I)), (13, .one (.ro I))], []⟩
noncomputable def slices_Equal_LI_int_l0_ex : List (Ex × Sh) := [(.ret, ⟨[(4, .one (.ro .bool))], []⟩), (.exit 0, ⟨[], []⟩)]
noncomputable def slices_Equal_LI_int_l0 {R : Type} (N : Nat) (k0 : Bool → Option R) (k1 : Unit → Option R) : Nat → (List Int) → (List Int) → Int → Int → Option R
  | 0, _, _, _, _ => none
  | K + 1, s11, s21, x, x1 =>
    (br (ilt x1 x)
      ((chk (inb s11 x1)
        (chk (inb s21 x1)
        (br (ine (rdI s11 x1) (rdI s21 x1))
        (k0 false)
        (slices_Equal_LI_int_l0 N k0 k1 K s11 s21 x (IntKind.i64.wrap (x1 + 1)))))))
      (k1 ()))
noncomputable def slices_Equal_LI_int_l0_again {R : Type} (N : Nat) (ks : (j : Nat) → ((slices_Equal_LI_int_l0_ex.getD j (.ret, Sh.none)).2).T → Option R) (k : Nat) (x : slices_Equal_LI_int_l0_sh.T) : Option R :=
  slices_Equal_LI_int_l0 N (fun y0 => ks 0 ((y0, ()), ())) (fun (_ : Unit) => ks 1 ((), ())) k x.1.1 x.1.2.1 x.1.2.2.1 x.1.2.2.2.1
noncomputable def slices_Equal_LI_int_l0_s (N : Nat) : LSum := ⟨slices_Equal_LI_int_l0_sh, slices_Equal_LI_int_l0_ex, fun x ks => slices_Equal_LI_int_l0_again N ks N x⟩
theorem slices_Equal_LI_int_l0_step (N : Nat) (R : Type) (k : Nat) (x : slices_Equal_LI_int_l0_sh.T) (ks : (j : Nat) → ((slices_Equal_LI_int_l0_ex.getD j (.ret, Sh.none)).2).T → Option R) : slices_Equal_LI_int_l0_again N ks (k + 1) x = roundF (slices_Equal_LI_int_G N) tab [] (loopAt slices_Equal_LI_int_code 0) slices_Equal_LI_int_l0_sh slices_Equal_LI_int_l0_ex (fun y => slices_Equal_LI_int_l0_again N ks k y) ks x := by kernel_rfl
theorem slices_Equal_LI_int_l0_ok (N : Nat) : LoopOk Tryz.prog Tryz.f168.ntmps (slices_Equal_LI_int_l0_s N) (loopAt slices_Equal_LI_int_code 0) :=
  loop_ok (l := slices_Equal_LI_int_l0_s N) progOk (slices_Equal_LI_int_gok N) (draw_ok progOk (slices_Equal_LI_int_gok N)) (fun R k x ks => slices_Equal_LI_int_l0_again N ks k x) (fun _ _ _ => rfl) (fun R k x ks => slices_Equal_LI_int_l0_step N R k x ks) (fun R x ks r h => ⟨N, h⟩) (lsOk_at (L := []) trivial) (by kernel_rfl) (by kernel_rfl)
noncomputable def slices_Equal_LI_int (N : Nat) (s1 : (List Int)) (s2 : (List Int)) : Option ((Bool × Unit) × (Unit)) :=
  (br (ine (tLen s1) (tLen s2))
    (some ((false, ()), ()))
    (slices_Equal_LI_int_l0 N (fun x => some ((x, ()), ())) (fun (_ : Unit) => some ((true, ()), ())) N s1 s2 (tLen s1) 0))
noncomputable def slices_Equal_LI_int_S (N : Nat) : FSum := ⟨slices_Equal_LI_int_ps, slices_Equal_LI_int_rs, fun x => slices_Equal_LI_int N x.1 x.2.1⟩
theorem slices_Equal_LI_int_run (N : Nat) (x : argsT slices_Equal_LI_int_ps) : slices_Equal_LI_int N x.1 x.2.1 = funF (slices_Equal_LI_int_G N) tab [slices_Equal_LI_int_l0_s N] Tryz.f168 slices_Equal_LI_int_ps slices_Equal_LI_int_rs x := by kernel_rfl
theorem slices_Equal_LI_int_pc (N : Nat) : PC Tryz.prog 168 (slices_Equal_LI_int_S N) := by
  have e : slices_Equal_LI_int_S N = ⟨slices_Equal_LI_int_ps, slices_Equal_LI_int_rs, funF (slices_Equal_LI_int_G N) tab [slices_Equal_LI_int_l0_s N] Tryz.f168 slices_Equal_LI_int_ps slices_Equal_LI_int_rs⟩ := congrArg (FSum.mk slices_Equal_LI_int_ps slices_Equal_LI_int_rs) (funext (slices_Equal_LI_int_run N))
  rw [e]
  exact fun_ok (c := slices_Equal_LI_int_code) progOk (slices_Equal_LI_int_gok N) (draw_ok progOk (slices_Equal_LI_int_gok N)) Tryz.call168 Tryz.func168 (by kernel_rfl) (lsOk_at (L := [slices_Equal_LI_int_l0_s N]) ⟨slices_Equal_LI_int_l0_ok N, trivial⟩) (by kernel_rfl) (by kernel_rfl) (by kernel_rfl) (by kernel_rfl) (by kernel_rfl)

/-! ### impl_KempeSpace_c1 -/
abbrev impl_KempeSpace_c1_ps : List (PV.Mode × Ty) := [(.ro, LI), (.ro, LI), (.ro, AQILQII)]
abbrev impl_KempeSpace_c1_rs : List (Bool × Ty) := [(true, .bool)]
noncomputable def impl_KempeSpace_c1_G (N : Nat) : GTab := gOf [(188, impl_places_S N), (189, impl_Graph_kempe_S N), (168, slices_Equal_LI_int_S N)]
theorem impl_KempeSpace_c1_gok (N : Nat) : GOk Tryz.prog (impl_KempeSpace_c1_G N) := gOf_ok ⟨impl_places_pc N, impl_Graph_kempe_pc N, slices_Equal_LI_int_pc N, trivial⟩
noncomputable def impl_KempeSpace_c1_code : Code := (Tryz.f187.body).getD .skip
noncomputable def impl_KempeSpace_c1 (N : Nat) (a : (List Int)) (b : (List Int)) (c : (Int × (List (Int × Int)))) : Option ((Bool × Unit) × (Unit)) :=
  ((impl_places N a b).bind fun r =>
    (chk (inb r.1.1 0)
      (chk (inb r.1.1 0)
      (chk (inb b (rdI r.1.1 0))
      ((impl_Graph_kempe N c a (rdI r.1.1 0) (rdI b (rdI r.1.1 0))).bind fun r1 =>
      ((slices_Equal_LI_int N r1.1.1 b).bind fun r2 =>
        some ((r2.1.1, ()), ())))))))
noncomputable def impl_KempeSpace_c1_S (N : Nat) : FSum := ⟨impl_KempeSpace_c1_ps, impl_KempeSpace_c1_rs, fun x => impl_KempeSpace_c1 N x.1 x.2.1 x.2.2.1⟩
theorem impl_KempeSpace_c1_run (N : Nat) (x : argsT impl_KempeSpace_c1_ps) : impl_KempeSpace_c1 N x.1 x.2.1 x.2.2.1 = funF (impl_KempeSpace_c1_G N) tab [] Tryz.f187 impl_KempeSpace_c1_ps impl_KempeSpace_c1_rs x := by kernel_rfl
theorem impl_KempeSpace_c1_pc (N : Nat) : PC Tryz.prog 187 (impl_KempeSpace_c1_S N) := by
  have e : impl_KempeSpace_c1_S N = ⟨impl_KempeSpace_c1_ps, impl_KempeSpace_c1_rs, funF (impl_KempeSpace_c1_G N) tab [] Tryz.f187 impl_KempeSpace_c1_ps impl_KempeSpace_c1_rs⟩ := congrArg (FSum.mk impl_KempeSpace_c1_ps impl_KempeSpace_c1_rs) (funext (impl_KempeSpace_c1_run N))
  rw [e]
  exact fun_ok (c := impl_KempeSpace_c1_code) progOk (impl_KempeSpace_c1_gok N) (draw_ok progOk (impl_KempeSpace_c1_gok N)) Tryz.call187 Tryz.func187 (by kernel_rfl) (lsOk_at (L := []) trivial) (by kernel_rfl) (by kernel_rfl) (by kernel_rfl) (by kernel_rfl) (by kernel_rfl)

/-! ### impl_KempeSpace -/
abbrev impl_KempeSpace_ps : List (PV.Mode × Ty) := [(.ro, QILQII), (.ro, I)]
abbrev impl_KempeSpace_rs : List (Bool × Ty) := [(true, QLLILQII), (true, .bool)]
noncomputable def impl_KempeSpace_G (N : Nat) : GTab := gOf [(75, impl_Colourings_S N), (158, impl_spaceOf_S N), (187, impl_KempeSpace_c1_S N), (184, impl_orNone_S N)]
theorem impl_KempeSpace_gok (N : Nat) : GOk Tryz.prog (impl_KempeSpace_G N) := gOf_ok ⟨impl_Colourings_pc N, impl_spaceOf_pc N, impl_KempeSpace_c1_pc N, impl_orNone_pc N, trivial⟩
noncomputable def impl_KempeSpace_code : Code := (Tryz.f73.body).getD .skip
noncomputable def impl_KempeSpace (N : Nat) (g : (Int × (List (Int × Int)))) (kv : Int) : Option ((((List (List Int)) × (List (Int × Int))) × Bool × Unit) × (Unit)) :=
  ((impl_Colourings N (g.1, g.2) kv).bind fun r =>
    (br (!r.1.2.1)
      (some ((([], []), false, ()), ()))
      (((impl_spaceOf N r.1.1 (fun y0 y1 => (impl_KempeSpace_c1 N y0 y1 (g.1, g.2)).bind fun z => some z.1.1)).bind fun r1 =>
        ((impl_orNone N (r1.1.1.1, r1.1.1.2)).bind fun r2 =>
          some (((r2.1.1.1, r2.1.1.2), r2.1.2.1, ()), ()))))))
noncomputable def impl_KempeSpace_S (N : Nat) : FSum := ⟨impl_KempeSpace_ps, impl_KempeSpace_rs, fun x => impl_KempeSpace N x.1 x.2.1⟩
theorem impl_KempeSpace_run (N : Nat) (x : argsT impl_KempeSpace_ps) : impl_KempeSpace N x.1 x.2.1 = funF (impl_KempeSpace_G N) tab [] Tryz.f73 impl_KempeSpace_ps impl_KempeSpace_rs x := by kernel_rfl
theorem impl_KempeSpace_pc (N : Nat) : PC Tryz.prog 73 (impl_KempeSpace_S N) := by
  have e : impl_KempeSpace_S N = ⟨impl_KempeSpace_ps, impl_KempeSpace_rs, funF (impl_KempeSpace_G N) tab [] Tryz.f73 impl_KempeSpace_ps impl_KempeSpace_rs⟩ := congrArg (FSum.mk impl_KempeSpace_ps impl_KempeSpace_rs) (funext (impl_KempeSpace_run N))
  rw [e]
  exact fun_ok (c := impl_KempeSpace_code) progOk (impl_KempeSpace_gok N) (draw_ok progOk (impl_KempeSpace_gok N)) Tryz.call73 Tryz.func73 (by kernel_rfl) (lsOk_at (L := []) trivial) (by kernel_rfl) (by kernel_rfl) (by kernel_rfl) (by kernel_rfl) (by kernel_rfl)

/-! ### spec_KempeSpace -/
abbrev spec_KempeSpace_ps : List (PV.Mode × Ty) := [(.ro, QILQII), (.ro, I)]
abbrev spec_KempeSpace_rs : List (Bool × Ty) := [(true, QLLILQII), (true, .bool)]
noncomputable def spec_KempeSpace_G (N : Nat) : GTab := gOf [(186, spec_l5Space_S N)]
theorem spec_KempeSpace_gok (N : Nat) : GOk Tryz.prog (spec_KempeSpace_G N) := gOf_ok ⟨spec_l5Space_pc N, trivial⟩
noncomputable def spec_KempeSpace_code : Code := (Tryz.f74.body).getD .skip
noncomputable def spec_KempeSpace (N : Nat) (g : (Int × (List (Int × Int)))) (kv : Int) : Option ((((List (List Int)) × (List (Int × Int))) × Bool × Unit) × (Unit)) :=
  ((spec_l5Space N (g.1, g.2) kv true).bind fun r =>
    some (((r.1.1.1, r.1.1.2), r.1.2.1, ()), ()))
noncomputable def spec_KempeSpace_S (N : Nat) : FSum := ⟨spec_KempeSpace_ps, spec_KempeSpace_rs, fun x => spec_KempeSpace N x.1 x.2.1⟩
theorem spec_KempeSpace_run (N : Nat) (x : argsT spec_KempeSpace_ps) : spec_KempeSpace N x.1 x.2.1 = funF (spec_KempeSpace_G N) tab [] Tryz.f74 spec_KempeSpace_ps spec_KempeSpace_rs x := by kernel_rfl
theorem spec_KempeSpace_pc (N : Nat) : PC Tryz.prog 74 (spec_KempeSpace_S N) := by
  have e : spec_KempeSpace_S N = ⟨spec_KempeSpace_ps, spec_KempeSpace_rs, funF (spec_KempeSpace_G N) tab [] Tryz.f74 spec_KempeSpace_ps spec_KempeSpace_rs⟩ := congrArg (FSum.mk spec_KempeSpace_ps spec_KempeSpace_rs) (funext (spec_KempeSpace_run N))
  rw [e]
  exact fun_ok (c := spec_KempeSpace_code) progOk (spec_KempeSpace_gok N) (draw_ok progOk (spec_KempeSpace_gok N)) Tryz.call74 Tryz.func74 (by kernel_rfl) (lsOk_at (L := []) trivial) (by kernel_rfl) (by kernel_rfl) (by kernel_rfl) (by kernel_rfl) (by kernel_rfl)

/-! ### spec_Colourings -/
abbrev spec_Colourings_ps : List (PV.Mode × Ty) := [(.ro, QILQII), (.ro, I)]
abbrev spec_Colourings_rs : List (Bool × Ty) := [(true, LLI), (true, .bool)]
noncomputable def spec_Colourings_G (N : Nat) : GTab := gOf [(192, spec_l5All_S N)]
theorem spec_Colourings_gok (N : Nat) : GOk Tryz.prog (spec_Colourings_G N) := gOf_ok ⟨spec_l5All_pc N, trivial⟩
noncomputable def spec_Colourings_code : Code := (Tryz.f76.body).getD .skip
noncomputable def spec_Colourings (N : Nat) (g : (Int × (List (Int × Int)))) (kv : Int) : Option (((List (List Int)) × Bool × Unit) × (Unit)) :=
  ((spec_l5All N (g.1, g.2) kv).bind fun r =>
    some ((r.1.1, r.1.2.1, ()), ()))
noncomputable def spec_Colourings_S (N : Nat) : FSum := ⟨spec_Colourings_ps, spec_Colourings_rs, fun x => spec_Colourings N x.1 x.2.1⟩
theorem spec_Colourings_run (N : Nat) (x : argsT spec_Colourings_ps) : spec_Colourings N x.1 x.2.1 = funF (spec_Colourings_G N) tab [] Tryz.f76 spec_Colourings_ps spec_Colourings_rs x := by kernel_rfl
theorem spec_Colourings_pc (N : Nat) : PC Tryz.prog 76 (spec_Colourings_S N) := by
  have e : spec_Colourings_S N = ⟨spec_Colourings_ps, spec_Colourings_rs, funF (spec_Colourings_G N) tab [] Tryz.f76 spec_Colourings_ps spec_Colourings_rs⟩ := congrArg (FSum.mk spec_Colourings_ps spec_Colourings_rs) (funext (spec_Colourings_run N))
  rw [e]
  exact fun_ok (c := spec_Colourings_code) progOk (spec_Colourings_gok N) (draw_ok progOk (spec_Colourings_gok N)) Tryz.call76 Tryz.func76 (by kernel_rfl) (lsOk_at (L := []) trivial) (by kernel_rfl) (by kernel_rfl) (by kernel_rfl) (by kernel_rfl) (by kernel_rfl)

/-! ### impl_Graph_all -/
abbrev impl_Graph_all_ps : List (PV.Mode × Ty) := [(.ro, QILQII)]
abbrev impl_Graph_all_rs : List (Bool × Ty) := [(true, U64)]
noncomputable def impl_Graph_all_G (N : Nat) : GTab := gOf []
theorem impl_Graph_all_gok (N : Nat) : GOk Tryz.prog (impl_Graph_all_G N) := gOf_ok trivial
noncomputable def impl_Graph_all_code : Code := (Tryz.f145.body).getD .skip
noncomputable def impl_Graph_all (N : Nat) (g : (Int × (List (Int × Int)))) : Option ((Int × Unit) × (Unit)) :=
  (chk (ile 0 g.1)
    (some (((IntKind.u64.wrap ((shlI .u64 1 g.1) - 1)), ()), ())))
noncomputable def impl_Graph_all_S (N : Nat) : FSum := ⟨impl_Graph_all_ps, impl_Graph_all_rs, fun x => impl_Graph_all N x.1⟩
theorem impl_Graph_all_run (N : Nat) (x : argsT impl_Graph_all_ps) : impl_Graph_all N x.1 = funF (impl_Graph_all_G N) tab [] Tryz.f145 impl_Graph_all_ps impl_Graph_all_rs x := by kernel_rfl
theorem impl_Graph_all_pc (N : Nat) : PC Tryz.prog 145 (impl_Graph_all_S N) := by
  have e : impl_Graph_all_S N = ⟨impl_Graph_all_ps, impl_Graph_all_rs, funF (impl_Graph_all_G N) tab [] Tryz.f145 impl_Graph_all_ps impl_Graph_all_rs⟩ := congrArg (FSum.mk impl_Graph_all_ps impl_Graph_all_rs) (funext (impl_Graph_all_run N))
  rw [e]
  exact fun_ok (c := impl_Graph_all_code) progOk (impl_Graph_all_gok N) (draw_ok progOk (impl_Graph_all_gok N)) Tryz.call145 Tryz.func145 (by kernel_rfl) (lsOk_at (L := []) trivial) (by kernel_rfl) (by kernel_rfl) (by kernel_rfl) (by kernel_rfl) (by kernel_rfl)

/-! ### impl_bag_list -/
abbrev impl_bag_list_ps : List (PV.Mode × Ty) := [(.ro, U64)]
abbrev impl_bag_list_rs : List (Bool × Ty) := [(true, LI)]
noncomputable def impl_bag_list_G (N : Nat) : GTab := gOf []
theorem impl_bag_list_gok (N : Nat) : GOk Tryz.prog (impl_bag_list_G N) := gOf_ok trivial
noncomputable def impl_bag_list_code : Code := (Tryz.f134.body).getD .skip
noncomputable def impl_bag_list_l0_sh : Sh := ⟨[(0, .one (.ro U64)), (3, .one (.ref 0)), (6, .one (.ro I))], [.sl 3 I .own]⟩
noncomputable def impl_bag_list_l0_ex : List (Ex × Sh) := [(.exit 0, ⟨[(3, .one (.ref 0))], [.sl 3 I .own]⟩)]
noncomputable def impl_bag_list_l0 {R : Type} (N : Nat) (k0 : (List Int) → Option R) : Nat → Int → Int → (List Int) → Option R
  | 0, _, _, _ => none
  | K + 1, b1, x, o =>
    (br (ilt x 8)
      ((chk (ile 0 x)
        (br (ieq (bitop .and .u64 (shrI .u64 b1 x) 1) 1)
        ((chk (room o [x])
          (impl_bag_list_l0 N k0 K b1 (IntKind.i64.wrap (x + 1)) (tApp o [x]))))
        (impl_bag_list_l0 N k0 K b1 (IntKind.i64.wrap (x + 1)) o))))
      (k0 o))
noncomputable def impl_bag_list_l0_again {R : Type} (N : Nat) (ks : (j : Nat) → ((impl_bag_list_l0_ex.getD j (.ret, Sh.none)).2).T → Option R) (k : Nat) (x : impl_bag_list_l0_sh.T) : Option R :=
  impl_bag_list_l0 N (fun y0 => ks 0 (((), ()), (y0, ()))) k x.1.1 x.1.2.2.1 x.2.1
noncomputable def impl_bag_list_l0_s (N : Nat) : LSum := ⟨impl_bag_list_l0_sh, impl_bag_list_l0_ex, fun x ks => impl_bag_list_l0_again N ks N x⟩
theorem impl_bag_list_l0_step (N : Nat) (R : Type) (k : Nat) (x : impl_bag_list_l0_sh.T) (ks : (j : Nat) → ((impl_bag_list_l0_ex.getD j (.ret, Sh.none)).2).T → Option R) : impl_bag_list_l0_again N ks (k + 1) x = roundF (impl_bag_list_G N) tab [] (loopAt impl_bag_list_code 0) impl_bag_list_l0_sh impl_bag_list_l0_ex (fun y => impl_bag_list_l0_again N ks k y) ks x := by kernel_rfl
theorem impl_bag_list_l0_ok (N : Nat) : LoopOk Tryz.prog Tryz.f134.ntmps (impl_bag_list_l0_s N) (loopAt impl_bag_list_code 0) :=
  loop_ok (l := impl_bag_list_l0_s N) progOk (impl_bag_list_gok N) (draw_ok progOk (impl_bag_list_gok N)) (fun R k x ks => impl_bag_list_l0_again N ks k x) (fun _ _ _ => rfl) (fun R k x ks => impl_bag_list_l0_step N R k x ks) (fun R x ks r h => ⟨N, h⟩) (lsOk_at (L := []) trivial) (by kernel_rfl) (by kernel_rfl)
noncomputable def impl_bag_list (N : Nat) (b : Int) : Option (((List Int) × Unit) × (Unit)) :=
  impl_bag_list_l0 N (fun o => some ((o, ()), ())) N b 0 []
noncomputable def impl_bag_list_S (N : Nat) : FSum := ⟨impl_bag_list_ps, impl_bag_list_rs, fun x => impl_bag_list N x.1⟩
theorem impl_bag_list_run (N : Nat) (x : argsT impl_bag_list_ps) : impl_bag_list N x.1 = funF (impl_bag_list_G N) tab [impl_bag_list_l0_s N] Tryz.f134 impl_bag_list_ps impl_bag_list_rs x := by kernel_rfl
theorem impl_bag_list_pc (N : Nat) : PC Tryz.prog 134 (impl_bag_list_S N) := by
  have e : impl_bag_list_S N = ⟨impl_bag_list_ps, impl_bag_list_rs, funF (impl_bag_list_G N) tab [impl_bag_list_l0_s N] Tryz.f134 impl_bag_list_ps impl_bag_list_rs⟩ := congrArg (FSum.mk impl_bag_list_ps impl_bag_list_rs) (funext (impl_bag_list_run N))
  rw [e]
  exact fun_ok (c := impl_bag_list_code) progOk (impl_bag_list_gok N) (draw_ok progOk (impl_bag_list_gok N)) Tryz.call134 Tryz.func134 (by kernel_rfl) (lsOk_at (L := [impl_bag_list_l0_s N]) ⟨impl_bag_list_l0_ok N, trivial⟩) (by kernel_rfl) (by kernel_rfl) (by kernel_rfl) (by kernel_rfl) (by kernel_rfl)

/-! ### impl_bagOf -/
abbrev impl_bagOf_ps : List (PV.Mode × Ty) := [(.ro, LI)]
abbrev impl_bagOf_rs : List (Bool × Ty) := [(true, U64)]
noncomputable def impl_bagOf_G (N : Nat) : GTab := gOf []
theorem impl_bagOf_gok (N : Nat) : GOk Tryz.prog (impl_bagOf_G N) := gOf_ok trivial
noncomputable def impl_bagOf_code : Code := (Tryz.f125.body).getD .skip
noncomputable def impl_bagOf_l0_sh : Sh := ⟨[(3, .one (.ro U64)), (6, .one (.ro LI)), (7, .one (.ro I)), (8, .one (.ro I))], []⟩
noncomputable def impl_bagOf_l0_ex : List (Ex × Sh) := [(.exit 0, ⟨[(3, .one (.ro U64))], []⟩)]
noncomputable def impl_bagOf_l0 {R : Type} (N : Nat) (k0 : Int → Option R) : Nat → Int → (List Int) → Int → Int → Option R
  | 0, _, _, _, _ => none
  | K + 1, out, x, x1, x2 =>
    (br (ilt x2 x1)
      ((chk (inb x x2)
        (chk (ile 0 (rdI x x2))
        (impl_bagOf_l0 N k0 K (bitop .or .u64 out (shlI .u64 1 (rdI x x2))) x x1 (IntKind.i64.wrap (x2 + 1))))))
      (k0 out))
noncomputable def impl_bagOf_l0_again {R : Type} (N : Nat) (ks : (j : Nat) → ((impl_bagOf_l0_ex.getD j (.ret, Sh.none)).2).T → Option R) (k : Nat) (x : impl_bagOf_l0_sh.T) : Option R :=
  impl_bagOf_l0 N (fun y0 => ks 0 ((y0, ()), ())) k x.1.1 x.1.2.1 x.1.2.2.1 x.1.2.2.2.1
noncomputable def impl_bagOf_l0_s (N : Nat) : LSum := ⟨impl_bagOf_l0_sh, impl_bagOf_l0_ex, fun x ks => impl_bagOf_l0_again N ks N x⟩
theorem impl_bagOf_l0_step (N : Nat) (R : Type) (k : Nat) (x : impl_bagOf_l0_sh.T) (ks : (j : Nat) → ((impl_bagOf_l0_ex.getD j (.ret, Sh.none)).2).T → Option R) : impl_bagOf_l0_again N ks (k + 1) x = roundF (impl_bagOf_G N) tab [] (loopAt impl_bagOf_code 0) impl_bagOf_l0_sh impl_bagOf_l0_ex (fun y => impl_bagOf_l0_again N ks k y) ks x := by kernel_rfl
theorem impl_bagOf_l0_ok (N : Nat) : LoopOk Tryz.prog Tryz.f125.ntmps (impl_bagOf_l0_s N) (loopAt impl_bagOf_code 0) :=
  loop_ok (l := impl_bagOf_l0_s N) progOk (impl_bagOf_gok N) (draw_ok progOk (impl_bagOf_gok N)) (fun R k x ks => impl_bagOf_l0_again N ks k x) (fun _ _ _ => rfl) (fun R k x ks => impl_bagOf_l0_step N R k x ks) (fun R x ks r h => ⟨N, h⟩) (lsOk_at (L := []) trivial) (by kernel_rfl) (by kernel_rfl)
noncomputable def impl_bagOf (N : Nat) (list : (List Int)) : Option ((Int × Unit) × (Unit)) :=
  impl_bagOf_l0 N (fun out => some ((out, ()), ())) N 0 list (tLen list) 0
noncomputable def impl_bagOf_S (N : Nat) : FSum := ⟨impl_bagOf_ps, impl_bagOf_rs, fun x => impl_bagOf N x.1⟩
theorem impl_bagOf_run (N : Nat) (x : argsT impl_bagOf_ps) : impl_bagOf N x.1 = funF (impl_bagOf_G N) tab [impl_bagOf_l0_s N] Tryz.f125 impl_bagOf_ps impl_bagOf_rs x := by kernel_rfl
theorem impl_bagOf_pc (N : Nat) : PC Tryz.prog 125 (impl_bagOf_S N) := by
  have e : impl_bagOf_S N = ⟨impl_bagOf_ps, impl_bagOf_rs, funF (impl_bagOf_G N) tab [impl_bagOf_l0_s N] Tryz.f125 impl_bagOf_ps impl_bagOf_rs⟩ := congrArg (FSum.mk impl_bagOf_ps impl_bagOf_rs) (funext (impl_bagOf_run N))
  rw [e]
  exact fun_ok (c := impl_bagOf_code) progOk (impl_bagOf_gok N) (draw_ok progOk (impl_bagOf_gok N)) Tryz.call125 Tryz.func125 (by kernel_rfl) (lsOk_at (L := [impl_bagOf_l0_s N]) ⟨impl_bagOf_l0_ok N, trivial⟩) (by kernel_rfl) (by kernel_rfl) (by kernel_rfl) (by kernel_rfl) (by kernel_rfl)

/-! ### math_bits_OnesCount64 -/
abbrev math_bits_OnesCount64_ps : List (PV.Mode × Ty) := [(.ro, U64)]
abbrev math_bits_OnesCount64_rs : List (Bool × Ty) := [(true, I)]
noncomputable def math_bits_OnesCount64_G (N : Nat) : GTab := gOf []
theorem math_bits_OnesCount64_gok (N : Nat) : GOk Tryz.prog (math_bits_OnesCount64_G N) := gOf_ok trivial
noncomputable def math_bits_OnesCount64_code : Code := (Tryz.f326.body).getD .skip
noncomputable def math_bits_OnesCount64 (N : Nat) (x : Int) : Option ((Int × Unit) × (Unit)) :=
  some (((bitop .and .i64 (IntKind.i64.wrap ((IntKind.u64.wrap ((IntKind.u64.wrap ((IntKind.u64.wrap ((bitop .and .u64 (IntKind.u64.wrap ((shrI .u64 (IntKind.u64.wrap ((bitop .and .u64 (shrI .u64 (IntKind.u64.wrap ((bitop .and .u64 (shrI .u64 x 1) 6148914691236517205) + (bitop .and .u64 x 6148914691236517205))) 2) 3689348814741910323) + (bitop .and .u64 (IntKind.u64.wrap ((bitop .and .u64 (shrI .u64 x 1) 6148914691236517205) + (bitop .and .u64 x 6148914691236517205))) 3689348814741910323))) 4) + (IntKind.u64.wrap ((bitop .and .u64 (shrI .u64 (IntKind.u64.wrap ((bitop .and .u64 (shrI .u64 x 1) 6148914691236517205) + (bitop .and .u64 x 6148914691236517205))) 2) 3689348814741910323) + (bitop .and .u64 (IntKind.u64.wrap ((bitop .and .u64 (shrI .u64 x 1) 6148914691236517205) + (bitop .and .u64 x 6148914691236517205))) 3689348814741910323))))) 1085102592571150095) + (shrI .u64 (bitop .and .u64 (IntKind.u64.wrap ((shrI .u64 (IntKind.u64.wrap ((bitop .and .u64 (shrI .u64 (IntKind.u64.wrap ((bitop .and .u64 (shrI .u64 x 1) 6148914691236517205) + (bitop .and .u64 x 6148914691236517205))) 2) 3689348814741910323) + (bitop .and .u64 (IntKind.u64.wrap ((bitop .and .u64 (shrI .u64 x 1) 6148914691236517205) + (bitop .and .u64 x 6148914691236517205))) 3689348814741910323))) 4) + (IntKind.u64.wrap ((bitop .and .u64 (shrI .u64 (IntKind.u64.wrap ((bitop .and .u64 (shrI .u64 x 1) 6148914691236517205) + (bitop .and .u64 x 6148914691236517205))) 2) 3689348814741910323) + (bitop .and .u64 (IntKind.u64.wrap ((bitop .and .u64 (shrI .u64 x 1) 6148914691236517205) + (bitop .and .u64 x 6148914691236517205))) 3689348814741910323))))) 1085102592571150095) 8))) + (shrI .u64 (IntKind.u64.wrap ((bitop .and .u64 (IntKind.u64.wrap ((shrI .u64 (IntKind.u64.wrap ((bitop .and .u64 (shrI .u64 (IntKind.u64.wrap ((bitop .and .u64 (shrI .u64 x 1) 6148914691236517205) + (bitop .and .u64 x 6148914691236517205))) 2) 3689348814741910323) + (bitop .and .u64 (IntKind.u64.wrap ((bitop .and .u64 (shrI .u64 x 1) 6148914691236517205) + (bitop .and .u64 x 6148914691236517205))) 3689348814741910323))) 4) + (IntKind.u64.wrap ((bitop .and .u64 (shrI .u64 (IntKind.u64.wrap ((bitop .and .u64 (shrI .u64 x 1) 6148914691236517205) + (bitop .and .u64 x 6148914691236517205))) 2) 3689348814741910323) + (bitop .and .u64 (IntKind.u64.wrap ((bitop .and .u64 (shrI .u64 x 1) 6148914691236517205) + (bitop .and .u64 x 6148914691236517205))) 3689348814741910323))))) 1085102592571150095) + (shrI .u64 (bitop .and .u64 (IntKind.u64.wrap ((shrI .u64 (IntKind.u64.wrap ((bitop .and .u64 (shrI .u64 (IntKind.u64.wrap ((bitop .and .u64 (shrI .u64 x 1) 6148914691236517205) + (bitop .and .u64 x 6148914691236517205))) 2) 3689348814741910323) + (bitop .and .u64 (IntKind.u64.wrap ((bitop .and .u64 (shrI .u64 x 1) 6148914691236517205) + (bitop .and .u64 x 6148914691236517205))) 3689348814741910323))) 4) + (IntKind.u64.wrap ((bitop .and .u64 (shrI .u64 (IntKind.u64.wrap ((bitop .and .u64 (shrI .u64 x 1) 6148914691236517205) + (bitop .and .u64 x 6148914691236517205))) 2) 3689348814741910323) + (bitop .and .u64 (IntKind.u64.wrap ((bitop .and .u64 (shrI .u64 x 1) 6148914691236517205) + (bitop .and .u64 x 6148914691236517205))) 3689348814741910323))))) 1085102592571150095) 8))) 16))) + (shrI .u64 (IntKind.u64.wrap ((IntKind.u64.wrap ((bitop .and .u64 (IntKind.u64.wrap ((shrI .u64 (IntKind.u64.wrap ((bitop .and .u64 (shrI .u64 (IntKind.u64.wrap ((bitop .and .u64 (shrI .u64 x 1) 6148914691236517205) + (bitop .and .u64 x 6148914691236517205))) 2) 3689348814741910323) + (bitop .and .u64 (IntKind.u64.wrap ((bitop .and .u64 (shrI .u64 x 1) 6148914691236517205) + (bitop .and .u64 x 6148914691236517205))) 3689348814741910323))) 4) + (IntKind.u64.wrap ((bitop .and .u64 (shrI .u64 (IntKind.u64.wrap ((bitop .and .u64 (shrI .u64 x 1) 6148914691236517205) + (bitop .and .u64 x 6148914691236517205))) 2) 3689348814741910323) + (bitop .and .u64 (IntKind.u64.wrap ((bitop .and .u64 (shrI .u64 x 1) 6148914691236517205) + (bitop .and .u64 x 6148914691236517205))) 3689348814741910323))))) 1085102592571150095) + (shrI .u64 (bitop .and .u64 (IntKind.u64.wrap ((shrI .u64 (IntKind.u64.wrap ((bitop .and .u64 (shrI .u64 (IntKind.u64.wrap ((bitop .and .u64 (shrI .u64 x 1) 6148914691236517205) + (bitop .and .u64 x 6148914691236517205))) 2) 3689348814741910323) + (bitop .and .u64 (IntKind.u64.wrap ((bitop .and .u64 (shrI .u64 x 1) 6148914691236517205) + (bitop .and .u64 x 6148914691236517205))) 3689348814741910323))) 4) + (IntKind.u64.wrap ((bitop .and .u64 (shrI .u64 (IntKind.u64.wrap ((bitop .and .u64 (shrI .u64 x 1) 6148914691236517205) + (bitop .and .u64 x 6148914691236517205))) 2) 3689348814741910323) + (bitop .and .u64 (IntKind.u64.wrap ((bitop .and .u64 (shrI .u64 x 1) 6148914691236517205) + (bitop .and .u64 x 6148914691236517205))) 3689348814741910323))))) 1085102592571150095) 8))) + (shrI .u64 (IntKind.u64.wrap ((bitop .and .u64 (IntKind.u64.wrap ((shrI .u64 (IntKind.u64.wrap ((bitop .and .u64 (shrI .u64 (IntKind.u64.wrap ((bitop .and .u64 (shrI .u64 x 1) 6148914691236517205) + (bitop .and .u64 x 6148914691236517205))) 2) 3689348814741910323) + (bitop .and .u64 (IntKind.u64.wrap ((bitop .and .u64 (shrI .u64 x 1) 6148914691236517205) + (bitop .and .u64 x 6148914691236517205))) 3689348814741910323))) 4) + (IntKind.u64.wrap ((bitop .and .u64 (shrI .u64 (IntKind.u64.wrap ((bitop .and .u64 (shrI .u64 x 1) 6148914691236517205) + (bitop .and .u64 x 6148914691236517205))) 2) 3689348814741910323) + (bitop .and .u64 (IntKind.u64.wrap ((bitop .and .u64 (shrI .u64 x 1) 6148914691236517205) + (bitop .and .u64 x 6148914691236517205))) 3689348814741910323))))) 1085102592571150095) + (shrI .u64 (bitop .and .u64 (IntKind.u64.wrap ((shrI .u64 (IntKind.u64.wrap ((bitop .and .u64 (shrI .u64 (IntKind.u64.wrap ((bitop .and .u64 (shrI .u64 x 1) 6148914691236517205) + (bitop .and .u64 x 6148914691236517205))) 2) 3689348814741910323) + (bitop .and .u64 (IntKind.u64.wrap ((bitop .and .u64 (shrI .u64 x 1) 6148914691236517205) + (bitop .and .u64 x 6148914691236517205))) 3689348814741910323))) 4) + (IntKind.u64.wrap ((bitop .and .u64 (shrI .u64 (IntKind.u64.wrap ((bitop .and .u64 (shrI .u64 x 1) 6148914691236517205) + (bitop .and .u64 x 6148914691236517205))) 2) 3689348814741910323) + (bitop .and .u64 (IntKind.u64.wrap ((bitop .and .u64 (shrI .u64 x 1) 6148914691236517205) + (bitop .and .u64 x 6148914691236517205))) 3689348814741910323))))) 1085102592571150095) 8))) 16))) 32))))) 127), ()), ())
noncomputable def math_bits_OnesCount64_S (N : Nat) : FSum := ⟨math_bits_OnesCount64_ps, math_bits_OnesCount64_rs, fun x => math_bits_OnesCount64 N x.1⟩
theorem math_bits_OnesCount64_run (N : Nat) (x : argsT math_bits_OnesCount64_ps) : math_bits_OnesCount64 N x.1 = funF (math_bits_OnesCount64_G N) tab [] Tryz.f326 math_bits_OnesCount64_ps math_bits_OnesCount64_rs x := by kernel_rfl
theorem math_bits_OnesCount64_pc (N : Nat) : PC Tryz.prog 326 (math_bits_OnesCount64_S N) := by
  have e : math_bits_OnesCount64_S N = ⟨math_bits_OnesCount64_ps, math_bits_OnesCount64_rs, funF (math_bits_OnesCount64_G N) tab [] Tryz.f326 math_bits_OnesCount64_ps math_bits_OnesCount64_rs⟩ := congrArg (FSum.mk math_bits_OnesCount64_ps math_bits_OnesCount64_rs) (funext (math_bits_OnesCount64_run N))
  rw [e]
  exact fun_ok (c := math_bits_OnesCount64_code) progOk (math_bits_OnesCount64_gok N) (draw_ok progOk (math_bits_OnesCount64_gok N)) Tryz.call326 Tryz.func326 (by kernel_rfl) (lsOk_at (L := []) trivial) (by kernel_rfl) (by kernel_rfl) (by kernel_rfl) (by kernel_rfl) (by kernel_rfl)

/-! ### math_bits_OnesCount -/
abbrev math_bits_OnesCount_ps : List (PV.Mode × Ty) := [(.ro, U64)]
abbrev math_bits_OnesCount_rs : List (Bool × Ty) := [(true, I)]
noncomputable def math_bits_OnesCount_G (N : Nat) : GTab := gOf [(326, math_bits_OnesCount64_S N)]
theorem math_bits_OnesCount_gok (N : Nat) : GOk Tryz.prog (math_bits_OnesCount_G N) := gOf_ok ⟨math_bits_OnesCount64_pc N, trivial⟩
noncomputable def math_bits_OnesCount_code : Code := (Tryz.f268.body).getD .skip
noncomputable def math_bits_OnesCount (N : Nat) (x : Int) : Option ((Int × Unit) × (Unit)) :=
  ((math_bits_OnesCount64 N x).bind fun r =>
    some ((r.1.1, ()), ()))
noncomputable def math_bits_OnesCount_S (N : Nat) : FSum := ⟨math_bits_OnesCount_ps, math_bits_OnesCount_rs, fun x => math_bits_OnesCount N x.1⟩
theorem math_bits_OnesCount_run (N : Nat) (x : argsT math_bits_OnesCount_ps) : math_bits_OnesCount N x.1 = funF (math_bits_OnesCount_G N) tab [] Tryz.f268 math_bits_OnesCount_ps math_bits_OnesCount_rs x := by kernel_rfl
theorem math_bits_OnesCount_pc (N : Nat) : PC Tryz.prog 268 (math_bits_OnesCount_S N) := by
  have e : math_bits_OnesCount_S N = ⟨math_bits_OnesCount_ps, math_bits_OnesCount_rs, funF (math_bits_OnesCount_G N) tab [] Tryz.f268 math_bits_OnesCount_ps math_bits_OnesCount_rs⟩ := congrArg (FSum.mk math_bits_OnesCount_ps math_bits_OnesCount_rs) (funext (math_bits_OnesCount_run N))
  rw [e]
  exact fun_ok (c := math_bits_OnesCount_code) progOk (math_bits_OnesCount_gok N) (draw_ok progOk (math_bits_OnesCount_gok N)) Tryz.call268 Tryz.func268 (by kernel_rfl) (lsOk_at (L := []) trivial) (by kernel_rfl) (by kernel_rfl) (by kernel_rfl) (by kernel_rfl) (by kernel_rfl)
end Go.Proofs.YtbnjcjpnpidhmaaGreat
