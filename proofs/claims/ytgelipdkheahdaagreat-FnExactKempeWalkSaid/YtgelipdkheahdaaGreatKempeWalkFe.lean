/- Functions of the program as functions on data. -/
import Derived.Test.YtgelipdkheahdaaGreatKempeWalkFd
set_option linter.all false
namespace Go.Proofs.YtgelipdkheahdaaGreat
open Go Go.PV
/-! ### impl_Space_firstWay -/
abbrev impl_Space_firstWay_ps : List (PV.Mode × Ty) := [(.ro, QLLILQII), (.ro, I), (.ro, I)]
abbrev impl_Space_firstWay_rs : List (Bool × Ty) := [(true, LI), (true, .bool)]
noncomputable def impl_Space_firstWay_G (N : Nat) : GTab := gOf [(66, impl_Space_roads_S N), (65, impl_spread_S N)]
theorem impl_Space_firstWay_gok (N : Nat) : GOk Tryz.prog (impl_Space_firstWay_G N) := gOf_ok ⟨impl_Space_roads_pc N, impl_spread_pc N, trivial⟩
noncomputable def impl_Space_firstWay_code : Code := (Tryz.f96.body).getD .skip
noncomputable def impl_Space_firstWay_l0_0_sh : Sh := ⟨[(1, .one (.ro I)), (2, .one (.ro I)), (8, .one (.ref 0)), (9, .one (.ref 1)), (10, .one (.ref 2)), (31, .one (.el 0)), (32, .one (.ro I)), (33, .one (.ro I))], [.sl 40 LI .deep, .sl 3 I .own, .sl 3 I .own]⟩
noncomputable def impl_Space_firstWay_l0_0_ex : List (Ex × Sh) := [(.exit 2, ⟨[(1, .one (.ro I)), (2, .one (.ro I)), (8, .one (.ref 0)), (9, .one (.ref 1)), (10, .one (.ref 2))], [.sl 40 LI .deep, .sl 3 I .own, .sl 3 I .own]⟩)]
noncomputable def impl_Space_firstWay_l0_0 {R : Type} (N : Nat) (k0 : Int → Int → (List (List Int)) → (List Int) → (List Int) → Option R) : Nat → Int → Int → Int → Int → Int → (List (List Int)) → (List Int) → (List Int) → Option R
  | 0, _, _, _, _, _, _, _, _ => none
  | K + 1, i2, j2, x1, x2, x3, o3, o4, o5 =>
    (br (ilt x3 x2)
      ((chk (inb (rdL o3 x1) x3)
        (chk (inb o4 (rdI (rdL o3 x1) x3))
        (chk (inb o4 i2)
        (br (ieq (rdI o4 (rdI (rdL o3 x1) x3)) (IntKind.i64.wrap ((rdI o4 i2) - 1)))
        (k0 (rdI (rdL o3 x1) x3) j2 o3 o4 o5)
        (impl_Space_firstWay_l0_0 N k0 K i2 j2 x1 x2 (IntKind.i64.wrap (x3 + 1)) o3 o4 o5))))))
      (k0 i2 j2 o3 o4 o5))
noncomputable def impl_Space_firstWay_l0_0_again {R : Type} (N : Nat) (ks : (j : Nat) → ((impl_Space_firstWay_l0_0_ex.getD j (.ret, Sh.none)).2).T → Option R) (k : Nat) (x : impl_Space_firstWay_l0_0_sh.T) : Option R :=
  impl_Space_firstWay_l0_0 N (fun y0 y1 y2 y3 y4 => ks 0 ((y0, y1, (), (), (), ()), (y2, y3, y4, ()))) k x.1.1 x.1.2.1 x.1.2.2.2.2.2.1 x.1.2.2.2.2.2.2.1 x.1.2.2.2.2.2.2.2.1 x.2.1 x.2.2.1 x.2.2.2.1
noncomputable def impl_Space_firstWay_l0_0_s (N : Nat) : LSum := ⟨impl_Space_firstWay_l0_0_sh, impl_Space_firstWay_l0_0_ex, fun x ks => impl_Space_firstWay_l0_0_again N ks N x⟩
theorem impl_Space_firstWay_l0_0_step (N : Nat) (R : Type) (k : Nat) (x : impl_Space_firstWay_l0_0_sh.T) (ks : (j : Nat) → ((impl_Space_firstWay_l0_0_ex.getD j (.ret, Sh.none)).2).T → Option R) : impl_Space_firstWay_l0_0_again N ks (k + 1) x = roundF (impl_Space_firstWay_G N) tab [] (loopAt (loopAt impl_Space_firstWay_code 0) 0) impl_Space_firstWay_l0_0_sh impl_Space_firstWay_l0_0_ex (fun y => impl_Space_firstWay_l0_0_again N ks k y) ks x := by kernel_rfl
theorem impl_Space_firstWay_l0_0_ok (N : Nat) : LoopOk Tryz.prog Tryz.f96.ntmps (impl_Space_firstWay_l0_0_s N) (loopAt (loopAt impl_Space_firstWay_code 0) 0) :=
  loop_ok (l := impl_Space_firstWay_l0_0_s N) progOk (impl_Space_firstWay_gok N) (draw_ok progOk (impl_Space_firstWay_gok N)) (fun R k x ks => impl_Space_firstWay_l0_0_again N ks k x) (fun _ _ _ => rfl) (fun R k x ks => impl_Space_firstWay_l0_0_step N R k x ks) (fun R x ks r h => ⟨N, h⟩) (lsOk_at (L := []) trivial) (by kernel_rfl) (by kernel_rfl)
noncomputable def impl_Space_firstWay_l0_sh : Sh := ⟨[(1, .one (.ro I)), (2, .one (.ro I)), (8, .one (.ref 0)), (9, .one (.ref 1)), (10, .one (.ref 2))], [.sl 40 LI .deep, .sl 3 I .own, .sl 3 I .own]⟩
noncomputable def impl_Space_firstWay_l0_ex : List (Ex × Sh) := [(.exit 0, ⟨[(10, .one (.ref 0))], [.sl 3 I .own]⟩)]
noncomputable def impl_Space_firstWay_l0 {R : Type} (N : Nat) (k0 : (List Int) → Option R) : Nat → Int → Int → (List (List Int)) → (List Int) → (List Int) → Option R
  | 0, _, _, _, _, _ => none
  | K + 1, i1, j1, o, o1, o2 =>
    (br (ine i1 j1)
      ((chk (inb o i1)
        (impl_Space_firstWay_l0_0 N (fun i2 j2 o3 o4 o5 => (chk (room o5 [i2])
        (impl_Space_firstWay_l0 N k0 K i2 j2 o3 o4 (tApp o5 [i2])))) N i1 j1 i1 (tLen (rdL o i1)) 0 o o1 o2)))
      (k0 o2))
noncomputable def impl_Space_firstWay_l0_again {R : Type} (N : Nat) (ks : (j : Nat) → ((impl_Space_firstWay_l0_ex.getD j (.ret, Sh.none)).2).T → Option R) (k : Nat) (x : impl_Space_firstWay_l0_sh.T) : Option R :=
  impl_Space_firstWay_l0 N (fun y0 => ks 0 (((), ()), (y0, ()))) k x.1.1 x.1.2.1 x.2.1 x.2.2.1 x.2.2.2.1
noncomputable def impl_Space_firstWay_l0_s (N : Nat) : LSum := ⟨impl_Space_firstWay_l0_sh, impl_Space_firstWay_l0_ex, fun x ks => impl_Space_firstWay_l0_again N ks N x⟩
theorem impl_Space_firstWay_l0_step (N : Nat) (R : Type) (k : Nat) (x : impl_Space_firstWay_l0_sh.T) (ks : (j : Nat) → ((impl_Space_firstWay_l0_ex.getD j (.ret, Sh.none)).2).T → Option R) : impl_Space_firstWay_l0_again N ks (k + 1) x = roundF (impl_Space_firstWay_G N) tab [impl_Space_firstWay_l0_0_s N] (loopAt impl_Space_firstWay_code 0) impl_Space_firstWay_l0_sh impl_Space_firstWay_l0_ex (fun y => impl_Space_firstWay_l0_again N ks k y) ks x := by kernel_rfl
theorem impl_Space_firstWay_l0_ok (N : Nat) : LoopOk Tryz.prog Tryz.f96.ntmps (impl_Space_firstWay_l0_s N) (loopAt impl_Space_firstWay_code 0) :=
  loop_ok (l := impl_Space_firstWay_l0_s N) progOk (impl_Space_firstWay_gok N) (draw_ok progOk (impl_Space_firstWay_gok N)) (fun R k x ks => impl_Space_firstWay_l0_again N ks k x) (fun _ _ _ => rfl) (fun R k x ks => impl_Space_firstWay_l0_step N R k x ks) (fun R x ks r h => ⟨N, h⟩) (lsOk_at (L := [impl_Space_firstWay_l0_0_s N]) ⟨impl_Space_firstWay_l0_0_ok N, trivial⟩) (by kernel_rfl) (by kernel_rfl)
noncomputable def impl_Space_firstWay (N : Nat) (x : ((List (List Int)) × (List (Int × Int)))) (i : Int) (j : Int) : Option (((List Int) × Bool × Unit) × (Unit)) :=
  ((impl_Space_roads N (x.1, x.2)).bind fun r =>
    ((impl_spread N r.1.1 j).bind fun r1 =>
      (chk (inb r1.1.1 i)
        (br (ilt (rdI r1.1.1 i) 0)
        (some (([], false, ()), ()))
        (impl_Space_firstWay_l0 N (fun o => some ((o, true, ()), ())) N i j r.1.1 r1.1.1 [i])))))
noncomputable def impl_Space_firstWay_S (N : Nat) : FSum := ⟨impl_Space_firstWay_ps, impl_Space_firstWay_rs, fun x => impl_Space_firstWay N x.1 x.2.1 x.2.2.1⟩
theorem impl_Space_firstWay_run (N : Nat) (x : argsT impl_Space_firstWay_ps) : impl_Space_firstWay N x.1 x.2.1 x.2.2.1 = funF (impl_Space_firstWay_G N) tab [impl_Space_firstWay_l0_s N] Tryz.f96 impl_Space_firstWay_ps impl_Space_firstWay_rs x := by kernel_rfl
theorem impl_Space_firstWay_pc (N : Nat) : PC Tryz.prog 96 (impl_Space_firstWay_S N) := by
  have e : impl_Space_firstWay_S N = ⟨impl_Space_firstWay_ps, impl_Space_firstWay_rs, funF (impl_Space_firstWay_G N) tab [impl_Space_firstWay_l0_s N] Tryz.f96 impl_Space_firstWay_ps impl_Space_firstWay_rs⟩ := congrArg (FSum.mk impl_Space_firstWay_ps impl_Space_firstWay_rs) (funext (impl_Space_firstWay_run N))
  rw [e]
  exact fun_ok (c := impl_Space_firstWay_code) progOk (impl_Space_firstWay_gok N) (draw_ok progOk (impl_Space_firstWay_gok N)) Tryz.call96 Tryz.func96 (by kernel_rfl) (lsOk_at (L := [impl_Space_firstWay_l0_s N]) ⟨impl_Space_firstWay_l0_ok N, trivial⟩) (by kernel_rfl) (by kernel_rfl) (by kernel_rfl) (by kernel_rfl) (by kernel_rfl)

/-! ### impl_Space_walk -/
abbrev impl_Space_walk_ps : List (PV.Mode × Ty) := [(.ro, QLLILQII), (.ro, LI), (.ro, LI)]
abbrev impl_Space_walk_rs : List (Bool × Ty) := [(true, LLI), (true, .bool)]
noncomputable def impl_Space_walk_G (N : Nat) : GTab := gOf [(64, impl_Space_place_S N), (96, impl_Space_firstWay_S N), (84, slices_Clone_LI_int_S N)]
theorem impl_Space_walk_gok (N : Nat) : GOk Tryz.prog (impl_Space_walk_G N) := gOf_ok ⟨impl_Space_place_pc N, impl_Space_firstWay_pc N, slices_Clone_LI_int_pc N, trivial⟩
noncomputable def impl_Space_walk_code : Code := (Tryz.f58.body).getD .skip
noncomputable def impl_Space_walk_l0_sh : Sh := ⟨[(3, .one (.adr 0 0)), (13, .one (.ro .bool)), (14, .one (.ref 1)), (43, .one (.ref 2)), (44, .one (.ro I)), (45, .one (.ro I))], [.box [.ro LLI, .ro LQII], .sl 40 LI .deep, .sl 3 I .own]⟩
noncomputable def impl_Space_walk_l0_ex : List (Ex × Sh) := [(.exit 0, ⟨[(13, .one (.ro .bool)), (14, .one (.ref 0))], [.sl 40 LI .deep]⟩)]
noncomputable def impl_Space_walk_l0 {R : Type} (N : Nat) (k0 : Bool → (List (List Int)) → Option R) : Nat → Bool → Int → Int → (List (List Int)) → (List (Int × Int)) → (List (List Int)) → (List Int) → Option R
  | 0, _, _, _, _, _, _, _ => none
  | K + 1, ok, x1, x2, o, o1, o2, o3 =>
    (br (ilt x2 x1)
      ((chk (inb o3 x2)
        (chk (inb o (rdI o3 x2))
        ((slices_Clone_LI_int N (rdL o (rdI o3 x2))).bind fun r3 =>
        (chk (room o2 [r3.1.1])
          (impl_Space_walk_l0 N k0 K ok x1 (IntKind.i64.wrap (x2 + 1)) o o1 (tApp o2 [r3.1.1]) o3))))))
      (k0 ok o2))
noncomputable def impl_Space_walk_l0_again {R : Type} (N : Nat) (ks : (j : Nat) → ((impl_Space_walk_l0_ex.getD j (.ret, Sh.none)).2).T → Option R) (k : Nat) (x : impl_Space_walk_l0_sh.T) : Option R :=
  impl_Space_walk_l0 N (fun y0 y1 => ks 0 ((y0, (), ()), (y1, ()))) k x.1.2.1 x.1.2.2.2.2.1 x.1.2.2.2.2.2.1 x.2.1.1 x.2.1.2.1 x.2.2.1 x.2.2.2.1
noncomputable def impl_Space_walk_l0_s (N : Nat) : LSum := ⟨impl_Space_walk_l0_sh, impl_Space_walk_l0_ex, fun x ks => impl_Space_walk_l0_again N ks N x⟩
theorem impl_Space_walk_l0_step (N : Nat) (R : Type) (k : Nat) (x : impl_Space_walk_l0_sh.T) (ks : (j : Nat) → ((impl_Space_walk_l0_ex.getD j (.ret, Sh.none)).2).T → Option R) : impl_Space_walk_l0_again N ks (k + 1) x = roundF (impl_Space_walk_G N) tab [] (loopAt impl_Space_walk_code 0) impl_Space_walk_l0_sh impl_Space_walk_l0_ex (fun y => impl_Space_walk_l0_again N ks k y) ks x := by kernel_rfl
theorem impl_Space_walk_l0_ok (N : Nat) : LoopOk Tryz.prog Tryz.f58.ntmps (impl_Space_walk_l0_s N) (loopAt impl_Space_walk_code 0) :=
  loop_ok (l := impl_Space_walk_l0_s N) progOk (impl_Space_walk_gok N) (draw_ok progOk (impl_Space_walk_gok N)) (fun R k x ks => impl_Space_walk_l0_again N ks k x) (fun _ _ _ => rfl) (fun R k x ks => impl_Space_walk_l0_step N R k x ks) (fun R x ks r h => ⟨N, h⟩) (lsOk_at (L := []) trivial) (by kernel_rfl) (by kernel_rfl)
noncomputable def impl_Space_walk (N : Nat) (x : ((List (List Int)) × (List (Int × Int)))) (a : (List Int)) (b : (List Int)) : Option (((List (List Int)) × Bool × Unit) × (Unit)) :=
  ((impl_Space_place N (x.1, x.2) a).bind fun r =>
    ((impl_Space_place N (x.1, x.2) b).bind fun r1 =>
      (br (!r.1.2.1)
        (some (([], false, ()), ()))
        ((br (!r1.1.2.1)
          (some (([], false, ()), ()))
          (((impl_Space_firstWay N (x.1, x.2) r.1.1 r1.1.1).bind fun r2 =>
            impl_Space_walk_l0 N (fun ok o => some ((o, ok, ()), ())) N r2.1.2.1 (tLen r2.1.1) 0 x.1 x.2 [] r2.1.1)))))))
noncomputable def impl_Space_walk_S (N : Nat) : FSum := ⟨impl_Space_walk_ps, impl_Space_walk_rs, fun x => impl_Space_walk N x.1 x.2.1 x.2.2.1⟩
theorem impl_Space_walk_run (N : Nat) (x : argsT impl_Space_walk_ps) : impl_Space_walk N x.1 x.2.1 x.2.2.1 = funF (impl_Space_walk_G N) tab [impl_Space_walk_l0_s N] Tryz.f58 impl_Space_walk_ps impl_Space_walk_rs x := by kernel_rfl
theorem impl_Space_walk_pc (N : Nat) : PC Tryz.prog 58 (impl_Space_walk_S N) := by
  have e : impl_Space_walk_S N = ⟨impl_Space_walk_ps, impl_Space_walk_rs, funF (impl_Space_walk_G N) tab [impl_Space_walk_l0_s N] Tryz.f58 impl_Space_walk_ps impl_Space_walk_rs⟩ := congrArg (FSum.mk impl_Space_walk_ps impl_Space_walk_rs) (funext (impl_Space_walk_run N))
  rw [e]
  exact fun_ok (c := impl_Space_walk_code) progOk (impl_Space_walk_gok N) (draw_ok progOk (impl_Space_walk_gok N)) Tryz.call58 Tryz.func58 (by kernel_rfl) (lsOk_at (L := [impl_Space_walk_l0_s N]) ⟨impl_Space_walk_l0_ok N, trivial⟩) (by kernel_rfl) (by kernel_rfl) (by kernel_rfl) (by kernel_rfl) (by kernel_rfl)

/-! ### impl_KempeWalk -/
abbrev impl_KempeWalk_ps : List (PV.Mode × Ty) := [(.ro, QILQII), (.ro, I), (.ro, LI), (.ro, LI)]
abbrev impl_KempeWalk_rs : List (Bool × Ty) := [(true, LLI), (true, .bool)]
noncomputable def impl_KempeWalk_G (N : Nat) : GTab := gOf [(12, impl_KempeSpace_S N), (63, impl_isColoured_S N), (58, impl_Space_walk_S N)]
theorem impl_KempeWalk_gok (N : Nat) : GOk Tryz.prog (impl_KempeWalk_G N) := gOf_ok ⟨impl_KempeSpace_pc N, impl_isColoured_pc N, impl_Space_walk_pc N, trivial⟩
noncomputable def impl_KempeWalk_code : Code := (Tryz.f36.body).getD .skip
noncomputable def impl_KempeWalk (N : Nat) (g : (Int × (List (Int × Int)))) (kv : Int) (a : (List Int)) (b : (List Int)) : Option (((List (List Int)) × Bool × Unit) × (Unit)) :=
  ((impl_KempeSpace N (g.1, g.2) kv).bind fun r =>
    (br (!r.1.2.1)
      (some (([], false, ()), ()))
      (((impl_isColoured N (g.1, g.2) kv [a, b]).bind fun r1 =>
        (br (!r1.1.1)
          (some (([], false, ()), ()))
          (((impl_Space_walk N (r.1.1.1, r.1.1.2) a b).bind fun r2 =>
            some ((r2.1.1, r2.1.2.1, ()), ()))))))))
noncomputable def impl_KempeWalk_S (N : Nat) : FSum := ⟨impl_KempeWalk_ps, impl_KempeWalk_rs, fun x => impl_KempeWalk N x.1 x.2.1 x.2.2.1 x.2.2.2.1⟩
theorem impl_KempeWalk_run (N : Nat) (x : argsT impl_KempeWalk_ps) : impl_KempeWalk N x.1 x.2.1 x.2.2.1 x.2.2.2.1 = funF (impl_KempeWalk_G N) tab [] Tryz.f36 impl_KempeWalk_ps impl_KempeWalk_rs x := by kernel_rfl
theorem impl_KempeWalk_pc (N : Nat) : PC Tryz.prog 36 (impl_KempeWalk_S N) := by
  have e : impl_KempeWalk_S N = ⟨impl_KempeWalk_ps, impl_KempeWalk_rs, funF (impl_KempeWalk_G N) tab [] Tryz.f36 impl_KempeWalk_ps impl_KempeWalk_rs⟩ := congrArg (FSum.mk impl_KempeWalk_ps impl_KempeWalk_rs) (funext (impl_KempeWalk_run N))
  rw [e]
  exact fun_ok (c := impl_KempeWalk_code) progOk (impl_KempeWalk_gok N) (draw_ok progOk (impl_KempeWalk_gok N)) Tryz.call36 Tryz.func36 (by kernel_rfl) (lsOk_at (L := []) trivial) (by kernel_rfl) (by kernel_rfl) (by kernel_rfl) (by kernel_rfl) (by kernel_rfl)

/-! ### laws_eqIntS -/
abbrev laws_eqIntS_ps : List (PV.Mode × Ty) := [(.ro, LI), (.ro, LI)]
abbrev laws_eqIntS_rs : List (Bool × Ty) := [(true, .bool)]
noncomputable def laws_eqIntS_G (N : Nat) : GTab := gOf []
theorem laws_eqIntS_gok (N : Nat) : GOk Tryz.prog (laws_eqIntS_G N) := gOf_ok trivial
noncomputable def laws_eqIntS_code : Code := (Tryz.f23.body).getD .skip
noncomputable def laws_eqIntS_l0_sh : Sh := ⟨[(0, .one (.ro LI)), (1, .one (.ro LI)), (5, .one (.ro I))], []⟩
noncomputable def laws_eqIntS_l0_ex : List (Ex × Sh) := [(.ret, ⟨[(4, .one (.ro .bool))], []⟩), (.exit 0, ⟨[], []⟩)]
noncomputable def laws_eqIntS_l0 {R : Type} (N : Nat) (k0 : Bool → Option R) (k1 : Unit → Option R) : Nat → (List Int) → (List Int) → Int → Option R
  | 0, _, _, _ => none
  | K + 1, a1, b1, i =>
    (br (ilt i (tLen a1))
      ((chk (inb a1 i)
        (chk (inb b1 i)
        (br (ine (rdI a1 i) (rdI b1 i))
        (k0 false)
        (laws_eqIntS_l0 N k0 k1 K a1 b1 (IntKind.i64.wrap (i + 1)))))))
      (k1 ()))
noncomputable def laws_eqIntS_l0_again {R : Type} (N : Nat) (ks : (j : Nat) → ((laws_eqIntS_l0_ex.getD j (.ret, Sh.none)).2).T → Option R) (k : Nat) (x : laws_eqIntS_l0_sh.T) : Option R :=
  laws_eqIntS_l0 N (fun y0 => ks 0 ((y0, ()), ())) (fun (_ : Unit) => ks 1 ((), ())) k x.1.1 x.1.2.1 x.1.2.2.1
noncomputable def laws_eqIntS_l0_s (N : Nat) : LSum := ⟨laws_eqIntS_l0_sh, laws_eqIntS_l0_ex, fun x ks => laws_eqIntS_l0_again N ks N x⟩
theorem laws_eqIntS_l0_step (N : Nat) (R : Type) (k : Nat) (x : laws_eqIntS_l0_sh.T) (ks : (j : Nat) → ((laws_eqIntS_l0_ex.getD j (.ret, Sh.none)).2).T → Option R) : laws_eqIntS_l0_again N ks (k + 1) x = roundF (laws_eqIntS_G N) tab [] (loopAt laws_eqIntS_code 0) laws_eqIntS_l0_sh laws_eqIntS_l0_ex (fun y => laws_eqIntS_l0_again N ks k y) ks x := by kernel_rfl
theorem laws_eqIntS_l0_ok (N : Nat) : LoopOk Tryz.prog Tryz.f23.ntmps (laws_eqIntS_l0_s N) (loopAt laws_eqIntS_code 0) :=
  loop_ok (l := laws_eqIntS_l0_s N) progOk (laws_eqIntS_gok N) (draw_ok progOk (laws_eqIntS_gok N)) (fun R k x ks => laws_eqIntS_l0_again N ks k x) (fun _ _ _ => rfl) (fun R k x ks => laws_eqIntS_l0_step N R k x ks) (fun R x ks r h => ⟨N, h⟩) (lsOk_at (L := []) trivial) (by kernel_rfl) (by kernel_rfl)
noncomputable def laws_eqIntS (N : Nat) (a : (List Int)) (b : (List Int)) : Option ((Bool × Unit) × (Unit)) :=
  (br (ine (tLen a) (tLen b))
    (some ((false, ()), ()))
    (laws_eqIntS_l0 N (fun x => some ((x, ()), ())) (fun (_ : Unit) => some ((true, ()), ())) N a b 0))
noncomputable def laws_eqIntS_S (N : Nat) : FSum := ⟨laws_eqIntS_ps, laws_eqIntS_rs, fun x => laws_eqIntS N x.1 x.2.1⟩
theorem laws_eqIntS_run (N : Nat) (x : argsT laws_eqIntS_ps) : laws_eqIntS N x.1 x.2.1 = funF (laws_eqIntS_G N) tab [laws_eqIntS_l0_s N] Tryz.f23 laws_eqIntS_ps laws_eqIntS_rs x := by kernel_rfl
theorem laws_eqIntS_pc (N : Nat) : PC Tryz.prog 23 (laws_eqIntS_S N) := by
  have e : laws_eqIntS_S N = ⟨laws_eqIntS_ps, laws_eqIntS_rs, funF (laws_eqIntS_G N) tab [laws_eqIntS_l0_s N] Tryz.f23 laws_eqIntS_ps laws_eqIntS_rs⟩ := congrArg (FSum.mk laws_eqIntS_ps laws_eqIntS_rs) (funext (laws_eqIntS_run N))
  rw [e]
  exact fun_ok (c := laws_eqIntS_code) progOk (laws_eqIntS_gok N) (draw_ok progOk (laws_eqIntS_gok N)) Tryz.call23 Tryz.func23 (by kernel_rfl) (lsOk_at (L := [laws_eqIntS_l0_s N]) ⟨laws_eqIntS_l0_ok N, trivial⟩) (by kernel_rfl) (by kernel_rfl) (by kernel_rfl) (by kernel_rfl) (by kernel_rfl)

/-! ### laws_eqIntSS -/
abbrev laws_eqIntSS_ps : List (PV.Mode × Ty) := [(.ro, LLI), (.ro, LLI)]
abbrev laws_eqIntSS_rs : List (Bool × Ty) := [(true, .bool)]
noncomputable def laws_eqIntSS_G (N : Nat) : GTab := gOf [(23, laws_eqIntS_S N)]
theorem laws_eqIntSS_gok (N : Nat) : GOk Tryz.prog (laws_eqIntSS_G N) := gOf_ok ⟨laws_eqIntS_pc N, trivial⟩
noncomputable def laws_eqIntSS_code : Code := (Tryz.f32.body).getD .skip
noncomputable def laws_eqIntSS_l0_sh : Sh := ⟨[(0, .one (.ro LLI)), (1, .one (.ro LLI)), (5, .one (.ro I))], []⟩
noncomputable def laws_eqIntSS_l0_ex : List (Ex × Sh) := [(.ret, ⟨[(4, .one (.ro .bool))], []⟩), (.exit 0, ⟨[], []⟩)]
noncomputable def laws_eqIntSS_l0 {R : Type} (N : Nat) (k0 : Bool → Option R) (k1 : Unit → Option R) : Nat → (List (List Int)) → (List (List Int)) → Int → Option R
  | 0, _, _, _ => none
  | K + 1, a1, b1, i =>
    (br (ilt i (tLen a1))
      ((chk (inb a1 i)
        (chk (inb b1 i)
        ((laws_eqIntS N (rdL a1 i) (rdL b1 i)).bind fun r =>
        (br (!r.1.1)
          (k0 false)
          (laws_eqIntSS_l0 N k0 k1 K a1 b1 (IntKind.i64.wrap (i + 1))))))))
      (k1 ()))
noncomputable def laws_eqIntSS_l0_again {R : Type} (N : Nat) (ks : (j : Nat) → ((laws_eqIntSS_l0_ex.getD j (.ret, Sh.none)).2).T → Option R) (k : Nat) (x : laws_eqIntSS_l0_sh.T) : Option R :=
  laws_eqIntSS_l0 N (fun y0 => ks 0 ((y0, ()), ())) (fun (_ : Unit) => ks 1 ((), ())) k x.1.1 x.1.2.1 x.1.2.2.1
noncomputable def laws_eqIntSS_l0_s (N : Nat) : LSum := ⟨laws_eqIntSS_l0_sh, laws_eqIntSS_l0_ex, fun x ks => laws_eqIntSS_l0_again N ks N x⟩
theorem laws_eqIntSS_l0_step (N : Nat) (R : Type) (k : Nat) (x : laws_eqIntSS_l0_sh.T) (ks : (j : Nat) → ((laws_eqIntSS_l0_ex.getD j (.ret, Sh.none)).2).T → Option R) : laws_eqIntSS_l0_again N ks (k + 1) x = roundF (laws_eqIntSS_G N) tab [] (loopAt laws_eqIntSS_code 0) laws_eqIntSS_l0_sh laws_eqIntSS_l0_ex (fun y => laws_eqIntSS_l0_again N ks k y) ks x := by kernel_rfl
theorem laws_eqIntSS_l0_ok (N : Nat) : LoopOk Tryz.prog Tryz.f32.ntmps (laws_eqIntSS_l0_s N) (loopAt laws_eqIntSS_code 0) :=
  loop_ok (l := laws_eqIntSS_l0_s N) progOk (laws_eqIntSS_gok N) (draw_ok progOk (laws_eqIntSS_gok N)) (fun R k x ks => laws_eqIntSS_l0_again N ks k x) (fun _ _ _ => rfl) (fun R k x ks => laws_eqIntSS_l0_step N R k x ks) (fun R x ks r h => ⟨N, h⟩) (lsOk_at (L := []) trivial) (by kernel_rfl) (by kernel_rfl)
noncomputable def laws_eqIntSS (N : Nat) (a : (List (List Int))) (b : (List (List Int))) : Option ((Bool × Unit) × (Unit)) :=
  (br (ine (tLen a) (tLen b))
    (some ((false, ()), ()))
    (laws_eqIntSS_l0 N (fun x => some ((x, ()), ())) (fun (_ : Unit) => some ((true, ()), ())) N a b 0))
noncomputable def laws_eqIntSS_S (N : Nat) : FSum := ⟨laws_eqIntSS_ps, laws_eqIntSS_rs, fun x => laws_eqIntSS N x.1 x.2.1⟩
theorem laws_eqIntSS_run (N : Nat) (x : argsT laws_eqIntSS_ps) : laws_eqIntSS N x.1 x.2.1 = funF (laws_eqIntSS_G N) tab [laws_eqIntSS_l0_s N] Tryz.f32 laws_eqIntSS_ps laws_eqIntSS_rs x := by kernel_rfl
theorem laws_eqIntSS_pc (N : Nat) : PC Tryz.prog 32 (laws_eqIntSS_S N) := by
  have e : laws_eqIntSS_S N = ⟨laws_eqIntSS_ps, laws_eqIntSS_rs, funF (laws_eqIntSS_G N) tab [laws_eqIntSS_l0_s N] Tryz.f32 laws_eqIntSS_ps laws_eqIntSS_rs⟩ := congrArg (FSum.mk laws_eqIntSS_ps laws_eqIntSS_rs) (funext (laws_eqIntSS_run N))
  rw [e]
  exact fun_ok (c := laws_eqIntSS_code) progOk (laws_eqIntSS_gok N) (draw_ok progOk (laws_eqIntSS_gok N)) Tryz.call32 Tryz.func32 (by kernel_rfl) (lsOk_at (L := [laws_eqIntSS_l0_s N]) ⟨laws_eqIntSS_l0_ok N, trivial⟩) (by kernel_rfl) (by kernel_rfl) (by kernel_rfl) (by kernel_rfl) (by kernel_rfl)

/-! ### laws_eqIntA2 -/
abbrev laws_eqIntA2_ps : List (PV.Mode × Ty) := [(.ro, QII), (.ro, QII)]
abbrev laws_eqIntA2_rs : List (Bool × Ty) := [(true, .bool)]
noncomputable def laws_eqIntA2_G (N : Nat) : GTab := gOf []
theorem laws_eqIntA2_gok (N : Nat) : GOk Tryz.prog (laws_eqIntA2_G N) := gOf_ok trivial
noncomputable def laws_eqIntA2_code : Code := (Tryz.f86.body).getD .skip
noncomputable def laws_eqIntA2_l0_sh : Sh := ⟨[(2, .one (.adr 0 0)), (3, .one (.adr 1 0)), (5, .one (.num .i64 0))], [.box [.ro I, .ro I], .box [.ro I, .ro I]]⟩
noncomputable def laws_eqIntA2_l0_ex : List (Ex × Sh) := [(.ret, ⟨[(4, .one (.ro .bool))], []⟩), (.exit 0, ⟨[], []⟩)]
noncomputable def laws_eqIntA2_l0 {R : Type} (N : Nat) (k0 : Bool → Option R) (k1 : Unit → Option R) (_ : Nat) (o4 : Int) (o5 : Int) (o6 : Int) (o7 : Int) : Option R :=
  (br (ine o4 o6)
    (k0 false)
    ((br (ine o5 o7)
      (k0 false)
      (k1 ()))))
noncomputable def laws_eqIntA2_l0_again {R : Type} (N : Nat) (ks : (j : Nat) → ((laws_eqIntA2_l0_ex.getD j (.ret, Sh.none)).2).T → Option R) (x : laws_eqIntA2_l0_sh.T) : Option R :=
  laws_eqIntA2_l0 N (fun y0 => ks 0 ((y0, ()), ())) (fun (_ : Unit) => ks 1 ((), ())) N x.2.1.1 x.2.1.2.1 x.2.2.1.1 x.2.2.1.2.1
noncomputable def laws_eqIntA2_l0_s (N : Nat) : LSum := ⟨laws_eqIntA2_l0_sh, laws_eqIntA2_l0_ex, fun x ks => laws_eqIntA2_l0_again N ks x⟩
theorem laws_eqIntA2_l0_unr (N : Nat) (R : Type) (x : laws_eqIntA2_l0_sh.T) (ks : (j : Nat) → ((laws_eqIntA2_l0_ex.getD j (.ret, Sh.none)).2).T → Option R) : laws_eqIntA2_l0_again N ks x = unrF (laws_eqIntA2_G N) tab (loopAt laws_eqIntA2_code 0) laws_eqIntA2_l0_ex ks 3 (fill laws_eqIntA2_l0_sh x) := by kernel_rfl
theorem laws_eqIntA2_l0_ok (N : Nat) : LoopOk Tryz.prog Tryz.f86.ntmps (laws_eqIntA2_l0_s N) (loopAt laws_eqIntA2_code 0) :=
  unroll_ok (l := laws_eqIntA2_l0_s N) progOk (laws_eqIntA2_gok N) (draw_ok progOk (laws_eqIntA2_gok N)) (fun R x ks r h => ⟨3, (laws_eqIntA2_l0_unr N R x ks).symm.trans h⟩) (by kernel_rfl) (by kernel_rfl)
noncomputable def laws_eqIntA2 (N : Nat) (a : (Int × Int)) (b : (Int × Int)) : Option ((Bool × Unit) × (Unit)) :=
  laws_eqIntA2_l0 N (fun x => some ((x, ()), ())) (fun (_ : Unit) => some ((true, ()), ())) N a.1 a.2 b.1 b.2
noncomputable def laws_eqIntA2_S (N : Nat) : FSum := ⟨laws_eqIntA2_ps, laws_eqIntA2_rs, fun x => laws_eqIntA2 N x.1 x.2.1⟩
theorem laws_eqIntA2_run (N : Nat) (x : argsT laws_eqIntA2_ps) : laws_eqIntA2 N x.1 x.2.1 = funF (laws_eqIntA2_G N) tab [laws_eqIntA2_l0_s N] Tryz.f86 laws_eqIntA2_ps laws_eqIntA2_rs x := by kernel_rfl
theorem laws_eqIntA2_pc (N : Nat) : PC Tryz.prog 86 (laws_eqIntA2_S N) := by
  have e : laws_eqIntA2_S N = ⟨laws_eqIntA2_ps, laws_eqIntA2_rs, funF (laws_eqIntA2_G N) tab [laws_eqIntA2_l0_s N] Tryz.f86 laws_eqIntA2_ps laws_eqIntA2_rs⟩ := congrArg (FSum.mk laws_eqIntA2_ps laws_eqIntA2_rs) (funext (laws_eqIntA2_run N))
  rw [e]
  exact fun_ok (c := laws_eqIntA2_code) progOk (laws_eqIntA2_gok N) (draw_ok progOk (laws_eqIntA2_gok N)) Tryz.call86 Tryz.func86 (by kernel_rfl) (lsOk_at (L := [laws_eqIntA2_l0_s N]) ⟨laws_eqIntA2_l0_ok N, trivial⟩) (by kernel_rfl) (by kernel_rfl) (by kernel_rfl) (by kernel_rfl) (by kernel_rfl)

/-! ### laws_eqIntA2S -/
abbrev laws_eqIntA2S_ps : List (PV.Mode × Ty) := [(.ro, LQII), (.ro, LQII)]
abbrev laws_eqIntA2S_rs : List (Bool × Ty) := [(true, .bool)]
noncomputable def laws_eqIntA2S_G (N : Nat) : GTab := gOf [(86, laws_eqIntA2_S N)]
theorem laws_eqIntA2S_gok (N : Nat) : GOk Tryz.prog (laws_eqIntA2S_G N) := gOf_ok ⟨laws_eqIntA2_pc N, trivial⟩
noncomputable def laws_eqIntA2S_code : Code := (Tryz.f49.body).getD .skip
noncomputable def laws_eqIntA2S_l0_sh : Sh := ⟨[(0, .one (.ro LQII)), (1, .one (.ro LQII)), (5, .one (.ro I))], []⟩
noncomputable def laws_eqIntA2S_l0_ex : List (Ex × Sh) := [(.ret, ⟨[(4, .one (.ro .bool))], []⟩), (.exit 0, ⟨[], []⟩)]
noncomputable def laws_eqIntA2S_l0 {R : Type} (N : Nat) (k0 : Bool → Option R) (k1 : Unit → Option R) : Nat → (List (Int × Int)) → (List (Int × Int)) → Int → Option R
  | 0, _, _, _ => none
  | K + 1, a1, b1, i =>
    (br (ilt i (tLen a1))
      ((chk (inb a1 i)
        (chk (inb b1 i)
        ((laws_eqIntA2 N (rdP a1 i) (rdP b1 i)).bind fun r =>
        (br (!r.1.1)
          (k0 false)
          (laws_eqIntA2S_l0 N k0 k1 K a1 b1 (IntKind.i64.wrap (i + 1))))))))
      (k1 ()))
noncomputable def laws_eqIntA2S_l0_again {R : Type} (N : Nat) (ks : (j : Nat) → ((laws_eqIntA2S_l0_ex.getD j (.ret, Sh.none)).2).T → Option R) (k : Nat) (x : laws_eqIntA2S_l0_sh.T) : Option R :=
  laws_eqIntA2S_l0 N (fun y0 => ks 0 ((y0, ()), ())) (fun (_ : Unit) => ks 1 ((), ())) k x.1.1 x.1.2.1 x.1.2.2.1
noncomputable def laws_eqIntA2S_l0_s (N : Nat) : LSum := ⟨laws_eqIntA2S_l0_sh, laws_eqIntA2S_l0_ex, fun x ks => laws_eqIntA2S_l0_again N ks N x⟩
theorem laws_eqIntA2S_l0_step (N : Nat) (R : Type) (k : Nat) (x : laws_eqIntA2S_l0_sh.T) (ks : (j : Nat) → ((laws_eqIntA2S_l0_ex.getD j (.ret, Sh.none)).2).T → Option R) : laws_eqIntA2S_l0_again N ks (k + 1) x = roundF (laws_eqIntA2S_G N) tab [] (loopAt laws_eqIntA2S_code 0) laws_eqIntA2S_l0_sh laws_eqIntA2S_l0_ex (fun y => laws_eqIntA2S_l0_again N ks k y) ks x := by kernel_rfl
theorem laws_eqIntA2S_l0_ok (N : Nat) : LoopOk Tryz.prog Tryz.f49.ntmps (laws_eqIntA2S_l0_s N) (loopAt laws_eqIntA2S_code 0) :=
  loop_ok (l := laws_eqIntA2S_l0_s N) progOk (laws_eqIntA2S_gok N) (draw_ok progOk (laws_eqIntA2S_gok N)) (fun R k x ks => laws_eqIntA2S_l0_again N ks k x) (fun _ _ _ => rfl) (fun R k x ks => laws_eqIntA2S_l0_step N R k x ks) (fun R x ks r h => ⟨N, h⟩) (lsOk_at (L := []) trivial) (by kernel_rfl) (by kernel_rfl)
noncomputable def laws_eqIntA2S (N : Nat) (a : (List (Int × Int))) (b : (List (Int × Int))) : Option ((Bool × Unit) × (Unit)) :=
  (br (ine (tLen a) (tLen b))
    (some ((false, ()), ()))
    (laws_eqIntA2S_l0 N (fun x => some ((x, ()), ())) (fun (_ : Unit) => some ((true, ()), ())) N a b 0))
noncomputable def laws_eqIntA2S_S (N : Nat) : FSum := ⟨laws_eqIntA2S_ps, laws_eqIntA2S_rs, fun x => laws_eqIntA2S N x.1 x.2.1⟩
theorem laws_eqIntA2S_run (N : Nat) (x : argsT laws_eqIntA2S_ps) : laws_eqIntA2S N x.1 x.2.1 = funF (laws_eqIntA2S_G N) tab [laws_eqIntA2S_l0_s N] Tryz.f49 laws_eqIntA2S_ps laws_eqIntA2S_rs x := by kernel_rfl
theorem laws_eqIntA2S_pc (N : Nat) : PC Tryz.prog 49 (laws_eqIntA2S_S N) := by
  have e : laws_eqIntA2S_S N = ⟨laws_eqIntA2S_ps, laws_eqIntA2S_rs, funF (laws_eqIntA2S_G N) tab [laws_eqIntA2S_l0_s N] Tryz.f49 laws_eqIntA2S_ps laws_eqIntA2S_rs⟩ := congrArg (FSum.mk laws_eqIntA2S_ps laws_eqIntA2S_rs) (funext (laws_eqIntA2S_run N))
  rw [e]
  exact fun_ok (c := laws_eqIntA2S_code) progOk (laws_eqIntA2S_gok N) (draw_ok progOk (laws_eqIntA2S_gok N)) Tryz.call49 Tryz.func49 (by kernel_rfl) (lsOk_at (L := [laws_eqIntA2S_l0_s N]) ⟨laws_eqIntA2S_l0_ok N, trivial⟩) (by kernel_rfl) (by kernel_rfl) (by kernel_rfl) (by kernel_rfl) (by kernel_rfl)

/-! ### laws_eqGraph -/
abbrev laws_eqGraph_ps : List (PV.Mode × Ty) := [(.ro, QILQII), (.ro, QILQII)]
abbrev laws_eqGraph_rs : List (Bool × Ty) := [(true, .bool)]
noncomputable def laws_eqGraph_G (N : Nat) : GTab := gOf [(49, laws_eqIntA2S_S N)]
theorem laws_eqGraph_gok (N : Nat) : GOk Tryz.prog (laws_eqGraph_G N) := gOf_ok ⟨laws_eqIntA2S_pc N, trivial⟩
noncomputable def laws_eqGraph_code : Code := (Tryz.f14.body).getD .skip
noncomputable def laws_eqGraph (N : Nat) (a : (Int × (List (Int × Int)))) (b : (Int × (List (Int × Int)))) : Option ((Bool × Unit) × (Unit)) :=
  (br (ine a.1 b.1)
    (some ((false, ()), ()))
    (((laws_eqIntA2S N a.2 b.2).bind fun r =>
      (br (!r.1.1)
        (some ((false, ()), ()))
        (some ((true, ()), ()))))))
noncomputable def laws_eqGraph_S (N : Nat) : FSum := ⟨laws_eqGraph_ps, laws_eqGraph_rs, fun x => laws_eqGraph N x.1 x.2.1⟩
theorem laws_eqGraph_run (N : Nat) (x : argsT laws_eqGraph_ps) : laws_eqGraph N x.1 x.2.1 = funF (laws_eqGraph_G N) tab [] Tryz.f14 laws_eqGraph_ps laws_eqGraph_rs x := by kernel_rfl
theorem laws_eqGraph_pc (N : Nat) : PC Tryz.prog 14 (laws_eqGraph_S N) := by
  have e : laws_eqGraph_S N = ⟨laws_eqGraph_ps, laws_eqGraph_rs, funF (laws_eqGraph_G N) tab [] Tryz.f14 laws_eqGraph_ps laws_eqGraph_rs⟩ := congrArg (FSum.mk laws_eqGraph_ps laws_eqGraph_rs) (funext (laws_eqGraph_run N))
  rw [e]
  exact fun_ok (c := laws_eqGraph_code) progOk (laws_eqGraph_gok N) (draw_ok progOk (laws_eqGraph_gok N)) Tryz.call14 Tryz.func14 (by kernel_rfl) (lsOk_at (L := []) trivial) (by kernel_rfl) (by kernel_rfl) (by kernel_rfl) (by kernel_rfl) (by kernel_rfl)

/-! ### laws_markIntA2S -/
abbrev laws_markIntA2S_ps : List (PV.Mode × Ty) := [(.mut, LQII), (.ro, I)]
abbrev laws_markIntA2S_rs : List (Bool × Ty) := [(true, I)]
noncomputable def laws_markIntA2S_G (N : Nat) : GTab := gOf []
theorem laws_markIntA2S_gok (N : Nat) : GOk Tryz.prog (laws_markIntA2S_G N) := gOf_ok trivial
noncomputable def laws_markIntA2S_code : Code := (Tryz.f50.body).getD .skip
noncomputable def laws_markIntA2S_l0_0_sh : Sh := ⟨[(0, .one (.ref 0)), (1, .one (.ro I)), (5, .one (.ro I)), (6, .one (.num .i64 0))], [.sl 93 QII .own]⟩
noncomputable def laws_markIntA2S_l0_0_ex : List (Ex × Sh) := [(.exit 2, ⟨[(0, .one (.ref 0)), (1, .one (.ro I)), (5, .one (.ro I))], [.sl 93 QII .own]⟩)]
noncomputable def laws_markIntA2S_l0_0 {R : Type} (N : Nat) (k0 : Int → Int → (List (Int × Int)) → Option R) (_ : Nat) (kv3 : Int) (i2 : Int) (o2 : (List (Int × Int))) : Option R :=
  (chk (inb o2 i2)
    (chk (inb (tSet o2 i2 (kv3, (rdP o2 i2).2)) i2)
    (k0 (IntKind.i64.wrap ((IntKind.i64.wrap (kv3 + 1)) + 1)) i2 (tSet (tSet o2 i2 (kv3, (rdP o2 i2).2)) i2 ((rdP (tSet o2 i2 (kv3, (rdP o2 i2).2)) i2).1, (IntKind.i64.wrap (kv3 + 1)))))))
noncomputable def laws_markIntA2S_l0_0_again {R : Type} (N : Nat) (ks : (j : Nat) → ((laws_markIntA2S_l0_0_ex.getD j (.ret, Sh.none)).2).T → Option R) (x : laws_markIntA2S_l0_0_sh.T) : Option R :=
  laws_markIntA2S_l0_0 N (fun y0 y1 y2 => ks 0 (((), y0, y1, ()), (y2, ()))) N x.1.2.1 x.1.2.2.1 x.2.1
noncomputable def laws_markIntA2S_l0_0_s (N : Nat) : LSum := ⟨laws_markIntA2S_l0_0_sh, laws_markIntA2S_l0_0_ex, fun x ks => laws_markIntA2S_l0_0_again N ks x⟩
theorem laws_markIntA2S_l0_0_unr (N : Nat) (R : Type) (x : laws_markIntA2S_l0_0_sh.T) (ks : (j : Nat) → ((laws_markIntA2S_l0_0_ex.getD j (.ret, Sh.none)).2).T → Option R) : laws_markIntA2S_l0_0_again N ks x = unrF (laws_markIntA2S_G N) tab (loopAt (loopAt laws_markIntA2S_code 0) 0) laws_markIntA2S_l0_0_ex ks 3 (fill laws_markIntA2S_l0_0_sh x) := by kernel_rfl
theorem laws_markIntA2S_l0_0_ok (N : Nat) : LoopOk Tryz.prog Tryz.f50.ntmps (laws_markIntA2S_l0_0_s N) (loopAt (loopAt laws_markIntA2S_code 0) 0) :=
  unroll_ok (l := laws_markIntA2S_l0_0_s N) progOk (laws_markIntA2S_gok N) (draw_ok progOk (laws_markIntA2S_gok N)) (fun R x ks r h => ⟨3, (laws_markIntA2S_l0_0_unr N R x ks).symm.trans h⟩) (by kernel_rfl) (by kernel_rfl)
noncomputable def laws_markIntA2S_l0_sh : Sh := ⟨[(0, .one (.ref 0)), (1, .one (.ro I)), (5, .one (.ro I))], [.sl 93 QII .own]⟩
noncomputable def laws_markIntA2S_l0_ex : List (Ex × Sh) := [(.exit 0, ⟨[(0, .one (.ref 0)), (1, .one (.ro I))], [.sl 93 QII .own]⟩)]
noncomputable def laws_markIntA2S_l0 {R : Type} (N : Nat) (k0 : Int → (List (Int × Int)) → Option R) : Nat → Int → Int → (List (Int × Int)) → Option R
  | 0, _, _, _ => none
  | K + 1, kv1, i, o =>
    (br (ilt i (tLen o))
      (laws_markIntA2S_l0_0 N (fun kv2 i1 o1 => laws_markIntA2S_l0 N k0 K kv2 (IntKind.i64.wrap (i1 + 1)) o1) N kv1 i o)
      (k0 kv1 o))
noncomputable def laws_markIntA2S_l0_again {R : Type} (N : Nat) (ks : (j : Nat) → ((laws_markIntA2S_l0_ex.getD j (.ret, Sh.none)).2).T → Option R) (k : Nat) (x : laws_markIntA2S_l0_sh.T) : Option R :=
  laws_markIntA2S_l0 N (fun y0 y1 => ks 0 (((), y0, ()), (y1, ()))) k x.1.2.1 x.1.2.2.1 x.2.1
noncomputable def laws_markIntA2S_l0_s (N : Nat) : LSum := ⟨laws_markIntA2S_l0_sh, laws_markIntA2S_l0_ex, fun x ks => laws_markIntA2S_l0_again N ks N x⟩
theorem laws_markIntA2S_l0_step (N : Nat) (R : Type) (k : Nat) (x : laws_markIntA2S_l0_sh.T) (ks : (j : Nat) → ((laws_markIntA2S_l0_ex.getD j (.ret, Sh.none)).2).T → Option R) : laws_markIntA2S_l0_again N ks (k + 1) x = roundF (laws_markIntA2S_G N) tab [laws_markIntA2S_l0_0_s N] (loopAt laws_markIntA2S_code 0) laws_markIntA2S_l0_sh laws_markIntA2S_l0_ex (fun y => laws_markIntA2S_l0_again N ks k y) ks x := by kernel_rfl
theorem laws_markIntA2S_l0_ok (N : Nat) : LoopOk Tryz.prog Tryz.f50.ntmps (laws_markIntA2S_l0_s N) (loopAt laws_markIntA2S_code 0) :=
  loop_ok (l := laws_markIntA2S_l0_s N) progOk (laws_markIntA2S_gok N) (draw_ok progOk (laws_markIntA2S_gok N)) (fun R k x ks => laws_markIntA2S_l0_again N ks k x) (fun _ _ _ => rfl) (fun R k x ks => laws_markIntA2S_l0_step N R k x ks) (fun R x ks r h => ⟨N, h⟩) (lsOk_at (L := [laws_markIntA2S_l0_0_s N]) ⟨laws_markIntA2S_l0_0_ok N, trivial⟩) (by kernel_rfl) (by kernel_rfl)
noncomputable def laws_markIntA2S (N : Nat) (a : (List (Int × Int))) (kv : Int) : Option ((Int × Unit) × ((List (Int × Int)) × Unit)) :=
  laws_markIntA2S_l0 N (fun kv1 o => some ((kv1, ()), (o, ()))) N kv 0 a
noncomputable def laws_markIntA2S_S (N : Nat) : FSum := ⟨laws_markIntA2S_ps, laws_markIntA2S_rs, fun x => laws_markIntA2S N x.1 x.2.1⟩
theorem laws_markIntA2S_run (N : Nat) (x : argsT laws_markIntA2S_ps) : laws_markIntA2S N x.1 x.2.1 = funF (laws_markIntA2S_G N) tab [laws_markIntA2S_l0_s N] Tryz.f50 laws_markIntA2S_ps laws_markIntA2S_rs x := by kernel_rfl
theorem laws_markIntA2S_pc (N : Nat) : PC Tryz.prog 50 (laws_markIntA2S_S N) := by
  have e : laws_markIntA2S_S N = ⟨laws_markIntA2S_ps, laws_markIntA2S_rs, funF (laws_markIntA2S_G N) tab [laws_markIntA2S_l0_s N] Tryz.f50 laws_markIntA2S_ps laws_markIntA2S_rs⟩ := congrArg (FSum.mk laws_markIntA2S_ps laws_markIntA2S_rs) (funext (laws_markIntA2S_run N))
  rw [e]
  exact fun_ok (c := laws_markIntA2S_code) progOk (laws_markIntA2S_gok N) (draw_ok progOk (laws_markIntA2S_gok N)) Tryz.call50 Tryz.func50 (by kernel_rfl) (lsOk_at (L := [laws_markIntA2S_l0_s N]) ⟨laws_markIntA2S_l0_ok N, trivial⟩) (by kernel_rfl) (by kernel_rfl) (by kernel_rfl) (by kernel_rfl) (by kernel_rfl)

/-! ### laws_markGraph -/
abbrev laws_markGraph_ps : List (PV.Mode × Ty) := [(.mut, QILQII), (.ro, I)]
abbrev laws_markGraph_rs : List (Bool × Ty) := [(true, I)]
noncomputable def laws_markGraph_G (N : Nat) : GTab := gOf [(50, laws_markIntA2S_S N)]
theorem laws_markGraph_gok (N : Nat) : GOk Tryz.prog (laws_markGraph_G N) := gOf_ok ⟨laws_markIntA2S_pc N, trivial⟩
noncomputable def laws_markGraph_code : Code := (Tryz.f15.body).getD .skip
noncomputable def laws_markGraph (N : Nat) (a : (Int × (List (Int × Int)))) (kv : Int) : Option ((Int × Unit) × ((Int × (List (Int × Int))) × Unit)) :=
  ((laws_markIntA2S N a.2 kv).bind fun r =>
    some ((r.1.1, ()), ((a.1, r.2.1), ())))
noncomputable def laws_markGraph_S (N : Nat) : FSum := ⟨laws_markGraph_ps, laws_markGraph_rs, fun x => laws_markGraph N x.1 x.2.1⟩
theorem laws_markGraph_run (N : Nat) (x : argsT laws_markGraph_ps) : laws_markGraph N x.1 x.2.1 = funF (laws_markGraph_G N) tab [] Tryz.f15 laws_markGraph_ps laws_markGraph_rs x := by kernel_rfl
theorem laws_markGraph_pc (N : Nat) : PC Tryz.prog 15 (laws_markGraph_S N) := by
  have e : laws_markGraph_S N = ⟨laws_markGraph_ps, laws_markGraph_rs, funF (laws_markGraph_G N) tab [] Tryz.f15 laws_markGraph_ps laws_markGraph_rs⟩ := congrArg (FSum.mk laws_markGraph_ps laws_markGraph_rs) (funext (laws_markGraph_run N))
  rw [e]
  exact fun_ok (c := laws_markGraph_code) progOk (laws_markGraph_gok N) (draw_ok progOk (laws_markGraph_gok N)) Tryz.call15 Tryz.func15 (by kernel_rfl) (lsOk_at (L := []) trivial) (by kernel_rfl) (by kernel_rfl) (by kernel_rfl) (by kernel_rfl) (by kernel_rfl)

/-! ### laws_markIntS -/
abbrev laws_markIntS_ps : List (PV.Mode × Ty) := [(.mut, LI), (.ro, I)]
abbrev laws_markIntS_rs : List (Bool × Ty) := [(true, I)]
noncomputable def laws_markIntS_G (N : Nat) : GTab := gOf []
theorem laws_markIntS_gok (N : Nat) : GOk Tryz.prog (laws_markIntS_G N) := gOf_ok trivial
noncomputable def laws_markIntS_code : Code := (Tryz.f26.body).getD .skip
noncomputable def laws_markIntS_l0_sh : Sh := ⟨[(0, .one (.ref 0)), (1, .one (.ro I)), (5, .one (.ro I))], [.sl 3 I .own]⟩
noncomputable def laws_markIntS_l0_ex : List (Ex × Sh) := [(.exit 0, ⟨[(0, .one (.ref 0)), (1, .one (.ro I))], [.sl 3 I .own]⟩)]
noncomputable def laws_markIntS_l0 {R : Type} (N : Nat) (k0 : Int → (List Int) → Option R) : Nat → Int → Int → (List Int) → Option R
  | 0, _, _, _ => none
  | K + 1, kv1, i, o =>
    (br (ilt i (tLen o))
      ((chk (inb o i)
        (laws_markIntS_l0 N k0 K (IntKind.i64.wrap (kv1 + 1)) (IntKind.i64.wrap (i + 1)) (tSet o i kv1))))
      (k0 kv1 o))
noncomputable def laws_markIntS_l0_again {R : Type} (N : Nat) (ks : (j : Nat) → ((laws_markIntS_l0_ex.getD j (.ret, Sh.none)).2).T → Option R) (k : Nat) (x : laws_markIntS_l0_sh.T) : Option R :=
  laws_markIntS_l0 N (fun y0 y1 => ks 0 (((), y0, ()), (y1, ()))) k x.1.2.1 x.1.2.2.1 x.2.1
noncomputable def laws_markIntS_l0_s (N : Nat) : LSum := ⟨laws_markIntS_l0_sh, laws_markIntS_l0_ex, fun x ks => laws_markIntS_l0_again N ks N x⟩
theorem laws_markIntS_l0_step (N : Nat) (R : Type) (k : Nat) (x : laws_markIntS_l0_sh.T) (ks : (j : Nat) → ((laws_markIntS_l0_ex.getD j (.ret, Sh.none)).2).T → Option R) : laws_markIntS_l0_again N ks (k + 1) x = roundF (laws_markIntS_G N) tab [] (loopAt laws_markIntS_code 0) laws_markIntS_l0_sh laws_markIntS_l0_ex (fun y => laws_markIntS_l0_again N ks k y) ks x := by kernel_rfl
theorem laws_markIntS_l0_ok (N : Nat) : LoopOk Tryz.prog Tryz.f26.ntmps (laws_markIntS_l0_s N) (loopAt laws_markIntS_code 0) :=
  loop_ok (l := laws_markIntS_l0_s N) progOk (laws_markIntS_gok N) (draw_ok progOk (laws_markIntS_gok N)) (fun R k x ks => laws_markIntS_l0_again N ks k x) (fun _ _ _ => rfl) (fun R k x ks => laws_markIntS_l0_step N R k x ks) (fun R x ks r h => ⟨N, h⟩) (lsOk_at (L := []) trivial) (by kernel_rfl) (by kernel_rfl)
noncomputable def laws_markIntS (N : Nat) (a : (List Int)) (kv : Int) : Option ((Int × Unit) × ((List Int) × Unit)) :=
  laws_markIntS_l0 N (fun kv1 o => some ((kv1, ()), (o, ()))) N kv 0 a
noncomputable def laws_markIntS_S (N : Nat) : FSum := ⟨laws_markIntS_ps, laws_markIntS_rs, fun x => laws_markIntS N x.1 x.2.1⟩
theorem laws_markIntS_run (N : Nat) (x : argsT laws_markIntS_ps) : laws_markIntS N x.1 x.2.1 = funF (laws_markIntS_G N) tab [laws_markIntS_l0_s N] Tryz.f26 laws_markIntS_ps laws_markIntS_rs x := by kernel_rfl
theorem laws_markIntS_pc (N : Nat) : PC Tryz.prog 26 (laws_markIntS_S N) := by
  have e : laws_markIntS_S N = ⟨laws_markIntS_ps, laws_markIntS_rs, funF (laws_markIntS_G N) tab [laws_markIntS_l0_s N] Tryz.f26 laws_markIntS_ps laws_markIntS_rs⟩ := congrArg (FSum.mk laws_markIntS_ps laws_markIntS_rs) (funext (laws_markIntS_run N))
  rw [e]
  exact fun_ok (c := laws_markIntS_code) progOk (laws_markIntS_gok N) (draw_ok progOk (laws_markIntS_gok N)) Tryz.call26 Tryz.func26 (by kernel_rfl) (lsOk_at (L := [laws_markIntS_l0_s N]) ⟨laws_markIntS_l0_ok N, trivial⟩) (by kernel_rfl) (by kernel_rfl) (by kernel_rfl) (by kernel_rfl) (by kernel_rfl)

/-! ### laws_markIntSS -/
abbrev laws_markIntSS_ps : List (PV.Mode × Ty) := [(.mut, LLI), (.ro, I)]
abbrev laws_markIntSS_rs : List (Bool × Ty) := [(true, I)]
noncomputable def laws_markIntSS_G (N : Nat) : GTab := gOf [(26, laws_markIntS_S N)]
theorem laws_markIntSS_gok (N : Nat) : GOk Tryz.prog (laws_markIntSS_G N) := gOf_ok ⟨laws_markIntS_pc N, trivial⟩
noncomputable def laws_markIntSS_code : Code := (Tryz.f33.body).getD .skip
noncomputable def laws_markIntSS_l0_sh : Sh := ⟨[(0, .one (.ref 0)), (1, .one (.ro I)), (5, .one (.ro I))], [.sl 40 LI .deep]⟩
noncomputable def laws_markIntSS_l0_ex : List (Ex × Sh) := [(.exit 0, ⟨[(0, .one (.ref 0)), (1, .one (.ro I))], [.sl 40 LI .deep]⟩)]
noncomputable def laws_markIntSS_l0 {R : Type} (N : Nat) (k0 : Int → (List (List Int)) → Option R) : Nat → Int → Int → (List (List Int)) → Option R
  | 0, _, _, _ => none
  | K + 1, kv1, i, o =>
    (br (ilt i (tLen o))
      ((chk (inb o i)
        ((laws_markIntS N (rdL o i) kv1).bind fun r =>
        laws_markIntSS_l0 N k0 K r.1.1 (IntKind.i64.wrap (i + 1)) (tSet o i r.2.1))))
      (k0 kv1 o))
noncomputable def laws_markIntSS_l0_again {R : Type} (N : Nat) (ks : (j : Nat) → ((laws_markIntSS_l0_ex.getD j (.ret, Sh.none)).2).T → Option R) (k : Nat) (x : laws_markIntSS_l0_sh.T) : Option R :=
  laws_markIntSS_l0 N (fun y0 y1 => ks 0 (((), y0, ()), (y1, ()))) k x.1.2.1 x.1.2.2.1 x.2.1
noncomputable def laws_markIntSS_l0_s (N : Nat) : LSum := ⟨laws_markIntSS_l0_sh, laws_markIntSS_l0_ex, fun x ks => laws_markIntSS_l0_again N ks N x⟩
theorem laws_markIntSS_l0_step (N : Nat) (R : Type) (k : Nat) (x : laws_markIntSS_l0_sh.T) (ks : (j : Nat) → ((laws_markIntSS_l0_ex.getD j (.ret, Sh.none)).2).T → Option R) : laws_markIntSS_l0_again N ks (k + 1) x = roundF (laws_markIntSS_G N) tab [] (loopAt laws_markIntSS_code 0) laws_markIntSS_l0_sh laws_markIntSS_l0_ex (fun y => laws_markIntSS_l0_again N ks k y) ks x := by kernel_rfl
theorem laws_markIntSS_l0_ok (N : Nat) : LoopOk Tryz.prog Tryz.f33.ntmps (laws_markIntSS_l0_s N) (loopAt laws_markIntSS_code 0) :=
  loop_ok (l := laws_markIntSS_l0_s N) progOk (laws_markIntSS_gok N) (draw_ok progOk (laws_markIntSS_gok N)) (fun R k x ks => laws_markIntSS_l0_again N ks k x) (fun _ _ _ => rfl) (fun R k x ks => laws_markIntSS_l0_step N R k x ks) (fun R x ks r h => ⟨N, h⟩) (lsOk_at (L := []) trivial) (by kernel_rfl) (by kernel_rfl)
noncomputable def laws_markIntSS (N : Nat) (a : (List (List Int))) (kv : Int) : Option ((Int × Unit) × ((List (List Int)) × Unit)) :=
  laws_markIntSS_l0 N (fun kv1 o => some ((kv1, ()), (o, ()))) N kv 0 a
noncomputable def laws_markIntSS_S (N : Nat) : FSum := ⟨laws_markIntSS_ps, laws_markIntSS_rs, fun x => laws_markIntSS N x.1 x.2.1⟩
theorem laws_markIntSS_run (N : Nat) (x : argsT laws_markIntSS_ps) : laws_markIntSS N x.1 x.2.1 = funF (laws_markIntSS_G N) tab [laws_markIntSS_l0_s N] Tryz.f33 laws_markIntSS_ps laws_markIntSS_rs x := by kernel_rfl
theorem laws_markIntSS_pc (N : Nat) : PC Tryz.prog 33 (laws_markIntSS_S N) := by
  have e : laws_markIntSS_S N = ⟨laws_markIntSS_ps, laws_markIntSS_rs, funF (laws_markIntSS_G N) tab [laws_markIntSS_l0_s N] Tryz.f33 laws_markIntSS_ps laws_markIntSS_rs⟩ := congrArg (FSum.mk laws_markIntSS_ps laws_markIntSS_rs) (funext (laws_markIntSS_run N))
  rw [e]
  exact fun_ok (c := laws_markIntSS_code) progOk (laws_markIntSS_gok N) (draw_ok progOk (laws_markIntSS_gok N)) Tryz.call33 Tryz.func33 (by kernel_rfl) (lsOk_at (L := [laws_markIntSS_l0_s N]) ⟨laws_markIntSS_l0_ok N, trivial⟩) (by kernel_rfl) (by kernel_rfl) (by kernel_rfl) (by kernel_rfl) (by kernel_rfl)

/-! ### laws_heldIntS -/
abbrev laws_heldIntS_ps : List (PV.Mode × Ty) := [(.ro, LI), (.ro, I)]
abbrev laws_heldIntS_rs : List (Bool × Ty) := [(true, I)]
noncomputable def laws_heldIntS_G (N : Nat) : GTab := gOf []
theorem laws_heldIntS_gok (N : Nat) : GOk Tryz.prog (laws_heldIntS_G N) := gOf_ok trivial
noncomputable def laws_heldIntS_code : Code := (Tryz.f27.body).getD .skip
noncomputable def laws_heldIntS_l0_sh : Sh := ⟨[(0, .one (.ro LI)), (1, .one (.ro I)), (5, .one (.ro I))], []⟩
noncomputable def laws_heldIntS_l0_ex : List (Ex × Sh) := [(.ret, ⟨[(4, .one (.ro I))], []⟩), (.exit 0, ⟨[(1, .one (.ro I))], []⟩)]
noncomputable def laws_heldIntS_l0 {R : Type} (N : Nat) (k0 : Int → Option R) (k1 : Int → Option R) : Nat → (List Int) → Int → Int → Option R
  | 0, _, _, _ => none
  | K + 1, a1, kv1, i =>
    (br (ilt i (tLen a1))
      ((chk (inb a1 i)
        (br (ine (rdI a1 i) kv1)
        (k0 (-1))
        (laws_heldIntS_l0 N k0 k1 K a1 (IntKind.i64.wrap (kv1 + 1)) (IntKind.i64.wrap (i + 1))))))
      (k1 kv1))
noncomputable def laws_heldIntS_l0_again {R : Type} (N : Nat) (ks : (j : Nat) → ((laws_heldIntS_l0_ex.getD j (.ret, Sh.none)).2).T → Option R) (k : Nat) (x : laws_heldIntS_l0_sh.T) : Option R :=
  laws_heldIntS_l0 N (fun y0 => ks 0 ((y0, ()), ())) (fun y0 => ks 1 ((y0, ()), ())) k x.1.1 x.1.2.1 x.1.2.2.1
noncomputable def laws_heldIntS_l0_s (N : Nat) : LSum := ⟨laws_heldIntS_l0_sh, laws_heldIntS_l0_ex, fun x ks => laws_heldIntS_l0_again N ks N x⟩
theorem laws_heldIntS_l0_step (N : Nat) (R : Type) (k : Nat) (x : laws_heldIntS_l0_sh.T) (ks : (j : Nat) → ((laws_heldIntS_l0_ex.getD j (.ret, Sh.none)).2).T → Option R) : laws_heldIntS_l0_again N ks (k + 1) x = roundF (laws_heldIntS_G N) tab [] (loopAt laws_heldIntS_code 0) laws_heldIntS_l0_sh laws_heldIntS_l0_ex (fun y => laws_heldIntS_l0_again N ks k y) ks x := by kernel_rfl
theorem laws_heldIntS_l0_ok (N : Nat) : LoopOk Tryz.prog Tryz.f27.ntmps (laws_heldIntS_l0_s N) (loopAt laws_heldIntS_code 0) :=
  loop_ok (l := laws_heldIntS_l0_s N) progOk (laws_heldIntS_gok N) (draw_ok progOk (laws_heldIntS_gok N)) (fun R k x ks => laws_heldIntS_l0_again N ks k x) (fun _ _ _ => rfl) (fun R k x ks => laws_heldIntS_l0_step N R k x ks) (fun R x ks r h => ⟨N, h⟩) (lsOk_at (L := []) trivial) (by kernel_rfl) (by kernel_rfl)
noncomputable def laws_heldIntS (N : Nat) (a : (List Int)) (kv : Int) : Option ((Int × Unit) × (Unit)) :=
  laws_heldIntS_l0 N (fun x => some ((x, ()), ())) (fun kv1 => some ((kv1, ()), ())) N a kv 0
noncomputable def laws_heldIntS_S (N : Nat) : FSum := ⟨laws_heldIntS_ps, laws_heldIntS_rs, fun x => laws_heldIntS N x.1 x.2.1⟩
theorem laws_heldIntS_run (N : Nat) (x : argsT laws_heldIntS_ps) : laws_heldIntS N x.1 x.2.1 = funF (laws_heldIntS_G N) tab [laws_heldIntS_l0_s N] Tryz.f27 laws_heldIntS_ps laws_heldIntS_rs x := by kernel_rfl
theorem laws_heldIntS_pc (N : Nat) : PC Tryz.prog 27 (laws_heldIntS_S N) := by
  have e : laws_heldIntS_S N = ⟨laws_heldIntS_ps, laws_heldIntS_rs, funF (laws_heldIntS_G N) tab [laws_heldIntS_l0_s N] Tryz.f27 laws_heldIntS_ps laws_heldIntS_rs⟩ := congrArg (FSum.mk laws_heldIntS_ps laws_heldIntS_rs) (funext (laws_heldIntS_run N))
  rw [e]
  exact fun_ok (c := laws_heldIntS_code) progOk (laws_heldIntS_gok N) (draw_ok progOk (laws_heldIntS_gok N)) Tryz.call27 Tryz.func27 (by kernel_rfl) (lsOk_at (L := [laws_heldIntS_l0_s N]) ⟨laws_heldIntS_l0_ok N, trivial⟩) (by kernel_rfl) (by kernel_rfl) (by kernel_rfl) (by kernel_rfl) (by kernel_rfl)

/-! ### laws_heldIntSS -/
abbrev laws_heldIntSS_ps : List (PV.Mode × Ty) := [(.ro, LLI), (.ro, I)]
abbrev laws_heldIntSS_rs : List (Bool × Ty) := [(true, I)]
noncomputable def laws_heldIntSS_G (N : Nat) : GTab := gOf [(27, laws_heldIntS_S N)]
theorem laws_heldIntSS_gok (N : Nat) : GOk Tryz.prog (laws_heldIntSS_G N) := gOf_ok ⟨laws_heldIntS_pc N, trivial⟩
noncomputable def laws_heldIntSS_code : Code := (Tryz.f34.body).getD .skip
noncomputable def laws_heldIntSS_l0_sh : Sh := ⟨[(0, .one (.ro LLI)), (1, .one (.ro I)), (5, .one (.ro I))], []⟩
noncomputable def laws_heldIntSS_l0_ex : List (Ex × Sh) := [(.ret, ⟨[(4, .one (.ro I))], []⟩), (.exit 0, ⟨[(1, .one (.ro I))], []⟩)]
noncomputable def laws_heldIntSS_l0 {R : Type} (N : Nat) (k0 : Int → Option R) (k1 : Int → Option R) : Nat → (List (List Int)) → Int → Int → Option R
  | 0, _, _, _ => none
  | K + 1, a1, kv1, i =>
    (br (ilt i (tLen a1))
      ((chk (inb a1 i)
        ((laws_heldIntS N (rdL a1 i) kv1).bind fun r =>
        (br (ilt r.1.1 0)
          (k0 (-1))
          (laws_heldIntSS_l0 N k0 k1 K a1 r.1.1 (IntKind.i64.wrap (i + 1)))))))
      (k1 kv1))
noncomputable def laws_heldIntSS_l0_again {R : Type} (N : Nat) (ks : (j : Nat) → ((laws_heldIntSS_l0_ex.getD j (.ret, Sh.none)).2).T → Option R) (k : Nat) (x : laws_heldIntSS_l0_sh.T) : Option R :=
  laws_heldIntSS_l0 N (fun y0 => ks 0 ((y0, ()), ())) (fun y0 => ks 1 ((y0, ()), ())) k x.1.1 x.1.2.1 x.1.2.2.1
noncomputable def laws_heldIntSS_l0_s (N : Nat) : LSum := ⟨laws_heldIntSS_l0_sh, laws_heldIntSS_l0_ex, fun x ks => laws_heldIntSS_l0_again N ks N x⟩
theorem laws_heldIntSS_l0_step (N : Nat) (R : Type) (k : Nat) (x : laws_heldIntSS_l0_sh.T) (ks : (j : Nat) → ((laws_heldIntSS_l0_ex.getD j (.ret, Sh.none)).2).T → Option R) : laws_heldIntSS_l0_again N ks (k + 1) x = roundF (laws_heldIntSS_G N) tab [] (loopAt laws_heldIntSS_code 0) laws_heldIntSS_l0_sh laws_heldIntSS_l0_ex (fun y => laws_heldIntSS_l0_again N ks k y) ks x := by kernel_rfl
theorem laws_heldIntSS_l0_ok (N : Nat) : LoopOk Tryz.prog Tryz.f34.ntmps (laws_heldIntSS_l0_s N) (loopAt laws_heldIntSS_code 0) :=
  loop_ok (l := laws_heldIntSS_l0_s N) progOk (laws_heldIntSS_gok N) (draw_ok progOk (laws_heldIntSS_gok N)) (fun R k x ks => laws_heldIntSS_l0_again N ks k x) (fun _ _ _ => rfl) (fun R k x ks => laws_heldIntSS_l0_step N R k x ks) (fun R x ks r h => ⟨N, h⟩) (lsOk_at (L := []) trivial) (by kernel_rfl) (by kernel_rfl)
noncomputable def laws_heldIntSS (N : Nat) (a : (List (List Int))) (kv : Int) : Option ((Int × Unit) × (Unit)) :=
  laws_heldIntSS_l0 N (fun x => some ((x, ()), ())) (fun kv1 => some ((kv1, ()), ())) N a kv 0
noncomputable def laws_heldIntSS_S (N : Nat) : FSum := ⟨laws_heldIntSS_ps, laws_heldIntSS_rs, fun x => laws_heldIntSS N x.1 x.2.1⟩
theorem laws_heldIntSS_run (N : Nat) (x : argsT laws_heldIntSS_ps) : laws_heldIntSS N x.1 x.2.1 = funF (laws_heldIntSS_G N) tab [laws_heldIntSS_l0_s N] Tryz.f34 laws_heldIntSS_ps laws_heldIntSS_rs x := by kernel_rfl
theorem laws_heldIntSS_pc (N : Nat) : PC Tryz.prog 34 (laws_heldIntSS_S N) := by
  have e : laws_heldIntSS_S N = ⟨laws_heldIntSS_ps, laws_heldIntSS_rs, funF (laws_heldIntSS_G N) tab [laws_heldIntSS_l0_s N] Tryz.f34 laws_heldIntSS_ps laws_heldIntSS_rs⟩ := congrArg (FSum.mk laws_heldIntSS_ps laws_heldIntSS_rs) (funext (laws_heldIntSS_run N))
  rw [e]
  exact fun_ok (c := laws_heldIntSS_code) progOk (laws_heldIntSS_gok N) (draw_ok progOk (laws_heldIntSS_gok N)) Tryz.call34 Tryz.func34 (by kernel_rfl) (lsOk_at (L := [laws_heldIntSS_l0_s N]) ⟨laws_heldIntSS_l0_ok N, trivial⟩) (by kernel_rfl) (by kernel_rfl) (by kernel_rfl) (by kernel_rfl) (by kernel_rfl)

/-! ### laws_FnExactKempeWalk -/
abbrev laws_FnExactKempeWalk_ps : List (PV.Mode × Ty) := [(.ro, QILQII), (.ro, I), (.ro, LI), (.ro, LI)]
abbrev laws_FnExactKempeWalk_rs : List (Bool × Ty) := [(true, .bool)]
noncomputable def laws_FnExactKempeWalk_G (N : Nat) : GTab := gOf [(9, laws_szGraph_S N), (11, laws_toGraph_S N), (21, laws_toIntS_S N), (35, spec_KempeWalk_S N), (36, impl_KempeWalk_S N), (32, laws_eqIntSS_S N), (14, laws_eqGraph_S N), (23, laws_eqIntS_S N), (15, laws_markGraph_S N), (26, laws_markIntS_S N), (33, laws_markIntSS_S N), (34, laws_heldIntSS_S N)]
theorem laws_FnExactKempeWalk_gok (N : Nat) : GOk Tryz.prog (laws_FnExactKempeWalk_G N) := gOf_ok ⟨laws_szGraph_pc N, laws_toGraph_pc N, laws_toIntS_pc N, spec_KempeWalk_pc N, impl_KempeWalk_pc N, laws_eqIntSS_pc N, laws_eqGraph_pc N, laws_eqIntS_pc N, laws_markGraph_pc N, laws_markIntS_pc N, laws_markIntSS_pc N, laws_heldIntSS_pc N, trivial⟩
noncomputable def laws_FnExactKempeWalk_code : Code := (Tryz.f7.body).getD .skip
noncomputable def laws_FnExactKempeWalk (N : Nat) (c : (Int × (List (Int × Int)))) (c1 : Int) (c2 : (List Int)) (c3 : (List Int)) : Option ((Bool × Unit) × (Unit)) :=
  (br (ilt 1048576 (tLen c2))
    (some ((true, ()), ()))
    ((br (ilt 1048576 (tLen c3))
      (some ((true, ()), ()))
      (((laws_szGraph N (c.1, c.2) 1048576).bind fun r =>
        (br (ilt r.1.1 0)
          (some ((true, ()), ()))
          (((laws_toGraph N (c.1, c.2)).bind fun r1 =>
            ((laws_toIntS N c2).bind fun r2 =>
              ((laws_toIntS N c3).bind fun r3 =>
                ((spec_KempeWalk N (r1.1.1.1, r1.1.1.2) c1 r2.1.1 r3.1.1).bind fun r4 =>
                  ((laws_toGraph N (c.1, c.2)).bind fun r5 =>
                    ((laws_toIntS N c2).bind fun r6 =>
                      ((laws_toIntS N c3).bind fun r7 =>
                        ((impl_KempeWalk N (r5.1.1.1, r5.1.1.2) c1 r6.1.1 r7.1.1).bind fun r8 =>
                          ((laws_eqIntSS N r8.1.1 r4.1.1).bind fun r9 =>
                            (br (!r9.1.1)
                              (some ((false, ()), ()))
                              ((br (!(r8.1.2.1 == r4.1.2.1))
                                (some ((false, ()), ()))
                                (((laws_toGraph N (c.1, c.2)).bind fun r10 =>
                                  ((laws_eqGraph N (r5.1.1.1, r5.1.1.2) (r10.1.1.1, r10.1.1.2)).bind fun r11 =>
                                    (br (!r11.1.1)
                                      (some ((false, ()), ()))
                                      (((laws_toIntS N c2).bind fun r12 =>
                                        ((laws_eqIntS N r6.1.1 r12.1.1).bind fun r13 =>
                                          (br (!r13.1.1)
                                            (some ((false, ()), ()))
                                            (((laws_toIntS N c3).bind fun r14 =>
                                              ((laws_eqIntS N r7.1.1 r14.1.1).bind fun r15 =>
                                                (br (!r15.1.1)
                                                  (some ((false, ()), ()))
                                                  (((laws_markGraph N (r5.1.1.1, r5.1.1.2) 1).bind fun r16 =>
                                                    ((laws_markIntS N r6.1.1 r16.1.1).bind fun r17 =>
                                                      ((laws_markIntS N r7.1.1 r17.1.1).bind fun r18 =>
                                                        (br (ilt r18.1.1 0)
                                                          (some ((false, ()), ()))
                                                          (((laws_eqIntSS N r8.1.1 r4.1.1).bind fun r19 =>
                                                            (br (!r19.1.1)
                                                              (some ((false, ()), ()))
                                                              ((br (!(r8.1.2.1 == r4.1.2.1))
                                                                (some ((false, ()), ()))
                                                                (((laws_markIntSS N r8.1.1 1).bind fun r20 =>
                                                                  ((laws_heldIntSS N r20.2.1 1).bind fun r21 =>
                                                                    (br (ilt r21.1.1 0)
                                                                      (some ((false, ()), ()))
                                                                      ((br (ine r21.1.1 r20.1.1)
                                                                        (some ((false, ()), ()))
                                                                        (((laws_toGraph N (c.1, c.2)).bind fun r22 =>
                                                                          ((laws_toIntS N c2).bind fun r23 =>
                                                                            ((laws_toIntS N c3).bind fun r24 =>
                                                                              ((impl_KempeWalk N (r22.1.1.1, r22.1.1.2) c1 r23.1.1 r24.1.1).bind fun r25 =>
                                                                                ((laws_eqIntSS N r25.1.1 r4.1.1).bind fun r26 =>
                                                                                  (br (!r26.1.1)
                                                                                    (some ((false, ()), ()))
                                                                                    ((br (!(r25.1.2.1 == r4.1.2.1))
                                                                                      (some ((false, ()), ()))
                                                                                      (((laws_heldIntSS N r20.2.1 1).bind fun r27 =>
                                                                                        (br (ilt r27.1.1 0)
                                                                                          (some ((false, ()), ()))
                                                                                          ((br (ine r27.1.1 r20.1.1)
                                                                                            (some ((false, ()), ()))
                                                                                            (some ((true, ()), ())))))))))))))))))))))))))))))))))))))))))))))))))))))))))))))))
noncomputable def laws_FnExactKempeWalk_S (N : Nat) : FSum := ⟨laws_FnExactKempeWalk_ps, laws_FnExactKempeWalk_rs, fun x => laws_FnExactKempeWalk N x.1 x.2.1 x.2.2.1 x.2.2.2.1⟩
theorem laws_FnExactKempeWalk_run (N : Nat) (x : argsT laws_FnExactKempeWalk_ps) : laws_FnExactKempeWalk N x.1 x.2.1 x.2.2.1 x.2.2.2.1 = funF (laws_FnExactKempeWalk_G N) tab [] Tryz.f7 laws_FnExactKempeWalk_ps laws_FnExactKempeWalk_rs x := by kernel_rfl
theorem laws_FnExactKempeWalk_pc (N : Nat) : PC Tryz.prog 7 (laws_FnExactKempeWalk_S N) := by
  have e : laws_FnExactKempeWalk_S N = ⟨laws_FnExactKempeWalk_ps, laws_FnExactKempeWalk_rs, funF (laws_FnExactKempeWalk_G N) tab [] Tryz.f7 laws_FnExactKempeWalk_ps laws_FnExactKempeWalk_rs⟩ := congrArg (FSum.mk laws_FnExactKempeWalk_ps laws_FnExactKempeWalk_rs) (funext (laws_FnExactKempeWalk_run N))
  rw [e]
  exact fun_ok (c := laws_FnExactKempeWalk_code) progOk (laws_FnExactKempeWalk_gok N) (draw_ok progOk (laws_FnExactKempeWalk_gok N)) Tryz.call7 Tryz.func7 (by kernel_rfl) (lsOk_at (L := []) trivial) (by kernel_rfl) (by kernel_rfl) (by kernel_rfl) (by kernel_rfl) (by kernel_rfl)
end Go.Proofs.YtgelipdkheahdaaGreat
