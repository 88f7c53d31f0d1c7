/- Functions of the program as functions on data. -/
import Derived.Test.YtbnjcjpnpidhmaaGreatThresholdWaySa
set_option linter.all false
namespace Go.Proofs.YtbnjcjpnpidhmaaGreat
open Go Go.PV
/-! ### laws_szIntA2S -/
abbrev laws_szIntA2S_ps : List (PV.Mode × Ty) := [(.ro, LQII), (.ro, I)]
abbrev laws_szIntA2S_rs : List (Bool × Ty) := [(true, I)]
noncomputable def laws_szIntA2S_G (N : Nat) : GTab := gOf []
theorem laws_szIntA2S_gok (N : Nat) : GOk Tryz.prog (laws_szIntA2S_G N) := gOf_ok trivial
noncomputable def laws_szIntA2S_code : Code := (Tryz.f111.body).getD .skip
noncomputable def laws_szIntA2S (N : Nat) (a : (List (Int × Int))) (left : Int) : Option ((Int × Unit) × (Unit)) :=
  (br (ilt (IntKind.i64.wrap (left - (tLen a))) 0)
    (some (((-1), ()), ()))
    (some (((IntKind.i64.wrap (left - (tLen a))), ()), ())))
noncomputable def laws_szIntA2S_S (N : Nat) : FSum := ⟨laws_szIntA2S_ps, laws_szIntA2S_rs, fun x => laws_szIntA2S N x.1 x.2.1⟩
theorem laws_szIntA2S_run (N : Nat) (x : argsT laws_szIntA2S_ps) : laws_szIntA2S N x.1 x.2.1 = funF (laws_szIntA2S_G N) tab [] Tryz.f111 laws_szIntA2S_ps laws_szIntA2S_rs x := by kernel_rfl
theorem laws_szIntA2S_pc (N : Nat) : PC Tryz.prog 111 (laws_szIntA2S_S N) := by
  have e : laws_szIntA2S_S N = ⟨laws_szIntA2S_ps, laws_szIntA2S_rs, funF (laws_szIntA2S_G N) tab [] Tryz.f111 laws_szIntA2S_ps laws_szIntA2S_rs⟩ := congrArg (FSum.mk laws_szIntA2S_ps laws_szIntA2S_rs) (funext (laws_szIntA2S_run N))
  rw [e]
  exact fun_ok (c := laws_szIntA2S_code) progOk (laws_szIntA2S_gok N) (draw_ok progOk (laws_szIntA2S_gok N)) Tryz.call111 Tryz.func111 (by kernel_rfl) (lsOk_at (L := []) trivial) (by kernel_rfl) (by kernel_rfl) (by kernel_rfl) (by kernel_rfl) (by kernel_rfl)

/-! ### laws_szGraph -/
abbrev laws_szGraph_ps : List (PV.Mode × Ty) := [(.ro, QILQII), (.ro, I)]
abbrev laws_szGraph_rs : List (Bool × Ty) := [(true, I)]
noncomputable def laws_szGraph_G (N : Nat) : GTab := gOf [(111, laws_szIntA2S_S N)]
theorem laws_szGraph_gok (N : Nat) : GOk Tryz.prog (laws_szGraph_G N) := gOf_ok ⟨laws_szIntA2S_pc N, trivial⟩
noncomputable def laws_szGraph_code : Code := (Tryz.f11.body).getD .skip
noncomputable def laws_szGraph (N : Nat) (a : (Int × (List (Int × Int)))) (left : Int) : Option ((Int × Unit) × (Unit)) :=
  ((laws_szIntA2S N a.2 left).bind fun r =>
    (br (ilt r.1.1 0)
      (some (((-1), ()), ()))
      (some ((r.1.1, ()), ()))))
noncomputable def laws_szGraph_S (N : Nat) : FSum := ⟨laws_szGraph_ps, laws_szGraph_rs, fun x => laws_szGraph N x.1 x.2.1⟩
theorem laws_szGraph_run (N : Nat) (x : argsT laws_szGraph_ps) : laws_szGraph N x.1 x.2.1 = funF (laws_szGraph_G N) tab [] Tryz.f11 laws_szGraph_ps laws_szGraph_rs x := by kernel_rfl
theorem laws_szGraph_pc (N : Nat) : PC Tryz.prog 11 (laws_szGraph_S N) := by
  have e : laws_szGraph_S N = ⟨laws_szGraph_ps, laws_szGraph_rs, funF (laws_szGraph_G N) tab [] Tryz.f11 laws_szGraph_ps laws_szGraph_rs⟩ := congrArg (FSum.mk laws_szGraph_ps laws_szGraph_rs) (funext (laws_szGraph_run N))
  rw [e]
  exact fun_ok (c := laws_szGraph_code) progOk (laws_szGraph_gok N) (draw_ok progOk (laws_szGraph_gok N)) Tryz.call11 Tryz.func11 (by kernel_rfl) (lsOk_at (L := []) trivial) (by kernel_rfl) (by kernel_rfl) (by kernel_rfl) (by kernel_rfl) (by kernel_rfl)

/-! ### laws_toIntA2 -/
abbrev laws_toIntA2_ps : List (PV.Mode × Ty) := [(.ro, QII)]
abbrev laws_toIntA2_rs : List (Bool × Ty) := [(true, QII)]
noncomputable def laws_toIntA2_G (N : Nat) : GTab := gOf []
theorem laws_toIntA2_gok (N : Nat) : GOk Tryz.prog (laws_toIntA2_G N) := gOf_ok trivial
noncomputable def laws_toIntA2_code : Code := (Tryz.f224.body).getD .skip
noncomputable def laws_toIntA2_l0_sh : Sh := ⟨[(1, .one (.adr 0 0)), (2, .one (.adr 1 0)), (3, .one (.adr 2 0)), (4, .one (.num .i64 0))], [.box [.ro I, .ro I], .box [.ro I, .ro I], .box [.ro I, .ro I]]⟩
noncomputable def laws_toIntA2_l0_ex : List (Ex × Sh) := [(.exit 0, ⟨[(2, .one (.adr 0 0)), (3, .one (.adr 1 0))], [.box [.ro I, .ro I], .box [.ro I, .ro I]]⟩)]
noncomputable def laws_toIntA2_l0 {R : Type} (N : Nat) (k0 : Int → Int → Int → Int → Option R) (_ : Nat) (o6 : Int) (o7 : Int) (o8 : Int) (o9 : Int) (o10 : Int) (o11 : Int) : Option R :=
  k0 o8 o9 o6 o7
noncomputable def laws_toIntA2_l0_again {R : Type} (N : Nat) (ks : (j : Nat) → ((laws_toIntA2_l0_ex.getD j (.ret, Sh.none)).2).T → Option R) (x : laws_toIntA2_l0_sh.T) : Option R :=
  laws_toIntA2_l0 N (fun y0 y1 y2 y3 => ks 0 (((), (), ()), ((y0, y1, ()), (y2, y3, ()), ()))) N x.2.1.1 x.2.1.2.1 x.2.2.1.1 x.2.2.1.2.1 x.2.2.2.1.1 x.2.2.2.1.2.1
noncomputable def laws_toIntA2_l0_s (N : Nat) : LSum := ⟨laws_toIntA2_l0_sh, laws_toIntA2_l0_ex, fun x ks => laws_toIntA2_l0_again N ks x⟩
theorem laws_toIntA2_l0_unr (N : Nat) (R : Type) (x : laws_toIntA2_l0_sh.T) (ks : (j : Nat) → ((laws_toIntA2_l0_ex.getD j (.ret, Sh.none)).2).T → Option R) : laws_toIntA2_l0_again N ks x = unrF (laws_toIntA2_G N) tab (loopAt laws_toIntA2_code 0) laws_toIntA2_l0_ex ks 3 (fill laws_toIntA2_l0_sh x) := by kernel_rfl
theorem laws_toIntA2_l0_ok (N : Nat) : LoopOk Tryz.prog Tryz.f224.ntmps (laws_toIntA2_l0_s N) (loopAt laws_toIntA2_code 0) :=
  unroll_ok (l := laws_toIntA2_l0_s N) progOk (laws_toIntA2_gok N) (draw_ok progOk (laws_toIntA2_gok N)) (fun R x ks r h => ⟨3, (laws_toIntA2_l0_unr N R x ks).symm.trans h⟩) (by kernel_rfl) (by kernel_rfl)
noncomputable def laws_toIntA2 (N : Nat) (a : (Int × Int)) : Option (((Int × Int) × Unit) × (Unit)) :=
  laws_toIntA2_l0 N (fun o6 o7 o8 o9 => some (((o8, o9), ()), ())) N a.1 a.2 0 0 0 0
noncomputable def laws_toIntA2_S (N : Nat) : FSum := ⟨laws_toIntA2_ps, laws_toIntA2_rs, fun x => laws_toIntA2 N x.1⟩
theorem laws_toIntA2_run (N : Nat) (x : argsT laws_toIntA2_ps) : laws_toIntA2 N x.1 = funF (laws_toIntA2_G N) tab [laws_toIntA2_l0_s N] Tryz.f224 laws_toIntA2_ps laws_toIntA2_rs x := by kernel_rfl
theorem laws_toIntA2_pc (N : Nat) : PC Tryz.prog 224 (laws_toIntA2_S N) := by
  have e : laws_toIntA2_S N = ⟨laws_toIntA2_ps, laws_toIntA2_rs, funF (laws_toIntA2_G N) tab [laws_toIntA2_l0_s N] Tryz.f224 laws_toIntA2_ps laws_toIntA2_rs⟩ := congrArg (FSum.mk laws_toIntA2_ps laws_toIntA2_rs) (funext (laws_toIntA2_run N))
  rw [e]
  exact fun_ok (c := laws_toIntA2_code) progOk (laws_toIntA2_gok N) (draw_ok progOk (laws_toIntA2_gok N)) Tryz.call224 Tryz.func224 (by kernel_rfl) (lsOk_at (L := [laws_toIntA2_l0_s N]) ⟨laws_toIntA2_l0_ok N, trivial⟩) (by kernel_rfl) (by kernel_rfl) (by kernel_rfl) (by kernel_rfl) (by kernel_rfl)

/-! ### laws_toIntA2S -/
abbrev laws_toIntA2S_ps : List (PV.Mode × Ty) := [(.ro, LQII)]
abbrev laws_toIntA2S_rs : List (Bool × Ty) := [(true, LQII)]
noncomputable def laws_toIntA2S_G (N : Nat) : GTab := gOf [(224, laws_toIntA2_S N)]
theorem laws_toIntA2S_gok (N : Nat) : GOk Tryz.prog (laws_toIntA2S_G N) := gOf_ok ⟨laws_toIntA2_pc N, trivial⟩
noncomputable def laws_toIntA2S_code : Code := (Tryz.f114.body).getD .skip
noncomputable def laws_toIntA2S_l0_sh : Sh := ⟨[(0, .one (.ro LQII)), (3, .one (.ref 0)), (4, .one (.ro I))], [.sl 123 QII .own]⟩
noncomputable def laws_toIntA2S_l0_ex : List (Ex × Sh) := [(.exit 0, ⟨[(3, .one (.ref 0))], [.sl 123 QII .own]⟩)]
noncomputable def laws_toIntA2S_l0 {R : Type} (N : Nat) (k0 : (List (Int × Int)) → Option R) : Nat → (List (Int × Int)) → Int → (List (Int × Int)) → Option R
  | 0, _, _, _ => none
  | K + 1, a1, i, o =>
    (br (ilt i (tLen a1))
      ((chk (inb a1 i)
        ((laws_toIntA2 N (rdP a1 i)).bind fun r =>
        (chk (inb o i)
          (laws_toIntA2S_l0 N k0 K a1 (IntKind.i64.wrap (i + 1)) (tSet o i (r.1.1.1, r.1.1.2)))))))
      (k0 o))
noncomputable def laws_toIntA2S_l0_again {R : Type} (N : Nat) (ks : (j : Nat) → ((laws_toIntA2S_l0_ex.getD j (.ret, Sh.none)).2).T → Option R) (k : Nat) (x : laws_toIntA2S_l0_sh.T) : Option R :=
  laws_toIntA2S_l0 N (fun y0 => ks 0 (((), ()), (y0, ()))) k x.1.1 x.1.2.2.1 x.2.1
noncomputable def laws_toIntA2S_l0_s (N : Nat) : LSum := ⟨laws_toIntA2S_l0_sh, laws_toIntA2S_l0_ex, fun x ks => laws_toIntA2S_l0_again N ks N x⟩
theorem laws_toIntA2S_l0_step (N : Nat) (R : Type) (k : Nat) (x : laws_toIntA2S_l0_sh.T) (ks : (j : Nat) → ((laws_toIntA2S_l0_ex.getD j (.ret, Sh.none)).2).T → Option R) : laws_toIntA2S_l0_again N ks (k + 1) x = roundF (laws_toIntA2S_G N) tab [] (loopAt laws_toIntA2S_code 0) laws_toIntA2S_l0_sh laws_toIntA2S_l0_ex (fun y => laws_toIntA2S_l0_again N ks k y) ks x := by kernel_rfl
theorem laws_toIntA2S_l0_ok (N : Nat) : LoopOk Tryz.prog Tryz.f114.ntmps (laws_toIntA2S_l0_s N) (loopAt laws_toIntA2S_code 0) :=
  loop_ok (l := laws_toIntA2S_l0_s N) progOk (laws_toIntA2S_gok N) (draw_ok progOk (laws_toIntA2S_gok N)) (fun R k x ks => laws_toIntA2S_l0_again N ks k x) (fun _ _ _ => rfl) (fun R k x ks => laws_toIntA2S_l0_step N R k x ks) (fun R x ks r h => ⟨N, h⟩) (lsOk_at (L := []) trivial) (by kernel_rfl) (by kernel_rfl)
noncomputable def laws_toIntA2S (N : Nat) (a : (List (Int × Int))) : Option (((List (Int × Int)) × Unit) × (Unit)) :=
  (chk (ile 0 (tLen a) && ile (tLen a) (tLen a) && fits (tLen a))
    (laws_toIntA2S_l0 N (fun o => some ((o, ()), ())) N a 0 (tRep (tLen a) (0, 0))))
noncomputable def laws_toIntA2S_S (N : Nat) : FSum := ⟨laws_toIntA2S_ps, laws_toIntA2S_rs, fun x => laws_toIntA2S N x.1⟩
theorem laws_toIntA2S_run (N : Nat) (x : argsT laws_toIntA2S_ps) : laws_toIntA2S N x.1 = funF (laws_toIntA2S_G N) tab [laws_toIntA2S_l0_s N] Tryz.f114 laws_toIntA2S_ps laws_toIntA2S_rs x := by kernel_rfl
theorem laws_toIntA2S_pc (N : Nat) : PC Tryz.prog 114 (laws_toIntA2S_S N) := by
  have e : laws_toIntA2S_S N = ⟨laws_toIntA2S_ps, laws_toIntA2S_rs, funF (laws_toIntA2S_G N) tab [laws_toIntA2S_l0_s N] Tryz.f114 laws_toIntA2S_ps laws_toIntA2S_rs⟩ := congrArg (FSum.mk laws_toIntA2S_ps laws_toIntA2S_rs) (funext (laws_toIntA2S_run N))
  rw [e]
  exact fun_ok (c := laws_toIntA2S_code) progOk (laws_toIntA2S_gok N) (draw_ok progOk (laws_toIntA2S_gok N)) Tryz.call114 Tryz.func114 (by kernel_rfl) (lsOk_at (L := [laws_toIntA2S_l0_s N]) ⟨laws_toIntA2S_l0_ok N, trivial⟩) (by kernel_rfl) (by kernel_rfl) (by kernel_rfl) (by kernel_rfl) (by kernel_rfl)

/-! ### laws_toGraph -/
abbrev laws_toGraph_ps : List (PV.Mode × Ty) := [(.ro, QILQII)]
abbrev laws_toGraph_rs : List (Bool × Ty) := [(true, QILQII)]
noncomputable def laws_toGraph_G (N : Nat) : GTab := gOf [(114, laws_toIntA2S_S N)]
theorem laws_toGraph_gok (N : Nat) : GOk Tryz.prog (laws_toGraph_G N) := gOf_ok ⟨laws_toIntA2S_pc N, trivial⟩
noncomputable def laws_toGraph_code : Code := (Tryz.f13.body).getD .skip
noncomputable def laws_toGraph (N : Nat) (a : (Int × (List (Int × Int)))) : Option (((Int × (List (Int × Int))) × Unit) × (Unit)) :=
  ((laws_toIntA2S N a.2).bind fun r =>
    some (((a.1, r.1.1), ()), ()))
noncomputable def laws_toGraph_S (N : Nat) : FSum := ⟨laws_toGraph_ps, laws_toGraph_rs, fun x => laws_toGraph N x.1⟩
theorem laws_toGraph_run (N : Nat) (x : argsT laws_toGraph_ps) : laws_toGraph N x.1 = funF (laws_toGraph_G N) tab [] Tryz.f13 laws_toGraph_ps laws_toGraph_rs x := by kernel_rfl
theorem laws_toGraph_pc (N : Nat) : PC Tryz.prog 13 (laws_toGraph_S N) := by
  have e : laws_toGraph_S N = ⟨laws_toGraph_ps, laws_toGraph_rs, funF (laws_toGraph_G N) tab [] Tryz.f13 laws_toGraph_ps laws_toGraph_rs⟩ := congrArg (FSum.mk laws_toGraph_ps laws_toGraph_rs) (funext (laws_toGraph_run N))
  rw [e]
  exact fun_ok (c := laws_toGraph_code) progOk (laws_toGraph_gok N) (draw_ok progOk (laws_toGraph_gok N)) Tryz.call13 Tryz.func13 (by kernel_rfl) (lsOk_at (L := []) trivial) (by kernel_rfl) (by kernel_rfl) (by kernel_rfl) (by kernel_rfl) (by kernel_rfl)

/-! ### laws_toIntS -/
abbrev laws_toIntS_ps : List (PV.Mode × Ty) := [(.ro, LI)]
abbrev laws_toIntS_rs : List (Bool × Ty) := [(true, LI)]
noncomputable def laws_toIntS_G (N : Nat) : GTab := gOf []
theorem laws_toIntS_gok (N : Nat) : GOk Tryz.prog (laws_toIntS_G N) := gOf_ok trivial
noncomputable def laws_toIntS_code : Code := (Tryz.f14.body).getD .skip
noncomputable def laws_toIntS_l0_sh : Sh := ⟨[(0, .one (.ro LI)), (3, .one (.ref 0)), (4, .one (.ro I))], [.sl 3 I .own]⟩
noncomputable def laws_toIntS_l0_ex : List (Ex × Sh) := [(.exit 0, ⟨[(3, .one (.ref 0))], [.sl 3 I .own]⟩)]
noncomputable def laws_toIntS_l0 {R : Type} (N : Nat) (k0 : (List Int) → Option R) : Nat → (List Int) → Int → (List Int) → Option R
  | 0, _, _, _ => none
  | K + 1, a1, i, o =>
    (br (ilt i (tLen a1))
      ((chk (inb a1 i)
        (chk (inb o i)
        (laws_toIntS_l0 N k0 K a1 (IntKind.i64.wrap (i + 1)) (tSet o i (rdI a1 i))))))
      (k0 o))
noncomputable def laws_toIntS_l0_again {R : Type} (N : Nat) (ks : (j : Nat) → ((laws_toIntS_l0_ex.getD j (.ret, Sh.none)).2).T → Option R) (k : Nat) (x : laws_toIntS_l0_sh.T) : Option R :=
  laws_toIntS_l0 N (fun y0 => ks 0 (((), ()), (y0, ()))) k x.1.1 x.1.2.2.1 x.2.1
noncomputable def laws_toIntS_l0_s (N : Nat) : LSum := ⟨laws_toIntS_l0_sh, laws_toIntS_l0_ex, fun x ks => laws_toIntS_l0_again N ks N x⟩
theorem laws_toIntS_l0_step (N : Nat) (R : Type) (k : Nat) (x : laws_toIntS_l0_sh.T) (ks : (j : Nat) → ((laws_toIntS_l0_ex.getD j (.ret, Sh.none)).2).T → Option R) : laws_toIntS_l0_again N ks (k + 1) x = roundF (laws_toIntS_G N) tab [] (loopAt laws_toIntS_code 0) laws_toIntS_l0_sh laws_toIntS_l0_ex (fun y => laws_toIntS_l0_again N ks k y) ks x := by kernel_rfl
theorem laws_toIntS_l0_ok (N : Nat) : LoopOk Tryz.prog Tryz.f14.ntmps (laws_toIntS_l0_s N) (loopAt laws_toIntS_code 0) :=
  loop_ok (l := laws_toIntS_l0_s N) progOk (laws_toIntS_gok N) (draw_ok progOk (laws_toIntS_gok N)) (fun R k x ks => laws_toIntS_l0_again N ks k x) (fun _ _ _ => rfl) (fun R k x ks => laws_toIntS_l0_step N R k x ks) (fun R x ks r h => ⟨N, h⟩) (lsOk_at (L := []) trivial) (by kernel_rfl) (by kernel_rfl)
noncomputable def laws_toIntS (N : Nat) (a : (List Int)) : Option (((List Int) × Unit) × (Unit)) :=
  (chk (ile 0 (tLen a) && ile (tLen a) (tLen a) && fits (tLen a))
    (laws_toIntS_l0 N (fun o => some ((o, ()), ())) N a 0 (tRep (tLen a) (0 : Int))))
noncomputable def laws_toIntS_S (N : Nat) : FSum := ⟨laws_toIntS_ps, laws_toIntS_rs, fun x => laws_toIntS N x.1⟩
theorem laws_toIntS_run (N : Nat) (x : argsT laws_toIntS_ps) : laws_toIntS N x.1 = funF (laws_toIntS_G N) tab [laws_toIntS_l0_s N] Tryz.f14 laws_toIntS_ps laws_toIntS_rs x := by kernel_rfl
theorem laws_toIntS_pc (N : Nat) : PC Tryz.prog 14 (laws_toIntS_S N) := by
  have e : laws_toIntS_S N = ⟨laws_toIntS_ps, laws_toIntS_rs, funF (laws_toIntS_G N) tab [laws_toIntS_l0_s N] Tryz.f14 laws_toIntS_ps laws_toIntS_rs⟩ := congrArg (FSum.mk laws_toIntS_ps laws_toIntS_rs) (funext (laws_toIntS_run N))
  rw [e]
  exact fun_ok (c := laws_toIntS_code) progOk (laws_toIntS_gok N) (draw_ok progOk (laws_toIntS_gok N)) Tryz.call14 Tryz.func14 (by kernel_rfl) (lsOk_at (L := [laws_toIntS_l0_s N]) ⟨laws_toIntS_l0_ok N, trivial⟩) (by kernel_rfl) (by kernel_rfl) (by kernel_rfl) (by kernel_rfl) (by kernel_rfl)

/-! ### spec_l1In -/
abbrev spec_l1In_ps : List (PV.Mode × Ty) := [(.ro, I), (.ro, I), (.ro, I)]
abbrev spec_l1In_rs : List (Bool × Ty) := [(true, .bool)]
noncomputable def spec_l1In_G (N : Nat) : GTab := gOf []
theorem spec_l1In_gok (N : Nat) : GOk Tryz.prog (spec_l1In_G N) := gOf_ok trivial
noncomputable def spec_l1In_code : Code := (Tryz.f238.body).getD .skip
noncomputable def spec_l1In (N : Nat) (x : Int) (a : Int) (b : Int) : Option ((Bool × Unit) × (Unit)) :=
  (br (ile a x)
    (some (((ile x b), ()), ()))
    (some ((false, ()), ())))
noncomputable def spec_l1In_S (N : Nat) : FSum := ⟨spec_l1In_ps, spec_l1In_rs, fun x => spec_l1In N x.1 x.2.1 x.2.2.1⟩
theorem spec_l1In_run (N : Nat) (x : argsT spec_l1In_ps) : spec_l1In N x.1 x.2.1 x.2.2.1 = funF (spec_l1In_G N) tab [] Tryz.f238 spec_l1In_ps spec_l1In_rs x := by kernel_rfl
theorem spec_l1In_pc (N : Nat) : PC Tryz.prog 238 (spec_l1In_S N) := by
  have e : spec_l1In_S N = ⟨spec_l1In_ps, spec_l1In_rs, funF (spec_l1In_G N) tab [] Tryz.f238 spec_l1In_ps spec_l1In_rs⟩ := congrArg (FSum.mk spec_l1In_ps spec_l1In_rs) (funext (spec_l1In_run N))
  rw [e]
  exact fun_ok (c := spec_l1In_code) progOk (spec_l1In_gok N) (draw_ok progOk (spec_l1In_gok N)) Tryz.call238 Tryz.func238 (by kernel_rfl) (lsOk_at (L := []) trivial) (by kernel_rfl) (by kernel_rfl) (by kernel_rfl) (by kernel_rfl) (by kernel_rfl)

/-! ### spec_l2Edge -/
abbrev spec_l2Edge_ps : List (PV.Mode × Ty) := [(.ro, QII), (.ro, QII)]
abbrev spec_l2Edge_rs : List (Bool × Ty) := [(true, .bool)]
noncomputable def spec_l2Edge_G (N : Nat) : GTab := gOf []
theorem spec_l2Edge_gok (N : Nat) : GOk Tryz.prog (spec_l2Edge_G N) := gOf_ok trivial
noncomputable def spec_l2Edge_code : Code := (Tryz.f298.body).getD .skip
noncomputable def spec_l2Edge (N : Nat) (a : (Int × Int)) (b : (Int × Int)) : Option ((Bool × Unit) × (Unit)) :=
  (br (ilt a.1 b.1)
    (some ((true, ()), ()))
    ((br (ieq a.1 b.1)
      (some (((ilt a.2 b.2), ()), ()))
      (some ((false, ()), ())))))
noncomputable def spec_l2Edge_S (N : Nat) : FSum := ⟨spec_l2Edge_ps, spec_l2Edge_rs, fun x => spec_l2Edge N x.1 x.2.1⟩
theorem spec_l2Edge_run (N : Nat) (x : argsT spec_l2Edge_ps) : spec_l2Edge N x.1 x.2.1 = funF (spec_l2Edge_G N) tab [] Tryz.f298 spec_l2Edge_ps spec_l2Edge_rs x := by kernel_rfl
theorem spec_l2Edge_pc (N : Nat) : PC Tryz.prog 298 (spec_l2Edge_S N) := by
  have e : spec_l2Edge_S N = ⟨spec_l2Edge_ps, spec_l2Edge_rs, funF (spec_l2Edge_G N) tab [] Tryz.f298 spec_l2Edge_ps spec_l2Edge_rs⟩ := congrArg (FSum.mk spec_l2Edge_ps spec_l2Edge_rs) (funext (spec_l2Edge_run N))
  rw [e]
  exact fun_ok (c := spec_l2Edge_code) progOk (spec_l2Edge_gok N) (draw_ok progOk (spec_l2Edge_gok N)) Tryz.call298 Tryz.func298 (by kernel_rfl) (lsOk_at (L := []) trivial) (by kernel_rfl) (by kernel_rfl) (by kernel_rfl) (by kernel_rfl) (by kernel_rfl)

/-! ### spec_l2Pairs -/
abbrev spec_l2Pairs_ps : List (PV.Mode × Ty) := [(.ro, LQII), (.ro, I)]
abbrev spec_l2Pairs_rs : List (Bool × Ty) := [(true, .bool)]
noncomputable def spec_l2Pairs_G (N : Nat) : GTab := gOf [(238, spec_l1In_S N), (298, spec_l2Edge_S N)]
theorem spec_l2Pairs_gok (N : Nat) : GOk Tryz.prog (spec_l2Pairs_G N) := gOf_ok ⟨spec_l1In_pc N, spec_l2Edge_pc N, trivial⟩
noncomputable def spec_l2Pairs_code : Code := (Tryz.f239.body).getD .skip
noncomputable def spec_l2Pairs_l0_sh : Sh := ⟨[(0, .one (.ro LQII)), (1, .one (.ro I)), (5, .one (.ro I))], []⟩
noncomputable def spec_l2Pairs_l0_ex : List (Ex × Sh) := [(.ret, ⟨[(4, .one (.ro .bool))], []⟩), (.exit 0, ⟨[], []⟩)]
noncomputable def spec_l2Pairs_l0 {R : Type} (N : Nat) (k0 : Bool → Option R) (k1 : Unit → Option R) : Nat → (List (Int × Int)) → Int → Int → Option R
  | 0, _, _, _ => none
  | K + 1, pairs1, n1, i =>
    (br (ilt i (tLen pairs1))
      ((chk (inb pairs1 i)
        ((spec_l1In N ((rdP pairs1 i).1) 0 (IntKind.i64.wrap (n1 - 1))).bind fun r =>
        (br (!r.1.1)
          (k0 false)
          (((spec_l1In N ((rdP pairs1 i).2) 0 (IntKind.i64.wrap (n1 - 1))).bind fun r1 =>
            (br (!r1.1.1)
              (k0 false)
              ((br (ile ((rdP pairs1 i).2) ((rdP pairs1 i).1))
                (k0 false)
                ((br (ilt 0 i)
                  ((chk (inb pairs1 (IntKind.i64.wrap (i - 1)))
                    ((spec_l2Edge N (rdP pairs1 (IntKind.i64.wrap (i - 1))) ((rdP pairs1 i).1, (rdP pairs1 i).2)).bind fun r2 =>
                    (br (!r2.1.1)
                      (k0 false)
                      (spec_l2Pairs_l0 N k0 k1 K pairs1 n1 (IntKind.i64.wrap (i + 1)))))))
                  (spec_l2Pairs_l0 N k0 k1 K pairs1 n1 (IntKind.i64.wrap (i + 1))))))))))))))
      (k1 ()))
noncomputable def spec_l2Pairs_l0_again {R : Type} (N : Nat) (ks : (j : Nat) → ((spec_l2Pairs_l0_ex.getD j (.ret, Sh.none)).2).T → Option R) (k : Nat) (x : spec_l2Pairs_l0_sh.T) : Option R :=
  spec_l2Pairs_l0 N (fun y0 => ks 0 ((y0, ()), ())) (fun (_ : Unit) => ks 1 ((), ())) k x.1.1 x.1.2.1 x.1.2.2.1
noncomputable def spec_l2Pairs_l0_s (N : Nat) : LSum := ⟨spec_l2Pairs_l0_sh, spec_l2Pairs_l0_ex, fun x ks => spec_l2Pairs_l0_again N ks N x⟩
theorem spec_l2Pairs_l0_step (N : Nat) (R : Type) (k : Nat) (x : spec_l2Pairs_l0_sh.T) (ks : (j : Nat) → ((spec_l2Pairs_l0_ex.getD j (.ret, Sh.none)).2).T → Option R) : spec_l2Pairs_l0_again N ks (k + 1) x = roundF (spec_l2Pairs_G N) tab [] (loopAt spec_l2Pairs_code 0) spec_l2Pairs_l0_sh spec_l2Pairs_l0_ex (fun y => spec_l2Pairs_l0_again N ks k y) ks x := by kernel_rfl
theorem spec_l2Pairs_l0_ok (N : Nat) : LoopOk Tryz.prog Tryz.f239.ntmps (spec_l2Pairs_l0_s N) (loopAt spec_l2Pairs_code 0) :=
  loop_ok (l := spec_l2Pairs_l0_s N) progOk (spec_l2Pairs_gok N) (draw_ok progOk (spec_l2Pairs_gok N)) (fun R k x ks => spec_l2Pairs_l0_again N ks k x) (fun _ _ _ => rfl) (fun R k x ks => spec_l2Pairs_l0_step N R k x ks) (fun R x ks r h => ⟨N, h⟩) (lsOk_at (L := []) trivial) (by kernel_rfl) (by kernel_rfl)
noncomputable def spec_l2Pairs (N : Nat) (pairs : (List (Int × Int))) (n : Int) : Option ((Bool × Unit) × (Unit)) :=
  spec_l2Pairs_l0 N (fun x => some ((x, ()), ())) (fun (_ : Unit) => some ((true, ()), ())) N pairs n 0
noncomputable def spec_l2Pairs_S (N : Nat) : FSum := ⟨spec_l2Pairs_ps, spec_l2Pairs_rs, fun x => spec_l2Pairs N x.1 x.2.1⟩
theorem spec_l2Pairs_run (N : Nat) (x : argsT spec_l2Pairs_ps) : spec_l2Pairs N x.1 x.2.1 = funF (spec_l2Pairs_G N) tab [spec_l2Pairs_l0_s N] Tryz.f239 spec_l2Pairs_ps spec_l2Pairs_rs x := by kernel_rfl
theorem spec_l2Pairs_pc (N : Nat) : PC Tryz.prog 239 (spec_l2Pairs_S N) := by
  have e : spec_l2Pairs_S N = ⟨spec_l2Pairs_ps, spec_l2Pairs_rs, funF (spec_l2Pairs_G N) tab [spec_l2Pairs_l0_s N] Tryz.f239 spec_l2Pairs_ps spec_l2Pairs_rs⟩ := congrArg (FSum.mk spec_l2Pairs_ps spec_l2Pairs_rs) (funext (spec_l2Pairs_run N))
  rw [e]
  exact fun_ok (c := spec_l2Pairs_code) progOk (spec_l2Pairs_gok N) (draw_ok progOk (spec_l2Pairs_gok N)) Tryz.call239 Tryz.func239 (by kernel_rfl) (lsOk_at (L := [spec_l2Pairs_l0_s N]) ⟨spec_l2Pairs_l0_ok N, trivial⟩) (by kernel_rfl) (by kernel_rfl) (by kernel_rfl) (by kernel_rfl) (by kernel_rfl)

/-! ### spec_l2Good -/
abbrev spec_l2Good_ps : List (PV.Mode × Ty) := [(.ro, QILQII)]
abbrev spec_l2Good_rs : List (Bool × Ty) := [(true, .bool)]
noncomputable def spec_l2Good_G (N : Nat) : GTab := gOf [(238, spec_l1In_S N), (239, spec_l2Pairs_S N)]
theorem spec_l2Good_gok (N : Nat) : GOk Tryz.prog (spec_l2Good_G N) := gOf_ok ⟨spec_l1In_pc N, spec_l2Pairs_pc N, trivial⟩
noncomputable def spec_l2Good_code : Code := (Tryz.f146.body).getD .skip
noncomputable def spec_l2Good (N : Nat) (g : (Int × (List (Int × Int)))) : Option ((Bool × Unit) × (Unit)) :=
  ((spec_l1In N g.1 0 8).bind fun r =>
    (br r.1.1
      (((spec_l2Pairs N g.2 g.1).bind fun r1 =>
        some ((r1.1.1, ()), ())))
      (some ((false, ()), ()))))
noncomputable def spec_l2Good_S (N : Nat) : FSum := ⟨spec_l2Good_ps, spec_l2Good_rs, fun x => spec_l2Good N x.1⟩
theorem spec_l2Good_run (N : Nat) (x : argsT spec_l2Good_ps) : spec_l2Good N x.1 = funF (spec_l2Good_G N) tab [] Tryz.f146 spec_l2Good_ps spec_l2Good_rs x := by kernel_rfl
theorem spec_l2Good_pc (N : Nat) : PC Tryz.prog 146 (spec_l2Good_S N) := by
  have e : spec_l2Good_S N = ⟨spec_l2Good_ps, spec_l2Good_rs, funF (spec_l2Good_G N) tab [] Tryz.f146 spec_l2Good_ps spec_l2Good_rs⟩ := congrArg (FSum.mk spec_l2Good_ps spec_l2Good_rs) (funext (spec_l2Good_run N))
  rw [e]
  exact fun_ok (c := spec_l2Good_code) progOk (spec_l2Good_gok N) (draw_ok progOk (spec_l2Good_gok N)) Tryz.call146 Tryz.func146 (by kernel_rfl) (lsOk_at (L := []) trivial) (by kernel_rfl) (by kernel_rfl) (by kernel_rfl) (by kernel_rfl) (by kernel_rfl)

/-! ### spec_l4Kind -/
abbrev spec_l4Kind_ps : List (PV.Mode × Ty) := [(.ro, I)]
abbrev spec_l4Kind_rs : List (Bool × Ty) := [(true, .bool)]
noncomputable def spec_l4Kind_G (N : Nat) : GTab := gOf [(238, spec_l1In_S N)]
theorem spec_l4Kind_gok (N : Nat) : GOk Tryz.prog (spec_l4Kind_G N) := gOf_ok ⟨spec_l1In_pc N, trivial⟩
noncomputable def spec_l4Kind_code : Code := (Tryz.f228.body).getD .skip
noncomputable def spec_l4Kind (N : Nat) (kind : Int) : Option ((Bool × Unit) × (Unit)) :=
  ((spec_l1In N kind 1 3).bind fun r =>
    some ((r.1.1, ()), ()))
noncomputable def spec_l4Kind_S (N : Nat) : FSum := ⟨spec_l4Kind_ps, spec_l4Kind_rs, fun x => spec_l4Kind N x.1⟩
theorem spec_l4Kind_run (N : Nat) (x : argsT spec_l4Kind_ps) : spec_l4Kind N x.1 = funF (spec_l4Kind_G N) tab [] Tryz.f228 spec_l4Kind_ps spec_l4Kind_rs x := by kernel_rfl
theorem spec_l4Kind_pc (N : Nat) : PC Tryz.prog 228 (spec_l4Kind_S N) := by
  have e : spec_l4Kind_S N = ⟨spec_l4Kind_ps, spec_l4Kind_rs, funF (spec_l4Kind_G N) tab [] Tryz.f228 spec_l4Kind_ps spec_l4Kind_rs⟩ := congrArg (FSum.mk spec_l4Kind_ps spec_l4Kind_rs) (funext (spec_l4Kind_run N))
  rw [e]
  exact fun_ok (c := spec_l4Kind_code) progOk (spec_l4Kind_gok N) (draw_ok progOk (spec_l4Kind_gok N)) Tryz.call228 Tryz.func228 (by kernel_rfl) (lsOk_at (L := []) trivial) (by kernel_rfl) (by kernel_rfl) (by kernel_rfl) (by kernel_rfl) (by kernel_rfl)

/-! ### spec_l4Good -/
abbrev spec_l4Good_ps : List (PV.Mode × Ty) := [(.ro, QILQII), (.ro, I)]
abbrev spec_l4Good_rs : List (Bool × Ty) := [(true, .bool)]
noncomputable def spec_l4Good_G (N : Nat) : GTab := gOf [(146, spec_l2Good_S N), (228, spec_l4Kind_S N)]
theorem spec_l4Good_gok (N : Nat) : GOk Tryz.prog (spec_l4Good_G N) := gOf_ok ⟨spec_l2Good_pc N, spec_l4Kind_pc N, trivial⟩
noncomputable def spec_l4Good_code : Code := (Tryz.f129.body).getD .skip
noncomputable def spec_l4Good (N : Nat) (g : (Int × (List (Int × Int)))) (kind : Int) : Option ((Bool × Unit) × (Unit)) :=
  ((spec_l2Good N (g.1, g.2)).bind fun r =>
    (br r.1.1
      (((spec_l4Kind N kind).bind fun r1 =>
        some ((r1.1.1, ()), ())))
      (some ((false, ()), ()))))
noncomputable def spec_l4Good_S (N : Nat) : FSum := ⟨spec_l4Good_ps, spec_l4Good_rs, fun x => spec_l4Good N x.1 x.2.1⟩
theorem spec_l4Good_run (N : Nat) (x : argsT spec_l4Good_ps) : spec_l4Good N x.1 x.2.1 = funF (spec_l4Good_G N) tab [] Tryz.f129 spec_l4Good_ps spec_l4Good_rs x := by kernel_rfl
theorem spec_l4Good_pc (N : Nat) : PC Tryz.prog 129 (spec_l4Good_S N) := by
  have e : spec_l4Good_S N = ⟨spec_l4Good_ps, spec_l4Good_rs, funF (spec_l4Good_G N) tab [] Tryz.f129 spec_l4Good_ps spec_l4Good_rs⟩ := congrArg (FSum.mk spec_l4Good_ps spec_l4Good_rs) (funext (spec_l4Good_run N))
  rw [e]
  exact fun_ok (c := spec_l4Good_code) progOk (spec_l4Good_gok N) (draw_ok progOk (spec_l4Good_gok N)) Tryz.call129 Tryz.func129 (by kernel_rfl) (lsOk_at (L := []) trivial) (by kernel_rfl) (by kernel_rfl) (by kernel_rfl) (by kernel_rfl) (by kernel_rfl)

/-! ### spec_l1Rising -/
abbrev spec_l1Rising_ps : List (PV.Mode × Ty) := [(.ro, LI), (.ro, I), (.ro, I)]
abbrev spec_l1Rising_rs : List (Bool × Ty) := [(true, .bool)]
noncomputable def spec_l1Rising_G (N : Nat) : GTab := gOf [(238, spec_l1In_S N)]
theorem spec_l1Rising_gok (N : Nat) : GOk Tryz.prog (spec_l1Rising_G N) := gOf_ok ⟨spec_l1In_pc N, trivial⟩
noncomputable def spec_l1Rising_code : Code := (Tryz.f229.body).getD .skip
noncomputable def spec_l1Rising_l0_sh : Sh := ⟨[(0, .one (.ro LI)), (1, .one (.ro I)), (2, .one (.ro I)), (7, .one (.ro I))], []⟩
noncomputable def spec_l1Rising_l0_ex : List (Ex × Sh) := [(.ret, ⟨[(6, .one (.ro .bool))], []⟩), (.exit 0, ⟨[], []⟩)]
noncomputable def spec_l1Rising_l0 {R : Type} (N : Nat) (k0 : Bool → Option R) (k1 : Unit → Option R) : Nat → (List Int) → Int → Int → Int → Option R
  | 0, _, _, _, _ => none
  | K + 1, l1, lo1, hi1, i =>
    (br (ilt i (tLen l1))
      ((chk (inb l1 i)
        ((spec_l1In N (rdI l1 i) lo1 hi1).bind fun r =>
        (br (!r.1.1)
          (k0 false)
          ((br (ilt 0 i)
            ((chk (inb l1 (IntKind.i64.wrap (i - 1)))
              (chk (inb l1 i)
              (br (ile (rdI l1 i) (rdI l1 (IntKind.i64.wrap (i - 1))))
              (k0 false)
              (spec_l1Rising_l0 N k0 k1 K l1 lo1 hi1 (IntKind.i64.wrap (i + 1)))))))
            (spec_l1Rising_l0 N k0 k1 K l1 lo1 hi1 (IntKind.i64.wrap (i + 1)))))))))
      (k1 ()))
noncomputable def spec_l1Rising_l0_again {R : Type} (N : Nat) (ks : (j : Nat) → ((spec_l1Rising_l0_ex.getD j (.ret, Sh.none)).2).T → Option R) (k : Nat) (x : spec_l1Rising_l0_sh.T) : Option R :=
  spec_l1Rising_l0 N (fun y0 => ks 0 ((y0, ()), ())) (fun (_ : Unit) => ks 1 ((), ())) k x.1.1 x.1.2.1 x.1.2.2.1 x.1.2.2.2.1
noncomputable def spec_l1Rising_l0_s (N : Nat) : LSum := ⟨spec_l1Rising_l0_sh, spec_l1Rising_l0_ex, fun x ks => spec_l1Rising_l0_again N ks N x⟩
theorem spec_l1Rising_l0_step (N : Nat) (R : Type) (k : Nat) (x : spec_l1Rising_l0_sh.T) (ks : (j : Nat) → ((spec_l1Rising_l0_ex.getD j (.ret, Sh.none)).2).T → Option R) : spec_l1Rising_l0_again N ks (k + 1) x = roundF (spec_l1Rising_G N) tab [] (loopAt spec_l1Rising_code 0) spec_l1Rising_l0_sh spec_l1Rising_l0_ex (fun y => spec_l1Rising_l0_again N ks k y) ks x := by kernel_rfl
theorem spec_l1Rising_l0_ok (N : Nat) : LoopOk Tryz.prog Tryz.f229.ntmps (spec_l1Rising_l0_s N) (loopAt spec_l1Rising_code 0) :=
  loop_ok (l := spec_l1Rising_l0_s N) progOk (spec_l1Rising_gok N) (draw_ok progOk (spec_l1Rising_gok N)) (fun R k x ks => spec_l1Rising_l0_again N ks k x) (fun _ _ _ => rfl) (fun R k x ks => spec_l1Rising_l0_step N R k x ks) (fun R x ks r h => ⟨N, h⟩) (lsOk_at (L := []) trivial) (by kernel_rfl) (by kernel_rfl)
noncomputable def spec_l1Rising (N : Nat) (l : (List Int)) (lo : Int) (hi : Int) : Option ((Bool × Unit) × (Unit)) :=
  spec_l1Rising_l0 N (fun x => some ((x, ()), ())) (fun (_ : Unit) => some ((true, ()), ())) N l lo hi 0
noncomputable def spec_l1Rising_S (N : Nat) : FSum := ⟨spec_l1Rising_ps, spec_l1Rising_rs, fun x => spec_l1Rising N x.1 x.2.1 x.2.2.1⟩
theorem spec_l1Rising_run (N : Nat) (x : argsT spec_l1Rising_ps) : spec_l1Rising N x.1 x.2.1 x.2.2.1 = funF (spec_l1Rising_G N) tab [spec_l1Rising_l0_s N] Tryz.f229 spec_l1Rising_ps spec_l1Rising_rs x := by kernel_rfl
theorem spec_l1Rising_pc (N : Nat) : PC Tryz.prog 229 (spec_l1Rising_S N) := by
  have e : spec_l1Rising_S N = ⟨spec_l1Rising_ps, spec_l1Rising_rs, funF (spec_l1Rising_G N) tab [spec_l1Rising_l0_s N] Tryz.f229 spec_l1Rising_ps spec_l1Rising_rs⟩ := congrArg (FSum.mk spec_l1Rising_ps spec_l1Rising_rs) (funext (spec_l1Rising_run N))
  rw [e]
  exact fun_ok (c := spec_l1Rising_code) progOk (spec_l1Rising_gok N) (draw_ok progOk (spec_l1Rising_gok N)) Tryz.call229 Tryz.func229 (by kernel_rfl) (lsOk_at (L := [spec_l1Rising_l0_s N]) ⟨spec_l1Rising_l0_ok N, trivial⟩) (by kernel_rfl) (by kernel_rfl) (by kernel_rfl) (by kernel_rfl) (by kernel_rfl)

/-! ### spec_l2Set -/
abbrev spec_l2Set_ps : List (PV.Mode × Ty) := [(.ro, QILQII), (.ro, LI)]
abbrev spec_l2Set_rs : List (Bool × Ty) := [(true, .bool)]
noncomputable def spec_l2Set_G (N : Nat) : GTab := gOf [(229, spec_l1Rising_S N)]
theorem spec_l2Set_gok (N : Nat) : GOk Tryz.prog (spec_l2Set_G N) := gOf_ok ⟨spec_l1Rising_pc N, trivial⟩
noncomputable def spec_l2Set_code : Code := (Tryz.f130.body).getD .skip
noncomputable def spec_l2Set (N : Nat) (g : (Int × (List (Int × Int)))) (setv : (List Int)) : Option ((Bool × Unit) × (Unit)) :=
  ((spec_l1Rising N setv 0 (IntKind.i64.wrap (g.1 - 1))).bind fun r =>
    some ((r.1.1, ()), ()))
noncomputable def spec_l2Set_S (N : Nat) : FSum := ⟨spec_l2Set_ps, spec_l2Set_rs, fun x => spec_l2Set N x.1 x.2.1⟩
theorem spec_l2Set_run (N : Nat) (x : argsT spec_l2Set_ps) : spec_l2Set N x.1 x.2.1 = funF (spec_l2Set_G N) tab [] Tryz.f130 spec_l2Set_ps spec_l2Set_rs x := by kernel_rfl
theorem spec_l2Set_pc (N : Nat) : PC Tryz.prog 130 (spec_l2Set_S N) := by
  have e : spec_l2Set_S N = ⟨spec_l2Set_ps, spec_l2Set_rs, funF (spec_l2Set_G N) tab [] Tryz.f130 spec_l2Set_ps spec_l2Set_rs⟩ := congrArg (FSum.mk spec_l2Set_ps spec_l2Set_rs) (funext (spec_l2Set_run N))
  rw [e]
  exact fun_ok (c := spec_l2Set_code) progOk (spec_l2Set_gok N) (draw_ok progOk (spec_l2Set_gok N)) Tryz.call130 Tryz.func130 (by kernel_rfl) (lsOk_at (L := []) trivial) (by kernel_rfl) (by kernel_rfl) (by kernel_rfl) (by kernel_rfl) (by kernel_rfl)

/-! ### spec_l1Has -/
abbrev spec_l1Has_ps : List (PV.Mode × Ty) := [(.ro, LI), (.ro, I)]
abbrev spec_l1Has_rs : List (Bool × Ty) := [(true, .bool)]
noncomputable def spec_l1Has_G (N : Nat) : GTab := gOf []
theorem spec_l1Has_gok (N : Nat) : GOk Tryz.prog (spec_l1Has_G N) := gOf_ok trivial
noncomputable def spec_l1Has_code : Code := (Tryz.f136.body).getD .skip
noncomputable def spec_l1Has_l0_sh : Sh := ⟨[(0, .one (.ro LI)), (1, .one (.ro I)), (5, .one (.ro I))], []⟩
noncomputable def spec_l1Has_l0_ex : List (Ex × Sh) := [(.ret, ⟨[(4, .one (.ro .bool))], []⟩), (.exit 0, ⟨[], []⟩)]
noncomputable def spec_l1Has_l0 {R : Type} (N : Nat) (k0 : Bool → Option R) (k1 : Unit → Option R) : Nat → (List Int) → Int → Int → Option R
  | 0, _, _, _ => none
  | K + 1, l1, n1, i =>
    (br (ilt i (tLen l1))
      ((chk (inb l1 i)
        (br (ieq (rdI l1 i) n1)
        (k0 true)
        (spec_l1Has_l0 N k0 k1 K l1 n1 (IntKind.i64.wrap (i + 1))))))
      (k1 ()))
noncomputable def spec_l1Has_l0_again {R : Type} (N : Nat) (ks : (j : Nat) → ((spec_l1Has_l0_ex.getD j (.ret, Sh.none)).2).T → Option R) (k : Nat) (x : spec_l1Has_l0_sh.T) : Option R :=
  spec_l1Has_l0 N (fun y0 => ks 0 ((y0, ()), ())) (fun (_ : Unit) => ks 1 ((), ())) k x.1.1 x.1.2.1 x.1.2.2.1
noncomputable def spec_l1Has_l0_s (N : Nat) : LSum := ⟨spec_l1Has_l0_sh, spec_l1Has_l0_ex, fun x ks => spec_l1Has_l0_again N ks N x⟩
theorem spec_l1Has_l0_step (N : Nat) (R : Type) (k : Nat) (x : spec_l1Has_l0_sh.T) (ks : (j : Nat) → ((spec_l1Has_l0_ex.getD j (.ret, Sh.none)).2).T → Option R) : spec_l1Has_l0_again N ks (k + 1) x = roundF (spec_l1Has_G N) tab [] (loopAt spec_l1Has_code 0) spec_l1Has_l0_sh spec_l1Has_l0_ex (fun y => spec_l1Has_l0_again N ks k y) ks x := by kernel_rfl
theorem spec_l1Has_l0_ok (N : Nat) : LoopOk Tryz.prog Tryz.f136.ntmps (spec_l1Has_l0_s N) (loopAt spec_l1Has_code 0) :=
  loop_ok (l := spec_l1Has_l0_s N) progOk (spec_l1Has_gok N) (draw_ok progOk (spec_l1Has_gok N)) (fun R k x ks => spec_l1Has_l0_again N ks k x) (fun _ _ _ => rfl) (fun R k x ks => spec_l1Has_l0_step N R k x ks) (fun R x ks r h => ⟨N, h⟩) (lsOk_at (L := []) trivial) (by kernel_rfl) (by kernel_rfl)
noncomputable def spec_l1Has (N : Nat) (l : (List Int)) (n : Int) : Option ((Bool × Unit) × (Unit)) :=
  spec_l1Has_l0 N (fun x => some ((x, ()), ())) (fun (_ : Unit) => some ((false, ()), ())) N l n 0
noncomputable def spec_l1Has_S (N : Nat) : FSum := ⟨spec_l1Has_ps, spec_l1Has_rs, fun x => spec_l1Has N x.1 x.2.1⟩
theorem spec_l1Has_run (N : Nat) (x : argsT spec_l1Has_ps) : spec_l1Has N x.1 x.2.1 = funF (spec_l1Has_G N) tab [spec_l1Has_l0_s N] Tryz.f136 spec_l1Has_ps spec_l1Has_rs x := by kernel_rfl
theorem spec_l1Has_pc (N : Nat) : PC Tryz.prog 136 (spec_l1Has_S N) := by
  have e : spec_l1Has_S N = ⟨spec_l1Has_ps, spec_l1Has_rs, funF (spec_l1Has_G N) tab [spec_l1Has_l0_s N] Tryz.f136 spec_l1Has_ps spec_l1Has_rs⟩ := congrArg (FSum.mk spec_l1Has_ps spec_l1Has_rs) (funext (spec_l1Has_run N))
  rw [e]
  exact fun_ok (c := spec_l1Has_code) progOk (spec_l1Has_gok N) (draw_ok progOk (spec_l1Has_gok N)) Tryz.call136 Tryz.func136 (by kernel_rfl) (lsOk_at (L := [spec_l1Has_l0_s N]) ⟨spec_l1Has_l0_ok N, trivial⟩) (by kernel_rfl) (by kernel_rfl) (by kernel_rfl) (by kernel_rfl) (by kernel_rfl)

/-! ### spec_l2Near -/
abbrev spec_l2Near_ps : List (PV.Mode × Ty) := [(.ro, QILQII), (.ro, I), (.ro, I)]
abbrev spec_l2Near_rs : List (Bool × Ty) := [(true, .bool)]
noncomputable def spec_l2Near_G (N : Nat) : GTab := gOf []
theorem spec_l2Near_gok (N : Nat) : GOk Tryz.prog (spec_l2Near_G N) := gOf_ok trivial
noncomputable def spec_l2Near_code : Code := (Tryz.f149.body).getD .skip
noncomputable def spec_l2Near_l0_sh : Sh := ⟨[(1, .one (.ro I)), (2, .one (.ro I)), (3, .one (.adr 0 0)), (7, .one (.ro I))], [.box [.ro I, .ro LQII]]⟩
noncomputable def spec_l2Near_l0_ex : List (Ex × Sh) := [(.ret, ⟨[(6, .one (.ro .bool))], []⟩), (.exit 0, ⟨[], []⟩)]
noncomputable def spec_l2Near_l0 {R : Type} (N : Nat) (k0 : Bool → Option R) (k1 : Unit → Option R) : Nat → Int → Int → Int → Int → (List (Int × Int)) → Option R
  | 0, _, _, _, _, _ => none
  | K + 1, a1, b1, i, o, o1 =>
    (br (ilt i (tLen o1))
      ((chk (inb o1 i)
        (br (ieq ((rdP o1 i).1) a1)
        ((br (ieq ((rdP o1 i).2) b1)
          (k0 true)
          ((br (ieq ((rdP o1 i).1) b1)
            ((br (ieq ((rdP o1 i).2) a1)
              (k0 true)
              (spec_l2Near_l0 N k0 k1 K a1 b1 (IntKind.i64.wrap (i + 1)) o o1)))
            (spec_l2Near_l0 N k0 k1 K a1 b1 (IntKind.i64.wrap (i + 1)) o o1)))))
        ((br (ieq ((rdP o1 i).1) b1)
          ((br (ieq ((rdP o1 i).2) a1)
            (k0 true)
            (spec_l2Near_l0 N k0 k1 K a1 b1 (IntKind.i64.wrap (i + 1)) o o1)))
          (spec_l2Near_l0 N k0 k1 K a1 b1 (IntKind.i64.wrap (i + 1)) o o1))))))
      (k1 ()))
noncomputable def spec_l2Near_l0_again {R : Type} (N : Nat) (ks : (j : Nat) → ((spec_l2Near_l0_ex.getD j (.ret, Sh.none)).2).T → Option R) (k : Nat) (x : spec_l2Near_l0_sh.T) : Option R :=
  spec_l2Near_l0 N (fun y0 => ks 0 ((y0, ()), ())) (fun (_ : Unit) => ks 1 ((), ())) k x.1.1 x.1.2.1 x.1.2.2.2.1 x.2.1.1 x.2.1.2.1
noncomputable def spec_l2Near_l0_s (N : Nat) : LSum := ⟨spec_l2Near_l0_sh, spec_l2Near_l0_ex, fun x ks => spec_l2Near_l0_again N ks N x⟩
theorem spec_l2Near_l0_step (N : Nat) (R : Type) (k : Nat) (x : spec_l2Near_l0_sh.T) (ks : (j : Nat) → ((spec_l2Near_l0_ex.getD j (.ret, Sh.none)).2).T → Option R) : spec_l2Near_l0_again N ks (k + 1) x = roundF (spec_l2Near_G N) tab [] (loopAt spec_l2Near_code 0) spec_l2Near_l0_sh spec_l2Near_l0_ex (fun y => spec_l2Near_l0_again N ks k y) ks x := by kernel_rfl
theorem spec_l2Near_l0_ok (N : Nat) : LoopOk Tryz.prog Tryz.f149.ntmps (spec_l2Near_l0_s N) (loopAt spec_l2Near_code 0) :=
  loop_ok (l := spec_l2Near_l0_s N) progOk (spec_l2Near_gok N) (draw_ok progOk (spec_l2Near_gok N)) (fun R k x ks => spec_l2Near_l0_again N ks k x) (fun _ _ _ => rfl) (fun R k x ks => spec_l2Near_l0_step N R k x ks) (fun R x ks r h => ⟨N, h⟩) (lsOk_at (L := []) trivial) (by kernel_rfl) (by kernel_rfl)
noncomputable def spec_l2Near (N : Nat) (g : (Int × (List (Int × Int)))) (a : Int) (b : Int) : Option ((Bool × Unit) × (Unit)) :=
  spec_l2Near_l0 N (fun x => some ((x, ()), ())) (fun (_ : Unit) => some ((false, ()), ())) N a b 0 g.1 g.2
noncomputable def spec_l2Near_S (N : Nat) : FSum := ⟨spec_l2Near_ps, spec_l2Near_rs, fun x => spec_l2Near N x.1 x.2.1 x.2.2.1⟩
theorem spec_l2Near_run (N : Nat) (x : argsT spec_l2Near_ps) : spec_l2Near N x.1 x.2.1 x.2.2.1 = funF (spec_l2Near_G N) tab [spec_l2Near_l0_s N] Tryz.f149 spec_l2Near_ps spec_l2Near_rs x := by kernel_rfl
theorem spec_l2Near_pc (N : Nat) : PC Tryz.prog 149 (spec_l2Near_S N) := by
  have e : spec_l2Near_S N = ⟨spec_l2Near_ps, spec_l2Near_rs, funF (spec_l2Near_G N) tab [spec_l2Near_l0_s N] Tryz.f149 spec_l2Near_ps spec_l2Near_rs⟩ := congrArg (FSum.mk spec_l2Near_ps spec_l2Near_rs) (funext (spec_l2Near_run N))
  rw [e]
  exact fun_ok (c := spec_l2Near_code) progOk (spec_l2Near_gok N) (draw_ok progOk (spec_l2Near_gok N)) Tryz.call149 Tryz.func149 (by kernel_rfl) (lsOk_at (L := [spec_l2Near_l0_s N]) ⟨spec_l2Near_l0_ok N, trivial⟩) (by kernel_rfl) (by kernel_rfl) (by kernel_rfl) (by kernel_rfl) (by kernel_rfl)

/-! ### spec_l4Has -/
abbrev spec_l4Has_ps : List (PV.Mode × Ty) := [(.ro, QILQII), (.ro, I), (.ro, LI)]
abbrev spec_l4Has_rs : List (Bool × Ty) := [(true, .bool)]
noncomputable def spec_l4Has_G (N : Nat) : GTab := gOf [(136, spec_l1Has_S N), (149, spec_l2Near_S N)]
theorem spec_l4Has_gok (N : Nat) : GOk Tryz.prog (spec_l4Has_G N) := gOf_ok ⟨spec_l1Has_pc N, spec_l2Near_pc N, trivial⟩
noncomputable def spec_l4Has_code : Code := (Tryz.f131.body).getD .skip
noncomputable def spec_l4Has_l0_sh : Sh := ⟨[(2, .one (.ro LI)), (3, .one (.adr 0 0)), (7, .one (.ro I))], [.box [.ro I, .ro LQII]]⟩
noncomputable def spec_l4Has_l0_ex : List (Ex × Sh) := [(.ret, ⟨[(6, .one (.ro .bool))], []⟩), (.exit 1, ⟨[], []⟩)]
noncomputable def spec_l4Has_l0 {R : Type} (N : Nat) (k0 : Bool → Option R) (k1 : Unit → Option R) : Nat → (List Int) → Int → Int → (List (Int × Int)) → Option R
  | 0, _, _, _, _ => none
  | K + 1, x, x1, o, o1 =>
    (br (ilt x1 (tLen o1))
      ((chk (inb o1 x1)
        ((spec_l1Has N x ((rdP o1 x1).1)).bind fun r =>
        (br (!r.1.1)
          ((chk (inb o1 x1)
            ((spec_l1Has N x ((rdP o1 x1).2)).bind fun r1 =>
            (br (!r1.1.1)
              (k0 false)
              (spec_l4Has_l0 N k0 k1 K x (IntKind.i64.wrap (x1 + 1)) o o1)))))
          (spec_l4Has_l0 N k0 k1 K x (IntKind.i64.wrap (x1 + 1)) o o1)))))
      (k1 ()))
noncomputable def spec_l4Has_l0_again {R : Type} (N : Nat) (ks : (j : Nat) → ((spec_l4Has_l0_ex.getD j (.ret, Sh.none)).2).T → Option R) (k : Nat) (x : spec_l4Has_l0_sh.T) : Option R :=
  spec_l4Has_l0 N (fun y0 => ks 0 ((y0, ()), ())) (fun (_ : Unit) => ks 1 ((), ())) k x.1.1 x.1.2.2.1 x.2.1.1 x.2.1.2.1
noncomputable def spec_l4Has_l0_s (N : Nat) : LSum := ⟨spec_l4Has_l0_sh, spec_l4Has_l0_ex, fun x ks => spec_l4Has_l0_again N ks N x⟩
theorem spec_l4Has_l0_step (N : Nat) (R : Type) (k : Nat) (x : spec_l4Has_l0_sh.T) (ks : (j : Nat) → ((spec_l4Has_l0_ex.getD j (.ret, Sh.none)).2).T → Option R) : spec_l4Has_l0_again N ks (k + 1) x = roundF (spec_l4Has_G N) tab [] (loopAt spec_l4Has_code 0) spec_l4Has_l0_sh spec_l4Has_l0_ex (fun y => spec_l4Has_l0_again N ks k y) ks x := by kernel_rfl
theorem spec_l4Has_l0_ok (N : Nat) : LoopOk Tryz.prog Tryz.f131.ntmps (spec_l4Has_l0_s N) (loopAt spec_l4Has_code 0) :=
  loop_ok (l := spec_l4Has_l0_s N) progOk (spec_l4Has_gok N) (draw_ok progOk (spec_l4Has_gok N)) (fun R k x ks => spec_l4Has_l0_again N ks k x) (fun _ _ _ => rfl) (fun R k x ks => spec_l4Has_l0_step N R k x ks) (fun R x ks r h => ⟨N, h⟩) (lsOk_at (L := []) trivial) (by kernel_rfl) (by kernel_rfl)
noncomputable def spec_l4Has_l1_0_sh : Sh := ⟨[(2, .one (.ro LI)), (3, .one (.adr 0 0)), (8, .one (.ro I)), (9, .one (.ro I))], [.box [.ro I, .ro LQII]]⟩
noncomputable def spec_l4Has_l1_0_ex : List (Ex × Sh) := [(.ret, ⟨[(6, .one (.ro .bool))], []⟩), (.exit 5, ⟨[(2, .one (.ro LI)), (3, .one (.adr 0 0)), (8, .one (.ro I))], [.box [.ro I, .ro LQII]]⟩)]
noncomputable def spec_l4Has_l1_0 {R : Type} (N : Nat) (k0 : Bool → Option R) (k1 : (List Int) → Int → Int → (List (Int × Int)) → Option R) : Nat → (List Int) → Int → Int → Int → (List (Int × Int)) → Option R
  | 0, _, _, _, _, _ => none
  | K + 1, x3, x4, x5, o2, o3 =>
    (br (ilt x5 x4)
      ((chk (inb x3 x4)
        (chk (inb x3 x5)
        ((spec_l2Near N (o2, o3) (rdI x3 x4) (rdI x3 x5)).bind fun r =>
        (br (!r.1.1)
          (k0 false)
          (spec_l4Has_l1_0 N k0 k1 K x3 x4 (IntKind.i64.wrap (x5 + 1)) o2 o3))))))
      (k1 x3 x4 o2 o3))
noncomputable def spec_l4Has_l1_0_again {R : Type} (N : Nat) (ks : (j : Nat) → ((spec_l4Has_l1_0_ex.getD j (.ret, Sh.none)).2).T → Option R) (k : Nat) (x : spec_l4Has_l1_0_sh.T) : Option R :=
  spec_l4Has_l1_0 N (fun y0 => ks 0 ((y0, ()), ())) (fun y0 y1 y2 y3 => ks 1 ((y0, (), y1, ()), ((y2, y3, ()), ()))) k x.1.1 x.1.2.2.1 x.1.2.2.2.1 x.2.1.1 x.2.1.2.1
noncomputable def spec_l4Has_l1_0_s (N : Nat) : LSum := ⟨spec_l4Has_l1_0_sh, spec_l4Has_l1_0_ex, fun x ks => spec_l4Has_l1_0_again N ks N x⟩
theorem spec_l4Has_l1_0_step (N : Nat) (R : Type) (k : Nat) (x : spec_l4Has_l1_0_sh.T) (ks : (j : Nat) → ((spec_l4Has_l1_0_ex.getD j (.ret, Sh.none)).2).T → Option R) : spec_l4Has_l1_0_again N ks (k + 1) x = roundF (spec_l4Has_G N) tab [] (loopAt (loopAt spec_l4Has_code 1) 0) spec_l4Has_l1_0_sh spec_l4Has_l1_0_ex (fun y => spec_l4Has_l1_0_again N ks k y) ks x := by kernel_rfl
theorem spec_l4Has_l1_0_ok (N : Nat) : LoopOk Tryz.prog Tryz.f131.ntmps (spec_l4Has_l1_0_s N) (loopAt (loopAt spec_l4Has_code 1) 0) :=
  loop_ok (l := spec_l4Has_l1_0_s N) progOk (spec_l4Has_gok N) (draw_ok progOk (spec_l4Has_gok N)) (fun R k x ks => spec_l4Has_l1_0_again N ks k x) (fun _ _ _ => rfl) (fun R k x ks => spec_l4Has_l1_0_step N R k x ks) (fun R x ks r h => ⟨N, h⟩) (lsOk_at (L := []) trivial) (by kernel_rfl) (by kernel_rfl)
noncomputable def spec_l4Has_l1_sh : Sh := ⟨[(2, .one (.ro LI)), (3, .one (.adr 0 0)), (8, .one (.ro I))], [.box [.ro I, .ro LQII]]⟩
noncomputable def spec_l4Has_l1_ex : List (Ex × Sh) := [(.ret, ⟨[(6, .one (.ro .bool))], []⟩), (.exit 3, ⟨[], []⟩)]
noncomputable def spec_l4Has_l1 {R : Type} (N : Nat) (k0 : Bool → Option R) (k1 : Unit → Option R) : Nat → (List Int) → Int → Int → (List (Int × Int)) → Option R
  | 0, _, _, _, _ => none
  | K + 1, x1, x2, o, o1 =>
    (br (ilt x2 (tLen x1))
      (spec_l4Has_l1_0 N (fun x3 => k0 x3) (fun x4 x5 o2 o3 => spec_l4Has_l1 N k0 k1 K x4 (IntKind.i64.wrap (x5 + 1)) o2 o3) N x1 x2 0 o o1)
      (k1 ()))
noncomputable def spec_l4Has_l1_again {R : Type} (N : Nat) (ks : (j : Nat) → ((spec_l4Has_l1_ex.getD j (.ret, Sh.none)).2).T → Option R) (k : Nat) (x : spec_l4Has_l1_sh.T) : Option R :=
  spec_l4Has_l1 N (fun y0 => ks 0 ((y0, ()), ())) (fun (_ : Unit) => ks 1 ((), ())) k x.1.1 x.1.2.2.1 x.2.1.1 x.2.1.2.1
noncomputable def spec_l4Has_l1_s (N : Nat) : LSum := ⟨spec_l4Has_l1_sh, spec_l4Has_l1_ex, fun x ks => spec_l4Has_l1_again N ks N x⟩
theorem spec_l4Has_l1_step (N : Nat) (R : Type) (k : Nat) (x : spec_l4Has_l1_sh.T) (ks : (j : Nat) → ((spec_l4Has_l1_ex.getD j (.ret, Sh.none)).2).T → Option R) : spec_l4Has_l1_again N ks (k + 1) x = roundF (spec_l4Has_G N) tab [spec_l4Has_l1_0_s N] (loopAt spec_l4Has_code 1) spec_l4Has_l1_sh spec_l4Has_l1_ex (fun y => spec_l4Has_l1_again N ks k y) ks x := by kernel_rfl
theorem spec_l4Has_l1_ok (N : Nat) : LoopOk Tryz.prog Tryz.f131.ntmps (spec_l4Has_l1_s N) (loopAt spec_l4Has_code 1) :=
  loop_ok (l := spec_l4Has_l1_s N) progOk (spec_l4Has_gok N) (draw_ok progOk (spec_l4Has_gok N)) (fun R k x ks => spec_l4Has_l1_again N ks k x) (fun _ _ _ => rfl) (fun R k x ks => spec_l4Has_l1_step N R k x ks) (fun R x ks r h => ⟨N, h⟩) (lsOk_at (L := [spec_l4Has_l1_0_s N]) ⟨spec_l4Has_l1_0_ok N, trivial⟩) (by kernel_rfl) (by kernel_rfl)
noncomputable def spec_l4Has_l2_0_sh : Sh := ⟨[(2, .one (.ro LI)), (3, .one (.adr 0 0)), (10, .one (.ro I)), (11, .one (.ro .bool)), (12, .one (.ro I))], [.box [.ro I, .ro LQII]]⟩
noncomputable def spec_l4Has_l2_0_ex : List (Ex × Sh) := [(.exit 9, ⟨[(2, .one (.ro LI)), (3, .one (.adr 0 0)), (10, .one (.ro I)), (11, .one (.ro .bool))], [.box [.ro I, .ro LQII]]⟩)]
noncomputable def spec_l4Has_l2_0 {R : Type} (N : Nat) (k0 : (List Int) → Int → Bool → Int → (List (Int × Int)) → Option R) : Nat → (List Int) → Int → Bool → Int → Int → (List (Int × Int)) → Option R
  | 0, _, _, _, _, _, _ => none
  | K + 1, x4, x5, x6, x7, o2, o3 =>
    (br (ilt x7 (tLen x4))
      ((br x6
        (spec_l4Has_l2_0 N k0 K x4 x5 true (IntKind.i64.wrap (x7 + 1)) o2 o3)
        ((chk (inb x4 x7)
          ((spec_l2Near N (o2, o3) (rdI x4 x7) x5).bind fun r1 =>
          spec_l4Has_l2_0 N k0 K x4 x5 r1.1.1 (IntKind.i64.wrap (x7 + 1)) o2 o3)))))
      (k0 x4 x5 x6 o2 o3))
noncomputable def spec_l4Has_l2_0_again {R : Type} (N : Nat) (ks : (j : Nat) → ((spec_l4Has_l2_0_ex.getD j (.ret, Sh.none)).2).T → Option R) (k : Nat) (x : spec_l4Has_l2_0_sh.T) : Option R :=
  spec_l4Has_l2_0 N (fun y0 y1 y2 y3 y4 => ks 0 ((y0, (), y1, y2, ()), ((y3, y4, ()), ()))) k x.1.1 x.1.2.2.1 x.1.2.2.2.1 x.1.2.2.2.2.1 x.2.1.1 x.2.1.2.1
noncomputable def spec_l4Has_l2_0_s (N : Nat) : LSum := ⟨spec_l4Has_l2_0_sh, spec_l4Has_l2_0_ex, fun x ks => spec_l4Has_l2_0_again N ks N x⟩
theorem spec_l4Has_l2_0_step (N : Nat) (R : Type) (k : Nat) (x : spec_l4Has_l2_0_sh.T) (ks : (j : Nat) → ((spec_l4Has_l2_0_ex.getD j (.ret, Sh.none)).2).T → Option R) : spec_l4Has_l2_0_again N ks (k + 1) x = roundF (spec_l4Has_G N) tab [] (loopAt (loopAt spec_l4Has_code 2) 0) spec_l4Has_l2_0_sh spec_l4Has_l2_0_ex (fun y => spec_l4Has_l2_0_again N ks k y) ks x := by kernel_rfl
theorem spec_l4Has_l2_0_ok (N : Nat) : LoopOk Tryz.prog Tryz.f131.ntmps (spec_l4Has_l2_0_s N) (loopAt (loopAt spec_l4Has_code 2) 0) :=
  loop_ok (l := spec_l4Has_l2_0_s N) progOk (spec_l4Has_gok N) (draw_ok progOk (spec_l4Has_gok N)) (fun R k x ks => spec_l4Has_l2_0_again N ks k x) (fun _ _ _ => rfl) (fun R k x ks => spec_l4Has_l2_0_step N R k x ks) (fun R x ks r h => ⟨N, h⟩) (lsOk_at (L := []) trivial) (by kernel_rfl) (by kernel_rfl)
noncomputable def spec_l4Has_l2_sh : Sh := ⟨[(2, .one (.ro LI)), (3, .one (.adr 0 0)), (10, .one (.ro I))], [.box [.ro I, .ro LQII]]⟩
noncomputable def spec_l4Has_l2_ex : List (Ex × Sh) := [(.ret, ⟨[(6, .one (.ro .bool))], []⟩), (.exit 7, ⟨[], []⟩)]
noncomputable def spec_l4Has_l2 {R : Type} (N : Nat) (k0 : Bool → Option R) (k1 : Unit → Option R) : Nat → (List Int) → Int → Int → (List (Int × Int)) → Option R
  | 0, _, _, _, _ => none
  | K + 1, x2, x3, o, o1 =>
    (br (ilt x3 o)
      (((spec_l1Has N x2 x3).bind fun r =>
        spec_l4Has_l2_0 N (fun x4 x5 x6 o2 o3 => (br (!x6)
          (k0 false)
          (spec_l4Has_l2 N k0 k1 K x4 (IntKind.i64.wrap (x5 + 1)) o2 o3))) N x2 x3 r.1.1 0 o o1))
      (k1 ()))
noncomputable def spec_l4Has_l2_again {R : Type} (N : Nat) (ks : (j : Nat) → ((spec_l4Has_l2_ex.getD j (.ret, Sh.none)).2).T → Option R) (k : Nat) (x : spec_l4Has_l2_sh.T) : Option R :=
  spec_l4Has_l2 N (fun y0 => ks 0 ((y0, ()), ())) (fun (_ : Unit) => ks 1 ((), ())) k x.1.1 x.1.2.2.1 x.2.1.1 x.2.1.2.1
noncomputable def spec_l4Has_l2_s (N : Nat) : LSum := ⟨spec_l4Has_l2_sh, spec_l4Has_l2_ex, fun x ks => spec_l4Has_l2_again N ks N x⟩
theorem spec_l4Has_l2_step (N : Nat) (R : Type) (k : Nat) (x : spec_l4Has_l2_sh.T) (ks : (j : Nat) → ((spec_l4Has_l2_ex.getD j (.ret, Sh.none)).2).T → Option R) : spec_l4Has_l2_again N ks (k + 1) x = roundF (spec_l4Has_G N) tab [spec_l4Has_l2_0_s N] (loopAt spec_l4Has_code 2) spec_l4Has_l2_sh spec_l4Has_l2_ex (fun y => spec_l4Has_l2_again N ks k y) ks x := by kernel_rfl
theorem spec_l4Has_l2_ok (N : Nat) : LoopOk Tryz.prog Tryz.f131.ntmps (spec_l4Has_l2_s N) (loopAt spec_l4Has_code 2) :=
  loop_ok (l := spec_l4Has_l2_s N) progOk (spec_l4Has_gok N) (draw_ok progOk (spec_l4Has_gok N)) (fun R k x ks => spec_l4Has_l2_again N ks k x) (fun _ _ _ => rfl) (fun R k x ks => spec_l4Has_l2_step N R k x ks) (fun R x ks r h => ⟨N, h⟩) (lsOk_at (L := [spec_l4Has_l2_0_s N]) ⟨spec_l4Has_l2_0_ok N, trivial⟩) (by kernel_rfl) (by kernel_rfl)
noncomputable def spec_l4Has (N : Nat) (c : (Int × (List (Int × Int)))) (c1 : Int) (c2 : (List Int)) : Option ((Bool × Unit) × (Unit)) :=
  (br (ieq c1 1)
    (spec_l4Has_l0 N (fun x => some ((x, ()), ())) (fun (_ : Unit) => some ((true, ()), ())) N c2 0 c.1 c.2)
    ((br (ieq c1 2)
      (spec_l4Has_l1 N (fun x1 => some ((x1, ()), ())) (fun (_ : Unit) => some ((true, ()), ())) N c2 0 c.1 c.2)
      (spec_l4Has_l2 N (fun x2 => some ((x2, ()), ())) (fun (_ : Unit) => some ((true, ()), ())) N c2 0 c.1 c.2))))
noncomputable def spec_l4Has_S (N : Nat) : FSum := ⟨spec_l4Has_ps, spec_l4Has_rs, fun x => spec_l4Has N x.1 x.2.1 x.2.2.1⟩
theorem spec_l4Has_run (N : Nat) (x : argsT spec_l4Has_ps) : spec_l4Has N x.1 x.2.1 x.2.2.1 = funF (spec_l4Has_G N) tab [spec_l4Has_l0_s N, spec_l4Has_l1_s N, spec_l4Has_l2_s N] Tryz.f131 spec_l4Has_ps spec_l4Has_rs x := by kernel_rfl
theorem spec_l4Has_pc (N : Nat) : PC Tryz.prog 131 (spec_l4Has_S N) := by
  have e : spec_l4Has_S N = ⟨spec_l4Has_ps, spec_l4Has_rs, funF (spec_l4Has_G N) tab [spec_l4Has_l0_s N, spec_l4Has_l1_s N, spec_l4Has_l2_s N] Tryz.f131 spec_l4Has_ps spec_l4Has_rs⟩ := congrArg (FSum.mk spec_l4Has_ps spec_l4Has_rs) (funext (spec_l4Has_run N))
  rw [e]
  exact fun_ok (c := spec_l4Has_code) progOk (spec_l4Has_gok N) (draw_ok progOk (spec_l4Has_gok N)) Tryz.call131 Tryz.func131 (by kernel_rfl) (lsOk_at (L := [spec_l4Has_l0_s N, spec_l4Has_l1_s N, spec_l4Has_l2_s N]) ⟨spec_l4Has_l0_ok N, spec_l4Has_l1_ok N, spec_l4Has_l2_ok N, trivial⟩) (by kernel_rfl) (by kernel_rfl) (by kernel_rfl) (by kernel_rfl) (by kernel_rfl)

/-! ### spec_HasKind -/
abbrev spec_HasKind_ps : List (PV.Mode × Ty) := [(.ro, QILQII), (.ro, I), (.ro, LI)]
abbrev spec_HasKind_rs : List (Bool × Ty) := [(true, .bool), (true, .bool)]
noncomputable def spec_HasKind_G (N : Nat) : GTab := gOf [(129, spec_l4Good_S N), (130, spec_l2Set_S N), (131, spec_l4Has_S N)]
theorem spec_HasKind_gok (N : Nat) : GOk Tryz.prog (spec_HasKind_G N) := gOf_ok ⟨spec_l4Good_pc N, spec_l2Set_pc N, spec_l4Has_pc N, trivial⟩
noncomputable def spec_HasKind_code : Code := (Tryz.f30.body).getD .skip
noncomputable def spec_HasKind (N : Nat) (g : (Int × (List (Int × Int)))) (kind : Int) (setv : (List Int)) : Option ((Bool × Bool × Unit) × (Unit)) :=
  ((spec_l4Good N (g.1, g.2) kind).bind fun r =>
    (br (!r.1.1)
      (some ((false, false, ()), ()))
      (((spec_l2Set N (g.1, g.2) setv).bind fun r1 =>
        (br (!r1.1.1)
          (some ((false, false, ()), ()))
          (((spec_l4Has N (g.1, g.2) kind setv).bind fun r2 =>
            some ((r2.1.1, true, ()), ()))))))))
noncomputable def spec_HasKind_S (N : Nat) : FSum := ⟨spec_HasKind_ps, spec_HasKind_rs, fun x => spec_HasKind N x.1 x.2.1 x.2.2.1⟩
theorem spec_HasKind_run (N : Nat) (x : argsT spec_HasKind_ps) : spec_HasKind N x.1 x.2.1 x.2.2.1 = funF (spec_HasKind_G N) tab [] Tryz.f30 spec_HasKind_ps spec_HasKind_rs x := by kernel_rfl
theorem spec_HasKind_pc (N : Nat) : PC Tryz.prog 30 (spec_HasKind_S N) := by
  have e : spec_HasKind_S N = ⟨spec_HasKind_ps, spec_HasKind_rs, funF (spec_HasKind_G N) tab [] Tryz.f30 spec_HasKind_ps spec_HasKind_rs⟩ := congrArg (FSum.mk spec_HasKind_ps spec_HasKind_rs) (funext (spec_HasKind_run N))
  rw [e]
  exact fun_ok (c := spec_HasKind_code) progOk (spec_HasKind_gok N) (draw_ok progOk (spec_HasKind_gok N)) Tryz.call30 Tryz.func30 (by kernel_rfl) (lsOk_at (L := []) trivial) (by kernel_rfl) (by kernel_rfl) (by kernel_rfl) (by kernel_rfl) (by kernel_rfl)

/-! ### spec_l4One -/
abbrev spec_l4One_ps : List (PV.Mode × Ty) := [(.ro, QILQII), (.ro, I), (.ro, LI)]
abbrev spec_l4One_rs : List (Bool × Ty) := [(true, .bool)]
noncomputable def spec_l4One_G (N : Nat) : GTab := gOf [(30, spec_HasKind_S N)]
theorem spec_l4One_gok (N : Nat) : GOk Tryz.prog (spec_l4One_G N) := gOf_ok ⟨spec_HasKind_pc N, trivial⟩
noncomputable def spec_l4One_code : Code := (Tryz.f112.body).getD .skip
noncomputable def spec_l4One (N : Nat) (g : (Int × (List (Int × Int)))) (kind : Int) (setv : (List Int)) : Option ((Bool × Unit) × (Unit)) :=
  ((spec_HasKind N (g.1, g.2) kind setv).bind fun r =>
    (br r.1.1
      (some ((r.1.2.1, ()), ()))
      (some ((false, ()), ()))))
noncomputable def spec_l4One_S (N : Nat) : FSum := ⟨spec_l4One_ps, spec_l4One_rs, fun x => spec_l4One N x.1 x.2.1 x.2.2.1⟩
theorem spec_l4One_run (N : Nat) (x : argsT spec_l4One_ps) : spec_l4One N x.1 x.2.1 x.2.2.1 = funF (spec_l4One_G N) tab [] Tryz.f112 spec_l4One_ps spec_l4One_rs x := by kernel_rfl
theorem spec_l4One_pc (N : Nat) : PC Tryz.prog 112 (spec_l4One_S N) := by
  have e : spec_l4One_S N = ⟨spec_l4One_ps, spec_l4One_rs, funF (spec_l4One_G N) tab [] Tryz.f112 spec_l4One_ps spec_l4One_rs⟩ := congrArg (FSum.mk spec_l4One_ps spec_l4One_rs) (funext (spec_l4One_run N))
  rw [e]
  exact fun_ok (c := spec_l4One_code) progOk (spec_l4One_gok N) (draw_ok progOk (spec_l4One_gok N)) Tryz.call112 Tryz.func112 (by kernel_rfl) (lsOk_at (L := []) trivial) (by kernel_rfl) (by kernel_rfl) (by kernel_rfl) (by kernel_rfl) (by kernel_rfl)

/-! ### spec_l1Most -/
abbrev spec_l1Most_ps : List (PV.Mode × Ty) := [(.ro, I), (.ro, I)]
abbrev spec_l1Most_rs : List (Bool × Ty) := [(true, I)]
noncomputable def spec_l1Most_G (N : Nat) : GTab := gOf []
theorem spec_l1Most_gok (N : Nat) : GOk Tryz.prog (spec_l1Most_G N) := gOf_ok trivial
noncomputable def spec_l1Most_code : Code := (Tryz.f179.body).getD .skip
noncomputable def spec_l1Most (N : Nat) (a : Int) (b : Int) : Option ((Int × Unit) × (Unit)) :=
  (br (ilt b a)
    (some ((a, ()), ()))
    (some ((b, ()), ())))
noncomputable def spec_l1Most_S (N : Nat) : FSum := ⟨spec_l1Most_ps, spec_l1Most_rs, fun x => spec_l1Most N x.1 x.2.1⟩
theorem spec_l1Most_run (N : Nat) (x : argsT spec_l1Most_ps) : spec_l1Most N x.1 x.2.1 = funF (spec_l1Most_G N) tab [] Tryz.f179 spec_l1Most_ps spec_l1Most_rs x := by kernel_rfl
theorem spec_l1Most_pc (N : Nat) : PC Tryz.prog 179 (spec_l1Most_S N) := by
  have e : spec_l1Most_S N = ⟨spec_l1Most_ps, spec_l1Most_rs, funF (spec_l1Most_G N) tab [] Tryz.f179 spec_l1Most_ps spec_l1Most_rs⟩ := congrArg (FSum.mk spec_l1Most_ps spec_l1Most_rs) (funext (spec_l1Most_run N))
  rw [e]
  exact fun_ok (c := spec_l1Most_code) progOk (spec_l1Most_gok N) (draw_ok progOk (spec_l1Most_gok N)) Tryz.call179 Tryz.func179 (by kernel_rfl) (lsOk_at (L := []) trivial) (by kernel_rfl) (by kernel_rfl) (by kernel_rfl) (by kernel_rfl) (by kernel_rfl)

/-! ### spec_l1Least -/
abbrev spec_l1Least_ps : List (PV.Mode × Ty) := [(.ro, I), (.ro, I)]
abbrev spec_l1Least_rs : List (Bool × Ty) := [(true, I)]
noncomputable def spec_l1Least_G (N : Nat) : GTab := gOf []
theorem spec_l1Least_gok (N : Nat) : GOk Tryz.prog (spec_l1Least_G N) := gOf_ok trivial
noncomputable def spec_l1Least_code : Code := (Tryz.f180.body).getD .skip
noncomputable def spec_l1Least (N : Nat) (a : Int) (b : Int) : Option ((Int × Unit) × (Unit)) :=
  (br (ilt a b)
    (some ((a, ()), ()))
    (some ((b, ()), ())))
noncomputable def spec_l1Least_S (N : Nat) : FSum := ⟨spec_l1Least_ps, spec_l1Least_rs, fun x => spec_l1Least N x.1 x.2.1⟩
theorem spec_l1Least_run (N : Nat) (x : argsT spec_l1Least_ps) : spec_l1Least N x.1 x.2.1 = funF (spec_l1Least_G N) tab [] Tryz.f180 spec_l1Least_ps spec_l1Least_rs x := by kernel_rfl
theorem spec_l1Least_pc (N : Nat) : PC Tryz.prog 180 (spec_l1Least_S N) := by
  have e : spec_l1Least_S N = ⟨spec_l1Least_ps, spec_l1Least_rs, funF (spec_l1Least_G N) tab [] Tryz.f180 spec_l1Least_ps spec_l1Least_rs⟩ := congrArg (FSum.mk spec_l1Least_ps spec_l1Least_rs) (funext (spec_l1Least_run N))
  rw [e]
  exact fun_ok (c := spec_l1Least_code) progOk (spec_l1Least_gok N) (draw_ok progOk (spec_l1Least_gok N)) Tryz.call180 Tryz.func180 (by kernel_rfl) (lsOk_at (L := []) trivial) (by kernel_rfl) (by kernel_rfl) (by kernel_rfl) (by kernel_rfl) (by kernel_rfl)

/-! ### spec_l2Bits -/
abbrev spec_l2Bits_ps : List (PV.Mode × Ty) := [(.ro, I), (.ro, I)]
abbrev spec_l2Bits_rs : List (Bool × Ty) := [(true, LI)]
noncomputable def spec_l2Bits_G (N : Nat) : GTab := gOf []
theorem spec_l2Bits_gok (N : Nat) : GOk Tryz.prog (spec_l2Bits_G N) := gOf_ok trivial
noncomputable def spec_l2Bits_code : Code := (Tryz.f236.body).getD .skip
noncomputable def spec_l2Bits_l0_sh : Sh := ⟨[(0, .one (.ro I)), (1, .one (.ro I)), (5, .one (.ref 0)), (6, .one (.ro I))], [.sl 3 I .own]⟩
noncomputable def spec_l2Bits_l0_ex : List (Ex × Sh) := [(.exit 0, ⟨[(5, .one (.ref 0))], [.sl 3 I .own]⟩)]
noncomputable def spec_l2Bits_l0 {R : Type} (N : Nat) (k0 : (List Int) → Option R) : Nat → Int → Int → Int → (List Int) → Option R
  | 0, _, _, _, _ => none
  | K + 1, n1, code1, x, o =>
    (br (ilt x n1)
      ((chk (ile 0 x)
        (br (ieq (bitop .and .i64 (shrI .i64 code1 x) 1) 1)
        ((chk (room o [x])
          (spec_l2Bits_l0 N k0 K n1 code1 (IntKind.i64.wrap (x + 1)) (tApp o [x]))))
        (spec_l2Bits_l0 N k0 K n1 code1 (IntKind.i64.wrap (x + 1)) o))))
      (k0 o))
noncomputable def spec_l2Bits_l0_again {R : Type} (N : Nat) (ks : (j : Nat) → ((spec_l2Bits_l0_ex.getD j (.ret, Sh.none)).2).T → Option R) (k : Nat) (x : spec_l2Bits_l0_sh.T) : Option R :=
  spec_l2Bits_l0 N (fun y0 => ks 0 (((), ()), (y0, ()))) k x.1.1 x.1.2.1 x.1.2.2.2.1 x.2.1
noncomputable def spec_l2Bits_l0_s (N : Nat) : LSum := ⟨spec_l2Bits_l0_sh, spec_l2Bits_l0_ex, fun x ks => spec_l2Bits_l0_again N ks N x⟩
theorem spec_l2Bits_l0_step (N : Nat) (R : Type) (k : Nat) (x : spec_l2Bits_l0_sh.T) (ks : (j : Nat) → ((spec_l2Bits_l0_ex.getD j (.ret, Sh.none)).2).T → Option R) : spec_l2Bits_l0_again N ks (k + 1) x = roundF (spec_l2Bits_G N) tab [] (loopAt spec_l2Bits_code 0) spec_l2Bits_l0_sh spec_l2Bits_l0_ex (fun y => spec_l2Bits_l0_again N ks k y) ks x := by kernel_rfl
theorem spec_l2Bits_l0_ok (N : Nat) : LoopOk Tryz.prog Tryz.f236.ntmps (spec_l2Bits_l0_s N) (loopAt spec_l2Bits_code 0) :=
  loop_ok (l := spec_l2Bits_l0_s N) progOk (spec_l2Bits_gok N) (draw_ok progOk (spec_l2Bits_gok N)) (fun R k x ks => spec_l2Bits_l0_again N ks k x) (fun _ _ _ => rfl) (fun R k x ks => spec_l2Bits_l0_step N R k x ks) (fun R x ks r h => ⟨N, h⟩) (lsOk_at (L := []) trivial) (by kernel_rfl) (by kernel_rfl)
noncomputable def spec_l2Bits (N : Nat) (n : Int) (code : Int) : Option (((List Int) × Unit) × (Unit)) :=
  spec_l2Bits_l0 N (fun o => some ((o, ()), ())) N n code 0 []
noncomputable def spec_l2Bits_S (N : Nat) : FSum := ⟨spec_l2Bits_ps, spec_l2Bits_rs, fun x => spec_l2Bits N x.1 x.2.1⟩
theorem spec_l2Bits_run (N : Nat) (x : argsT spec_l2Bits_ps) : spec_l2Bits N x.1 x.2.1 = funF (spec_l2Bits_G N) tab [spec_l2Bits_l0_s N] Tryz.f236 spec_l2Bits_ps spec_l2Bits_rs x := by kernel_rfl
theorem spec_l2Bits_pc (N : Nat) : PC Tryz.prog 236 (spec_l2Bits_S N) := by
  have e : spec_l2Bits_S N = ⟨spec_l2Bits_ps, spec_l2Bits_rs, funF (spec_l2Bits_G N) tab [spec_l2Bits_l0_s N] Tryz.f236 spec_l2Bits_ps spec_l2Bits_rs⟩ := congrArg (FSum.mk spec_l2Bits_ps spec_l2Bits_rs) (funext (spec_l2Bits_run N))
  rw [e]
  exact fun_ok (c := spec_l2Bits_code) progOk (spec_l2Bits_gok N) (draw_ok progOk (spec_l2Bits_gok N)) Tryz.call236 Tryz.func236 (by kernel_rfl) (lsOk_at (L := [spec_l2Bits_l0_s N]) ⟨spec_l2Bits_l0_ok N, trivial⟩) (by kernel_rfl) (by kernel_rfl) (by kernel_rfl) (by kernel_rfl) (by kernel_rfl)

/-! ### spec_l2Before -/
abbrev spec_l2Before_ps : List (PV.Mode × Ty) := [(.ro, LI), (.ro, LI)]
abbrev spec_l2Before_rs : List (Bool × Ty) := [(true, .bool)]
noncomputable def spec_l2Before_G (N : Nat) : GTab := gOf []
theorem spec_l2Before_gok (N : Nat) : GOk Tryz.prog (spec_l2Before_G N) := gOf_ok trivial
noncomputable def spec_l2Before_code : Code := (Tryz.f297.body).getD .skip
noncomputable def spec_l2Before_l0_sh : Sh := ⟨[(0, .one (.ro LI)), (1, .one (.ro LI)), (5, .one (.ro I))], []⟩
noncomputable def spec_l2Before_l0_ex : List (Ex × Sh) := [(.ret, ⟨[(4, .one (.ro .bool))], []⟩), (.exit 0, ⟨[(0, .one (.ro LI)), (1, .one (.ro LI))], []⟩)]
noncomputable def spec_l2Before_l0 {R : Type} (N : Nat) (k0 : Bool → Option R) (k1 : (List Int) → (List Int) → Option R) : Nat → (List Int) → (List Int) → Int → Option R
  | 0, _, _, _ => none
  | K + 1, a1, b1, i =>
    (br (ilt i (tLen a1))
      ((br (ilt i (tLen b1))
        ((chk (inb a1 i)
          (chk (inb b1 i)
          (br (ine (rdI a1 i) (rdI b1 i))
          ((chk (inb a1 i)
            (chk (inb b1 i)
            (k0 (ilt (rdI a1 i) (rdI b1 i))))))
          (spec_l2Before_l0 N k0 k1 K a1 b1 (IntKind.i64.wrap (i + 1)))))))
        (k1 a1 b1)))
      (k1 a1 b1))
noncomputable def spec_l2Before_l0_again {R : Type} (N : Nat) (ks : (j : Nat) → ((spec_l2Before_l0_ex.getD j (.ret, Sh.none)).2).T → Option R) (k : Nat) (x : spec_l2Before_l0_sh.T) : Option R :=
  spec_l2Before_l0 N (fun y0 => ks 0 ((y0, ()), ())) (fun y0 y1 => ks 1 ((y0, y1, ()), ())) k x.1.1 x.1.2.1 x.1.2.2.1
noncomputable def spec_l2Before_l0_s (N : Nat) : LSum := ⟨spec_l2Before_l0_sh, spec_l2Before_l0_ex, fun x ks => spec_l2Before_l0_again N ks N x⟩
theorem spec_l2Before_l0_step (N : Nat) (R : Type) (k : Nat) (x : spec_l2Before_l0_sh.T) (ks : (j : Nat) → ((spec_l2Before_l0_ex.getD j (.ret, Sh.none)).2).T → Option R) : spec_l2Before_l0_again N ks (k + 1) x = roundF (spec_l2Before_G N) tab [] (loopAt spec_l2Before_code 0) spec_l2Before_l0_sh spec_l2Before_l0_ex (fun y => spec_l2Before_l0_again N ks k y) ks x := by kernel_rfl
theorem spec_l2Before_l0_ok (N : Nat) : LoopOk Tryz.prog Tryz.f297.ntmps (spec_l2Before_l0_s N) (loopAt spec_l2Before_code 0) :=
  loop_ok (l := spec_l2Before_l0_s N) progOk (spec_l2Before_gok N) (draw_ok progOk (spec_l2Before_gok N)) (fun R k x ks => spec_l2Before_l0_again N ks k x) (fun _ _ _ => rfl) (fun R k x ks => spec_l2Before_l0_step N R k x ks) (fun R x ks r h => ⟨N, h⟩) (lsOk_at (L := []) trivial) (by kernel_rfl) (by kernel_rfl)
noncomputable def spec_l2Before (N : Nat) (a : (List Int)) (b : (List Int)) : Option ((Bool × Unit) × (Unit)) :=
  spec_l2Before_l0 N (fun x => some ((x, ()), ())) (fun a1 b1 => some (((ilt (tLen a1) (tLen b1)), ()), ())) N a b 0
noncomputable def spec_l2Before_S (N : Nat) : FSum := ⟨spec_l2Before_ps, spec_l2Before_rs, fun x => spec_l2Before N x.1 x.2.1⟩
theorem spec_l2Before_run (N : Nat) (x : argsT spec_l2Before_ps) : spec_l2Before N x.1 x.2.1 = funF (spec_l2Before_G N) tab [spec_l2Before_l0_s N] Tryz.f297 spec_l2Before_ps spec_l2Before_rs x := by kernel_rfl
theorem spec_l2Before_pc (N : Nat) : PC Tryz.prog 297 (spec_l2Before_S N) := by
  have e : spec_l2Before_S N = ⟨spec_l2Before_ps, spec_l2Before_rs, funF (spec_l2Before_G N) tab [spec_l2Before_l0_s N] Tryz.f297 spec_l2Before_ps spec_l2Before_rs⟩ := congrArg (FSum.mk spec_l2Before_ps spec_l2Before_rs) (funext (spec_l2Before_run N))
  rw [e]
  exact fun_ok (c := spec_l2Before_code) progOk (spec_l2Before_gok N) (draw_ok progOk (spec_l2Before_gok N)) Tryz.call297 Tryz.func297 (by kernel_rfl) (lsOk_at (L := [spec_l2Before_l0_s N]) ⟨spec_l2Before_l0_ok N, trivial⟩) (by kernel_rfl) (by kernel_rfl) (by kernel_rfl) (by kernel_rfl) (by kernel_rfl)

/-! ### spec_l1Own_ro -/
abbrev spec_l1Own_ro_ps : List (PV.Mode × Ty) := [(.ro, LI)]
abbrev spec_l1Own_ro_rs : List (Bool × Ty) := [(false, LI)]
noncomputable def spec_l1Own_ro_G (N : Nat) : GTab := gOf []
theorem spec_l1Own_ro_gok (N : Nat) : GOk Tryz.prog (spec_l1Own_ro_G N) := gOf_ok trivial
noncomputable def spec_l1Own_ro_code : Code := (Tryz.f135.body).getD .skip
noncomputable def spec_l1Own_ro (N : Nat) (l : (List Int)) : Option (((List Int) × Unit) × (Unit)) :=
  (chk (room (α := Int) (β := Int) [] l)
    (some (((tApp [] l), ()), ())))
noncomputable def spec_l1Own_ro_S (N : Nat) : FSum := ⟨spec_l1Own_ro_ps, spec_l1Own_ro_rs, fun x => spec_l1Own_ro N x.1⟩
theorem spec_l1Own_ro_run (N : Nat) (x : argsT spec_l1Own_ro_ps) : spec_l1Own_ro N x.1 = funF (spec_l1Own_ro_G N) tab [] Tryz.f135 spec_l1Own_ro_ps spec_l1Own_ro_rs x := by kernel_rfl
theorem spec_l1Own_ro_pc (N : Nat) : PC Tryz.prog 135 (spec_l1Own_ro_S N) := by
  have e : spec_l1Own_ro_S N = ⟨spec_l1Own_ro_ps, spec_l1Own_ro_rs, funF (spec_l1Own_ro_G N) tab [] Tryz.f135 spec_l1Own_ro_ps spec_l1Own_ro_rs⟩ := congrArg (FSum.mk spec_l1Own_ro_ps spec_l1Own_ro_rs) (funext (spec_l1Own_ro_run N))
  rw [e]
  exact fun_ok (c := spec_l1Own_ro_code) progOk (spec_l1Own_ro_gok N) (draw_ok progOk (spec_l1Own_ro_gok N)) Tryz.call135 Tryz.func135 (by kernel_rfl) (lsOk_at (L := []) trivial) (by kernel_rfl) (by kernel_rfl) (by kernel_rfl) (by kernel_rfl) (by kernel_rfl)

/-! ### spec_l1Same -/
abbrev spec_l1Same_ps : List (PV.Mode × Ty) := [(.ro, LI), (.ro, LI)]
abbrev spec_l1Same_rs : List (Bool × Ty) := [(true, .bool)]
noncomputable def spec_l1Same_G (N : Nat) : GTab := gOf []
theorem spec_l1Same_gok (N : Nat) : GOk Tryz.prog (spec_l1Same_G N) := gOf_ok trivial
noncomputable def spec_l1Same_code : Code := (Tryz.f246.body).getD .skip
noncomputable def spec_l1Same_l0_sh : Sh := ⟨[(0, .one (.ro LI)), (1, .one (.ro LI)), (5, .one (.ro I))], []⟩
noncomputable def spec_l1Same_l0_ex : List (Ex × Sh) := [(.ret, ⟨[(4, .one (.ro .bool))], []⟩), (.exit 0, ⟨[], []⟩)]
noncomputable def spec_l1Same_l0 {R : Type} (N : Nat) (k0 : Bool → Option R) (k1 : Unit → Option R) : Nat → (List Int) → (List Int) → Int → Option R
  | 0, _, _, _ => none
  | K + 1, a1, b1, i =>
    (br (ilt i (tLen a1))
      ((chk (inb a1 i)
        (chk (inb b1 i)
        (br (ine (rdI a1 i) (rdI b1 i))
        (k0 false)
        (spec_l1Same_l0 N k0 k1 K a1 b1 (IntKind.i64.wrap (i + 1)))))))
      (k1 ()))
noncomputable def spec_l1Same_l0_again {R : Type} (N : Nat) (ks : (j : Nat) → ((spec_l1Same_l0_ex.getD j (.ret, Sh.none)).2).T → Option R) (k : Nat) (x : spec_l1Same_l0_sh.T) : Option R :=
  spec_l1Same_l0 N (fun y0 => ks 0 ((y0, ()), ())) (fun (_ : Unit) => ks 1 ((), ())) k x.1.1 x.1.2.1 x.1.2.2.1
noncomputable def spec_l1Same_l0_s (N : Nat) : LSum := ⟨spec_l1Same_l0_sh, spec_l1Same_l0_ex, fun x ks => spec_l1Same_l0_again N ks N x⟩
theorem spec_l1Same_l0_step (N : Nat) (R : Type) (k : Nat) (x : spec_l1Same_l0_sh.T) (ks : (j : Nat) → ((spec_l1Same_l0_ex.getD j (.ret, Sh.none)).2).T → Option R) : spec_l1Same_l0_again N ks (k + 1) x = roundF (spec_l1Same_G N) tab [] (loopAt spec_l1Same_code 0) spec_l1Same_l0_sh spec_l1Same_l0_ex (fun y => spec_l1Same_l0_again N ks k y) ks x := by kernel_rfl
theorem spec_l1Same_l0_ok (N : Nat) : LoopOk Tryz.prog Tryz.f246.ntmps (spec_l1Same_l0_s N) (loopAt spec_l1Same_code 0) :=
  loop_ok (l := spec_l1Same_l0_s N) progOk (spec_l1Same_gok N) (draw_ok progOk (spec_l1Same_gok N)) (fun R k x ks => spec_l1Same_l0_again N ks k x) (fun _ _ _ => rfl) (fun R k x ks => spec_l1Same_l0_step N R k x ks) (fun R x ks r h => ⟨N, h⟩) (lsOk_at (L := []) trivial) (by kernel_rfl) (by kernel_rfl)
noncomputable def spec_l1Same (N : Nat) (a : (List Int)) (b : (List Int)) : Option ((Bool × Unit) × (Unit)) :=
  (br (ine (tLen a) (tLen b))
    (some ((false, ()), ()))
    (spec_l1Same_l0 N (fun x => some ((x, ()), ())) (fun (_ : Unit) => some ((true, ()), ())) N a b 0))
noncomputable def spec_l1Same_S (N : Nat) : FSum := ⟨spec_l1Same_ps, spec_l1Same_rs, fun x => spec_l1Same N x.1 x.2.1⟩
theorem spec_l1Same_run (N : Nat) (x : argsT spec_l1Same_ps) : spec_l1Same N x.1 x.2.1 = funF (spec_l1Same_G N) tab [spec_l1Same_l0_s N] Tryz.f246 spec_l1Same_ps spec_l1Same_rs x := by kernel_rfl
theorem spec_l1Same_pc (N : Nat) : PC Tryz.prog 246 (spec_l1Same_S N) := by
  have e : spec_l1Same_S N = ⟨spec_l1Same_ps, spec_l1Same_rs, funF (spec_l1Same_G N) tab [spec_l1Same_l0_s N] Tryz.f246 spec_l1Same_ps spec_l1Same_rs⟩ := congrArg (FSum.mk spec_l1Same_ps spec_l1Same_rs) (funext (spec_l1Same_run N))
  rw [e]
  exact fun_ok (c := spec_l1Same_code) progOk (spec_l1Same_gok N) (draw_ok progOk (spec_l1Same_gok N)) Tryz.call246 Tryz.func246 (by kernel_rfl) (lsOk_at (L := [spec_l1Same_l0_s N]) ⟨spec_l1Same_l0_ok N, trivial⟩) (by kernel_rfl) (by kernel_rfl) (by kernel_rfl) (by kernel_rfl) (by kernel_rfl)
end Go.Proofs.YtbnjcjpnpidhmaaGreat
