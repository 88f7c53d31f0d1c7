/- Functions of the program as functions on data. -/
import Derived.Test.YthkejedgfhjdiaaLightTreeTa
set_option linter.all false
namespace Go.Proofs.Ythkejedgfhjdiaa
open Go Go.PV
/-! ### laws_szIntA2S -/
abbrev laws_szIntA2S_ps : List (PV.Mode × Ty) := [(.ro, LQII), (.ro, I)]
abbrev laws_szIntA2S_rs : List (Bool × Ty) := [(true, I)]
noncomputable def laws_szIntA2S_G (N : Nat) : GTab := gOf []
theorem laws_szIntA2S_gok (N : Nat) : GOk Try.prog (laws_szIntA2S_G N) := gOf_ok trivial
noncomputable def laws_szIntA2S_code : Code := (Try.f74.body).getD .skip
noncomputable def laws_szIntA2S (N : Nat) (a : (List (Int × Int))) (left : Int) : Option ((Int × Unit) × (Unit)) :=
  (br (ilt (IntKind.i64.wrap (left - (tLen a))) 0)
    (some (((-1), ()), ()))
    (some (((IntKind.i64.wrap (left - (tLen a))), ()), ())))
noncomputable def laws_szIntA2S_S (N : Nat) : FSum := ⟨laws_szIntA2S_ps, laws_szIntA2S_rs, fun x => laws_szIntA2S N x.1 x.2.1⟩
theorem laws_szIntA2S_run (N : Nat) (x : argsT laws_szIntA2S_ps) : laws_szIntA2S N x.1 x.2.1 = funF (laws_szIntA2S_G N) tab [] Try.f74 laws_szIntA2S_ps laws_szIntA2S_rs x := by kernel_rfl
theorem laws_szIntA2S_pc (N : Nat) : PC Try.prog 74 (laws_szIntA2S_S N) := by
  have e : laws_szIntA2S_S N = ⟨laws_szIntA2S_ps, laws_szIntA2S_rs, funF (laws_szIntA2S_G N) tab [] Try.f74 laws_szIntA2S_ps laws_szIntA2S_rs⟩ := congrArg (FSum.mk laws_szIntA2S_ps laws_szIntA2S_rs) (funext (laws_szIntA2S_run N))
  rw [e]
  exact fun_ok (c := laws_szIntA2S_code) progOk (laws_szIntA2S_gok N) (draw_ok progOk (laws_szIntA2S_gok N)) Try.call74 Try.func74 (by kernel_rfl) (lsOk_at (L := []) trivial) (by kernel_rfl) (by kernel_rfl) (by kernel_rfl) (by kernel_rfl) (by kernel_rfl)

/-! ### laws_szGraph -/
abbrev laws_szGraph_ps : List (PV.Mode × Ty) := [(.ro, QILQII), (.ro, I)]
abbrev laws_szGraph_rs : List (Bool × Ty) := [(true, I)]
noncomputable def laws_szGraph_G (N : Nat) : GTab := gOf [(74, laws_szIntA2S_S N)]
theorem laws_szGraph_gok (N : Nat) : GOk Try.prog (laws_szGraph_G N) := gOf_ok ⟨laws_szIntA2S_pc N, trivial⟩
noncomputable def laws_szGraph_code : Code := (Try.f30.body).getD .skip
noncomputable def laws_szGraph (N : Nat) (a : (Int × (List (Int × Int)))) (left : Int) : Option ((Int × Unit) × (Unit)) :=
  ((laws_szIntA2S N a.2 left).bind fun r =>
    (br (ilt r.1.1 0)
      (some (((-1), ()), ()))
      (some ((r.1.1, ()), ()))))
noncomputable def laws_szGraph_S (N : Nat) : FSum := ⟨laws_szGraph_ps, laws_szGraph_rs, fun x => laws_szGraph N x.1 x.2.1⟩
theorem laws_szGraph_run (N : Nat) (x : argsT laws_szGraph_ps) : laws_szGraph N x.1 x.2.1 = funF (laws_szGraph_G N) tab [] Try.f30 laws_szGraph_ps laws_szGraph_rs x := by kernel_rfl
theorem laws_szGraph_pc (N : Nat) : PC Try.prog 30 (laws_szGraph_S N) := by
  have e : laws_szGraph_S N = ⟨laws_szGraph_ps, laws_szGraph_rs, funF (laws_szGraph_G N) tab [] Try.f30 laws_szGraph_ps laws_szGraph_rs⟩ := congrArg (FSum.mk laws_szGraph_ps laws_szGraph_rs) (funext (laws_szGraph_run N))
  rw [e]
  exact fun_ok (c := laws_szGraph_code) progOk (laws_szGraph_gok N) (draw_ok progOk (laws_szGraph_gok N)) Try.call30 Try.func30 (by kernel_rfl) (lsOk_at (L := []) trivial) (by kernel_rfl) (by kernel_rfl) (by kernel_rfl) (by kernel_rfl) (by kernel_rfl)

/-! ### laws_toIntA2 -/
abbrev laws_toIntA2_ps : List (PV.Mode × Ty) := [(.ro, QII)]
abbrev laws_toIntA2_rs : List (Bool × Ty) := [(true, QII)]
noncomputable def laws_toIntA2_G (N : Nat) : GTab := gOf []
theorem laws_toIntA2_gok (N : Nat) : GOk Try.prog (laws_toIntA2_G N) := gOf_ok trivial
noncomputable def laws_toIntA2_code : Code := (Try.f139.body).getD .skip
noncomputable def laws_toIntA2_l0_sh : Sh := ⟨[(1, .one (.adr 0 0)), (2, .one (.adr 1 0)), (3, .one (.adr 2 0)), (4, .one (.num .i64 0))], [.box [.ro I, .ro I], .box [.ro I, .ro I], .box [.ro I, .ro I]]⟩
noncomputable def laws_toIntA2_l0_ex : List (Ex × Sh) := [(.exit 0, ⟨[(2, .one (.adr 0 0)), (3, .one (.adr 1 0))], [.box [.ro I, .ro I], .box [.ro I, .ro I]]⟩)]
noncomputable def laws_toIntA2_l0 {R : Type} (N : Nat) (k0 : Int → Int → Int → Int → Option R) (_ : Nat) (o6 : Int) (o7 : Int) (o8 : Int) (o9 : Int) (o10 : Int) (o11 : Int) : Option R :=
  k0 o8 o9 o6 o7
noncomputable def laws_toIntA2_l0_again {R : Type} (N : Nat) (ks : (j : Nat) → ((laws_toIntA2_l0_ex.getD j (.ret, Sh.none)).2).T → Option R) (x : laws_toIntA2_l0_sh.T) : Option R :=
  laws_toIntA2_l0 N (fun y0 y1 y2 y3 => ks 0 (((), (), ()), ((y0, y1, ()), (y2, y3, ()), ()))) N x.2.1.1 x.2.1.2.1 x.2.2.1.1 x.2.2.1.2.1 x.2.2.2.1.1 x.2.2.2.1.2.1
noncomputable def laws_toIntA2_l0_s (N : Nat) : LSum := ⟨laws_toIntA2_l0_sh, laws_toIntA2_l0_ex, fun x ks => laws_toIntA2_l0_again N ks x⟩
theorem laws_toIntA2_l0_unr (N : Nat) (R : Type) (x : laws_toIntA2_l0_sh.T) (ks : (j : Nat) → ((laws_toIntA2_l0_ex.getD j (.ret, Sh.none)).2).T → Option R) : laws_toIntA2_l0_again N ks x = unrF (laws_toIntA2_G N) tab (loopAt laws_toIntA2_code 0) laws_toIntA2_l0_ex ks 3 (fill laws_toIntA2_l0_sh x) := by kernel_rfl
theorem laws_toIntA2_l0_ok (N : Nat) : LoopOk Try.prog Try.f139.ntmps (laws_toIntA2_l0_s N) (loopAt laws_toIntA2_code 0) :=
  unroll_ok (l := laws_toIntA2_l0_s N) progOk (laws_toIntA2_gok N) (draw_ok progOk (laws_toIntA2_gok N)) (fun R x ks r h => ⟨3, (laws_toIntA2_l0_unr N R x ks).symm.trans h⟩) (by kernel_rfl) (by kernel_rfl)
noncomputable def laws_toIntA2 (N : Nat) (a : (Int × Int)) : Option (((Int × Int) × Unit) × (Unit)) :=
  laws_toIntA2_l0 N (fun o6 o7 o8 o9 => some (((o8, o9), ()), ())) N a.1 a.2 0 0 0 0
noncomputable def laws_toIntA2_S (N : Nat) : FSum := ⟨laws_toIntA2_ps, laws_toIntA2_rs, fun x => laws_toIntA2 N x.1⟩
theorem laws_toIntA2_run (N : Nat) (x : argsT laws_toIntA2_ps) : laws_toIntA2 N x.1 = funF (laws_toIntA2_G N) tab [laws_toIntA2_l0_s N] Try.f139 laws_toIntA2_ps laws_toIntA2_rs x := by kernel_rfl
theorem laws_toIntA2_pc (N : Nat) : PC Try.prog 139 (laws_toIntA2_S N) := by
  have e : laws_toIntA2_S N = ⟨laws_toIntA2_ps, laws_toIntA2_rs, funF (laws_toIntA2_G N) tab [laws_toIntA2_l0_s N] Try.f139 laws_toIntA2_ps laws_toIntA2_rs⟩ := congrArg (FSum.mk laws_toIntA2_ps laws_toIntA2_rs) (funext (laws_toIntA2_run N))
  rw [e]
  exact fun_ok (c := laws_toIntA2_code) progOk (laws_toIntA2_gok N) (draw_ok progOk (laws_toIntA2_gok N)) Try.call139 Try.func139 (by kernel_rfl) (lsOk_at (L := [laws_toIntA2_l0_s N]) ⟨laws_toIntA2_l0_ok N, trivial⟩) (by kernel_rfl) (by kernel_rfl) (by kernel_rfl) (by kernel_rfl) (by kernel_rfl)

/-! ### laws_toIntA2S -/
abbrev laws_toIntA2S_ps : List (PV.Mode × Ty) := [(.ro, LQII)]
abbrev laws_toIntA2S_rs : List (Bool × Ty) := [(true, LQII)]
noncomputable def laws_toIntA2S_G (N : Nat) : GTab := gOf [(139, laws_toIntA2_S N)]
theorem laws_toIntA2S_gok (N : Nat) : GOk Try.prog (laws_toIntA2S_G N) := gOf_ok ⟨laws_toIntA2_pc N, trivial⟩
noncomputable def laws_toIntA2S_code : Code := (Try.f77.body).getD .skip
noncomputable def laws_toIntA2S_l0_sh : Sh := ⟨[(0, .one (.ro LQII)), (3, .one (.ref 0)), (4, .one (.ro I))], [.sl 97 QII .own]⟩
noncomputable def laws_toIntA2S_l0_ex : List (Ex × Sh) := [(.exit 0, ⟨[(3, .one (.ref 0))], [.sl 97 QII .own]⟩)]
noncomputable def laws_toIntA2S_l0 {R : Type} (N : Nat) (k0 : (List (Int × Int)) → Option R) : Nat → (List (Int × Int)) → Int → (List (Int × Int)) → Option R
  | 0, _, _, _ => none
  | K + 1, a1, i, o =>
    (br (ilt i (tLen a1))
      ((chk (inb a1 i)
        ((laws_toIntA2 N (rdP a1 i)).bind fun r =>
        (chk (inb o i)
          (laws_toIntA2S_l0 N k0 K a1 (IntKind.i64.wrap (i + 1)) (tSet o i (r.1.1.1, r.1.1.2)))))))
      (k0 o))
noncomputable def laws_toIntA2S_l0_again {R : Type} (N : Nat) (ks : (j : Nat) → ((laws_toIntA2S_l0_ex.getD j (.ret, Sh.none)).2).T → Option R) (k : Nat) (x : laws_toIntA2S_l0_sh.T) : Option R :=
  laws_toIntA2S_l0 N (fun y0 => ks 0 (((), ()), (y0, ()))) k x.1.1 x.1.2.2.1 x.2.1
noncomputable def laws_toIntA2S_l0_s (N : Nat) : LSum := ⟨laws_toIntA2S_l0_sh, laws_toIntA2S_l0_ex, fun x ks => laws_toIntA2S_l0_again N ks N x⟩
theorem laws_toIntA2S_l0_step (N : Nat) (R : Type) (k : Nat) (x : laws_toIntA2S_l0_sh.T) (ks : (j : Nat) → ((laws_toIntA2S_l0_ex.getD j (.ret, Sh.none)).2).T → Option R) : laws_toIntA2S_l0_again N ks (k + 1) x = roundF (laws_toIntA2S_G N) tab [] (loopAt laws_toIntA2S_code 0) laws_toIntA2S_l0_sh laws_toIntA2S_l0_ex (fun y => laws_toIntA2S_l0_again N ks k y) ks x := by kernel_rfl
theorem laws_toIntA2S_l0_ok (N : Nat) : LoopOk Try.prog Try.f77.ntmps (laws_toIntA2S_l0_s N) (loopAt laws_toIntA2S_code 0) :=
  loop_ok (l := laws_toIntA2S_l0_s N) progOk (laws_toIntA2S_gok N) (draw_ok progOk (laws_toIntA2S_gok N)) (fun R k x ks => laws_toIntA2S_l0_again N ks k x) (fun _ _ _ => rfl) (fun R k x ks => laws_toIntA2S_l0_step N R k x ks) (fun R x ks r h => ⟨N, h⟩) (lsOk_at (L := []) trivial) (by kernel_rfl) (by kernel_rfl)
noncomputable def laws_toIntA2S (N : Nat) (a : (List (Int × Int))) : Option (((List (Int × Int)) × Unit) × (Unit)) :=
  (chk (ile 0 (tLen a) && ile (tLen a) (tLen a) && fits (tLen a))
    (laws_toIntA2S_l0 N (fun o => some ((o, ()), ())) N a 0 (tRep (tLen a) (0, 0))))
noncomputable def laws_toIntA2S_S (N : Nat) : FSum := ⟨laws_toIntA2S_ps, laws_toIntA2S_rs, fun x => laws_toIntA2S N x.1⟩
theorem laws_toIntA2S_run (N : Nat) (x : argsT laws_toIntA2S_ps) : laws_toIntA2S N x.1 = funF (laws_toIntA2S_G N) tab [laws_toIntA2S_l0_s N] Try.f77 laws_toIntA2S_ps laws_toIntA2S_rs x := by kernel_rfl
theorem laws_toIntA2S_pc (N : Nat) : PC Try.prog 77 (laws_toIntA2S_S N) := by
  have e : laws_toIntA2S_S N = ⟨laws_toIntA2S_ps, laws_toIntA2S_rs, funF (laws_toIntA2S_G N) tab [laws_toIntA2S_l0_s N] Try.f77 laws_toIntA2S_ps laws_toIntA2S_rs⟩ := congrArg (FSum.mk laws_toIntA2S_ps laws_toIntA2S_rs) (funext (laws_toIntA2S_run N))
  rw [e]
  exact fun_ok (c := laws_toIntA2S_code) progOk (laws_toIntA2S_gok N) (draw_ok progOk (laws_toIntA2S_gok N)) Try.call77 Try.func77 (by kernel_rfl) (lsOk_at (L := [laws_toIntA2S_l0_s N]) ⟨laws_toIntA2S_l0_ok N, trivial⟩) (by kernel_rfl) (by kernel_rfl) (by kernel_rfl) (by kernel_rfl) (by kernel_rfl)

/-! ### laws_toGraph -/
abbrev laws_toGraph_ps : List (PV.Mode × Ty) := [(.ro, QILQII)]
abbrev laws_toGraph_rs : List (Bool × Ty) := [(true, QILQII)]
noncomputable def laws_toGraph_G (N : Nat) : GTab := gOf [(77, laws_toIntA2S_S N)]
theorem laws_toGraph_gok (N : Nat) : GOk Try.prog (laws_toGraph_G N) := gOf_ok ⟨laws_toIntA2S_pc N, trivial⟩
noncomputable def laws_toGraph_code : Code := (Try.f32.body).getD .skip
noncomputable def laws_toGraph (N : Nat) (a : (Int × (List (Int × Int)))) : Option (((Int × (List (Int × Int))) × Unit) × (Unit)) :=
  ((laws_toIntA2S N a.2).bind fun r =>
    some (((a.1, r.1.1), ()), ()))
noncomputable def laws_toGraph_S (N : Nat) : FSum := ⟨laws_toGraph_ps, laws_toGraph_rs, fun x => laws_toGraph N x.1⟩
theorem laws_toGraph_run (N : Nat) (x : argsT laws_toGraph_ps) : laws_toGraph N x.1 = funF (laws_toGraph_G N) tab [] Try.f32 laws_toGraph_ps laws_toGraph_rs x := by kernel_rfl
theorem laws_toGraph_pc (N : Nat) : PC Try.prog 32 (laws_toGraph_S N) := by
  have e : laws_toGraph_S N = ⟨laws_toGraph_ps, laws_toGraph_rs, funF (laws_toGraph_G N) tab [] Try.f32 laws_toGraph_ps laws_toGraph_rs⟩ := congrArg (FSum.mk laws_toGraph_ps laws_toGraph_rs) (funext (laws_toGraph_run N))
  rw [e]
  exact fun_ok (c := laws_toGraph_code) progOk (laws_toGraph_gok N) (draw_ok progOk (laws_toGraph_gok N)) Try.call32 Try.func32 (by kernel_rfl) (lsOk_at (L := []) trivial) (by kernel_rfl) (by kernel_rfl) (by kernel_rfl) (by kernel_rfl) (by kernel_rfl)

/-! ### laws_toIntS -/
abbrev laws_toIntS_ps : List (PV.Mode × Ty) := [(.ro, LI)]
abbrev laws_toIntS_rs : List (Bool × Ty) := [(true, LI)]
noncomputable def laws_toIntS_G (N : Nat) : GTab := gOf []
theorem laws_toIntS_gok (N : Nat) : GOk Try.prog (laws_toIntS_G N) := gOf_ok trivial
noncomputable def laws_toIntS_code : Code := (Try.f33.body).getD .skip
noncomputable def laws_toIntS_l0_sh : Sh := ⟨[(0, .one (.ro LI)), (3, .one (.ref 0)), (4, .one (.ro I))], [.sl 3 I .own]⟩
noncomputable def laws_toIntS_l0_ex : List (Ex × Sh) := [(.exit 0, ⟨[(3, .one (.ref 0))], [.sl 3 I .own]⟩)]
noncomputable def laws_toIntS_l0 {R : Type} (N : Nat) (k0 : (List Int) → Option R) : Nat → (List Int) → Int → (List Int) → Option R
  | 0, _, _, _ => none
  | K + 1, a1, i, o =>
    (br (ilt i (tLen a1))
      ((chk (inb a1 i)
        (chk (inb o i)
        (laws_toIntS_l0 N k0 K a1 (IntKind.i64.wrap (i + 1)) (tSet o i (rdI a1 i))))))
      (k0 o))
noncomputable def laws_toIntS_l0_again {R : Type} (N : Nat) (ks : (j : Nat) → ((laws_toIntS_l0_ex.getD j (.ret, Sh.none)).2).T → Option R) (k : Nat) (x : laws_toIntS_l0_sh.T) : Option R :=
  laws_toIntS_l0 N (fun y0 => ks 0 (((), ()), (y0, ()))) k x.1.1 x.1.2.2.1 x.2.1
noncomputable def laws_toIntS_l0_s (N : Nat) : LSum := ⟨laws_toIntS_l0_sh, laws_toIntS_l0_ex, fun x ks => laws_toIntS_l0_again N ks N x⟩
theorem laws_toIntS_l0_step (N : Nat) (R : Type) (k : Nat) (x : laws_toIntS_l0_sh.T) (ks : (j : Nat) → ((laws_toIntS_l0_ex.getD j (.ret, Sh.none)).2).T → Option R) : laws_toIntS_l0_again N ks (k + 1) x = roundF (laws_toIntS_G N) tab [] (loopAt laws_toIntS_code 0) laws_toIntS_l0_sh laws_toIntS_l0_ex (fun y => laws_toIntS_l0_again N ks k y) ks x := by kernel_rfl
theorem laws_toIntS_l0_ok (N : Nat) : LoopOk Try.prog Try.f33.ntmps (laws_toIntS_l0_s N) (loopAt laws_toIntS_code 0) :=
  loop_ok (l := laws_toIntS_l0_s N) progOk (laws_toIntS_gok N) (draw_ok progOk (laws_toIntS_gok N)) (fun R k x ks => laws_toIntS_l0_again N ks k x) (fun _ _ _ => rfl) (fun R k x ks => laws_toIntS_l0_step N R k x ks) (fun R x ks r h => ⟨N, h⟩) (lsOk_at (L := []) trivial) (by kernel_rfl) (by kernel_rfl)
noncomputable def laws_toIntS (N : Nat) (a : (List Int)) : Option (((List Int) × Unit) × (Unit)) :=
  (chk (ile 0 (tLen a) && ile (tLen a) (tLen a) && fits (tLen a))
    (laws_toIntS_l0 N (fun o => some ((o, ()), ())) N a 0 (tRep (tLen a) (0 : Int))))
noncomputable def laws_toIntS_S (N : Nat) : FSum := ⟨laws_toIntS_ps, laws_toIntS_rs, fun x => laws_toIntS N x.1⟩
theorem laws_toIntS_run (N : Nat) (x : argsT laws_toIntS_ps) : laws_toIntS N x.1 = funF (laws_toIntS_G N) tab [laws_toIntS_l0_s N] Try.f33 laws_toIntS_ps laws_toIntS_rs x := by kernel_rfl
theorem laws_toIntS_pc (N : Nat) : PC Try.prog 33 (laws_toIntS_S N) := by
  have e : laws_toIntS_S N = ⟨laws_toIntS_ps, laws_toIntS_rs, funF (laws_toIntS_G N) tab [laws_toIntS_l0_s N] Try.f33 laws_toIntS_ps laws_toIntS_rs⟩ := congrArg (FSum.mk laws_toIntS_ps laws_toIntS_rs) (funext (laws_toIntS_run N))
  rw [e]
  exact fun_ok (c := laws_toIntS_code) progOk (laws_toIntS_gok N) (draw_ok progOk (laws_toIntS_gok N)) Try.call33 Try.func33 (by kernel_rfl) (lsOk_at (L := [laws_toIntS_l0_s N]) ⟨laws_toIntS_l0_ok N, trivial⟩) (by kernel_rfl) (by kernel_rfl) (by kernel_rfl) (by kernel_rfl) (by kernel_rfl)

/-! ### spec_l1In -/
abbrev spec_l1In_ps : List (PV.Mode × Ty) := [(.ro, I), (.ro, I), (.ro, I)]
abbrev spec_l1In_rs : List (Bool × Ty) := [(true, .bool)]
noncomputable def spec_l1In_G (N : Nat) : GTab := gOf []
theorem spec_l1In_gok (N : Nat) : GOk Try.prog (spec_l1In_G N) := gOf_ok trivial
noncomputable def spec_l1In_code : Code := (Try.f61.body).getD .skip
noncomputable def spec_l1In (N : Nat) (x : Int) (a : Int) (b : Int) : Option ((Bool × Unit) × (Unit)) :=
  (br (ile a x)
    (some (((ile x b), ()), ()))
    (some ((false, ()), ())))
noncomputable def spec_l1In_S (N : Nat) : FSum := ⟨spec_l1In_ps, spec_l1In_rs, fun x => spec_l1In N x.1 x.2.1 x.2.2.1⟩
theorem spec_l1In_run (N : Nat) (x : argsT spec_l1In_ps) : spec_l1In N x.1 x.2.1 x.2.2.1 = funF (spec_l1In_G N) tab [] Try.f61 spec_l1In_ps spec_l1In_rs x := by kernel_rfl
theorem spec_l1In_pc (N : Nat) : PC Try.prog 61 (spec_l1In_S N) := by
  have e : spec_l1In_S N = ⟨spec_l1In_ps, spec_l1In_rs, funF (spec_l1In_G N) tab [] Try.f61 spec_l1In_ps spec_l1In_rs⟩ := congrArg (FSum.mk spec_l1In_ps spec_l1In_rs) (funext (spec_l1In_run N))
  rw [e]
  exact fun_ok (c := spec_l1In_code) progOk (spec_l1In_gok N) (draw_ok progOk (spec_l1In_gok N)) Try.call61 Try.func61 (by kernel_rfl) (lsOk_at (L := []) trivial) (by kernel_rfl) (by kernel_rfl) (by kernel_rfl) (by kernel_rfl) (by kernel_rfl)

/-! ### spec_l2Edge -/
abbrev spec_l2Edge_ps : List (PV.Mode × Ty) := [(.ro, QII), (.ro, QII)]
abbrev spec_l2Edge_rs : List (Bool × Ty) := [(true, .bool)]
noncomputable def spec_l2Edge_G (N : Nat) : GTab := gOf []
theorem spec_l2Edge_gok (N : Nat) : GOk Try.prog (spec_l2Edge_G N) := gOf_ok trivial
noncomputable def spec_l2Edge_code : Code := (Try.f176.body).getD .skip
noncomputable def spec_l2Edge (N : Nat) (a : (Int × Int)) (b : (Int × Int)) : Option ((Bool × Unit) × (Unit)) :=
  (br (ilt a.1 b.1)
    (some ((true, ()), ()))
    ((br (ieq a.1 b.1)
      (some (((ilt a.2 b.2), ()), ()))
      (some ((false, ()), ())))))
noncomputable def spec_l2Edge_S (N : Nat) : FSum := ⟨spec_l2Edge_ps, spec_l2Edge_rs, fun x => spec_l2Edge N x.1 x.2.1⟩
theorem spec_l2Edge_run (N : Nat) (x : argsT spec_l2Edge_ps) : spec_l2Edge N x.1 x.2.1 = funF (spec_l2Edge_G N) tab [] Try.f176 spec_l2Edge_ps spec_l2Edge_rs x := by kernel_rfl
theorem spec_l2Edge_pc (N : Nat) : PC Try.prog 176 (spec_l2Edge_S N) := by
  have e : spec_l2Edge_S N = ⟨spec_l2Edge_ps, spec_l2Edge_rs, funF (spec_l2Edge_G N) tab [] Try.f176 spec_l2Edge_ps spec_l2Edge_rs⟩ := congrArg (FSum.mk spec_l2Edge_ps spec_l2Edge_rs) (funext (spec_l2Edge_run N))
  rw [e]
  exact fun_ok (c := spec_l2Edge_code) progOk (spec_l2Edge_gok N) (draw_ok progOk (spec_l2Edge_gok N)) Try.call176 Try.func176 (by kernel_rfl) (lsOk_at (L := []) trivial) (by kernel_rfl) (by kernel_rfl) (by kernel_rfl) (by kernel_rfl) (by kernel_rfl)

/-! ### spec_l2Pairs -/
abbrev spec_l2Pairs_ps : List (PV.Mode × Ty) := [(.ro, LQII), (.ro, I)]
abbrev spec_l2Pairs_rs : List (Bool × Ty) := [(true, .bool)]
noncomputable def spec_l2Pairs_G (N : Nat) : GTab := gOf [(61, spec_l1In_S N), (176, spec_l2Edge_S N)]
theorem spec_l2Pairs_gok (N : Nat) : GOk Try.prog (spec_l2Pairs_G N) := gOf_ok ⟨spec_l1In_pc N, spec_l2Edge_pc N, trivial⟩
noncomputable def spec_l2Pairs_code : Code := (Try.f155.body).getD .skip
noncomputable def spec_l2Pairs_l0_sh : Sh := ⟨[(0, .one (.ro LQII)), (1, .one (.ro I)), (5, .one (.ro I))], []⟩
noncomputable def spec_l2Pairs_l0_ex : List (Ex × Sh) := [(.ret, ⟨[(4, .one (.ro .bool))], []⟩), (.exit 0, ⟨[], []⟩)]
noncomputable def spec_l2Pairs_l0 {R : Type} (N : Nat) (k0 : Bool → Option R) (k1 : Unit → Option R) : Nat → (List (Int × Int)) → Int → Int → Option R
  | 0, _, _, _ => none
  | K + 1, pairs1, n1, i =>
    (br (ilt i (tLen pairs1))
      ((chk (inb pairs1 i)
        ((spec_l1In N ((rdP pairs1 i).1) 0 (IntKind.i64.wrap (n1 - 1))).bind fun r =>
        (br (!r.1.1)
          (k0 false)
          (((spec_l1In N ((rdP pairs1 i).2) 0 (IntKind.i64.wrap (n1 - 1))).bind fun r1 =>
            (br (!r1.1.1)
              (k0 false)
              ((br (ile ((rdP pairs1 i).2) ((rdP pairs1 i).1))
                (k0 false)
                ((br (ilt 0 i)
                  ((chk (inb pairs1 (IntKind.i64.wrap (i - 1)))
                    ((spec_l2Edge N (rdP pairs1 (IntKind.i64.wrap (i - 1))) ((rdP pairs1 i).1, (rdP pairs1 i).2)).bind fun r2 =>
                    (br (!r2.1.1)
                      (k0 false)
                      (spec_l2Pairs_l0 N k0 k1 K pairs1 n1 (IntKind.i64.wrap (i + 1)))))))
                  (spec_l2Pairs_l0 N k0 k1 K pairs1 n1 (IntKind.i64.wrap (i + 1))))))))))))))
      (k1 ()))
noncomputable def spec_l2Pairs_l0_again {R : Type} (N : Nat) (ks : (j : Nat) → ((spec_l2Pairs_l0_ex.getD j (.ret, Sh.none)).2).T → Option R) (k : Nat) (x : spec_l2Pairs_l0_sh.T) : Option R :=
  spec_l2Pairs_l0 N (fun y0 => ks 0 ((y0, ()), ())) (fun (_ : Unit) => ks 1 ((), ())) k x.1.1 x.1.2.1 x.1.2.2.1
noncomputable def spec_l2Pairs_l0_s (N : Nat) : LSum := ⟨spec_l2Pairs_l0_sh, spec_l2Pairs_l0_ex, fun x ks => spec_l2Pairs_l0_again N ks N x⟩
theorem spec_l2Pairs_l0_step (N : Nat) (R : Type) (k : Nat) (x : spec_l2Pairs_l0_sh.T) (ks : (j : Nat) → ((spec_l2Pairs_l0_ex.getD j (.ret, Sh.none)).2).T → Option R) : spec_l2Pairs_l0_again N ks (k + 1) x = roundF (spec_l2Pairs_G N) tab [] (loopAt spec_l2Pairs_code 0) spec_l2Pairs_l0_sh spec_l2Pairs_l0_ex (fun y => spec_l2Pairs_l0_again N ks k y) ks x := by kernel_rfl
theorem spec_l2Pairs_l0_ok (N : Nat) : LoopOk Try.prog Try.f155.ntmps (spec_l2Pairs_l0_s N) (loopAt spec_l2Pairs_code 0) :=
  loop_ok (l := spec_l2Pairs_l0_s N) progOk (spec_l2Pairs_gok N) (draw_ok progOk (spec_l2Pairs_gok N)) (fun R k x ks => spec_l2Pairs_l0_again N ks k x) (fun _ _ _ => rfl) (fun R k x ks => spec_l2Pairs_l0_step N R k x ks) (fun R x ks r h => ⟨N, h⟩) (lsOk_at (L := []) trivial) (by kernel_rfl) (by kernel_rfl)
noncomputable def spec_l2Pairs (N : Nat) (pairs : (List (Int × Int))) (n : Int) : Option ((Bool × Unit) × (Unit)) :=
  spec_l2Pairs_l0 N (fun x => some ((x, ()), ())) (fun (_ : Unit) => some ((true, ()), ())) N pairs n 0
noncomputable def spec_l2Pairs_S (N : Nat) : FSum := ⟨spec_l2Pairs_ps, spec_l2Pairs_rs, fun x => spec_l2Pairs N x.1 x.2.1⟩
theorem spec_l2Pairs_run (N : Nat) (x : argsT spec_l2Pairs_ps) : spec_l2Pairs N x.1 x.2.1 = funF (spec_l2Pairs_G N) tab [spec_l2Pairs_l0_s N] Try.f155 spec_l2Pairs_ps spec_l2Pairs_rs x := by kernel_rfl
theorem spec_l2Pairs_pc (N : Nat) : PC Try.prog 155 (spec_l2Pairs_S N) := by
  have e : spec_l2Pairs_S N = ⟨spec_l2Pairs_ps, spec_l2Pairs_rs, funF (spec_l2Pairs_G N) tab [spec_l2Pairs_l0_s N] Try.f155 spec_l2Pairs_ps spec_l2Pairs_rs⟩ := congrArg (FSum.mk spec_l2Pairs_ps spec_l2Pairs_rs) (funext (spec_l2Pairs_run N))
  rw [e]
  exact fun_ok (c := spec_l2Pairs_code) progOk (spec_l2Pairs_gok N) (draw_ok progOk (spec_l2Pairs_gok N)) Try.call155 Try.func155 (by kernel_rfl) (lsOk_at (L := [spec_l2Pairs_l0_s N]) ⟨spec_l2Pairs_l0_ok N, trivial⟩) (by kernel_rfl) (by kernel_rfl) (by kernel_rfl) (by kernel_rfl) (by kernel_rfl)

/-! ### spec_l2Good -/
abbrev spec_l2Good_ps : List (PV.Mode × Ty) := [(.ro, QILQII)]
abbrev spec_l2Good_rs : List (Bool × Ty) := [(true, .bool)]
noncomputable def spec_l2Good_G (N : Nat) : GTab := gOf [(61, spec_l1In_S N), (155, spec_l2Pairs_S N)]
theorem spec_l2Good_gok (N : Nat) : GOk Try.prog (spec_l2Good_G N) := gOf_ok ⟨spec_l1In_pc N, spec_l2Pairs_pc N, trivial⟩
noncomputable def spec_l2Good_code : Code := (Try.f102.body).getD .skip
noncomputable def spec_l2Good (N : Nat) (g : (Int × (List (Int × Int)))) : Option ((Bool × Unit) × (Unit)) :=
  ((spec_l1In N g.1 0 8).bind fun r =>
    (br r.1.1
      (((spec_l2Pairs N g.2 g.1).bind fun r1 =>
        some ((r1.1.1, ()), ())))
      (some ((false, ()), ()))))
noncomputable def spec_l2Good_S (N : Nat) : FSum := ⟨spec_l2Good_ps, spec_l2Good_rs, fun x => spec_l2Good N x.1⟩
theorem spec_l2Good_run (N : Nat) (x : argsT spec_l2Good_ps) : spec_l2Good N x.1 = funF (spec_l2Good_G N) tab [] Try.f102 spec_l2Good_ps spec_l2Good_rs x := by kernel_rfl
theorem spec_l2Good_pc (N : Nat) : PC Try.prog 102 (spec_l2Good_S N) := by
  have e : spec_l2Good_S N = ⟨spec_l2Good_ps, spec_l2Good_rs, funF (spec_l2Good_G N) tab [] Try.f102 spec_l2Good_ps spec_l2Good_rs⟩ := congrArg (FSum.mk spec_l2Good_ps spec_l2Good_rs) (funext (spec_l2Good_run N))
  rw [e]
  exact fun_ok (c := spec_l2Good_code) progOk (spec_l2Good_gok N) (draw_ok progOk (spec_l2Good_gok N)) Try.call102 Try.func102 (by kernel_rfl) (lsOk_at (L := []) trivial) (by kernel_rfl) (by kernel_rfl) (by kernel_rfl) (by kernel_rfl) (by kernel_rfl)

/-! ### spec_l7Some -/
abbrev spec_l7Some_ps : List (PV.Mode × Ty) := [(.ro, QILQII)]
abbrev spec_l7Some_rs : List (Bool × Ty) := [(true, .bool)]
noncomputable def spec_l7Some_G (N : Nat) : GTab := gOf [(102, spec_l2Good_S N)]
theorem spec_l7Some_gok (N : Nat) : GOk Try.prog (spec_l7Some_G N) := gOf_ok ⟨spec_l2Good_pc N, trivial⟩
noncomputable def spec_l7Some_code : Code := (Try.f84.body).getD .skip
noncomputable def spec_l7Some (N : Nat) (g : (Int × (List (Int × Int)))) : Option ((Bool × Unit) × (Unit)) :=
  ((spec_l2Good N (g.1, g.2)).bind fun r =>
    (br r.1.1
      (some (((ilt 0 g.1), ()), ()))
      (some ((false, ()), ()))))
noncomputable def spec_l7Some_S (N : Nat) : FSum := ⟨spec_l7Some_ps, spec_l7Some_rs, fun x => spec_l7Some N x.1⟩
theorem spec_l7Some_run (N : Nat) (x : argsT spec_l7Some_ps) : spec_l7Some N x.1 = funF (spec_l7Some_G N) tab [] Try.f84 spec_l7Some_ps spec_l7Some_rs x := by kernel_rfl
theorem spec_l7Some_pc (N : Nat) : PC Try.prog 84 (spec_l7Some_S N) := by
  have e : spec_l7Some_S N = ⟨spec_l7Some_ps, spec_l7Some_rs, funF (spec_l7Some_G N) tab [] Try.f84 spec_l7Some_ps spec_l7Some_rs⟩ := congrArg (FSum.mk spec_l7Some_ps spec_l7Some_rs) (funext (spec_l7Some_run N))
  rw [e]
  exact fun_ok (c := spec_l7Some_code) progOk (spec_l7Some_gok N) (draw_ok progOk (spec_l7Some_gok N)) Try.call84 Try.func84 (by kernel_rfl) (lsOk_at (L := []) trivial) (by kernel_rfl) (by kernel_rfl) (by kernel_rfl) (by kernel_rfl) (by kernel_rfl)

/-! ### spec_l7Weights -/
abbrev spec_l7Weights_ps : List (PV.Mode × Ty) := [(.ro, QILQII), (.ro, LI)]
abbrev spec_l7Weights_rs : List (Bool × Ty) := [(true, .bool)]
noncomputable def spec_l7Weights_G (N : Nat) : GTab := gOf [(61, spec_l1In_S N), (84, spec_l7Some_S N)]
theorem spec_l7Weights_gok (N : Nat) : GOk Try.prog (spec_l7Weights_G N) := gOf_ok ⟨spec_l1In_pc N, spec_l7Some_pc N, trivial⟩
noncomputable def spec_l7Weights_code : Code := (Try.f107.body).getD .skip
noncomputable def spec_l7Weights_l0_sh : Sh := ⟨[(1, .one (.ro LI)), (2, .one (.adr 0 0)), (5, .one (.ro I))], [.box [.ro I, .ro LQII]]⟩
noncomputable def spec_l7Weights_l0_ex : List (Ex × Sh) := [(.ret, ⟨[(4, .one (.ro .bool))], []⟩), (.exit 0, ⟨[(1, .one (.ro LI)), (2, .one (.adr 0 0))], [.box [.ro I, .ro LQII]]⟩)]
noncomputable def spec_l7Weights_l0 {R : Type} (N : Nat) (k0 : Bool → Option R) (k1 : (List Int) → Int → (List (Int × Int)) → Option R) : Nat → (List Int) → Int → Int → (List (Int × Int)) → Option R
  | 0, _, _, _, _ => none
  | K + 1, weights1, i, o, o1 =>
    (br (ilt i (tLen weights1))
      ((chk (inb weights1 i)
        ((spec_l1In N (rdI weights1 i) 0 99).bind fun r =>
        (br (!r.1.1)
          (k0 false)
          (spec_l7Weights_l0 N k0 k1 K weights1 (IntKind.i64.wrap (i + 1)) o o1)))))
      (k1 weights1 o o1))
noncomputable def spec_l7Weights_l0_again {R : Type} (N : Nat) (ks : (j : Nat) → ((spec_l7Weights_l0_ex.getD j (.ret, Sh.none)).2).T → Option R) (k : Nat) (x : spec_l7Weights_l0_sh.T) : Option R :=
  spec_l7Weights_l0 N (fun y0 => ks 0 ((y0, ()), ())) (fun y0 y1 y2 => ks 1 ((y0, (), ()), ((y1, y2, ()), ()))) k x.1.1 x.1.2.2.1 x.2.1.1 x.2.1.2.1
noncomputable def spec_l7Weights_l0_s (N : Nat) : LSum := ⟨spec_l7Weights_l0_sh, spec_l7Weights_l0_ex, fun x ks => spec_l7Weights_l0_again N ks N x⟩
theorem spec_l7Weights_l0_step (N : Nat) (R : Type) (k : Nat) (x : spec_l7Weights_l0_sh.T) (ks : (j : Nat) → ((spec_l7Weights_l0_ex.getD j (.ret, Sh.none)).2).T → Option R) : spec_l7Weights_l0_again N ks (k + 1) x = roundF (spec_l7Weights_G N) tab [] (loopAt spec_l7Weights_code 0) spec_l7Weights_l0_sh spec_l7Weights_l0_ex (fun y => spec_l7Weights_l0_again N ks k y) ks x := by kernel_rfl
theorem spec_l7Weights_l0_ok (N : Nat) : LoopOk Try.prog Try.f107.ntmps (spec_l7Weights_l0_s N) (loopAt spec_l7Weights_code 0) :=
  loop_ok (l := spec_l7Weights_l0_s N) progOk (spec_l7Weights_gok N) (draw_ok progOk (spec_l7Weights_gok N)) (fun R k x ks => spec_l7Weights_l0_again N ks k x) (fun _ _ _ => rfl) (fun R k x ks => spec_l7Weights_l0_step N R k x ks) (fun R x ks r h => ⟨N, h⟩) (lsOk_at (L := []) trivial) (by kernel_rfl) (by kernel_rfl)
noncomputable def spec_l7Weights (N : Nat) (g : (Int × (List (Int × Int)))) (weights : (List Int)) : Option ((Bool × Unit) × (Unit)) :=
  spec_l7Weights_l0 N (fun x => some ((x, ()), ())) (fun weights1 o o1 => ((spec_l7Some N (o, o1)).bind fun r =>
    (br r.1.1
      (some (((ieq (tLen weights1) (tLen o1)), ()), ()))
      (some ((false, ()), ()))))) N weights 0 g.1 g.2
noncomputable def spec_l7Weights_S (N : Nat) : FSum := ⟨spec_l7Weights_ps, spec_l7Weights_rs, fun x => spec_l7Weights N x.1 x.2.1⟩
theorem spec_l7Weights_run (N : Nat) (x : argsT spec_l7Weights_ps) : spec_l7Weights N x.1 x.2.1 = funF (spec_l7Weights_G N) tab [spec_l7Weights_l0_s N] Try.f107 spec_l7Weights_ps spec_l7Weights_rs x := by kernel_rfl
theorem spec_l7Weights_pc (N : Nat) : PC Try.prog 107 (spec_l7Weights_S N) := by
  have e : spec_l7Weights_S N = ⟨spec_l7Weights_ps, spec_l7Weights_rs, funF (spec_l7Weights_G N) tab [spec_l7Weights_l0_s N] Try.f107 spec_l7Weights_ps spec_l7Weights_rs⟩ := congrArg (FSum.mk spec_l7Weights_ps spec_l7Weights_rs) (funext (spec_l7Weights_run N))
  rw [e]
  exact fun_ok (c := spec_l7Weights_code) progOk (spec_l7Weights_gok N) (draw_ok progOk (spec_l7Weights_gok N)) Try.call107 Try.func107 (by kernel_rfl) (lsOk_at (L := [spec_l7Weights_l0_s N]) ⟨spec_l7Weights_l0_ok N, trivial⟩) (by kernel_rfl) (by kernel_rfl) (by kernel_rfl) (by kernel_rfl) (by kernel_rfl)

/-! ### spec_l1Own -/
abbrev spec_l1Own_ps : List (PV.Mode × Ty) := [(.ro, LI)]
abbrev spec_l1Own_rs : List (Bool × Ty) := [(true, LI)]
noncomputable def spec_l1Own_G (N : Nat) : GTab := gOf []
theorem spec_l1Own_gok (N : Nat) : GOk Try.prog (spec_l1Own_G N) := gOf_ok trivial
noncomputable def spec_l1Own_code : Code := (Try.f97.body).getD .skip
noncomputable def spec_l1Own (N : Nat) (l : (List Int)) : Option (((List Int) × Unit) × (Unit)) :=
  (chk (room (α := Int) (β := Int) [] l)
    (some (((tApp [] l), ()), ())))
noncomputable def spec_l1Own_S (N : Nat) : FSum := ⟨spec_l1Own_ps, spec_l1Own_rs, fun x => spec_l1Own N x.1⟩
theorem spec_l1Own_run (N : Nat) (x : argsT spec_l1Own_ps) : spec_l1Own N x.1 = funF (spec_l1Own_G N) tab [] Try.f97 spec_l1Own_ps spec_l1Own_rs x := by kernel_rfl
theorem spec_l1Own_pc (N : Nat) : PC Try.prog 97 (spec_l1Own_S N) := by
  have e : spec_l1Own_S N = ⟨spec_l1Own_ps, spec_l1Own_rs, funF (spec_l1Own_G N) tab [] Try.f97 spec_l1Own_ps spec_l1Own_rs⟩ := congrArg (FSum.mk spec_l1Own_ps spec_l1Own_rs) (funext (spec_l1Own_run N))
  rw [e]
  exact fun_ok (c := spec_l1Own_code) progOk (spec_l1Own_gok N) (draw_ok progOk (spec_l1Own_gok N)) Try.call97 Try.func97 (by kernel_rfl) (lsOk_at (L := []) trivial) (by kernel_rfl) (by kernel_rfl) (by kernel_rfl) (by kernel_rfl) (by kernel_rfl)

/-! ### spec_l7Part -/
abbrev spec_l7Part_ps : List (PV.Mode × Ty) := [(.ro, QILQII), (.ro, LI)]
abbrev spec_l7Part_rs : List (Bool × Ty) := [(true, QILQII)]
noncomputable def spec_l7Part_G (N : Nat) : GTab := gOf []
theorem spec_l7Part_gok (N : Nat) : GOk Try.prog (spec_l7Part_G N) := gOf_ok trivial
noncomputable def spec_l7Part_code : Code := (Try.f142.body).getD .skip
noncomputable def spec_l7Part_l0_sh : Sh := ⟨[(1, .one (.ro LI)), (2, .one (.adr 0 0)), (4, .one (.adr 1 0)), (5, .one (.adr 2 0)), (6, .one (.ro I))], [.box [.ro I, .ro LQII], .box [.ro I, .nilsl], .box [.ro I, .ref 3], .sl 97 QII .own]⟩
noncomputable def spec_l7Part_l0_ex : List (Ex × Sh) := [(.exit 0, ⟨[(4, .one (.adr 0 0)), (5, .one (.adr 1 0))], [.box [.ro I, .nilsl], .box [.ro I, .ref 2], .sl 97 QII .own]⟩)]
noncomputable def spec_l7Part_l0 {R : Type} (N : Nat) (k0 : Int → Int → (List (Int × Int)) → Option R) : Nat → (List Int) → Int → Int → (List (Int × Int)) → Int → Int → (List (Int × Int)) → Option R
  | 0, _, _, _, _, _, _, _ => none
  | K + 1, edges1, i, o, o1, o2, o3, o4 =>
    (br (ilt i (tLen edges1))
      ((chk (inb edges1 i)
        (chk (inb o1 (rdI edges1 i))
        (chk (room o4 [(rdP o1 (rdI edges1 i))])
        (spec_l7Part_l0 N k0 K edges1 (IntKind.i64.wrap (i + 1)) o o1 o2 o3 (tApp o4 [(rdP o1 (rdI edges1 i))]))))))
      (k0 o2 o3 o4))
noncomputable def spec_l7Part_l0_again {R : Type} (N : Nat) (ks : (j : Nat) → ((spec_l7Part_l0_ex.getD j (.ret, Sh.none)).2).T → Option R) (k : Nat) (x : spec_l7Part_l0_sh.T) : Option R :=
  spec_l7Part_l0 N (fun y0 y1 y2 => ks 0 (((), (), ()), ((y0, (), ()), (y1, (), ()), y2, ()))) k x.1.1 x.1.2.2.2.2.1 x.2.1.1 x.2.1.2.1 x.2.2.1.1 x.2.2.2.1.1 x.2.2.2.2.1
noncomputable def spec_l7Part_l0_s (N : Nat) : LSum := ⟨spec_l7Part_l0_sh, spec_l7Part_l0_ex, fun x ks => spec_l7Part_l0_again N ks N x⟩
theorem spec_l7Part_l0_step (N : Nat) (R : Type) (k : Nat) (x : spec_l7Part_l0_sh.T) (ks : (j : Nat) → ((spec_l7Part_l0_ex.getD j (.ret, Sh.none)).2).T → Option R) : spec_l7Part_l0_again N ks (k + 1) x = roundF (spec_l7Part_G N) tab [] (loopAt spec_l7Part_code 0) spec_l7Part_l0_sh spec_l7Part_l0_ex (fun y => spec_l7Part_l0_again N ks k y) ks x := by kernel_rfl
theorem spec_l7Part_l0_ok (N : Nat) : LoopOk Try.prog Try.f142.ntmps (spec_l7Part_l0_s N) (loopAt spec_l7Part_code 0) :=
  loop_ok (l := spec_l7Part_l0_s N) progOk (spec_l7Part_gok N) (draw_ok progOk (spec_l7Part_gok N)) (fun R k x ks => spec_l7Part_l0_again N ks k x) (fun _ _ _ => rfl) (fun R k x ks => spec_l7Part_l0_step N R k x ks) (fun R x ks r h => ⟨N, h⟩) (lsOk_at (L := []) trivial) (by kernel_rfl) (by kernel_rfl)
noncomputable def spec_l7Part (N : Nat) (g : (Int × (List (Int × Int)))) (edges : (List Int)) : Option (((Int × (List (Int × Int))) × Unit) × (Unit)) :=
  spec_l7Part_l0 N (fun o o1 o2 => some (((o1, o2), ()), ())) N edges 0 g.1 g.2 0 g.1 []
noncomputable def spec_l7Part_S (N : Nat) : FSum := ⟨spec_l7Part_ps, spec_l7Part_rs, fun x => spec_l7Part N x.1 x.2.1⟩
theorem spec_l7Part_run (N : Nat) (x : argsT spec_l7Part_ps) : spec_l7Part N x.1 x.2.1 = funF (spec_l7Part_G N) tab [spec_l7Part_l0_s N] Try.f142 spec_l7Part_ps spec_l7Part_rs x := by kernel_rfl
theorem spec_l7Part_pc (N : Nat) : PC Try.prog 142 (spec_l7Part_S N) := by
  have e : spec_l7Part_S N = ⟨spec_l7Part_ps, spec_l7Part_rs, funF (spec_l7Part_G N) tab [spec_l7Part_l0_s N] Try.f142 spec_l7Part_ps spec_l7Part_rs⟩ := congrArg (FSum.mk spec_l7Part_ps spec_l7Part_rs) (funext (spec_l7Part_run N))
  rw [e]
  exact fun_ok (c := spec_l7Part_code) progOk (spec_l7Part_gok N) (draw_ok progOk (spec_l7Part_gok N)) Try.call142 Try.func142 (by kernel_rfl) (lsOk_at (L := [spec_l7Part_l0_s N]) ⟨spec_l7Part_l0_ok N, trivial⟩) (by kernel_rfl) (by kernel_rfl) (by kernel_rfl) (by kernel_rfl) (by kernel_rfl)

/-! ### spec_l2Near -/
abbrev spec_l2Near_ps : List (PV.Mode × Ty) := [(.ro, QILQII), (.ro, I), (.ro, I)]
abbrev spec_l2Near_rs : List (Bool × Ty) := [(true, .bool)]
noncomputable def spec_l2Near_G (N : Nat) : GTab := gOf []
theorem spec_l2Near_gok (N : Nat) : GOk Try.prog (spec_l2Near_G N) := gOf_ok trivial
noncomputable def spec_l2Near_code : Code := (Try.f166.body).getD .skip
noncomputable def spec_l2Near_l0_sh : Sh := ⟨[(1, .one (.ro I)), (2, .one (.ro I)), (3, .one (.adr 0 0)), (7, .one (.ro I))], [.box [.ro I, .ro LQII]]⟩
noncomputable def spec_l2Near_l0_ex : List (Ex × Sh) := [(.ret, ⟨[(6, .one (.ro .bool))], []⟩), (.exit 0, ⟨[], []⟩)]
noncomputable def spec_l2Near_l0 {R : Type} (N : Nat) (k0 : Bool → Option R) (k1 : Unit → Option R) : Nat → Int → Int → Int → Int → (List (Int × Int)) → Option R
  | 0, _, _, _, _, _ => none
  | K + 1, a1, b1, i, o, o1 =>
    (br (ilt i (tLen o1))
      ((chk (inb o1 i)
        (br (ieq ((rdP o1 i).1) a1)
        ((br (ieq ((rdP o1 i).2) b1)
          (k0 true)
          ((br (ieq ((rdP o1 i).1) b1)
            ((br (ieq ((rdP o1 i).2) a1)
              (k0 true)
              (spec_l2Near_l0 N k0 k1 K a1 b1 (IntKind.i64.wrap (i + 1)) o o1)))
            (spec_l2Near_l0 N k0 k1 K a1 b1 (IntKind.i64.wrap (i + 1)) o o1)))))
        ((br (ieq ((rdP o1 i).1) b1)
          ((br (ieq ((rdP o1 i).2) a1)
            (k0 true)
            (spec_l2Near_l0 N k0 k1 K a1 b1 (IntKind.i64.wrap (i + 1)) o o1)))
          (spec_l2Near_l0 N k0 k1 K a1 b1 (IntKind.i64.wrap (i + 1)) o o1))))))
      (k1 ()))
noncomputable def spec_l2Near_l0_again {R : Type} (N : Nat) (ks : (j : Nat) → ((spec_l2Near_l0_ex.getD j (.ret, Sh.none)).2).T → Option R) (k : Nat) (x : spec_l2Near_l0_sh.T) : Option R :=
  spec_l2Near_l0 N (fun y0 => ks 0 ((y0, ()), ())) (fun (_ : Unit) => ks 1 ((), ())) k x.1.1 x.1.2.1 x.1.2.2.2.1 x.2.1.1 x.2.1.2.1
noncomputable def spec_l2Near_l0_s (N : Nat) : LSum := ⟨spec_l2Near_l0_sh, spec_l2Near_l0_ex, fun x ks => spec_l2Near_l0_again N ks N x⟩
theorem spec_l2Near_l0_step (N : Nat) (R : Type) (k : Nat) (x : spec_l2Near_l0_sh.T) (ks : (j : Nat) → ((spec_l2Near_l0_ex.getD j (.ret, Sh.none)).2).T → Option R) : spec_l2Near_l0_again N ks (k + 1) x = roundF (spec_l2Near_G N) tab [] (loopAt spec_l2Near_code 0) spec_l2Near_l0_sh spec_l2Near_l0_ex (fun y => spec_l2Near_l0_again N ks k y) ks x := by kernel_rfl
theorem spec_l2Near_l0_ok (N : Nat) : LoopOk Try.prog Try.f166.ntmps (spec_l2Near_l0_s N) (loopAt spec_l2Near_code 0) :=
  loop_ok (l := spec_l2Near_l0_s N) progOk (spec_l2Near_gok N) (draw_ok progOk (spec_l2Near_gok N)) (fun R k x ks => spec_l2Near_l0_again N ks k x) (fun _ _ _ => rfl) (fun R k x ks => spec_l2Near_l0_step N R k x ks) (fun R x ks r h => ⟨N, h⟩) (lsOk_at (L := []) trivial) (by kernel_rfl) (by kernel_rfl)
noncomputable def spec_l2Near (N : Nat) (g : (Int × (List (Int × Int)))) (a : Int) (b : Int) : Option ((Bool × Unit) × (Unit)) :=
  spec_l2Near_l0 N (fun x => some ((x, ()), ())) (fun (_ : Unit) => some ((false, ()), ())) N a b 0 g.1 g.2
noncomputable def spec_l2Near_S (N : Nat) : FSum := ⟨spec_l2Near_ps, spec_l2Near_rs, fun x => spec_l2Near N x.1 x.2.1 x.2.2.1⟩
theorem spec_l2Near_run (N : Nat) (x : argsT spec_l2Near_ps) : spec_l2Near N x.1 x.2.1 x.2.2.1 = funF (spec_l2Near_G N) tab [spec_l2Near_l0_s N] Try.f166 spec_l2Near_ps spec_l2Near_rs x := by kernel_rfl
theorem spec_l2Near_pc (N : Nat) : PC Try.prog 166 (spec_l2Near_S N) := by
  have e : spec_l2Near_S N = ⟨spec_l2Near_ps, spec_l2Near_rs, funF (spec_l2Near_G N) tab [spec_l2Near_l0_s N] Try.f166 spec_l2Near_ps spec_l2Near_rs⟩ := congrArg (FSum.mk spec_l2Near_ps spec_l2Near_rs) (funext (spec_l2Near_run N))
  rw [e]
  exact fun_ok (c := spec_l2Near_code) progOk (spec_l2Near_gok N) (draw_ok progOk (spec_l2Near_gok N)) Try.call166 Try.func166 (by kernel_rfl) (lsOk_at (L := [spec_l2Near_l0_s N]) ⟨spec_l2Near_l0_ok N, trivial⟩) (by kernel_rfl) (by kernel_rfl) (by kernel_rfl) (by kernel_rfl) (by kernel_rfl)

/-! ### spec_l2Neighbors -/
abbrev spec_l2Neighbors_ps : List (PV.Mode × Ty) := [(.ro, QILQII), (.ro, I)]
abbrev spec_l2Neighbors_rs : List (Bool × Ty) := [(true, LI)]
noncomputable def spec_l2Neighbors_G (N : Nat) : GTab := gOf [(166, spec_l2Near_S N)]
theorem spec_l2Neighbors_gok (N : Nat) : GOk Try.prog (spec_l2Neighbors_G N) := gOf_ok ⟨spec_l2Near_pc N, trivial⟩
noncomputable def spec_l2Neighbors_code : Code := (Try.f156.body).getD .skip
noncomputable def spec_l2Neighbors_l0_sh : Sh := ⟨[(1, .one (.ro I)), (2, .one (.adr 0 0)), (5, .one (.ref 1)), (6, .one (.ro I))], [.box [.ro I, .ro LQII], .sl 3 I .own]⟩
noncomputable def spec_l2Neighbors_l0_ex : List (Ex × Sh) := [(.exit 0, ⟨[(5, .one (.ref 0))], [.sl 3 I .own]⟩)]
noncomputable def spec_l2Neighbors_l0 {R : Type} (N : Nat) (k0 : (List Int) → Option R) : Nat → Int → Int → Int → (List (Int × Int)) → (List Int) → Option R
  | 0, _, _, _, _, _ => none
  | K + 1, x1, y, o, o1, o2 =>
    (br (ilt y o)
      (((spec_l2Near N (o, o1) x1 y).bind fun r =>
        (br r.1.1
          ((chk (room o2 [y])
            (spec_l2Neighbors_l0 N k0 K x1 (IntKind.i64.wrap (y + 1)) o o1 (tApp o2 [y]))))
          (spec_l2Neighbors_l0 N k0 K x1 (IntKind.i64.wrap (y + 1)) o o1 o2))))
      (k0 o2))
noncomputable def spec_l2Neighbors_l0_again {R : Type} (N : Nat) (ks : (j : Nat) → ((spec_l2Neighbors_l0_ex.getD j (.ret, Sh.none)).2).T → Option R) (k : Nat) (x : spec_l2Neighbors_l0_sh.T) : Option R :=
  spec_l2Neighbors_l0 N (fun y0 => ks 0 (((), ()), (y0, ()))) k x.1.1 x.1.2.2.2.1 x.2.1.1 x.2.1.2.1 x.2.2.1
noncomputable def spec_l2Neighbors_l0_s (N : Nat) : LSum := ⟨spec_l2Neighbors_l0_sh, spec_l2Neighbors_l0_ex, fun x ks => spec_l2Neighbors_l0_again N ks N x⟩
theorem spec_l2Neighbors_l0_step (N : Nat) (R : Type) (k : Nat) (x : spec_l2Neighbors_l0_sh.T) (ks : (j : Nat) → ((spec_l2Neighbors_l0_ex.getD j (.ret, Sh.none)).2).T → Option R) : spec_l2Neighbors_l0_again N ks (k + 1) x = roundF (spec_l2Neighbors_G N) tab [] (loopAt spec_l2Neighbors_code 0) spec_l2Neighbors_l0_sh spec_l2Neighbors_l0_ex (fun y => spec_l2Neighbors_l0_again N ks k y) ks x := by kernel_rfl
theorem spec_l2Neighbors_l0_ok (N : Nat) : LoopOk Try.prog Try.f156.ntmps (spec_l2Neighbors_l0_s N) (loopAt spec_l2Neighbors_code 0) :=
  loop_ok (l := spec_l2Neighbors_l0_s N) progOk (spec_l2Neighbors_gok N) (draw_ok progOk (spec_l2Neighbors_gok N)) (fun R k x ks => spec_l2Neighbors_l0_again N ks k x) (fun _ _ _ => rfl) (fun R k x ks => spec_l2Neighbors_l0_step N R k x ks) (fun R x ks r h => ⟨N, h⟩) (lsOk_at (L := []) trivial) (by kernel_rfl) (by kernel_rfl)
noncomputable def spec_l2Neighbors (N : Nat) (g : (Int × (List (Int × Int)))) (x : Int) : Option (((List Int) × Unit) × (Unit)) :=
  spec_l2Neighbors_l0 N (fun o => some ((o, ()), ())) N x 0 g.1 g.2 []
noncomputable def spec_l2Neighbors_S (N : Nat) : FSum := ⟨spec_l2Neighbors_ps, spec_l2Neighbors_rs, fun x => spec_l2Neighbors N x.1 x.2.1⟩
theorem spec_l2Neighbors_run (N : Nat) (x : argsT spec_l2Neighbors_ps) : spec_l2Neighbors N x.1 x.2.1 = funF (spec_l2Neighbors_G N) tab [spec_l2Neighbors_l0_s N] Try.f156 spec_l2Neighbors_ps spec_l2Neighbors_rs x := by kernel_rfl
theorem spec_l2Neighbors_pc (N : Nat) : PC Try.prog 156 (spec_l2Neighbors_S N) := by
  have e : spec_l2Neighbors_S N = ⟨spec_l2Neighbors_ps, spec_l2Neighbors_rs, funF (spec_l2Neighbors_G N) tab [spec_l2Neighbors_l0_s N] Try.f156 spec_l2Neighbors_ps spec_l2Neighbors_rs⟩ := congrArg (FSum.mk spec_l2Neighbors_ps spec_l2Neighbors_rs) (funext (spec_l2Neighbors_run N))
  rw [e]
  exact fun_ok (c := spec_l2Neighbors_code) progOk (spec_l2Neighbors_gok N) (draw_ok progOk (spec_l2Neighbors_gok N)) Try.call156 Try.func156 (by kernel_rfl) (lsOk_at (L := [spec_l2Neighbors_l0_s N]) ⟨spec_l2Neighbors_l0_ok N, trivial⟩) (by kernel_rfl) (by kernel_rfl) (by kernel_rfl) (by kernel_rfl) (by kernel_rfl)

/-! ### spec_l2Spread -/
abbrev spec_l2Spread_ps : List (PV.Mode × Ty) := [(.ro, LLI), (.ro, I)]
abbrev spec_l2Spread_rs : List (Bool × Ty) := [(true, LI)]
noncomputable def spec_l2Spread_G (N : Nat) : GTab := gOf []
theorem spec_l2Spread_gok (N : Nat) : GOk Try.prog (spec_l2Spread_G N) := gOf_ok trivial
noncomputable def spec_l2Spread_code : Code := (Try.f168.body).getD .skip
noncomputable def spec_l2Spread_l0_sh : Sh := ⟨[(0, .one (.ro LLI)), (1, .one (.ro I)), (5, .one (.ref 0)), (6, .one (.ro I))], [.sl 3 I .own]⟩
noncomputable def spec_l2Spread_l0_ex : List (Ex × Sh) := [(.exit 0, ⟨[(0, .one (.ro LLI)), (1, .one (.ro I)), (5, .one (.ref 0))], [.sl 3 I .own]⟩)]
noncomputable def spec_l2Spread_l0 {R : Type} (N : Nat) (k0 : (List (List Int)) → Int → (List Int) → Option R) : Nat → (List (List Int)) → Int → Int → (List Int) → Option R
  | 0, _, _, _, _ => none
  | K + 1, x, x1, x2, o =>
    (br (ilt x2 (tLen o))
      ((chk (inb o x2)
        (spec_l2Spread_l0 N k0 K x x1 (IntKind.i64.wrap (x2 + 1)) (tSet o x2 (-1)))))
      (k0 x x1 o))
noncomputable def spec_l2Spread_l0_again {R : Type} (N : Nat) (ks : (j : Nat) → ((spec_l2Spread_l0_ex.getD j (.ret, Sh.none)).2).T → Option R) (k : Nat) (x : spec_l2Spread_l0_sh.T) : Option R :=
  spec_l2Spread_l0 N (fun y0 y1 y2 => ks 0 ((y0, y1, (), ()), (y2, ()))) k x.1.1 x.1.2.1 x.1.2.2.2.1 x.2.1
noncomputable def spec_l2Spread_l0_s (N : Nat) : LSum := ⟨spec_l2Spread_l0_sh, spec_l2Spread_l0_ex, fun x ks => spec_l2Spread_l0_again N ks N x⟩
theorem spec_l2Spread_l0_step (N : Nat) (R : Type) (k : Nat) (x : spec_l2Spread_l0_sh.T) (ks : (j : Nat) → ((spec_l2Spread_l0_ex.getD j (.ret, Sh.none)).2).T → Option R) : spec_l2Spread_l0_again N ks (k + 1) x = roundF (spec_l2Spread_G N) tab [] (loopAt spec_l2Spread_code 0) spec_l2Spread_l0_sh spec_l2Spread_l0_ex (fun y => spec_l2Spread_l0_again N ks k y) ks x := by kernel_rfl
theorem spec_l2Spread_l0_ok (N : Nat) : LoopOk Try.prog Try.f168.ntmps (spec_l2Spread_l0_s N) (loopAt spec_l2Spread_code 0) :=
  loop_ok (l := spec_l2Spread_l0_s N) progOk (spec_l2Spread_gok N) (draw_ok progOk (spec_l2Spread_gok N)) (fun R k x ks => spec_l2Spread_l0_again N ks k x) (fun _ _ _ => rfl) (fun R k x ks => spec_l2Spread_l0_step N R k x ks) (fun R x ks r h => ⟨N, h⟩) (lsOk_at (L := []) trivial) (by kernel_rfl) (by kernel_rfl)
noncomputable def spec_l2Spread_l1_0_sh : Sh := ⟨[(0, .one (.ro LLI)), (5, .one (.ref 0)), (7, .one (.ref 1)), (8, .one (.ro I)), (9, .one (.ro LI)), (10, .one (.ro I))], [.sl 3 I .own, .sl 3 I .own]⟩
noncomputable def spec_l2Spread_l1_0_ex : List (Ex × Sh) := [(.exit 4, ⟨[(0, .one (.ro LLI)), (5, .one (.ref 0)), (7, .one (.ref 1)), (8, .one (.ro I))], [.sl 3 I .own, .sl 3 I .own]⟩)]
noncomputable def spec_l2Spread_l1_0 {R : Type} (N : Nat) (k0 : (List (List Int)) → Int → (List Int) → (List Int) → Option R) : Nat → (List (List Int)) → Int → (List Int) → Int → (List Int) → (List Int) → Option R
  | 0, _, _, _, _, _, _ => none
  | K + 1, x4, x5, x6, x7, o3, o4 =>
    (br (ilt x7 (tLen x6))
      ((chk (inb x6 x7)
        (chk (inb o3 (rdI x6 x7))
        (br (ilt (rdI o3 (rdI x6 x7)) 0)
        ((chk (inb x6 x7)
          (chk (inb o4 x5)
          (chk (inb o3 (rdI o4 x5))
          (chk (inb o3 (rdI x6 x7))
          (chk (inb x6 x7)
          (chk (room o4 [(rdI x6 x7)])
          (spec_l2Spread_l1_0 N k0 K x4 x5 x6 (IntKind.i64.wrap (x7 + 1)) (tSet o3 (rdI x6 x7) (IntKind.i64.wrap ((rdI o3 (rdI o4 x5)) + 1))) (tApp o4 [(rdI x6 x7)])))))))))
        (spec_l2Spread_l1_0 N k0 K x4 x5 x6 (IntKind.i64.wrap (x7 + 1)) o3 o4)))))
      (k0 x4 x5 o3 o4))
noncomputable def spec_l2Spread_l1_0_again {R : Type} (N : Nat) (ks : (j : Nat) → ((spec_l2Spread_l1_0_ex.getD j (.ret, Sh.none)).2).T → Option R) (k : Nat) (x : spec_l2Spread_l1_0_sh.T) : Option R :=
  spec_l2Spread_l1_0 N (fun y0 y1 y2 y3 => ks 0 ((y0, (), (), y1, ()), (y2, y3, ()))) k x.1.1 x.1.2.2.2.1 x.1.2.2.2.2.1 x.1.2.2.2.2.2.1 x.2.1 x.2.2.1
noncomputable def spec_l2Spread_l1_0_s (N : Nat) : LSum := ⟨spec_l2Spread_l1_0_sh, spec_l2Spread_l1_0_ex, fun x ks => spec_l2Spread_l1_0_again N ks N x⟩
theorem spec_l2Spread_l1_0_step (N : Nat) (R : Type) (k : Nat) (x : spec_l2Spread_l1_0_sh.T) (ks : (j : Nat) → ((spec_l2Spread_l1_0_ex.getD j (.ret, Sh.none)).2).T → Option R) : spec_l2Spread_l1_0_again N ks (k + 1) x = roundF (spec_l2Spread_G N) tab [] (loopAt (loopAt spec_l2Spread_code 1) 0) spec_l2Spread_l1_0_sh spec_l2Spread_l1_0_ex (fun y => spec_l2Spread_l1_0_again N ks k y) ks x := by kernel_rfl
theorem spec_l2Spread_l1_0_ok (N : Nat) : LoopOk Try.prog Try.f168.ntmps (spec_l2Spread_l1_0_s N) (loopAt (loopAt spec_l2Spread_code 1) 0) :=
  loop_ok (l := spec_l2Spread_l1_0_s N) progOk (spec_l2Spread_gok N) (draw_ok progOk (spec_l2Spread_gok N)) (fun R k x ks => spec_l2Spread_l1_0_again N ks k x) (fun _ _ _ => rfl) (fun R k x ks => spec_l2Spread_l1_0_step N R k x ks) (fun R x ks r h => ⟨N, h⟩) (lsOk_at (L := []) trivial) (by kernel_rfl) (by kernel_rfl)
noncomputable def spec_l2Spread_l1_sh : Sh := ⟨[(0, .one (.ro LLI)), (5, .one (.ref 0)), (7, .one (.ref 1)), (8, .one (.ro I))], [.sl 3 I .own, .sl 3 I .own]⟩
noncomputable def spec_l2Spread_l1_ex : List (Ex × Sh) := [(.exit 2, ⟨[(5, .one (.ref 0))], [.sl 3 I .own]⟩)]
noncomputable def spec_l2Spread_l1 {R : Type} (N : Nat) (k0 : (List Int) → Option R) : Nat → (List (List Int)) → Int → (List Int) → (List Int) → Option R
  | 0, _, _, _, _ => none
  | K + 1, x2, x3, o1, o2 =>
    (br (ilt x3 (tLen o2))
      ((chk (inb o2 x3)
        (chk (inb x2 (rdI o2 x3))
        (spec_l2Spread_l1_0 N (fun x4 x5 o3 o4 => spec_l2Spread_l1 N k0 K x4 (IntKind.i64.wrap (x5 + 1)) o3 o4) N x2 x3 (rdL x2 (rdI o2 x3)) 0 o1 o2))))
      (k0 o1))
noncomputable def spec_l2Spread_l1_again {R : Type} (N : Nat) (ks : (j : Nat) → ((spec_l2Spread_l1_ex.getD j (.ret, Sh.none)).2).T → Option R) (k : Nat) (x : spec_l2Spread_l1_sh.T) : Option R :=
  spec_l2Spread_l1 N (fun y0 => ks 0 (((), ()), (y0, ()))) k x.1.1 x.1.2.2.2.1 x.2.1 x.2.2.1
noncomputable def spec_l2Spread_l1_s (N : Nat) : LSum := ⟨spec_l2Spread_l1_sh, spec_l2Spread_l1_ex, fun x ks => spec_l2Spread_l1_again N ks N x⟩
theorem spec_l2Spread_l1_step (N : Nat) (R : Type) (k : Nat) (x : spec_l2Spread_l1_sh.T) (ks : (j : Nat) → ((spec_l2Spread_l1_ex.getD j (.ret, Sh.none)).2).T → Option R) : spec_l2Spread_l1_again N ks (k + 1) x = roundF (spec_l2Spread_G N) tab [spec_l2Spread_l1_0_s N] (loopAt spec_l2Spread_code 1) spec_l2Spread_l1_sh spec_l2Spread_l1_ex (fun y => spec_l2Spread_l1_again N ks k y) ks x := by kernel_rfl
theorem spec_l2Spread_l1_ok (N : Nat) : LoopOk Try.prog Try.f168.ntmps (spec_l2Spread_l1_s N) (loopAt spec_l2Spread_code 1) :=
  loop_ok (l := spec_l2Spread_l1_s N) progOk (spec_l2Spread_gok N) (draw_ok progOk (spec_l2Spread_gok N)) (fun R k x ks => spec_l2Spread_l1_again N ks k x) (fun _ _ _ => rfl) (fun R k x ks => spec_l2Spread_l1_step N R k x ks) (fun R x ks r h => ⟨N, h⟩) (lsOk_at (L := [spec_l2Spread_l1_0_s N]) ⟨spec_l2Spread_l1_0_ok N, trivial⟩) (by kernel_rfl) (by kernel_rfl)
noncomputable def spec_l2Spread (N : Nat) (c : (List (List Int))) (c1 : Int) : Option (((List Int) × Unit) × (Unit)) :=
  (chk (ile 0 (tLen c) && ile (tLen c) (tLen c) && fits (tLen c))
    (spec_l2Spread_l0 N (fun x x1 o => (chk (inb o x1)
    (spec_l2Spread_l1 N (fun o1 => some ((o1, ()), ())) N x 0 (tSet o x1 0) [x1]))) N c c1 0 (tRep (tLen c) (0 : Int))))
noncomputable def spec_l2Spread_S (N : Nat) : FSum := ⟨spec_l2Spread_ps, spec_l2Spread_rs, fun x => spec_l2Spread N x.1 x.2.1⟩
theorem spec_l2Spread_run (N : Nat) (x : argsT spec_l2Spread_ps) : spec_l2Spread N x.1 x.2.1 = funF (spec_l2Spread_G N) tab [spec_l2Spread_l0_s N, spec_l2Spread_l1_s N] Try.f168 spec_l2Spread_ps spec_l2Spread_rs x := by kernel_rfl
theorem spec_l2Spread_pc (N : Nat) : PC Try.prog 168 (spec_l2Spread_S N) := by
  have e : spec_l2Spread_S N = ⟨spec_l2Spread_ps, spec_l2Spread_rs, funF (spec_l2Spread_G N) tab [spec_l2Spread_l0_s N, spec_l2Spread_l1_s N] Try.f168 spec_l2Spread_ps spec_l2Spread_rs⟩ := congrArg (FSum.mk spec_l2Spread_ps spec_l2Spread_rs) (funext (spec_l2Spread_run N))
  rw [e]
  exact fun_ok (c := spec_l2Spread_code) progOk (spec_l2Spread_gok N) (draw_ok progOk (spec_l2Spread_gok N)) Try.call168 Try.func168 (by kernel_rfl) (lsOk_at (L := [spec_l2Spread_l0_s N, spec_l2Spread_l1_s N]) ⟨spec_l2Spread_l0_ok N, spec_l2Spread_l1_ok N, trivial⟩) (by kernel_rfl) (by kernel_rfl) (by kernel_rfl) (by kernel_rfl) (by kernel_rfl)

/-! ### spec_l3Far -/
abbrev spec_l3Far_ps : List (PV.Mode × Ty) := [(.ro, QILQII), (.ro, I)]
abbrev spec_l3Far_rs : List (Bool × Ty) := [(true, LI)]
noncomputable def spec_l3Far_G (N : Nat) : GTab := gOf [(156, spec_l2Neighbors_S N), (168, spec_l2Spread_S N)]
theorem spec_l3Far_gok (N : Nat) : GOk Try.prog (spec_l3Far_G N) := gOf_ok ⟨spec_l2Neighbors_pc N, spec_l2Spread_pc N, trivial⟩
noncomputable def spec_l3Far_code : Code := (Try.f146.body).getD .skip
noncomputable def spec_l3Far_l0_sh : Sh := ⟨[(1, .one (.ro I)), (2, .one (.adr 0 0)), (5, .one (.ref 1)), (6, .one (.ro I))], [.box [.ro I, .ro LQII], .sl 33 LI .deep]⟩
noncomputable def spec_l3Far_l0_ex : List (Ex × Sh) := [(.exit 0, ⟨[(1, .one (.ro I)), (5, .one (.ref 0))], [.sl 33 LI .deep]⟩)]
noncomputable def spec_l3Far_l0 {R : Type} (N : Nat) (k0 : Int → (List (List Int)) → Option R) : Nat → Int → Int → Int → (List (Int × Int)) → (List (List Int)) → Option R
  | 0, _, _, _, _, _ => none
  | K + 1, x1, y, o, o1, o2 =>
    (br (ilt y o)
      (((spec_l2Neighbors N (o, o1) y).bind fun r =>
        (chk (inb o2 y)
          (spec_l3Far_l0 N k0 K x1 (IntKind.i64.wrap (y + 1)) o o1 (tSet o2 y r.1.1)))))
      (k0 x1 o2))
noncomputable def spec_l3Far_l0_again {R : Type} (N : Nat) (ks : (j : Nat) → ((spec_l3Far_l0_ex.getD j (.ret, Sh.none)).2).T → Option R) (k : Nat) (x : spec_l3Far_l0_sh.T) : Option R :=
  spec_l3Far_l0 N (fun y0 y1 => ks 0 ((y0, (), ()), (y1, ()))) k x.1.1 x.1.2.2.2.1 x.2.1.1 x.2.1.2.1 x.2.2.1
noncomputable def spec_l3Far_l0_s (N : Nat) : LSum := ⟨spec_l3Far_l0_sh, spec_l3Far_l0_ex, fun x ks => spec_l3Far_l0_again N ks N x⟩
theorem spec_l3Far_l0_step (N : Nat) (R : Type) (k : Nat) (x : spec_l3Far_l0_sh.T) (ks : (j : Nat) → ((spec_l3Far_l0_ex.getD j (.ret, Sh.none)).2).T → Option R) : spec_l3Far_l0_again N ks (k + 1) x = roundF (spec_l3Far_G N) tab [] (loopAt spec_l3Far_code 0) spec_l3Far_l0_sh spec_l3Far_l0_ex (fun y => spec_l3Far_l0_again N ks k y) ks x := by kernel_rfl
theorem spec_l3Far_l0_ok (N : Nat) : LoopOk Try.prog Try.f146.ntmps (spec_l3Far_l0_s N) (loopAt spec_l3Far_code 0) :=
  loop_ok (l := spec_l3Far_l0_s N) progOk (spec_l3Far_gok N) (draw_ok progOk (spec_l3Far_gok N)) (fun R k x ks => spec_l3Far_l0_again N ks k x) (fun _ _ _ => rfl) (fun R k x ks => spec_l3Far_l0_step N R k x ks) (fun R x ks r h => ⟨N, h⟩) (lsOk_at (L := []) trivial) (by kernel_rfl) (by kernel_rfl)
noncomputable def spec_l3Far (N : Nat) (g : (Int × (List (Int × Int)))) (x : Int) : Option (((List Int) × Unit) × (Unit)) :=
  (chk (ile 0 g.1 && ile g.1 g.1 && fits g.1)
    (spec_l3Far_l0 N (fun x1 o => ((spec_l2Spread N o x1).bind fun r =>
    some ((r.1.1, ()), ()))) N x 0 g.1 g.2 (tRep g.1 [])))
noncomputable def spec_l3Far_S (N : Nat) : FSum := ⟨spec_l3Far_ps, spec_l3Far_rs, fun x => spec_l3Far N x.1 x.2.1⟩
theorem spec_l3Far_run (N : Nat) (x : argsT spec_l3Far_ps) : spec_l3Far N x.1 x.2.1 = funF (spec_l3Far_G N) tab [spec_l3Far_l0_s N] Try.f146 spec_l3Far_ps spec_l3Far_rs x := by kernel_rfl
theorem spec_l3Far_pc (N : Nat) : PC Try.prog 146 (spec_l3Far_S N) := by
  have e : spec_l3Far_S N = ⟨spec_l3Far_ps, spec_l3Far_rs, funF (spec_l3Far_G N) tab [spec_l3Far_l0_s N] Try.f146 spec_l3Far_ps spec_l3Far_rs⟩ := congrArg (FSum.mk spec_l3Far_ps spec_l3Far_rs) (funext (spec_l3Far_run N))
  rw [e]
  exact fun_ok (c := spec_l3Far_code) progOk (spec_l3Far_gok N) (draw_ok progOk (spec_l3Far_gok N)) Try.call146 Try.func146 (by kernel_rfl) (lsOk_at (L := [spec_l3Far_l0_s N]) ⟨spec_l3Far_l0_ok N, trivial⟩) (by kernel_rfl) (by kernel_rfl) (by kernel_rfl) (by kernel_rfl) (by kernel_rfl)

/-! ### spec_l7Closes -/
abbrev spec_l7Closes_ps : List (PV.Mode × Ty) := [(.ro, QILQII), (.ro, LI)]
abbrev spec_l7Closes_rs : List (Bool × Ty) := [(true, .bool)]
noncomputable def spec_l7Closes_G (N : Nat) : GTab := gOf [(142, spec_l7Part_S N), (146, spec_l3Far_S N)]
theorem spec_l7Closes_gok (N : Nat) : GOk Try.prog (spec_l7Closes_G N) := gOf_ok ⟨spec_l7Part_pc N, spec_l3Far_pc N, trivial⟩
noncomputable def spec_l7Closes_code : Code := (Try.f157.body).getD .skip
noncomputable def spec_l7Closes (N : Nat) (g : (Int × (List (Int × Int)))) (edges : (List Int)) : Option ((Bool × Unit) × (Unit)) :=
  (chk (inb edges (IntKind.i64.wrap ((tLen edges) - 1)))
    (chk (inb g.2 (rdI edges (IntKind.i64.wrap ((tLen edges) - 1))))
    (chk (ile 0 0 && ile 0 (IntKind.i64.wrap ((tLen edges) - 1)) && ile (IntKind.i64.wrap ((tLen edges) - 1)) (tLen edges))
    ((spec_l7Part N (g.1, g.2) (tCut edges 0 (IntKind.i64.wrap ((tLen edges) - 1)))).bind fun r =>
    ((spec_l3Far N (r.1.1.1, r.1.1.2) ((rdP g.2 (rdI edges (IntKind.i64.wrap ((tLen edges) - 1)))).1)).bind fun r1 =>
      (chk (inb r1.1.1 ((rdP g.2 (rdI edges (IntKind.i64.wrap ((tLen edges) - 1)))).2))
        (some (((ile 0 (rdI r1.1.1 ((rdP g.2 (rdI edges (IntKind.i64.wrap ((tLen edges) - 1)))).2))), ()), ()))))))))
noncomputable def spec_l7Closes_S (N : Nat) : FSum := ⟨spec_l7Closes_ps, spec_l7Closes_rs, fun x => spec_l7Closes N x.1 x.2.1⟩
theorem spec_l7Closes_run (N : Nat) (x : argsT spec_l7Closes_ps) : spec_l7Closes N x.1 x.2.1 = funF (spec_l7Closes_G N) tab [] Try.f157 spec_l7Closes_ps spec_l7Closes_rs x := by kernel_rfl
theorem spec_l7Closes_pc (N : Nat) : PC Try.prog 157 (spec_l7Closes_S N) := by
  have e : spec_l7Closes_S N = ⟨spec_l7Closes_ps, spec_l7Closes_rs, funF (spec_l7Closes_G N) tab [] Try.f157 spec_l7Closes_ps spec_l7Closes_rs⟩ := congrArg (FSum.mk spec_l7Closes_ps spec_l7Closes_rs) (funext (spec_l7Closes_run N))
  rw [e]
  exact fun_ok (c := spec_l7Closes_code) progOk (spec_l7Closes_gok N) (draw_ok progOk (spec_l7Closes_gok N)) Try.call157 Try.func157 (by kernel_rfl) (lsOk_at (L := []) trivial) (by kernel_rfl) (by kernel_rfl) (by kernel_rfl) (by kernel_rfl) (by kernel_rfl)

/-! ### spec_l1Put -/
abbrev spec_l1Put_ps : List (PV.Mode × Ty) := [(.own, LI), (.ro, I)]
abbrev spec_l1Put_rs : List (Bool × Ty) := [(true, LI)]
noncomputable def spec_l1Put_G (N : Nat) : GTab := gOf []
theorem spec_l1Put_gok (N : Nat) : GOk Try.prog (spec_l1Put_G N) := gOf_ok trivial
noncomputable def spec_l1Put_code : Code := (Try.f115.body).getD .skip
noncomputable def spec_l1Put_l0_sh : Sh := ⟨[(0, .one (.ref 0)), (1, .one (.ro I)), (5, .one (.ro I))], [.sl 3 I .own]⟩
noncomputable def spec_l1Put_l0_ex : List (Ex × Sh) := [(.exit 0, ⟨[(0, .one (.ref 0)), (1, .one (.ro I)), (5, .one (.ro I))], [.sl 3 I .own]⟩)]
noncomputable def spec_l1Put_l0 {R : Type} (N : Nat) (k0 : Int → Int → (List Int) → Option R) : Nat → Int → Int → (List Int) → Option R
  | 0, _, _, _ => none
  | K + 1, n1, kv, o =>
    (br (ilt kv (tLen o))
      ((chk (inb o kv)
        (br (ilt (rdI o kv) n1)
        (spec_l1Put_l0 N k0 K n1 (IntKind.i64.wrap (kv + 1)) o)
        (k0 n1 kv o))))
      (k0 n1 kv o))
noncomputable def spec_l1Put_l0_again {R : Type} (N : Nat) (ks : (j : Nat) → ((spec_l1Put_l0_ex.getD j (.ret, Sh.none)).2).T → Option R) (k : Nat) (x : spec_l1Put_l0_sh.T) : Option R :=
  spec_l1Put_l0 N (fun y0 y1 y2 => ks 0 (((), y0, y1, ()), (y2, ()))) k x.1.2.1 x.1.2.2.1 x.2.1
noncomputable def spec_l1Put_l0_s (N : Nat) : LSum := ⟨spec_l1Put_l0_sh, spec_l1Put_l0_ex, fun x ks => spec_l1Put_l0_again N ks N x⟩
theorem spec_l1Put_l0_step (N : Nat) (R : Type) (k : Nat) (x : spec_l1Put_l0_sh.T) (ks : (j : Nat) → ((spec_l1Put_l0_ex.getD j (.ret, Sh.none)).2).T → Option R) : spec_l1Put_l0_again N ks (k + 1) x = roundF (spec_l1Put_G N) tab [] (loopAt spec_l1Put_code 0) spec_l1Put_l0_sh spec_l1Put_l0_ex (fun y => spec_l1Put_l0_again N ks k y) ks x := by kernel_rfl
theorem spec_l1Put_l0_ok (N : Nat) : LoopOk Try.prog Try.f115.ntmps (spec_l1Put_l0_s N) (loopAt spec_l1Put_code 0) :=
  loop_ok (l := spec_l1Put_l0_s N) progOk (spec_l1Put_gok N) (draw_ok progOk (spec_l1Put_gok N)) (fun R k x ks => spec_l1Put_l0_again N ks k x) (fun _ _ _ => rfl) (fun R k x ks => spec_l1Put_l0_step N R k x ks) (fun R x ks r h => ⟨N, h⟩) (lsOk_at (L := []) trivial) (by kernel_rfl) (by kernel_rfl)
noncomputable def spec_l1Put (N : Nat) (l : (List Int)) (n : Int) : Option (((List Int) × Unit) × (Unit)) :=
  spec_l1Put_l0 N (fun n1 kv o => (br (ilt kv (tLen o))
    ((chk (inb o kv)
      (br (ieq (rdI o kv) n1)
      (some ((o, ()), ()))
      ((chk (ile 0 0 && ile 0 kv && ile kv (tLen o))
        (chk (room (α := Int) (β := Int) [] (tCut o 0 kv))
        (chk (room (tApp [] (tCut o 0 kv)) [n1])
        (chk (ile 0 kv && ile kv (tLen o) && ile (tLen o) (tLen o))
        (chk (room (tApp (tApp [] (tCut o 0 kv)) [n1]) (tCut o kv (tLen o)))
        (some (((tApp (tApp (tApp [] (tCut o 0 kv)) [n1]) (tCut o kv (tLen o))), ()), ())))))))))))
    ((chk (ile 0 0 && ile 0 kv && ile kv (tLen o))
      (chk (room (α := Int) (β := Int) [] (tCut o 0 kv))
      (chk (room (tApp [] (tCut o 0 kv)) [n1])
      (chk (ile 0 kv && ile kv (tLen o) && ile (tLen o) (tLen o))
      (chk (room (tApp (tApp [] (tCut o 0 kv)) [n1]) (tCut o kv (tLen o)))
      (some (((tApp (tApp (tApp [] (tCut o 0 kv)) [n1]) (tCut o kv (tLen o))), ()), ())))))))))) N n 0 l
noncomputable def spec_l1Put_S (N : Nat) : FSum := ⟨spec_l1Put_ps, spec_l1Put_rs, fun x => spec_l1Put N x.1 x.2.1⟩
theorem spec_l1Put_run (N : Nat) (x : argsT spec_l1Put_ps) : spec_l1Put N x.1 x.2.1 = funF (spec_l1Put_G N) tab [spec_l1Put_l0_s N] Try.f115 spec_l1Put_ps spec_l1Put_rs x := by kernel_rfl
theorem spec_l1Put_pc (N : Nat) : PC Try.prog 115 (spec_l1Put_S N) := by
  have e : spec_l1Put_S N = ⟨spec_l1Put_ps, spec_l1Put_rs, funF (spec_l1Put_G N) tab [spec_l1Put_l0_s N] Try.f115 spec_l1Put_ps spec_l1Put_rs⟩ := congrArg (FSum.mk spec_l1Put_ps spec_l1Put_rs) (funext (spec_l1Put_run N))
  rw [e]
  exact fun_ok (c := spec_l1Put_code) progOk (spec_l1Put_gok N) (draw_ok progOk (spec_l1Put_gok N)) Try.call115 Try.func115 (by kernel_rfl) (lsOk_at (L := [spec_l1Put_l0_s N]) ⟨spec_l1Put_l0_ok N, trivial⟩) (by kernel_rfl) (by kernel_rfl) (by kernel_rfl) (by kernel_rfl) (by kernel_rfl)

/-! ### spec_l7Light -/
abbrev spec_l7Light_ps : List (PV.Mode × Ty) := [(.ro, QILQII), (.ro, LI)]
abbrev spec_l7Light_rs : List (Bool × Ty) := [(true, LI)]
noncomputable def spec_l7Light_G (N : Nat) : GTab := gOf [(97, spec_l1Own_S N), (157, spec_l7Closes_S N), (115, spec_l1Put_S N)]
theorem spec_l7Light_gok (N : Nat) : GOk Try.prog (spec_l7Light_G N) := gOf_ok ⟨spec_l1Own_pc N, spec_l7Closes_pc N, spec_l1Put_pc N, trivial⟩
noncomputable def spec_l7Light_code : Code := (Try.f108.body).getD .skip
noncomputable def spec_l7Light_l0_0_sh : Sh := ⟨[(1, .one (.ro LI)), (2, .one (.adr 0 0)), (5, .one (.ref 1)), (6, .one (.ro I)), (7, .one (.ro I))], [.box [.ro I, .ro LQII], .sl 3 I .own]⟩
noncomputable def spec_l7Light_l0_0_ex : List (Ex × Sh) := [(.exit 2, ⟨[(1, .one (.ro LI)), (2, .one (.adr 0 0)), (5, .one (.ref 1)), (6, .one (.ro I))], [.box [.ro I, .ro LQII], .sl 3 I .own]⟩)]
noncomputable def spec_l7Light_l0_0 {R : Type} (N : Nat) (k0 : (List Int) → Int → Int → (List (Int × Int)) → (List Int) → Option R) : Nat → (List Int) → Int → Int → Int → (List (Int × Int)) → (List Int) → Option R
  | 0, _, _, _, _, _, _ => none
  | K + 1, weights2, w1, e, o3, o4, o5 =>
    (br (ilt e (tLen weights2))
      ((chk (inb weights2 e)
        (br (ieq (rdI weights2 e) w1)
        (((spec_l1Own N o5).bind fun r =>
          (chk (room r.1.1 [e])
            ((spec_l7Closes N (o3, o4) (tApp r.1.1 [e])).bind fun r1 =>
            (br (!r1.1.1)
              ((chk (room o5 [e])
                (spec_l7Light_l0_0 N k0 K weights2 w1 (IntKind.i64.wrap (e + 1)) o3 o4 (tApp o5 [e]))))
              (spec_l7Light_l0_0 N k0 K weights2 w1 (IntKind.i64.wrap (e + 1)) o3 o4 o5))))))
        (spec_l7Light_l0_0 N k0 K weights2 w1 (IntKind.i64.wrap (e + 1)) o3 o4 o5))))
      (k0 weights2 w1 o3 o4 o5))
noncomputable def spec_l7Light_l0_0_again {R : Type} (N : Nat) (ks : (j : Nat) → ((spec_l7Light_l0_0_ex.getD j (.ret, Sh.none)).2).T → Option R) (k : Nat) (x : spec_l7Light_l0_0_sh.T) : Option R :=
  spec_l7Light_l0_0 N (fun y0 y1 y2 y3 y4 => ks 0 ((y0, (), (), y1, ()), ((y2, y3, ()), y4, ()))) k x.1.1 x.1.2.2.2.1 x.1.2.2.2.2.1 x.2.1.1 x.2.1.2.1 x.2.2.1
noncomputable def spec_l7Light_l0_0_s (N : Nat) : LSum := ⟨spec_l7Light_l0_0_sh, spec_l7Light_l0_0_ex, fun x ks => spec_l7Light_l0_0_again N ks N x⟩
theorem spec_l7Light_l0_0_step (N : Nat) (R : Type) (k : Nat) (x : spec_l7Light_l0_0_sh.T) (ks : (j : Nat) → ((spec_l7Light_l0_0_ex.getD j (.ret, Sh.none)).2).T → Option R) : spec_l7Light_l0_0_again N ks (k + 1) x = roundF (spec_l7Light_G N) tab [] (loopAt (loopAt spec_l7Light_code 0) 0) spec_l7Light_l0_0_sh spec_l7Light_l0_0_ex (fun y => spec_l7Light_l0_0_again N ks k y) ks x := by kernel_rfl
theorem spec_l7Light_l0_0_ok (N : Nat) : LoopOk Try.prog Try.f108.ntmps (spec_l7Light_l0_0_s N) (loopAt (loopAt spec_l7Light_code 0) 0) :=
  loop_ok (l := spec_l7Light_l0_0_s N) progOk (spec_l7Light_gok N) (draw_ok progOk (spec_l7Light_gok N)) (fun R k x ks => spec_l7Light_l0_0_again N ks k x) (fun _ _ _ => rfl) (fun R k x ks => spec_l7Light_l0_0_step N R k x ks) (fun R x ks r h => ⟨N, h⟩) (lsOk_at (L := []) trivial) (by kernel_rfl) (by kernel_rfl)
noncomputable def spec_l7Light_l0_sh : Sh := ⟨[(1, .one (.ro LI)), (2, .one (.adr 0 0)), (5, .one (.ref 1)), (6, .one (.ro I))], [.box [.ro I, .ro LQII], .sl 3 I .own]⟩
noncomputable def spec_l7Light_l0_ex : List (Ex × Sh) := [(.exit 0, ⟨[(5, .one (.ref 0))], [.sl 3 I .own]⟩)]
noncomputable def spec_l7Light_l0 {R : Type} (N : Nat) (k0 : (List Int) → Option R) : Nat → (List Int) → Int → Int → (List (Int × Int)) → (List Int) → Option R
  | 0, _, _, _, _, _ => none
  | K + 1, weights1, w, o, o1, o2 =>
    (br (ile w 99)
      (spec_l7Light_l0_0 N (fun weights2 w1 o3 o4 o5 => spec_l7Light_l0 N k0 K weights2 (IntKind.i64.wrap (w1 + 1)) o3 o4 o5) N weights1 w 0 o o1 o2)
      (k0 o2))
noncomputable def spec_l7Light_l0_again {R : Type} (N : Nat) (ks : (j : Nat) → ((spec_l7Light_l0_ex.getD j (.ret, Sh.none)).2).T → Option R) (k : Nat) (x : spec_l7Light_l0_sh.T) : Option R :=
  spec_l7Light_l0 N (fun y0 => ks 0 (((), ()), (y0, ()))) k x.1.1 x.1.2.2.2.1 x.2.1.1 x.2.1.2.1 x.2.2.1
noncomputable def spec_l7Light_l0_s (N : Nat) : LSum := ⟨spec_l7Light_l0_sh, spec_l7Light_l0_ex, fun x ks => spec_l7Light_l0_again N ks N x⟩
theorem spec_l7Light_l0_step (N : Nat) (R : Type) (k : Nat) (x : spec_l7Light_l0_sh.T) (ks : (j : Nat) → ((spec_l7Light_l0_ex.getD j (.ret, Sh.none)).2).T → Option R) : spec_l7Light_l0_again N ks (k + 1) x = roundF (spec_l7Light_G N) tab [spec_l7Light_l0_0_s N] (loopAt spec_l7Light_code 0) spec_l7Light_l0_sh spec_l7Light_l0_ex (fun y => spec_l7Light_l0_again N ks k y) ks x := by kernel_rfl
theorem spec_l7Light_l0_ok (N : Nat) : LoopOk Try.prog Try.f108.ntmps (spec_l7Light_l0_s N) (loopAt spec_l7Light_code 0) :=
  loop_ok (l := spec_l7Light_l0_s N) progOk (spec_l7Light_gok N) (draw_ok progOk (spec_l7Light_gok N)) (fun R k x ks => spec_l7Light_l0_again N ks k x) (fun _ _ _ => rfl) (fun R k x ks => spec_l7Light_l0_step N R k x ks) (fun R x ks r h => ⟨N, h⟩) (lsOk_at (L := [spec_l7Light_l0_0_s N]) ⟨spec_l7Light_l0_0_ok N, trivial⟩) (by kernel_rfl) (by kernel_rfl)
noncomputable def spec_l7Light_l1_sh : Sh := ⟨[(5, .one (.ref 0)), (8, .one (.ref 1)), (9, .one (.ro I))], [.sl 3 I .own, .sl 3 I .own]⟩
noncomputable def spec_l7Light_l1_ex : List (Ex × Sh) := [(.exit 4, ⟨[(8, .one (.ref 0))], [.sl 3 I .own]⟩)]
noncomputable def spec_l7Light_l1 {R : Type} (N : Nat) (k0 : (List Int) → Option R) : Nat → Int → (List Int) → (List Int) → Option R
  | 0, _, _, _ => none
  | K + 1, i, o1, o2 =>
    (br (ilt i (tLen o1))
      ((chk (inb o1 i)
        ((spec_l1Put N o2 (rdI o1 i)).bind fun r =>
        spec_l7Light_l1 N k0 K (IntKind.i64.wrap (i + 1)) o1 r.1.1)))
      (k0 o2))
noncomputable def spec_l7Light_l1_again {R : Type} (N : Nat) (ks : (j : Nat) → ((spec_l7Light_l1_ex.getD j (.ret, Sh.none)).2).T → Option R) (k : Nat) (x : spec_l7Light_l1_sh.T) : Option R :=
  spec_l7Light_l1 N (fun y0 => ks 0 (((), ()), (y0, ()))) k x.1.2.2.1 x.2.1 x.2.2.1
noncomputable def spec_l7Light_l1_s (N : Nat) : LSum := ⟨spec_l7Light_l1_sh, spec_l7Light_l1_ex, fun x ks => spec_l7Light_l1_again N ks N x⟩
theorem spec_l7Light_l1_step (N : Nat) (R : Type) (k : Nat) (x : spec_l7Light_l1_sh.T) (ks : (j : Nat) → ((spec_l7Light_l1_ex.getD j (.ret, Sh.none)).2).T → Option R) : spec_l7Light_l1_again N ks (k + 1) x = roundF (spec_l7Light_G N) tab [] (loopAt spec_l7Light_code 1) spec_l7Light_l1_sh spec_l7Light_l1_ex (fun y => spec_l7Light_l1_again N ks k y) ks x := by kernel_rfl
theorem spec_l7Light_l1_ok (N : Nat) : LoopOk Try.prog Try.f108.ntmps (spec_l7Light_l1_s N) (loopAt spec_l7Light_code 1) :=
  loop_ok (l := spec_l7Light_l1_s N) progOk (spec_l7Light_gok N) (draw_ok progOk (spec_l7Light_gok N)) (fun R k x ks => spec_l7Light_l1_again N ks k x) (fun _ _ _ => rfl) (fun R k x ks => spec_l7Light_l1_step N R k x ks) (fun R x ks r h => ⟨N, h⟩) (lsOk_at (L := []) trivial) (by kernel_rfl) (by kernel_rfl)
noncomputable def spec_l7Light (N : Nat) (g : (Int × (List (Int × Int)))) (weights : (List Int)) : Option (((List Int) × Unit) × (Unit)) :=
  spec_l7Light_l0 N (fun o => spec_l7Light_l1 N (fun o1 => some ((o1, ()), ())) N 0 o []) N weights 0 g.1 g.2 []
noncomputable def spec_l7Light_S (N : Nat) : FSum := ⟨spec_l7Light_ps, spec_l7Light_rs, fun x => spec_l7Light N x.1 x.2.1⟩
theorem spec_l7Light_run (N : Nat) (x : argsT spec_l7Light_ps) : spec_l7Light N x.1 x.2.1 = funF (spec_l7Light_G N) tab [spec_l7Light_l0_s N, spec_l7Light_l1_s N] Try.f108 spec_l7Light_ps spec_l7Light_rs x := by kernel_rfl
theorem spec_l7Light_pc (N : Nat) : PC Try.prog 108 (spec_l7Light_S N) := by
  have e : spec_l7Light_S N = ⟨spec_l7Light_ps, spec_l7Light_rs, funF (spec_l7Light_G N) tab [spec_l7Light_l0_s N, spec_l7Light_l1_s N] Try.f108 spec_l7Light_ps spec_l7Light_rs⟩ := congrArg (FSum.mk spec_l7Light_ps spec_l7Light_rs) (funext (spec_l7Light_run N))
  rw [e]
  exact fun_ok (c := spec_l7Light_code) progOk (spec_l7Light_gok N) (draw_ok progOk (spec_l7Light_gok N)) Try.call108 Try.func108 (by kernel_rfl) (lsOk_at (L := [spec_l7Light_l0_s N, spec_l7Light_l1_s N]) ⟨spec_l7Light_l0_ok N, spec_l7Light_l1_ok N, trivial⟩) (by kernel_rfl) (by kernel_rfl) (by kernel_rfl) (by kernel_rfl) (by kernel_rfl)

/-! ### spec_l1Rising -/
abbrev spec_l1Rising_ps : List (PV.Mode × Ty) := [(.ro, LI), (.ro, I), (.ro, I)]
abbrev spec_l1Rising_rs : List (Bool × Ty) := [(true, .bool)]
noncomputable def spec_l1Rising_G (N : Nat) : GTab := gOf [(61, spec_l1In_S N)]
theorem spec_l1Rising_gok (N : Nat) : GOk Try.prog (spec_l1Rising_G N) := gOf_ok ⟨spec_l1In_pc N, trivial⟩
noncomputable def spec_l1Rising_code : Code := (Try.f113.body).getD .skip
noncomputable def spec_l1Rising_l0_sh : Sh := ⟨[(0, .one (.ro LI)), (1, .one (.ro I)), (2, .one (.ro I)), (7, .one (.ro I))], []⟩
noncomputable def spec_l1Rising_l0_ex : List (Ex × Sh) := [(.ret, ⟨[(6, .one (.ro .bool))], []⟩), (.exit 0, ⟨[], []⟩)]
noncomputable def spec_l1Rising_l0 {R : Type} (N : Nat) (k0 : Bool → Option R) (k1 : Unit → Option R) : Nat → (List Int) → Int → Int → Int → Option R
  | 0, _, _, _, _ => none
  | K + 1, l1, lo1, hi1, i =>
    (br (ilt i (tLen l1))
      ((chk (inb l1 i)
        ((spec_l1In N (rdI l1 i) lo1 hi1).bind fun r =>
        (br (!r.1.1)
          (k0 false)
          ((br (ilt 0 i)
            ((chk (inb l1 (IntKind.i64.wrap (i - 1)))
              (chk (inb l1 i)
              (br (ile (rdI l1 i) (rdI l1 (IntKind.i64.wrap (i - 1))))
              (k0 false)
              (spec_l1Rising_l0 N k0 k1 K l1 lo1 hi1 (IntKind.i64.wrap (i + 1)))))))
            (spec_l1Rising_l0 N k0 k1 K l1 lo1 hi1 (IntKind.i64.wrap (i + 1)))))))))
      (k1 ()))
noncomputable def spec_l1Rising_l0_again {R : Type} (N : Nat) (ks : (j : Nat) → ((spec_l1Rising_l0_ex.getD j (.ret, Sh.none)).2).T → Option R) (k : Nat) (x : spec_l1Rising_l0_sh.T) : Option R :=
  spec_l1Rising_l0 N (fun y0 => ks 0 ((y0, ()), ())) (fun (_ : Unit) => ks 1 ((), ())) k x.1.1 x.1.2.1 x.1.2.2.1 x.1.2.2.2.1
noncomputable def spec_l1Rising_l0_s (N : Nat) : LSum := ⟨spec_l1Rising_l0_sh, spec_l1Rising_l0_ex, fun x ks => spec_l1Rising_l0_again N ks N x⟩
theorem spec_l1Rising_l0_step (N : Nat) (R : Type) (k : Nat) (x : spec_l1Rising_l0_sh.T) (ks : (j : Nat) → ((spec_l1Rising_l0_ex.getD j (.ret, Sh.none)).2).T → Option R) : spec_l1Rising_l0_again N ks (k + 1) x = roundF (spec_l1Rising_G N) tab [] (loopAt spec_l1Rising_code 0) spec_l1Rising_l0_sh spec_l1Rising_l0_ex (fun y => spec_l1Rising_l0_again N ks k y) ks x := by kernel_rfl
theorem spec_l1Rising_l0_ok (N : Nat) : LoopOk Try.prog Try.f113.ntmps (spec_l1Rising_l0_s N) (loopAt spec_l1Rising_code 0) :=
  loop_ok (l := spec_l1Rising_l0_s N) progOk (spec_l1Rising_gok N) (draw_ok progOk (spec_l1Rising_gok N)) (fun R k x ks => spec_l1Rising_l0_again N ks k x) (fun _ _ _ => rfl) (fun R k x ks => spec_l1Rising_l0_step N R k x ks) (fun R x ks r h => ⟨N, h⟩) (lsOk_at (L := []) trivial) (by kernel_rfl) (by kernel_rfl)
noncomputable def spec_l1Rising (N : Nat) (l : (List Int)) (lo : Int) (hi : Int) : Option ((Bool × Unit) × (Unit)) :=
  spec_l1Rising_l0 N (fun x => some ((x, ()), ())) (fun (_ : Unit) => some ((true, ()), ())) N l lo hi 0
noncomputable def spec_l1Rising_S (N : Nat) : FSum := ⟨spec_l1Rising_ps, spec_l1Rising_rs, fun x => spec_l1Rising N x.1 x.2.1 x.2.2.1⟩
theorem spec_l1Rising_run (N : Nat) (x : argsT spec_l1Rising_ps) : spec_l1Rising N x.1 x.2.1 x.2.2.1 = funF (spec_l1Rising_G N) tab [spec_l1Rising_l0_s N] Try.f113 spec_l1Rising_ps spec_l1Rising_rs x := by kernel_rfl
theorem spec_l1Rising_pc (N : Nat) : PC Try.prog 113 (spec_l1Rising_S N) := by
  have e : spec_l1Rising_S N = ⟨spec_l1Rising_ps, spec_l1Rising_rs, funF (spec_l1Rising_G N) tab [spec_l1Rising_l0_s N] Try.f113 spec_l1Rising_ps spec_l1Rising_rs⟩ := congrArg (FSum.mk spec_l1Rising_ps spec_l1Rising_rs) (funext (spec_l1Rising_run N))
  rw [e]
  exact fun_ok (c := spec_l1Rising_code) progOk (spec_l1Rising_gok N) (draw_ok progOk (spec_l1Rising_gok N)) Try.call113 Try.func113 (by kernel_rfl) (lsOk_at (L := [spec_l1Rising_l0_s N]) ⟨spec_l1Rising_l0_ok N, trivial⟩) (by kernel_rfl) (by kernel_rfl) (by kernel_rfl) (by kernel_rfl) (by kernel_rfl)

/-! ### spec_l2Bits -/
abbrev spec_l2Bits_ps : List (PV.Mode × Ty) := [(.ro, I), (.ro, I)]
abbrev spec_l2Bits_rs : List (Bool × Ty) := [(true, LI)]
noncomputable def spec_l2Bits_G (N : Nat) : GTab := gOf []
theorem spec_l2Bits_gok (N : Nat) : GOk Try.prog (spec_l2Bits_G N) := gOf_ok trivial
noncomputable def spec_l2Bits_code : Code := (Try.f143.body).getD .skip
noncomputable def spec_l2Bits_l0_sh : Sh := ⟨[(0, .one (.ro I)), (1, .one (.ro I)), (5, .one (.ref 0)), (6, .one (.ro I))], [.sl 3 I .own]⟩
noncomputable def spec_l2Bits_l0_ex : List (Ex × Sh) := [(.exit 0, ⟨[(5, .one (.ref 0))], [.sl 3 I .own]⟩)]
noncomputable def spec_l2Bits_l0 {R : Type} (N : Nat) (k0 : (List Int) → Option R) : Nat → Int → Int → Int → (List Int) → Option R
  | 0, _, _, _, _ => none
  | K + 1, n1, code1, x, o =>
    (br (ilt x n1)
      ((chk (ile 0 x)
        (br (ieq (bitop .and .i64 (shrI .i64 code1 x) 1) 1)
        ((chk (room o [x])
          (spec_l2Bits_l0 N k0 K n1 code1 (IntKind.i64.wrap (x + 1)) (tApp o [x]))))
        (spec_l2Bits_l0 N k0 K n1 code1 (IntKind.i64.wrap (x + 1)) o))))
      (k0 o))
noncomputable def spec_l2Bits_l0_again {R : Type} (N : Nat) (ks : (j : Nat) → ((spec_l2Bits_l0_ex.getD j (.ret, Sh.none)).2).T → Option R) (k : Nat) (x : spec_l2Bits_l0_sh.T) : Option R :=
  spec_l2Bits_l0 N (fun y0 => ks 0 (((), ()), (y0, ()))) k x.1.1 x.1.2.1 x.1.2.2.2.1 x.2.1
noncomputable def spec_l2Bits_l0_s (N : Nat) : LSum := ⟨spec_l2Bits_l0_sh, spec_l2Bits_l0_ex, fun x ks => spec_l2Bits_l0_again N ks N x⟩
theorem spec_l2Bits_l0_step (N : Nat) (R : Type) (k : Nat) (x : spec_l2Bits_l0_sh.T) (ks : (j : Nat) → ((spec_l2Bits_l0_ex.getD j (.ret, Sh.none)).2).T → Option R) : spec_l2Bits_l0_again N ks (k + 1) x = roundF (spec_l2Bits_G N) tab [] (loopAt spec_l2Bits_code 0) spec_l2Bits_l0_sh spec_l2Bits_l0_ex (fun y => spec_l2Bits_l0_again N ks k y) ks x := by kernel_rfl
theorem spec_l2Bits_l0_ok (N : Nat) : LoopOk Try.prog Try.f143.ntmps (spec_l2Bits_l0_s N) (loopAt spec_l2Bits_code 0) :=
  loop_ok (l := spec_l2Bits_l0_s N) progOk (spec_l2Bits_gok N) (draw_ok progOk (spec_l2Bits_gok N)) (fun R k x ks => spec_l2Bits_l0_again N ks k x) (fun _ _ _ => rfl) (fun R k x ks => spec_l2Bits_l0_step N R k x ks) (fun R x ks r h => ⟨N, h⟩) (lsOk_at (L := []) trivial) (by kernel_rfl) (by kernel_rfl)
noncomputable def spec_l2Bits (N : Nat) (n : Int) (code : Int) : Option (((List Int) × Unit) × (Unit)) :=
  spec_l2Bits_l0 N (fun o => some ((o, ()), ())) N n code 0 []
noncomputable def spec_l2Bits_S (N : Nat) : FSum := ⟨spec_l2Bits_ps, spec_l2Bits_rs, fun x => spec_l2Bits N x.1 x.2.1⟩
theorem spec_l2Bits_run (N : Nat) (x : argsT spec_l2Bits_ps) : spec_l2Bits N x.1 x.2.1 = funF (spec_l2Bits_G N) tab [spec_l2Bits_l0_s N] Try.f143 spec_l2Bits_ps spec_l2Bits_rs x := by kernel_rfl
theorem spec_l2Bits_pc (N : Nat) : PC Try.prog 143 (spec_l2Bits_S N) := by
  have e : spec_l2Bits_S N = ⟨spec_l2Bits_ps, spec_l2Bits_rs, funF (spec_l2Bits_G N) tab [spec_l2Bits_l0_s N] Try.f143 spec_l2Bits_ps spec_l2Bits_rs⟩ := congrArg (FSum.mk spec_l2Bits_ps spec_l2Bits_rs) (funext (spec_l2Bits_run N))
  rw [e]
  exact fun_ok (c := spec_l2Bits_code) progOk (spec_l2Bits_gok N) (draw_ok progOk (spec_l2Bits_gok N)) Try.call143 Try.func143 (by kernel_rfl) (lsOk_at (L := [spec_l2Bits_l0_s N]) ⟨spec_l2Bits_l0_ok N, trivial⟩) (by kernel_rfl) (by kernel_rfl) (by kernel_rfl) (by kernel_rfl) (by kernel_rfl)

/-! ### spec_l1Has -/
abbrev spec_l1Has_ps : List (PV.Mode × Ty) := [(.ro, LI), (.ro, I)]
abbrev spec_l1Has_rs : List (Bool × Ty) := [(true, .bool)]
noncomputable def spec_l1Has_G (N : Nat) : GTab := gOf []
theorem spec_l1Has_gok (N : Nat) : GOk Try.prog (spec_l1Has_G N) := gOf_ok trivial
noncomputable def spec_l1Has_code : Code := (Try.f89.body).getD .skip
noncomputable def spec_l1Has_l0_sh : Sh := ⟨[(0, .one (.ro LI)), (1, .one (.ro I)), (5, .one (.ro I))], []⟩
noncomputable def spec_l1Has_l0_ex : List (Ex × Sh) := [(.ret, ⟨[(4, .one (.ro .bool))], []⟩), (.exit 0, ⟨[], []⟩)]
noncomputable def spec_l1Has_l0 {R : Type} (N : Nat) (k0 : Bool → Option R) (k1 : Unit → Option R) : Nat → (List Int) → Int → Int → Option R
  | 0, _, _, _ => none
  | K + 1, l1, n1, i =>
    (br (ilt i (tLen l1))
      ((chk (inb l1 i)
        (br (ieq (rdI l1 i) n1)
        (k0 true)
        (spec_l1Has_l0 N k0 k1 K l1 n1 (IntKind.i64.wrap (i + 1))))))
      (k1 ()))
noncomputable def spec_l1Has_l0_again {R : Type} (N : Nat) (ks : (j : Nat) → ((spec_l1Has_l0_ex.getD j (.ret, Sh.none)).2).T → Option R) (k : Nat) (x : spec_l1Has_l0_sh.T) : Option R :=
  spec_l1Has_l0 N (fun y0 => ks 0 ((y0, ()), ())) (fun (_ : Unit) => ks 1 ((), ())) k x.1.1 x.1.2.1 x.1.2.2.1
noncomputable def spec_l1Has_l0_s (N : Nat) : LSum := ⟨spec_l1Has_l0_sh, spec_l1Has_l0_ex, fun x ks => spec_l1Has_l0_again N ks N x⟩
theorem spec_l1Has_l0_step (N : Nat) (R : Type) (k : Nat) (x : spec_l1Has_l0_sh.T) (ks : (j : Nat) → ((spec_l1Has_l0_ex.getD j (.ret, Sh.none)).2).T → Option R) : spec_l1Has_l0_again N ks (k + 1) x = roundF (spec_l1Has_G N) tab [] (loopAt spec_l1Has_code 0) spec_l1Has_l0_sh spec_l1Has_l0_ex (fun y => spec_l1Has_l0_again N ks k y) ks x := by kernel_rfl
theorem spec_l1Has_l0_ok (N : Nat) : LoopOk Try.prog Try.f89.ntmps (spec_l1Has_l0_s N) (loopAt spec_l1Has_code 0) :=
  loop_ok (l := spec_l1Has_l0_s N) progOk (spec_l1Has_gok N) (draw_ok progOk (spec_l1Has_gok N)) (fun R k x ks => spec_l1Has_l0_again N ks k x) (fun _ _ _ => rfl) (fun R k x ks => spec_l1Has_l0_step N R k x ks) (fun R x ks r h => ⟨N, h⟩) (lsOk_at (L := []) trivial) (by kernel_rfl) (by kernel_rfl)
noncomputable def spec_l1Has (N : Nat) (l : (List Int)) (n : Int) : Option ((Bool × Unit) × (Unit)) :=
  spec_l1Has_l0 N (fun x => some ((x, ()), ())) (fun (_ : Unit) => some ((false, ()), ())) N l n 0
noncomputable def spec_l1Has_S (N : Nat) : FSum := ⟨spec_l1Has_ps, spec_l1Has_rs, fun x => spec_l1Has N x.1 x.2.1⟩
theorem spec_l1Has_run (N : Nat) (x : argsT spec_l1Has_ps) : spec_l1Has N x.1 x.2.1 = funF (spec_l1Has_G N) tab [spec_l1Has_l0_s N] Try.f89 spec_l1Has_ps spec_l1Has_rs x := by kernel_rfl
theorem spec_l1Has_pc (N : Nat) : PC Try.prog 89 (spec_l1Has_S N) := by
  have e : spec_l1Has_S N = ⟨spec_l1Has_ps, spec_l1Has_rs, funF (spec_l1Has_G N) tab [spec_l1Has_l0_s N] Try.f89 spec_l1Has_ps spec_l1Has_rs⟩ := congrArg (FSum.mk spec_l1Has_ps spec_l1Has_rs) (funext (spec_l1Has_run N))
  rw [e]
  exact fun_ok (c := spec_l1Has_code) progOk (spec_l1Has_gok N) (draw_ok progOk (spec_l1Has_gok N)) Try.call89 Try.func89 (by kernel_rfl) (lsOk_at (L := [spec_l1Has_l0_s N]) ⟨spec_l1Has_l0_ok N, trivial⟩) (by kernel_rfl) (by kernel_rfl) (by kernel_rfl) (by kernel_rfl) (by kernel_rfl)

/-! ### spec_l2Reach -/
abbrev spec_l2Reach_ps : List (PV.Mode × Ty) := [(.ro, QILQII), (.ro, LI), (.ro, I)]
abbrev spec_l2Reach_rs : List (Bool × Ty) := [(true, LI)]
noncomputable def spec_l2Reach_G (N : Nat) : GTab := gOf [(89, spec_l1Has_S N), (166, spec_l2Near_S N), (115, spec_l1Put_S N)]
theorem spec_l2Reach_gok (N : Nat) : GOk Try.prog (spec_l2Reach_G N) := gOf_ok ⟨spec_l1Has_pc N, spec_l2Near_pc N, spec_l1Put_pc N, trivial⟩
noncomputable def spec_l2Reach_code : Code := (Try.f138.body).getD .skip
noncomputable def spec_l2Reach_l0_0_0_sh : Sh := ⟨[(1, .one (.ro LI)), (3, .one (.adr 0 0)), (7, .one (.ref 1)), (8, .one (.ro I)), (9, .one (.ro I)), (10, .one (.ro I))], [.box [.ro I, .ro LQII], .sl 3 I .own]⟩
noncomputable def spec_l2Reach_l0_0_0_ex : List (Ex × Sh) := [(.exit 4, ⟨[(1, .one (.ro LI)), (3, .one (.adr 0 0)), (7, .one (.ref 1)), (8, .one (.ro I)), (9, .one (.ro I))], [.box [.ro I, .ro LQII], .sl 3 I .own]⟩)]
noncomputable def spec_l2Reach_l0_0_0 {R : Type} (N : Nat) (k0 : (List Int) → Int → Int → Int → (List (Int × Int)) → (List Int) → Option R) : Nat → (List Int) → Int → Int → Int → Int → (List (Int × Int)) → (List Int) → Option R
  | 0, _, _, _, _, _, _, _ => none
  | K + 1, setv3, round2, i1, kv, o6, o7, o8 =>
    (br (ilt kv (tLen o8))
      ((chk (inb setv3 i1)
        ((spec_l1Has N o8 (rdI setv3 i1)).bind fun r =>
        (br (!r.1.1)
          ((chk (inb o8 kv)
            (chk (inb setv3 i1)
            ((spec_l2Near N (o6, o7) (rdI o8 kv) (rdI setv3 i1)).bind fun r1 =>
            (br r1.1.1
              ((chk (inb setv3 i1)
                ((spec_l1Put N o8 (rdI setv3 i1)).bind fun r2 =>
                spec_l2Reach_l0_0_0 N k0 K setv3 round2 i1 (IntKind.i64.wrap (kv + 1)) o6 o7 r2.1.1)))
              (spec_l2Reach_l0_0_0 N k0 K setv3 round2 i1 (IntKind.i64.wrap (kv + 1)) o6 o7 o8))))))
          (k0 setv3 round2 i1 o6 o7 o8)))))
      (k0 setv3 round2 i1 o6 o7 o8))
noncomputable def spec_l2Reach_l0_0_0_again {R : Type} (N : Nat) (ks : (j : Nat) → ((spec_l2Reach_l0_0_0_ex.getD j (.ret, Sh.none)).2).T → Option R) (k : Nat) (x : spec_l2Reach_l0_0_0_sh.T) : Option R :=
  spec_l2Reach_l0_0_0 N (fun y0 y1 y2 y3 y4 y5 => ks 0 ((y0, (), (), y1, y2, ()), ((y3, y4, ()), y5, ()))) k x.1.1 x.1.2.2.2.1 x.1.2.2.2.2.1 x.1.2.2.2.2.2.1 x.2.1.1 x.2.1.2.1 x.2.2.1
noncomputable def spec_l2Reach_l0_0_0_s (N : Nat) : LSum := ⟨spec_l2Reach_l0_0_0_sh, spec_l2Reach_l0_0_0_ex, fun x ks => spec_l2Reach_l0_0_0_again N ks N x⟩
theorem spec_l2Reach_l0_0_0_step (N : Nat) (R : Type) (k : Nat) (x : spec_l2Reach_l0_0_0_sh.T) (ks : (j : Nat) → ((spec_l2Reach_l0_0_0_ex.getD j (.ret, Sh.none)).2).T → Option R) : spec_l2Reach_l0_0_0_again N ks (k + 1) x = roundF (spec_l2Reach_G N) tab [] (loopAt (loopAt (loopAt spec_l2Reach_code 0) 0) 0) spec_l2Reach_l0_0_0_sh spec_l2Reach_l0_0_0_ex (fun y => spec_l2Reach_l0_0_0_again N ks k y) ks x := by kernel_rfl
theorem spec_l2Reach_l0_0_0_ok (N : Nat) : LoopOk Try.prog Try.f138.ntmps (spec_l2Reach_l0_0_0_s N) (loopAt (loopAt (loopAt spec_l2Reach_code 0) 0) 0) :=
  loop_ok (l := spec_l2Reach_l0_0_0_s N) progOk (spec_l2Reach_gok N) (draw_ok progOk (spec_l2Reach_gok N)) (fun R k x ks => spec_l2Reach_l0_0_0_again N ks k x) (fun _ _ _ => rfl) (fun R k x ks => spec_l2Reach_l0_0_0_step N R k x ks) (fun R x ks r h => ⟨N, h⟩) (lsOk_at (L := []) trivial) (by kernel_rfl) (by kernel_rfl)
noncomputable def spec_l2Reach_l0_0_sh : Sh := ⟨[(1, .one (.ro LI)), (3, .one (.adr 0 0)), (7, .one (.ref 1)), (8, .one (.ro I)), (9, .one (.ro I))], [.box [.ro I, .ro LQII], .sl 3 I .own]⟩
noncomputable def spec_l2Reach_l0_0_ex : List (Ex × Sh) := [(.exit 2, ⟨[(1, .one (.ro LI)), (3, .one (.adr 0 0)), (7, .one (.ref 1)), (8, .one (.ro I))], [.box [.ro I, .ro LQII], .sl 3 I .own]⟩)]
noncomputable def spec_l2Reach_l0_0 {R : Type} (N : Nat) (k0 : (List Int) → Int → Int → (List (Int × Int)) → (List Int) → Option R) : Nat → (List Int) → Int → Int → Int → (List (Int × Int)) → (List Int) → Option R
  | 0, _, _, _, _, _, _ => none
  | K + 1, setv2, round1, i, o3, o4, o5 =>
    (br (ilt i (tLen setv2))
      (spec_l2Reach_l0_0_0 N (fun setv3 round2 i1 o6 o7 o8 => spec_l2Reach_l0_0 N k0 K setv3 round2 (IntKind.i64.wrap (i1 + 1)) o6 o7 o8) N setv2 round1 i 0 o3 o4 o5)
      (k0 setv2 round1 o3 o4 o5))
noncomputable def spec_l2Reach_l0_0_again {R : Type} (N : Nat) (ks : (j : Nat) → ((spec_l2Reach_l0_0_ex.getD j (.ret, Sh.none)).2).T → Option R) (k : Nat) (x : spec_l2Reach_l0_0_sh.T) : Option R :=
  spec_l2Reach_l0_0 N (fun y0 y1 y2 y3 y4 => ks 0 ((y0, (), (), y1, ()), ((y2, y3, ()), y4, ()))) k x.1.1 x.1.2.2.2.1 x.1.2.2.2.2.1 x.2.1.1 x.2.1.2.1 x.2.2.1
noncomputable def spec_l2Reach_l0_0_s (N : Nat) : LSum := ⟨spec_l2Reach_l0_0_sh, spec_l2Reach_l0_0_ex, fun x ks => spec_l2Reach_l0_0_again N ks N x⟩
theorem spec_l2Reach_l0_0_step (N : Nat) (R : Type) (k : Nat) (x : spec_l2Reach_l0_0_sh.T) (ks : (j : Nat) → ((spec_l2Reach_l0_0_ex.getD j (.ret, Sh.none)).2).T → Option R) : spec_l2Reach_l0_0_again N ks (k + 1) x = roundF (spec_l2Reach_G N) tab [spec_l2Reach_l0_0_0_s N] (loopAt (loopAt spec_l2Reach_code 0) 0) spec_l2Reach_l0_0_sh spec_l2Reach_l0_0_ex (fun y => spec_l2Reach_l0_0_again N ks k y) ks x := by kernel_rfl
theorem spec_l2Reach_l0_0_ok (N : Nat) : LoopOk Try.prog Try.f138.ntmps (spec_l2Reach_l0_0_s N) (loopAt (loopAt spec_l2Reach_code 0) 0) :=
  loop_ok (l := spec_l2Reach_l0_0_s N) progOk (spec_l2Reach_gok N) (draw_ok progOk (spec_l2Reach_gok N)) (fun R k x ks => spec_l2Reach_l0_0_again N ks k x) (fun _ _ _ => rfl) (fun R k x ks => spec_l2Reach_l0_0_step N R k x ks) (fun R x ks r h => ⟨N, h⟩) (lsOk_at (L := [spec_l2Reach_l0_0_0_s N]) ⟨spec_l2Reach_l0_0_0_ok N, trivial⟩) (by kernel_rfl) (by kernel_rfl)
noncomputable def spec_l2Reach_l0_sh : Sh := ⟨[(1, .one (.ro LI)), (3, .one (.adr 0 0)), (7, .one (.ref 1)), (8, .one (.ro I))], [.box [.ro I, .ro LQII], .sl 3 I .own]⟩
noncomputable def spec_l2Reach_l0_ex : List (Ex × Sh) := [(.exit 0, ⟨[(7, .one (.ref 0))], [.sl 3 I .own]⟩)]
noncomputable def spec_l2Reach_l0 {R : Type} (N : Nat) (k0 : (List Int) → Option R) : Nat → (List Int) → Int → Int → (List (Int × Int)) → (List Int) → Option R
  | 0, _, _, _, _, _ => none
  | K + 1, setv1, round, o, o1, o2 =>
    (br (ilt round (tLen setv1))
      (spec_l2Reach_l0_0 N (fun setv2 round1 o3 o4 o5 => spec_l2Reach_l0 N k0 K setv2 (IntKind.i64.wrap (round1 + 1)) o3 o4 o5) N setv1 round 0 o o1 o2)
      (k0 o2))
noncomputable def spec_l2Reach_l0_again {R : Type} (N : Nat) (ks : (j : Nat) → ((spec_l2Reach_l0_ex.getD j (.ret, Sh.none)).2).T → Option R) (k : Nat) (x : spec_l2Reach_l0_sh.T) : Option R :=
  spec_l2Reach_l0 N (fun y0 => ks 0 (((), ()), (y0, ()))) k x.1.1 x.1.2.2.2.1 x.2.1.1 x.2.1.2.1 x.2.2.1
noncomputable def spec_l2Reach_l0_s (N : Nat) : LSum := ⟨spec_l2Reach_l0_sh, spec_l2Reach_l0_ex, fun x ks => spec_l2Reach_l0_again N ks N x⟩
theorem spec_l2Reach_l0_step (N : Nat) (R : Type) (k : Nat) (x : spec_l2Reach_l0_sh.T) (ks : (j : Nat) → ((spec_l2Reach_l0_ex.getD j (.ret, Sh.none)).2).T → Option R) : spec_l2Reach_l0_again N ks (k + 1) x = roundF (spec_l2Reach_G N) tab [spec_l2Reach_l0_0_s N] (loopAt spec_l2Reach_code 0) spec_l2Reach_l0_sh spec_l2Reach_l0_ex (fun y => spec_l2Reach_l0_again N ks k y) ks x := by kernel_rfl
theorem spec_l2Reach_l0_ok (N : Nat) : LoopOk Try.prog Try.f138.ntmps (spec_l2Reach_l0_s N) (loopAt spec_l2Reach_code 0) :=
  loop_ok (l := spec_l2Reach_l0_s N) progOk (spec_l2Reach_gok N) (draw_ok progOk (spec_l2Reach_gok N)) (fun R k x ks => spec_l2Reach_l0_again N ks k x) (fun _ _ _ => rfl) (fun R k x ks => spec_l2Reach_l0_step N R k x ks) (fun R x ks r h => ⟨N, h⟩) (lsOk_at (L := [spec_l2Reach_l0_0_s N]) ⟨spec_l2Reach_l0_0_ok N, trivial⟩) (by kernel_rfl) (by kernel_rfl)
noncomputable def spec_l2Reach (N : Nat) (g : (Int × (List (Int × Int)))) (setv : (List Int)) (x : Int) : Option (((List Int) × Unit) × (Unit)) :=
  spec_l2Reach_l0 N (fun o => some ((o, ()), ())) N setv 0 g.1 g.2 [x]
noncomputable def spec_l2Reach_S (N : Nat) : FSum := ⟨spec_l2Reach_ps, spec_l2Reach_rs, fun x => spec_l2Reach N x.1 x.2.1 x.2.2.1⟩
theorem spec_l2Reach_run (N : Nat) (x : argsT spec_l2Reach_ps) : spec_l2Reach N x.1 x.2.1 x.2.2.1 = funF (spec_l2Reach_G N) tab [spec_l2Reach_l0_s N] Try.f138 spec_l2Reach_ps spec_l2Reach_rs x := by kernel_rfl
theorem spec_l2Reach_pc (N : Nat) : PC Try.prog 138 (spec_l2Reach_S N) := by
  have e : spec_l2Reach_S N = ⟨spec_l2Reach_ps, spec_l2Reach_rs, funF (spec_l2Reach_G N) tab [spec_l2Reach_l0_s N] Try.f138 spec_l2Reach_ps spec_l2Reach_rs⟩ := congrArg (FSum.mk spec_l2Reach_ps spec_l2Reach_rs) (funext (spec_l2Reach_run N))
  rw [e]
  exact fun_ok (c := spec_l2Reach_code) progOk (spec_l2Reach_gok N) (draw_ok progOk (spec_l2Reach_gok N)) Try.call138 Try.func138 (by kernel_rfl) (lsOk_at (L := [spec_l2Reach_l0_s N]) ⟨spec_l2Reach_l0_ok N, trivial⟩) (by kernel_rfl) (by kernel_rfl) (by kernel_rfl) (by kernel_rfl) (by kernel_rfl)
end Go.Proofs.Ythkejedgfhjdiaa
