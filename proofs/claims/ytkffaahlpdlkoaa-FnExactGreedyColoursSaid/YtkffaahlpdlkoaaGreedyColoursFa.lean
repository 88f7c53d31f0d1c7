/- Functions of the program as functions on data. -/
import Derived.Test.YtkffaahlpdlkoaaGreedyColoursSa
set_option linter.all false
namespace Go.Proofs.Ytkffaahlpdlkoaa
open Go Go.PV
/-! ### laws_szIntA2S -/
abbrev laws_szIntA2S_ps : List (PV.Mode × Ty) := [(.ro, LQII), (.ro, I)]
abbrev laws_szIntA2S_rs : List (Bool × Ty) := [(true, I)]
noncomputable def laws_szIntA2S_G (N : Nat) : GTab := gOf []
theorem laws_szIntA2S_gok (N : Nat) : GOk Try.prog (laws_szIntA2S_G N) := gOf_ok trivial
noncomputable def laws_szIntA2S_code : Code := (Try.f17.body).getD .skip
noncomputable def laws_szIntA2S (N : Nat) (a : (List (Int × Int))) (left : Int) : Option ((Int × Unit) × (Unit)) :=
  (br (ilt (IntKind.i64.wrap (left - (tLen a))) 0)
    (some (((-1), ()), ()))
    (some (((IntKind.i64.wrap (left - (tLen a))), ()), ())))
noncomputable def laws_szIntA2S_S (N : Nat) : FSum := ⟨laws_szIntA2S_ps, laws_szIntA2S_rs, fun x => laws_szIntA2S N x.1 x.2.1⟩
theorem laws_szIntA2S_run (N : Nat) (x : argsT laws_szIntA2S_ps) : laws_szIntA2S N x.1 x.2.1 = funF (laws_szIntA2S_G N) tab [] Try.f17 laws_szIntA2S_ps laws_szIntA2S_rs x := by kernel_rfl
theorem laws_szIntA2S_pc (N : Nat) : PC Try.prog 17 (laws_szIntA2S_S N) := by
  have e : laws_szIntA2S_S N = ⟨laws_szIntA2S_ps, laws_szIntA2S_rs, funF (laws_szIntA2S_G N) tab [] Try.f17 laws_szIntA2S_ps laws_szIntA2S_rs⟩ := congrArg (FSum.mk laws_szIntA2S_ps laws_szIntA2S_rs) (funext (laws_szIntA2S_run N))
  rw [e]
  exact fun_ok (c := laws_szIntA2S_code) progOk (laws_szIntA2S_gok N) (draw_ok progOk (laws_szIntA2S_gok N)) Try.call17 Try.func17 (by kernel_rfl) (lsOk_at (L := []) trivial) (by kernel_rfl) (by kernel_rfl) (by kernel_rfl) (by kernel_rfl) (by kernel_rfl)

/-! ### laws_szGraph -/
abbrev laws_szGraph_ps : List (PV.Mode × Ty) := [(.ro, QILQII), (.ro, I)]
abbrev laws_szGraph_rs : List (Bool × Ty) := [(true, I)]
noncomputable def laws_szGraph_G (N : Nat) : GTab := gOf [(17, laws_szIntA2S_S N)]
theorem laws_szGraph_gok (N : Nat) : GOk Try.prog (laws_szGraph_G N) := gOf_ok ⟨laws_szIntA2S_pc N, trivial⟩
noncomputable def laws_szGraph_code : Code := (Try.f5.body).getD .skip
noncomputable def laws_szGraph (N : Nat) (a : (Int × (List (Int × Int)))) (left : Int) : Option ((Int × Unit) × (Unit)) :=
  ((laws_szIntA2S N a.2 left).bind fun r =>
    (br (ilt r.1.1 0)
      (some (((-1), ()), ()))
      (some ((r.1.1, ()), ()))))
noncomputable def laws_szGraph_S (N : Nat) : FSum := ⟨laws_szGraph_ps, laws_szGraph_rs, fun x => laws_szGraph N x.1 x.2.1⟩
theorem laws_szGraph_run (N : Nat) (x : argsT laws_szGraph_ps) : laws_szGraph N x.1 x.2.1 = funF (laws_szGraph_G N) tab [] Try.f5 laws_szGraph_ps laws_szGraph_rs x := by kernel_rfl
theorem laws_szGraph_pc (N : Nat) : PC Try.prog 5 (laws_szGraph_S N) := by
  have e : laws_szGraph_S N = ⟨laws_szGraph_ps, laws_szGraph_rs, funF (laws_szGraph_G N) tab [] Try.f5 laws_szGraph_ps laws_szGraph_rs⟩ := congrArg (FSum.mk laws_szGraph_ps laws_szGraph_rs) (funext (laws_szGraph_run N))
  rw [e]
  exact fun_ok (c := laws_szGraph_code) progOk (laws_szGraph_gok N) (draw_ok progOk (laws_szGraph_gok N)) Try.call5 Try.func5 (by kernel_rfl) (lsOk_at (L := []) trivial) (by kernel_rfl) (by kernel_rfl) (by kernel_rfl) (by kernel_rfl) (by kernel_rfl)

/-! ### laws_toIntA2 -/
abbrev laws_toIntA2_ps : List (PV.Mode × Ty) := [(.ro, QII)]
abbrev laws_toIntA2_rs : List (Bool × Ty) := [(true, QII)]
noncomputable def laws_toIntA2_G (N : Nat) : GTab := gOf []
theorem laws_toIntA2_gok (N : Nat) : GOk Try.prog (laws_toIntA2_G N) := gOf_ok trivial
noncomputable def laws_toIntA2_code : Code := (Try.f35.body).getD .skip
noncomputable def laws_toIntA2_l0_sh : Sh := ⟨[(1, .one (.adr 0 0)), (2, .one (.adr 1 0)), (3, .one (.adr 2 0)), (4, .one (.num .i64 0))], [.box [.ro I, .ro I], .box [.ro I, .ro I], .box [.ro I, .ro I]]⟩
noncomputable def laws_toIntA2_l0_ex : List (Ex × Sh) := [(.exit 0, ⟨[(2, .one (.adr 0 0)), (3, .one (.adr 1 0))], [.box [.ro I, .ro I], .box [.ro I, .ro I]]⟩)]
noncomputable def laws_toIntA2_l0 {R : Type} (N : Nat) (k0 : Int → Int → Int → Int → Option R) (_ : Nat) (o6 : Int) (o7 : Int) (o8 : Int) (o9 : Int) (o10 : Int) (o11 : Int) : Option R :=
  k0 o8 o9 o6 o7
noncomputable def laws_toIntA2_l0_again {R : Type} (N : Nat) (ks : (j : Nat) → ((laws_toIntA2_l0_ex.getD j (.ret, Sh.none)).2).T → Option R) (x : laws_toIntA2_l0_sh.T) : Option R :=
  laws_toIntA2_l0 N (fun y0 y1 y2 y3 => ks 0 (((), (), ()), ((y0, y1, ()), (y2, y3, ()), ()))) N x.2.1.1 x.2.1.2.1 x.2.2.1.1 x.2.2.1.2.1 x.2.2.2.1.1 x.2.2.2.1.2.1
noncomputable def laws_toIntA2_l0_s (N : Nat) : LSum := ⟨laws_toIntA2_l0_sh, laws_toIntA2_l0_ex, fun x ks => laws_toIntA2_l0_again N ks x⟩
theorem laws_toIntA2_l0_unr (N : Nat) (R : Type) (x : laws_toIntA2_l0_sh.T) (ks : (j : Nat) → ((laws_toIntA2_l0_ex.getD j (.ret, Sh.none)).2).T → Option R) : laws_toIntA2_l0_again N ks x = unrF (laws_toIntA2_G N) tab (loopAt laws_toIntA2_code 0) laws_toIntA2_l0_ex ks 3 (fill laws_toIntA2_l0_sh x) := by kernel_rfl
theorem laws_toIntA2_l0_ok (N : Nat) : LoopOk Try.prog Try.f35.ntmps (laws_toIntA2_l0_s N) (loopAt laws_toIntA2_code 0) :=
  unroll_ok (l := laws_toIntA2_l0_s N) progOk (laws_toIntA2_gok N) (draw_ok progOk (laws_toIntA2_gok N)) (fun R x ks r h => ⟨3, (laws_toIntA2_l0_unr N R x ks).symm.trans h⟩) (by kernel_rfl) (by kernel_rfl)
noncomputable def laws_toIntA2 (N : Nat) (a : (Int × Int)) : Option (((Int × Int) × Unit) × (Unit)) :=
  laws_toIntA2_l0 N (fun o6 o7 o8 o9 => some (((o8, o9), ()), ())) N a.1 a.2 0 0 0 0
noncomputable def laws_toIntA2_S (N : Nat) : FSum := ⟨laws_toIntA2_ps, laws_toIntA2_rs, fun x => laws_toIntA2 N x.1⟩
theorem laws_toIntA2_run (N : Nat) (x : argsT laws_toIntA2_ps) : laws_toIntA2 N x.1 = funF (laws_toIntA2_G N) tab [laws_toIntA2_l0_s N] Try.f35 laws_toIntA2_ps laws_toIntA2_rs x := by kernel_rfl
theorem laws_toIntA2_pc (N : Nat) : PC Try.prog 35 (laws_toIntA2_S N) := by
  have e : laws_toIntA2_S N = ⟨laws_toIntA2_ps, laws_toIntA2_rs, funF (laws_toIntA2_G N) tab [laws_toIntA2_l0_s N] Try.f35 laws_toIntA2_ps laws_toIntA2_rs⟩ := congrArg (FSum.mk laws_toIntA2_ps laws_toIntA2_rs) (funext (laws_toIntA2_run N))
  rw [e]
  exact fun_ok (c := laws_toIntA2_code) progOk (laws_toIntA2_gok N) (draw_ok progOk (laws_toIntA2_gok N)) Try.call35 Try.func35 (by kernel_rfl) (lsOk_at (L := [laws_toIntA2_l0_s N]) ⟨laws_toIntA2_l0_ok N, trivial⟩) (by kernel_rfl) (by kernel_rfl) (by kernel_rfl) (by kernel_rfl) (by kernel_rfl)

/-! ### laws_toIntA2S -/
abbrev laws_toIntA2S_ps : List (PV.Mode × Ty) := [(.ro, LQII)]
abbrev laws_toIntA2S_rs : List (Bool × Ty) := [(true, LQII)]
noncomputable def laws_toIntA2S_G (N : Nat) : GTab := gOf [(35, laws_toIntA2_S N)]
theorem laws_toIntA2S_gok (N : Nat) : GOk Try.prog (laws_toIntA2S_G N) := gOf_ok ⟨laws_toIntA2_pc N, trivial⟩
noncomputable def laws_toIntA2S_code : Code := (Try.f20.body).getD .skip
noncomputable def laws_toIntA2S_l0_sh : Sh := ⟨[(0, .one (.ro LQII)), (3, .one (.ref 0)), (4, .one (.ro I))], [.sl 53 QII .own]⟩
noncomputable def laws_toIntA2S_l0_ex : List (Ex × Sh) := [(.exit 0, ⟨[(3, .one (.ref 0))], [.sl 53 QII .own]⟩)]
noncomputable def laws_toIntA2S_l0 {R : Type} (N : Nat) (k0 : (List (Int × Int)) → Option R) : Nat → (List (Int × Int)) → Int → (List (Int × Int)) → Option R
  | 0, _, _, _ => none
  | K + 1, a1, i, o =>
    (br (ilt i (tLen a1))
      ((chk (inb a1 i)
        ((laws_toIntA2 N (rdP a1 i)).bind fun r =>
        (chk (inb o i)
          (laws_toIntA2S_l0 N k0 K a1 (IntKind.i64.wrap (i + 1)) (tSet o i (r.1.1.1, r.1.1.2)))))))
      (k0 o))
noncomputable def laws_toIntA2S_l0_again {R : Type} (N : Nat) (ks : (j : Nat) → ((laws_toIntA2S_l0_ex.getD j (.ret, Sh.none)).2).T → Option R) (k : Nat) (x : laws_toIntA2S_l0_sh.T) : Option R :=
  laws_toIntA2S_l0 N (fun y0 => ks 0 (((), ()), (y0, ()))) k x.1.1 x.1.2.2.1 x.2.1
noncomputable def laws_toIntA2S_l0_s (N : Nat) : LSum := ⟨laws_toIntA2S_l0_sh, laws_toIntA2S_l0_ex, fun x ks => laws_toIntA2S_l0_again N ks N x⟩
theorem laws_toIntA2S_l0_step (N : Nat) (R : Type) (k : Nat) (x : laws_toIntA2S_l0_sh.T) (ks : (j : Nat) → ((laws_toIntA2S_l0_ex.getD j (.ret, Sh.none)).2).T → Option R) : laws_toIntA2S_l0_again N ks (k + 1) x = roundF (laws_toIntA2S_G N) tab [] (loopAt laws_toIntA2S_code 0) laws_toIntA2S_l0_sh laws_toIntA2S_l0_ex (fun y => laws_toIntA2S_l0_again N ks k y) ks x := by kernel_rfl
theorem laws_toIntA2S_l0_ok (N : Nat) : LoopOk Try.prog Try.f20.ntmps (laws_toIntA2S_l0_s N) (loopAt laws_toIntA2S_code 0) :=
  loop_ok (l := laws_toIntA2S_l0_s N) progOk (laws_toIntA2S_gok N) (draw_ok progOk (laws_toIntA2S_gok N)) (fun R k x ks => laws_toIntA2S_l0_again N ks k x) (fun _ _ _ => rfl) (fun R k x ks => laws_toIntA2S_l0_step N R k x ks) (fun R x ks r h => ⟨N, h⟩) (lsOk_at (L := []) trivial) (by kernel_rfl) (by kernel_rfl)
noncomputable def laws_toIntA2S (N : Nat) (a : (List (Int × Int))) : Option (((List (Int × Int)) × Unit) × (Unit)) :=
  (chk (ile 0 (tLen a) && ile (tLen a) (tLen a) && fits (tLen a))
    (laws_toIntA2S_l0 N (fun o => some ((o, ()), ())) N a 0 (tRep (tLen a) (0, 0))))
noncomputable def laws_toIntA2S_S (N : Nat) : FSum := ⟨laws_toIntA2S_ps, laws_toIntA2S_rs, fun x => laws_toIntA2S N x.1⟩
theorem laws_toIntA2S_run (N : Nat) (x : argsT laws_toIntA2S_ps) : laws_toIntA2S N x.1 = funF (laws_toIntA2S_G N) tab [laws_toIntA2S_l0_s N] Try.f20 laws_toIntA2S_ps laws_toIntA2S_rs x := by kernel_rfl
theorem laws_toIntA2S_pc (N : Nat) : PC Try.prog 20 (laws_toIntA2S_S N) := by
  have e : laws_toIntA2S_S N = ⟨laws_toIntA2S_ps, laws_toIntA2S_rs, funF (laws_toIntA2S_G N) tab [laws_toIntA2S_l0_s N] Try.f20 laws_toIntA2S_ps laws_toIntA2S_rs⟩ := congrArg (FSum.mk laws_toIntA2S_ps laws_toIntA2S_rs) (funext (laws_toIntA2S_run N))
  rw [e]
  exact fun_ok (c := laws_toIntA2S_code) progOk (laws_toIntA2S_gok N) (draw_ok progOk (laws_toIntA2S_gok N)) Try.call20 Try.func20 (by kernel_rfl) (lsOk_at (L := [laws_toIntA2S_l0_s N]) ⟨laws_toIntA2S_l0_ok N, trivial⟩) (by kernel_rfl) (by kernel_rfl) (by kernel_rfl) (by kernel_rfl) (by kernel_rfl)

/-! ### laws_toGraph -/
abbrev laws_toGraph_ps : List (PV.Mode × Ty) := [(.ro, QILQII)]
abbrev laws_toGraph_rs : List (Bool × Ty) := [(true, QILQII)]
noncomputable def laws_toGraph_G (N : Nat) : GTab := gOf [(20, laws_toIntA2S_S N)]
theorem laws_toGraph_gok (N : Nat) : GOk Try.prog (laws_toGraph_G N) := gOf_ok ⟨laws_toIntA2S_pc N, trivial⟩
noncomputable def laws_toGraph_code : Code := (Try.f7.body).getD .skip
noncomputable def laws_toGraph (N : Nat) (a : (Int × (List (Int × Int)))) : Option (((Int × (List (Int × Int))) × Unit) × (Unit)) :=
  ((laws_toIntA2S N a.2).bind fun r =>
    some (((a.1, r.1.1), ()), ()))
noncomputable def laws_toGraph_S (N : Nat) : FSum := ⟨laws_toGraph_ps, laws_toGraph_rs, fun x => laws_toGraph N x.1⟩
theorem laws_toGraph_run (N : Nat) (x : argsT laws_toGraph_ps) : laws_toGraph N x.1 = funF (laws_toGraph_G N) tab [] Try.f7 laws_toGraph_ps laws_toGraph_rs x := by kernel_rfl
theorem laws_toGraph_pc (N : Nat) : PC Try.prog 7 (laws_toGraph_S N) := by
  have e : laws_toGraph_S N = ⟨laws_toGraph_ps, laws_toGraph_rs, funF (laws_toGraph_G N) tab [] Try.f7 laws_toGraph_ps laws_toGraph_rs⟩ := congrArg (FSum.mk laws_toGraph_ps laws_toGraph_rs) (funext (laws_toGraph_run N))
  rw [e]
  exact fun_ok (c := laws_toGraph_code) progOk (laws_toGraph_gok N) (draw_ok progOk (laws_toGraph_gok N)) Try.call7 Try.func7 (by kernel_rfl) (lsOk_at (L := []) trivial) (by kernel_rfl) (by kernel_rfl) (by kernel_rfl) (by kernel_rfl) (by kernel_rfl)

/-! ### laws_toIntS -/
abbrev laws_toIntS_ps : List (PV.Mode × Ty) := [(.ro, LI)]
abbrev laws_toIntS_rs : List (Bool × Ty) := [(true, LI)]
noncomputable def laws_toIntS_G (N : Nat) : GTab := gOf []
theorem laws_toIntS_gok (N : Nat) : GOk Try.prog (laws_toIntS_G N) := gOf_ok trivial
noncomputable def laws_toIntS_code : Code := (Try.f8.body).getD .skip
noncomputable def laws_toIntS_l0_sh : Sh := ⟨[(0, .one (.ro LI)), (3, .one (.ref 0)), (4, .one (.ro I))], [.sl 3 I .own]⟩
noncomputable def laws_toIntS_l0_ex : List (Ex × Sh) := [(.exit 0, ⟨[(3, .one (.ref 0))], [.sl 3 I .own]⟩)]
noncomputable def laws_toIntS_l0 {R : Type} (N : Nat) (k0 : (List Int) → Option R) : Nat → (List Int) → Int → (List Int) → Option R
  | 0, _, _, _ => none
  | K + 1, a1, i, o =>
    (br (ilt i (tLen a1))
      ((chk (inb a1 i)
        (chk (inb o i)
        (laws_toIntS_l0 N k0 K a1 (IntKind.i64.wrap (i + 1)) (tSet o i (rdI a1 i))))))
      (k0 o))
noncomputable def laws_toIntS_l0_again {R : Type} (N : Nat) (ks : (j : Nat) → ((laws_toIntS_l0_ex.getD j (.ret, Sh.none)).2).T → Option R) (k : Nat) (x : laws_toIntS_l0_sh.T) : Option R :=
  laws_toIntS_l0 N (fun y0 => ks 0 (((), ()), (y0, ()))) k x.1.1 x.1.2.2.1 x.2.1
noncomputable def laws_toIntS_l0_s (N : Nat) : LSum := ⟨laws_toIntS_l0_sh, laws_toIntS_l0_ex, fun x ks => laws_toIntS_l0_again N ks N x⟩
theorem laws_toIntS_l0_step (N : Nat) (R : Type) (k : Nat) (x : laws_toIntS_l0_sh.T) (ks : (j : Nat) → ((laws_toIntS_l0_ex.getD j (.ret, Sh.none)).2).T → Option R) : laws_toIntS_l0_again N ks (k + 1) x = roundF (laws_toIntS_G N) tab [] (loopAt laws_toIntS_code 0) laws_toIntS_l0_sh laws_toIntS_l0_ex (fun y => laws_toIntS_l0_again N ks k y) ks x := by kernel_rfl
theorem laws_toIntS_l0_ok (N : Nat) : LoopOk Try.prog Try.f8.ntmps (laws_toIntS_l0_s N) (loopAt laws_toIntS_code 0) :=
  loop_ok (l := laws_toIntS_l0_s N) progOk (laws_toIntS_gok N) (draw_ok progOk (laws_toIntS_gok N)) (fun R k x ks => laws_toIntS_l0_again N ks k x) (fun _ _ _ => rfl) (fun R k x ks => laws_toIntS_l0_step N R k x ks) (fun R x ks r h => ⟨N, h⟩) (lsOk_at (L := []) trivial) (by kernel_rfl) (by kernel_rfl)
noncomputable def laws_toIntS (N : Nat) (a : (List Int)) : Option (((List Int) × Unit) × (Unit)) :=
  (chk (ile 0 (tLen a) && ile (tLen a) (tLen a) && fits (tLen a))
    (laws_toIntS_l0 N (fun o => some ((o, ()), ())) N a 0 (tRep (tLen a) (0 : Int))))
noncomputable def laws_toIntS_S (N : Nat) : FSum := ⟨laws_toIntS_ps, laws_toIntS_rs, fun x => laws_toIntS N x.1⟩
theorem laws_toIntS_run (N : Nat) (x : argsT laws_toIntS_ps) : laws_toIntS N x.1 = funF (laws_toIntS_G N) tab [laws_toIntS_l0_s N] Try.f8 laws_toIntS_ps laws_toIntS_rs x := by kernel_rfl
theorem laws_toIntS_pc (N : Nat) : PC Try.prog 8 (laws_toIntS_S N) := by
  have e : laws_toIntS_S N = ⟨laws_toIntS_ps, laws_toIntS_rs, funF (laws_toIntS_G N) tab [laws_toIntS_l0_s N] Try.f8 laws_toIntS_ps laws_toIntS_rs⟩ := congrArg (FSum.mk laws_toIntS_ps laws_toIntS_rs) (funext (laws_toIntS_run N))
  rw [e]
  exact fun_ok (c := laws_toIntS_code) progOk (laws_toIntS_gok N) (draw_ok progOk (laws_toIntS_gok N)) Try.call8 Try.func8 (by kernel_rfl) (lsOk_at (L := [laws_toIntS_l0_s N]) ⟨laws_toIntS_l0_ok N, trivial⟩) (by kernel_rfl) (by kernel_rfl) (by kernel_rfl) (by kernel_rfl) (by kernel_rfl)

/-! ### spec_l1In -/
abbrev spec_l1In_ps : List (PV.Mode × Ty) := [(.ro, I), (.ro, I), (.ro, I)]
abbrev spec_l1In_rs : List (Bool × Ty) := [(true, .bool)]
noncomputable def spec_l1In_G (N : Nat) : GTab := gOf []
theorem spec_l1In_gok (N : Nat) : GOk Try.prog (spec_l1In_G N) := gOf_ok trivial
noncomputable def spec_l1In_code : Code := (Try.f44.body).getD .skip
noncomputable def spec_l1In (N : Nat) (x : Int) (a : Int) (b : Int) : Option ((Bool × Unit) × (Unit)) :=
  (br (ile a x)
    (some (((ile x b), ()), ()))
    (some ((false, ()), ())))
noncomputable def spec_l1In_S (N : Nat) : FSum := ⟨spec_l1In_ps, spec_l1In_rs, fun x => spec_l1In N x.1 x.2.1 x.2.2.1⟩
theorem spec_l1In_run (N : Nat) (x : argsT spec_l1In_ps) : spec_l1In N x.1 x.2.1 x.2.2.1 = funF (spec_l1In_G N) tab [] Try.f44 spec_l1In_ps spec_l1In_rs x := by kernel_rfl
theorem spec_l1In_pc (N : Nat) : PC Try.prog 44 (spec_l1In_S N) := by
  have e : spec_l1In_S N = ⟨spec_l1In_ps, spec_l1In_rs, funF (spec_l1In_G N) tab [] Try.f44 spec_l1In_ps spec_l1In_rs⟩ := congrArg (FSum.mk spec_l1In_ps spec_l1In_rs) (funext (spec_l1In_run N))
  rw [e]
  exact fun_ok (c := spec_l1In_code) progOk (spec_l1In_gok N) (draw_ok progOk (spec_l1In_gok N)) Try.call44 Try.func44 (by kernel_rfl) (lsOk_at (L := []) trivial) (by kernel_rfl) (by kernel_rfl) (by kernel_rfl) (by kernel_rfl) (by kernel_rfl)

/-! ### spec_l2Edge -/
abbrev spec_l2Edge_ps : List (PV.Mode × Ty) := [(.ro, QII), (.ro, QII)]
abbrev spec_l2Edge_rs : List (Bool × Ty) := [(true, .bool)]
noncomputable def spec_l2Edge_G (N : Nat) : GTab := gOf []
theorem spec_l2Edge_gok (N : Nat) : GOk Try.prog (spec_l2Edge_G N) := gOf_ok trivial
noncomputable def spec_l2Edge_code : Code := (Try.f58.body).getD .skip
noncomputable def spec_l2Edge (N : Nat) (a : (Int × Int)) (b : (Int × Int)) : Option ((Bool × Unit) × (Unit)) :=
  (br (ilt a.1 b.1)
    (some ((true, ()), ()))
    ((br (ieq a.1 b.1)
      (some (((ilt a.2 b.2), ()), ()))
      (some ((false, ()), ())))))
noncomputable def spec_l2Edge_S (N : Nat) : FSum := ⟨spec_l2Edge_ps, spec_l2Edge_rs, fun x => spec_l2Edge N x.1 x.2.1⟩
theorem spec_l2Edge_run (N : Nat) (x : argsT spec_l2Edge_ps) : spec_l2Edge N x.1 x.2.1 = funF (spec_l2Edge_G N) tab [] Try.f58 spec_l2Edge_ps spec_l2Edge_rs x := by kernel_rfl
theorem spec_l2Edge_pc (N : Nat) : PC Try.prog 58 (spec_l2Edge_S N) := by
  have e : spec_l2Edge_S N = ⟨spec_l2Edge_ps, spec_l2Edge_rs, funF (spec_l2Edge_G N) tab [] Try.f58 spec_l2Edge_ps spec_l2Edge_rs⟩ := congrArg (FSum.mk spec_l2Edge_ps spec_l2Edge_rs) (funext (spec_l2Edge_run N))
  rw [e]
  exact fun_ok (c := spec_l2Edge_code) progOk (spec_l2Edge_gok N) (draw_ok progOk (spec_l2Edge_gok N)) Try.call58 Try.func58 (by kernel_rfl) (lsOk_at (L := []) trivial) (by kernel_rfl) (by kernel_rfl) (by kernel_rfl) (by kernel_rfl) (by kernel_rfl)

/-! ### spec_l2Pairs -/
abbrev spec_l2Pairs_ps : List (PV.Mode × Ty) := [(.ro, LQII), (.ro, I)]
abbrev spec_l2Pairs_rs : List (Bool × Ty) := [(true, .bool)]
noncomputable def spec_l2Pairs_G (N : Nat) : GTab := gOf [(44, spec_l1In_S N), (58, spec_l2Edge_S N)]
theorem spec_l2Pairs_gok (N : Nat) : GOk Try.prog (spec_l2Pairs_G N) := gOf_ok ⟨spec_l1In_pc N, spec_l2Edge_pc N, trivial⟩
noncomputable def spec_l2Pairs_code : Code := (Try.f45.body).getD .skip
noncomputable def spec_l2Pairs_l0_sh : Sh := ⟨[(0, .one (.ro LQII)), (1, .one (.ro I)), (5, .one (.ro I))], []⟩
noncomputable def spec_l2Pairs_l0_ex : List (Ex × Sh) := [(.ret, ⟨[(4, .one (.ro .bool))], []⟩), (.exit 0, ⟨[], []⟩)]
noncomputable def spec_l2Pairs_l0 {R : Type} (N : Nat) (k0 : Bool → Option R) (k1 : Unit → Option R) : Nat → (List (Int × Int)) → Int → Int → Option R
  | 0, _, _, _ => none
  | K + 1, pairs1, n1, i =>
    (br (ilt i (tLen pairs1))
      ((chk (inb pairs1 i)
        ((spec_l1In N ((rdP pairs1 i).1) 0 (IntKind.i64.wrap (n1 - 1))).bind fun r =>
        (br (!r.1.1)
          (k0 false)
          (((spec_l1In N ((rdP pairs1 i).2) 0 (IntKind.i64.wrap (n1 - 1))).bind fun r1 =>
            (br (!r1.1.1)
              (k0 false)
              ((br (ile ((rdP pairs1 i).2) ((rdP pairs1 i).1))
                (k0 false)
                ((br (ilt 0 i)
                  ((chk (inb pairs1 (IntKind.i64.wrap (i - 1)))
                    ((spec_l2Edge N (rdP pairs1 (IntKind.i64.wrap (i - 1))) ((rdP pairs1 i).1, (rdP pairs1 i).2)).bind fun r2 =>
                    (br (!r2.1.1)
                      (k0 false)
                      (spec_l2Pairs_l0 N k0 k1 K pairs1 n1 (IntKind.i64.wrap (i + 1)))))))
                  (spec_l2Pairs_l0 N k0 k1 K pairs1 n1 (IntKind.i64.wrap (i + 1))))))))))))))
      (k1 ()))
noncomputable def spec_l2Pairs_l0_again {R : Type} (N : Nat) (ks : (j : Nat) → ((spec_l2Pairs_l0_ex.getD j (.ret, Sh.none)).2).T → Option R) (k : Nat) (x : spec_l2Pairs_l0_sh.T) : Option R :=
  spec_l2Pairs_l0 N (fun y0 => ks 0 ((y0, ()), ())) (fun (_ : Unit) => ks 1 ((), ())) k x.1.1 x.1.2.1 x.1.2.2.1
noncomputable def spec_l2Pairs_l0_s (N : Nat) : LSum := ⟨spec_l2Pairs_l0_sh, spec_l2Pairs_l0_ex, fun x ks => spec_l2Pairs_l0_again N ks N x⟩
theorem spec_l2Pairs_l0_step (N : Nat) (R : Type) (k : Nat) (x : spec_l2Pairs_l0_sh.T) (ks : (j : Nat) → ((spec_l2Pairs_l0_ex.getD j (.ret, Sh.none)).2).T → Option R) : spec_l2Pairs_l0_again N ks (k + 1) x = roundF (spec_l2Pairs_G N) tab [] (loopAt spec_l2Pairs_code 0) spec_l2Pairs_l0_sh spec_l2Pairs_l0_ex (fun y => spec_l2Pairs_l0_again N ks k y) ks x := by kernel_rfl
theorem spec_l2Pairs_l0_ok (N : Nat) : LoopOk Try.prog Try.f45.ntmps (spec_l2Pairs_l0_s N) (loopAt spec_l2Pairs_code 0) :=
  loop_ok (l := spec_l2Pairs_l0_s N) progOk (spec_l2Pairs_gok N) (draw_ok progOk (spec_l2Pairs_gok N)) (fun R k x ks => spec_l2Pairs_l0_again N ks k x) (fun _ _ _ => rfl) (fun R k x ks => spec_l2Pairs_l0_step N R k x ks) (fun R x ks r h => ⟨N, h⟩) (lsOk_at (L := []) trivial) (by kernel_rfl) (by kernel_rfl)
noncomputable def spec_l2Pairs (N : Nat) (pairs : (List (Int × Int))) (n : Int) : Option ((Bool × Unit) × (Unit)) :=
  spec_l2Pairs_l0 N (fun x => some ((x, ()), ())) (fun (_ : Unit) => some ((true, ()), ())) N pairs n 0
noncomputable def spec_l2Pairs_S (N : Nat) : FSum := ⟨spec_l2Pairs_ps, spec_l2Pairs_rs, fun x => spec_l2Pairs N x.1 x.2.1⟩
theorem spec_l2Pairs_run (N : Nat) (x : argsT spec_l2Pairs_ps) : spec_l2Pairs N x.1 x.2.1 = funF (spec_l2Pairs_G N) tab [spec_l2Pairs_l0_s N] Try.f45 spec_l2Pairs_ps spec_l2Pairs_rs x := by kernel_rfl
theorem spec_l2Pairs_pc (N : Nat) : PC Try.prog 45 (spec_l2Pairs_S N) := by
  have e : spec_l2Pairs_S N = ⟨spec_l2Pairs_ps, spec_l2Pairs_rs, funF (spec_l2Pairs_G N) tab [spec_l2Pairs_l0_s N] Try.f45 spec_l2Pairs_ps spec_l2Pairs_rs⟩ := congrArg (FSum.mk spec_l2Pairs_ps spec_l2Pairs_rs) (funext (spec_l2Pairs_run N))
  rw [e]
  exact fun_ok (c := spec_l2Pairs_code) progOk (spec_l2Pairs_gok N) (draw_ok progOk (spec_l2Pairs_gok N)) Try.call45 Try.func45 (by kernel_rfl) (lsOk_at (L := [spec_l2Pairs_l0_s N]) ⟨spec_l2Pairs_l0_ok N, trivial⟩) (by kernel_rfl) (by kernel_rfl) (by kernel_rfl) (by kernel_rfl) (by kernel_rfl)

/-! ### spec_l2Good -/
abbrev spec_l2Good_ps : List (PV.Mode × Ty) := [(.ro, QILQII)]
abbrev spec_l2Good_rs : List (Bool × Ty) := [(true, .bool)]
noncomputable def spec_l2Good_G (N : Nat) : GTab := gOf [(44, spec_l1In_S N), (45, spec_l2Pairs_S N)]
theorem spec_l2Good_gok (N : Nat) : GOk Try.prog (spec_l2Good_G N) := gOf_ok ⟨spec_l1In_pc N, spec_l2Pairs_pc N, trivial⟩
noncomputable def spec_l2Good_code : Code := (Try.f25.body).getD .skip
noncomputable def spec_l2Good (N : Nat) (g : (Int × (List (Int × Int)))) : Option ((Bool × Unit) × (Unit)) :=
  ((spec_l1In N g.1 0 8).bind fun r =>
    (br r.1.1
      (((spec_l2Pairs N g.2 g.1).bind fun r1 =>
        some ((r1.1.1, ()), ())))
      (some ((false, ()), ()))))
noncomputable def spec_l2Good_S (N : Nat) : FSum := ⟨spec_l2Good_ps, spec_l2Good_rs, fun x => spec_l2Good N x.1⟩
theorem spec_l2Good_run (N : Nat) (x : argsT spec_l2Good_ps) : spec_l2Good N x.1 = funF (spec_l2Good_G N) tab [] Try.f25 spec_l2Good_ps spec_l2Good_rs x := by kernel_rfl
theorem spec_l2Good_pc (N : Nat) : PC Try.prog 25 (spec_l2Good_S N) := by
  have e : spec_l2Good_S N = ⟨spec_l2Good_ps, spec_l2Good_rs, funF (spec_l2Good_G N) tab [] Try.f25 spec_l2Good_ps spec_l2Good_rs⟩ := congrArg (FSum.mk spec_l2Good_ps spec_l2Good_rs) (funext (spec_l2Good_run N))
  rw [e]
  exact fun_ok (c := spec_l2Good_code) progOk (spec_l2Good_gok N) (draw_ok progOk (spec_l2Good_gok N)) Try.call25 Try.func25 (by kernel_rfl) (lsOk_at (L := []) trivial) (by kernel_rfl) (by kernel_rfl) (by kernel_rfl) (by kernel_rfl) (by kernel_rfl)

/-! ### spec_l1Has -/
abbrev spec_l1Has_ps : List (PV.Mode × Ty) := [(.ro, LI), (.ro, I)]
abbrev spec_l1Has_rs : List (Bool × Ty) := [(true, .bool)]
noncomputable def spec_l1Has_G (N : Nat) : GTab := gOf []
theorem spec_l1Has_gok (N : Nat) : GOk Try.prog (spec_l1Has_G N) := gOf_ok trivial
noncomputable def spec_l1Has_code : Code := (Try.f19.body).getD .skip
noncomputable def spec_l1Has_l0_sh : Sh := ⟨[(0, .one (.ro LI)), (1, .one (.ro I)), (5, .one (.ro I))], []⟩
noncomputable def spec_l1Has_l0_ex : List (Ex × Sh) := [(.ret, ⟨[(4, .one (.ro .bool))], []⟩), (.exit 0, ⟨[], []⟩)]
noncomputable def spec_l1Has_l0 {R : Type} (N : Nat) (k0 : Bool → Option R) (k1 : Unit → Option R) : Nat → (List Int) → Int → Int → Option R
  | 0, _, _, _ => none
  | K + 1, l1, n1, i =>
    (br (ilt i (tLen l1))
      ((chk (inb l1 i)
        (br (ieq (rdI l1 i) n1)
        (k0 true)
        (spec_l1Has_l0 N k0 k1 K l1 n1 (IntKind.i64.wrap (i + 1))))))
      (k1 ()))
noncomputable def spec_l1Has_l0_again {R : Type} (N : Nat) (ks : (j : Nat) → ((spec_l1Has_l0_ex.getD j (.ret, Sh.none)).2).T → Option R) (k : Nat) (x : spec_l1Has_l0_sh.T) : Option R :=
  spec_l1Has_l0 N (fun y0 => ks 0 ((y0, ()), ())) (fun (_ : Unit) => ks 1 ((), ())) k x.1.1 x.1.2.1 x.1.2.2.1
noncomputable def spec_l1Has_l0_s (N : Nat) : LSum := ⟨spec_l1Has_l0_sh, spec_l1Has_l0_ex, fun x ks => spec_l1Has_l0_again N ks N x⟩
theorem spec_l1Has_l0_step (N : Nat) (R : Type) (k : Nat) (x : spec_l1Has_l0_sh.T) (ks : (j : Nat) → ((spec_l1Has_l0_ex.getD j (.ret, Sh.none)).2).T → Option R) : spec_l1Has_l0_again N ks (k + 1) x = roundF (spec_l1Has_G N) tab [] (loopAt spec_l1Has_code 0) spec_l1Has_l0_sh spec_l1Has_l0_ex (fun y => spec_l1Has_l0_again N ks k y) ks x := by kernel_rfl
theorem spec_l1Has_l0_ok (N : Nat) : LoopOk Try.prog Try.f19.ntmps (spec_l1Has_l0_s N) (loopAt spec_l1Has_code 0) :=
  loop_ok (l := spec_l1Has_l0_s N) progOk (spec_l1Has_gok N) (draw_ok progOk (spec_l1Has_gok N)) (fun R k x ks => spec_l1Has_l0_again N ks k x) (fun _ _ _ => rfl) (fun R k x ks => spec_l1Has_l0_step N R k x ks) (fun R x ks r h => ⟨N, h⟩) (lsOk_at (L := []) trivial) (by kernel_rfl) (by kernel_rfl)
noncomputable def spec_l1Has (N : Nat) (l : (List Int)) (n : Int) : Option ((Bool × Unit) × (Unit)) :=
  spec_l1Has_l0 N (fun x => some ((x, ()), ())) (fun (_ : Unit) => some ((false, ()), ())) N l n 0
noncomputable def spec_l1Has_S (N : Nat) : FSum := ⟨spec_l1Has_ps, spec_l1Has_rs, fun x => spec_l1Has N x.1 x.2.1⟩
theorem spec_l1Has_run (N : Nat) (x : argsT spec_l1Has_ps) : spec_l1Has N x.1 x.2.1 = funF (spec_l1Has_G N) tab [spec_l1Has_l0_s N] Try.f19 spec_l1Has_ps spec_l1Has_rs x := by kernel_rfl
theorem spec_l1Has_pc (N : Nat) : PC Try.prog 19 (spec_l1Has_S N) := by
  have e : spec_l1Has_S N = ⟨spec_l1Has_ps, spec_l1Has_rs, funF (spec_l1Has_G N) tab [spec_l1Has_l0_s N] Try.f19 spec_l1Has_ps spec_l1Has_rs⟩ := congrArg (FSum.mk spec_l1Has_ps spec_l1Has_rs) (funext (spec_l1Has_run N))
  rw [e]
  exact fun_ok (c := spec_l1Has_code) progOk (spec_l1Has_gok N) (draw_ok progOk (spec_l1Has_gok N)) Try.call19 Try.func19 (by kernel_rfl) (lsOk_at (L := [spec_l1Has_l0_s N]) ⟨spec_l1Has_l0_ok N, trivial⟩) (by kernel_rfl) (by kernel_rfl) (by kernel_rfl) (by kernel_rfl) (by kernel_rfl)

/-! ### spec_l5Order -/
abbrev spec_l5Order_ps : List (PV.Mode × Ty) := [(.ro, QILQII), (.ro, LI)]
abbrev spec_l5Order_rs : List (Bool × Ty) := [(true, .bool)]
noncomputable def spec_l5Order_G (N : Nat) : GTab := gOf [(19, spec_l1Has_S N)]
theorem spec_l5Order_gok (N : Nat) : GOk Try.prog (spec_l5Order_G N) := gOf_ok ⟨spec_l1Has_pc N, trivial⟩
noncomputable def spec_l5Order_code : Code := (Try.f26.body).getD .skip
noncomputable def spec_l5Order_l0_sh : Sh := ⟨[(1, .one (.ro LI)), (2, .one (.adr 0 0)), (5, .one (.ro I))], [.box [.ro I, .ro LQII]]⟩
noncomputable def spec_l5Order_l0_ex : List (Ex × Sh) := [(.ret, ⟨[(4, .one (.ro .bool))], []⟩), (.exit 0, ⟨[(1, .one (.ro LI)), (2, .one (.adr 0 0))], [.box [.ro I, .ro LQII]]⟩)]
noncomputable def spec_l5Order_l0 {R : Type} (N : Nat) (k0 : Bool → Option R) (k1 : (List Int) → Int → (List (Int × Int)) → Option R) : Nat → (List Int) → Int → Int → (List (Int × Int)) → Option R
  | 0, _, _, _, _ => none
  | K + 1, order1, x, o, o1 =>
    (br (ilt x o)
      (((spec_l1Has N order1 x).bind fun r =>
        (br (!r.1.1)
          (k0 false)
          (spec_l5Order_l0 N k0 k1 K order1 (IntKind.i64.wrap (x + 1)) o o1))))
      (k1 order1 o o1))
noncomputable def spec_l5Order_l0_again {R : Type} (N : Nat) (ks : (j : Nat) → ((spec_l5Order_l0_ex.getD j (.ret, Sh.none)).2).T → Option R) (k : Nat) (x : spec_l5Order_l0_sh.T) : Option R :=
  spec_l5Order_l0 N (fun y0 => ks 0 ((y0, ()), ())) (fun y0 y1 y2 => ks 1 ((y0, (), ()), ((y1, y2, ()), ()))) k x.1.1 x.1.2.2.1 x.2.1.1 x.2.1.2.1
noncomputable def spec_l5Order_l0_s (N : Nat) : LSum := ⟨spec_l5Order_l0_sh, spec_l5Order_l0_ex, fun x ks => spec_l5Order_l0_again N ks N x⟩
theorem spec_l5Order_l0_step (N : Nat) (R : Type) (k : Nat) (x : spec_l5Order_l0_sh.T) (ks : (j : Nat) → ((spec_l5Order_l0_ex.getD j (.ret, Sh.none)).2).T → Option R) : spec_l5Order_l0_again N ks (k + 1) x = roundF (spec_l5Order_G N) tab [] (loopAt spec_l5Order_code 0) spec_l5Order_l0_sh spec_l5Order_l0_ex (fun y => spec_l5Order_l0_again N ks k y) ks x := by kernel_rfl
theorem spec_l5Order_l0_ok (N : Nat) : LoopOk Try.prog Try.f26.ntmps (spec_l5Order_l0_s N) (loopAt spec_l5Order_code 0) :=
  loop_ok (l := spec_l5Order_l0_s N) progOk (spec_l5Order_gok N) (draw_ok progOk (spec_l5Order_gok N)) (fun R k x ks => spec_l5Order_l0_again N ks k x) (fun _ _ _ => rfl) (fun R k x ks => spec_l5Order_l0_step N R k x ks) (fun R x ks r h => ⟨N, h⟩) (lsOk_at (L := []) trivial) (by kernel_rfl) (by kernel_rfl)
noncomputable def spec_l5Order (N : Nat) (g : (Int × (List (Int × Int)))) (order : (List Int)) : Option ((Bool × Unit) × (Unit)) :=
  spec_l5Order_l0 N (fun x => some ((x, ()), ())) (fun order1 o o1 => some (((ieq (tLen order1) o), ()), ())) N order 0 g.1 g.2
noncomputable def spec_l5Order_S (N : Nat) : FSum := ⟨spec_l5Order_ps, spec_l5Order_rs, fun x => spec_l5Order N x.1 x.2.1⟩
theorem spec_l5Order_run (N : Nat) (x : argsT spec_l5Order_ps) : spec_l5Order N x.1 x.2.1 = funF (spec_l5Order_G N) tab [spec_l5Order_l0_s N] Try.f26 spec_l5Order_ps spec_l5Order_rs x := by kernel_rfl
theorem spec_l5Order_pc (N : Nat) : PC Try.prog 26 (spec_l5Order_S N) := by
  have e : spec_l5Order_S N = ⟨spec_l5Order_ps, spec_l5Order_rs, funF (spec_l5Order_G N) tab [spec_l5Order_l0_s N] Try.f26 spec_l5Order_ps spec_l5Order_rs⟩ := congrArg (FSum.mk spec_l5Order_ps spec_l5Order_rs) (funext (spec_l5Order_run N))
  rw [e]
  exact fun_ok (c := spec_l5Order_code) progOk (spec_l5Order_gok N) (draw_ok progOk (spec_l5Order_gok N)) Try.call26 Try.func26 (by kernel_rfl) (lsOk_at (L := [spec_l5Order_l0_s N]) ⟨spec_l5Order_l0_ok N, trivial⟩) (by kernel_rfl) (by kernel_rfl) (by kernel_rfl) (by kernel_rfl) (by kernel_rfl)

/-! ### spec_l2Near -/
abbrev spec_l2Near_ps : List (PV.Mode × Ty) := [(.ro, QILQII), (.ro, I), (.ro, I)]
abbrev spec_l2Near_rs : List (Bool × Ty) := [(true, .bool)]
noncomputable def spec_l2Near_G (N : Nat) : GTab := gOf []
theorem spec_l2Near_gok (N : Nat) : GOk Try.prog (spec_l2Near_G N) := gOf_ok trivial
noncomputable def spec_l2Near_code : Code := (Try.f27.body).getD .skip
noncomputable def spec_l2Near_l0_sh : Sh := ⟨[(1, .one (.ro I)), (2, .one (.ro I)), (3, .one (.adr 0 0)), (7, .one (.ro I))], [.box [.ro I, .ro LQII]]⟩
noncomputable def spec_l2Near_l0_ex : List (Ex × Sh) := [(.ret, ⟨[(6, .one (.ro .bool))], []⟩), (.exit 0, ⟨[], []⟩)]
noncomputable def spec_l2Near_l0 {R : Type} (N : Nat) (k0 : Bool → Option R) (k1 : Unit → Option R) : Nat → Int → Int → Int → Int → (List (Int × Int)) → Option R
  | 0, _, _, _, _, _ => none
  | K + 1, a1, b1, i, o, o1 =>
    (br (ilt i (tLen o1))
      ((chk (inb o1 i)
        (br (ieq ((rdP o1 i).1) a1)
        ((br (ieq ((rdP o1 i).2) b1)
          (k0 true)
          ((br (ieq ((rdP o1 i).1) b1)
            ((br (ieq ((rdP o1 i).2) a1)
              (k0 true)
              (spec_l2Near_l0 N k0 k1 K a1 b1 (IntKind.i64.wrap (i + 1)) o o1)))
            (spec_l2Near_l0 N k0 k1 K a1 b1 (IntKind.i64.wrap (i + 1)) o o1)))))
        ((br (ieq ((rdP o1 i).1) b1)
          ((br (ieq ((rdP o1 i).2) a1)
            (k0 true)
            (spec_l2Near_l0 N k0 k1 K a1 b1 (IntKind.i64.wrap (i + 1)) o o1)))
          (spec_l2Near_l0 N k0 k1 K a1 b1 (IntKind.i64.wrap (i + 1)) o o1))))))
      (k1 ()))
noncomputable def spec_l2Near_l0_again {R : Type} (N : Nat) (ks : (j : Nat) → ((spec_l2Near_l0_ex.getD j (.ret, Sh.none)).2).T → Option R) (k : Nat) (x : spec_l2Near_l0_sh.T) : Option R :=
  spec_l2Near_l0 N (fun y0 => ks 0 ((y0, ()), ())) (fun (_ : Unit) => ks 1 ((), ())) k x.1.1 x.1.2.1 x.1.2.2.2.1 x.2.1.1 x.2.1.2.1
noncomputable def spec_l2Near_l0_s (N : Nat) : LSum := ⟨spec_l2Near_l0_sh, spec_l2Near_l0_ex, fun x ks => spec_l2Near_l0_again N ks N x⟩
theorem spec_l2Near_l0_step (N : Nat) (R : Type) (k : Nat) (x : spec_l2Near_l0_sh.T) (ks : (j : Nat) → ((spec_l2Near_l0_ex.getD j (.ret, Sh.none)).2).T → Option R) : spec_l2Near_l0_again N ks (k + 1) x = roundF (spec_l2Near_G N) tab [] (loopAt spec_l2Near_code 0) spec_l2Near_l0_sh spec_l2Near_l0_ex (fun y => spec_l2Near_l0_again N ks k y) ks x := by kernel_rfl
theorem spec_l2Near_l0_ok (N : Nat) : LoopOk Try.prog Try.f27.ntmps (spec_l2Near_l0_s N) (loopAt spec_l2Near_code 0) :=
  loop_ok (l := spec_l2Near_l0_s N) progOk (spec_l2Near_gok N) (draw_ok progOk (spec_l2Near_gok N)) (fun R k x ks => spec_l2Near_l0_again N ks k x) (fun _ _ _ => rfl) (fun R k x ks => spec_l2Near_l0_step N R k x ks) (fun R x ks r h => ⟨N, h⟩) (lsOk_at (L := []) trivial) (by kernel_rfl) (by kernel_rfl)
noncomputable def spec_l2Near (N : Nat) (g : (Int × (List (Int × Int)))) (a : Int) (b : Int) : Option ((Bool × Unit) × (Unit)) :=
  spec_l2Near_l0 N (fun x => some ((x, ()), ())) (fun (_ : Unit) => some ((false, ()), ())) N a b 0 g.1 g.2
noncomputable def spec_l2Near_S (N : Nat) : FSum := ⟨spec_l2Near_ps, spec_l2Near_rs, fun x => spec_l2Near N x.1 x.2.1 x.2.2.1⟩
theorem spec_l2Near_run (N : Nat) (x : argsT spec_l2Near_ps) : spec_l2Near N x.1 x.2.1 x.2.2.1 = funF (spec_l2Near_G N) tab [spec_l2Near_l0_s N] Try.f27 spec_l2Near_ps spec_l2Near_rs x := by kernel_rfl
theorem spec_l2Near_pc (N : Nat) : PC Try.prog 27 (spec_l2Near_S N) := by
  have e : spec_l2Near_S N = ⟨spec_l2Near_ps, spec_l2Near_rs, funF (spec_l2Near_G N) tab [spec_l2Near_l0_s N] Try.f27 spec_l2Near_ps spec_l2Near_rs⟩ := congrArg (FSum.mk spec_l2Near_ps spec_l2Near_rs) (funext (spec_l2Near_run N))
  rw [e]
  exact fun_ok (c := spec_l2Near_code) progOk (spec_l2Near_gok N) (draw_ok progOk (spec_l2Near_gok N)) Try.call27 Try.func27 (by kernel_rfl) (lsOk_at (L := [spec_l2Near_l0_s N]) ⟨spec_l2Near_l0_ok N, trivial⟩) (by kernel_rfl) (by kernel_rfl) (by kernel_rfl) (by kernel_rfl) (by kernel_rfl)

/-! ### spec_GreedyColours -/
abbrev spec_GreedyColours_ps : List (PV.Mode × Ty) := [(.ro, QILQII), (.ro, LI)]
abbrev spec_GreedyColours_rs : List (Bool × Ty) := [(true, LI), (true, .bool)]
noncomputable def spec_GreedyColours_G (N : Nat) : GTab := gOf [(25, spec_l2Good_S N), (26, spec_l5Order_S N), (27, spec_l2Near_S N), (19, spec_l1Has_S N)]
theorem spec_GreedyColours_gok (N : Nat) : GOk Try.prog (spec_GreedyColours_G N) := gOf_ok ⟨spec_l2Good_pc N, spec_l5Order_pc N, spec_l2Near_pc N, spec_l1Has_pc N, trivial⟩
noncomputable def spec_GreedyColours_code : Code := (Try.f15.body).getD .skip
noncomputable def spec_GreedyColours_l0_0_sh : Sh := ⟨[(1, .one (.ro LI)), (2, .one (.adr 0 0)), (6, .one (.ref 1)), (7, .one (.ro I)), (8, .one (.ref 2)), (9, .one (.ro I))], [.box [.ro I, .ro LQII], .sl 3 I .own, .sl 3 I .own]⟩
noncomputable def spec_GreedyColours_l0_0_ex : List (Ex × Sh) := [(.exit 2, ⟨[(1, .one (.ro LI)), (2, .one (.adr 0 0)), (6, .one (.ref 1)), (7, .one (.ro I)), (8, .one (.ref 2))], [.box [.ro I, .ro LQII], .sl 3 I .own, .sl 3 I .own]⟩)]
noncomputable def spec_GreedyColours_l0_0 {R : Type} (N : Nat) (k0 : (List Int) → Int → Int → (List (Int × Int)) → (List Int) → (List Int) → Option R) : Nat → (List Int) → Int → Int → Int → (List (Int × Int)) → (List Int) → (List Int) → Option R
  | 0, _, _, _, _, _, _, _ => none
  | K + 1, x2, x3, x4, o3, o4, o5, o6 =>
    (br (ilt x4 x3)
      ((chk (inb x2 x4)
        (chk (inb x2 x3)
        ((spec_l2Near N (o3, o4) (rdI x2 x4) (rdI x2 x3)).bind fun r2 =>
        (br r2.1.1
          ((chk (inb x2 x4)
            (chk (inb o5 (rdI x2 x4))
            (chk (room o6 [(rdI o5 (rdI x2 x4))])
            (spec_GreedyColours_l0_0 N k0 K x2 x3 (IntKind.i64.wrap (x4 + 1)) o3 o4 o5 (tApp o6 [(rdI o5 (rdI x2 x4))]))))))
          (spec_GreedyColours_l0_0 N k0 K x2 x3 (IntKind.i64.wrap (x4 + 1)) o3 o4 o5 o6))))))
      (k0 x2 x3 o3 o4 o5 o6))
noncomputable def spec_GreedyColours_l0_0_again {R : Type} (N : Nat) (ks : (j : Nat) → ((spec_GreedyColours_l0_0_ex.getD j (.ret, Sh.none)).2).T → Option R) (k : Nat) (x : spec_GreedyColours_l0_0_sh.T) : Option R :=
  spec_GreedyColours_l0_0 N (fun y0 y1 y2 y3 y4 y5 => ks 0 ((y0, (), (), y1, (), ()), ((y2, y3, ()), y4, y5, ()))) k x.1.1 x.1.2.2.2.1 x.1.2.2.2.2.2.1 x.2.1.1 x.2.1.2.1 x.2.2.1 x.2.2.2.1
noncomputable def spec_GreedyColours_l0_0_s (N : Nat) : LSum := ⟨spec_GreedyColours_l0_0_sh, spec_GreedyColours_l0_0_ex, fun x ks => spec_GreedyColours_l0_0_again N ks N x⟩
theorem spec_GreedyColours_l0_0_step (N : Nat) (R : Type) (k : Nat) (x : spec_GreedyColours_l0_0_sh.T) (ks : (j : Nat) → ((spec_GreedyColours_l0_0_ex.getD j (.ret, Sh.none)).2).T → Option R) : spec_GreedyColours_l0_0_again N ks (k + 1) x = roundF (spec_GreedyColours_G N) tab [] (loopAt (loopAt spec_GreedyColours_code 0) 0) spec_GreedyColours_l0_0_sh spec_GreedyColours_l0_0_ex (fun y => spec_GreedyColours_l0_0_again N ks k y) ks x := by kernel_rfl
theorem spec_GreedyColours_l0_0_ok (N : Nat) : LoopOk Try.prog Try.f15.ntmps (spec_GreedyColours_l0_0_s N) (loopAt (loopAt spec_GreedyColours_code 0) 0) :=
  loop_ok (l := spec_GreedyColours_l0_0_s N) progOk (spec_GreedyColours_gok N) (draw_ok progOk (spec_GreedyColours_gok N)) (fun R k x ks => spec_GreedyColours_l0_0_again N ks k x) (fun _ _ _ => rfl) (fun R k x ks => spec_GreedyColours_l0_0_step N R k x ks) (fun R x ks r h => ⟨N, h⟩) (lsOk_at (L := []) trivial) (by kernel_rfl) (by kernel_rfl)
noncomputable def spec_GreedyColours_l0_1_sh : Sh := ⟨[(1, .one (.ro LI)), (2, .one (.adr 0 0)), (6, .one (.ref 1)), (7, .one (.ro I)), (8, .one (.ref 2))], [.box [.ro I, .ro LQII], .sl 3 I .own, .sl 3 I .own]⟩
noncomputable def spec_GreedyColours_l0_1_ex : List (Ex × Sh) := [(.exit 4, ⟨[(1, .one (.ro LI)), (2, .one (.adr 0 0)), (6, .one (.ref 1)), (7, .one (.ro I))], [.box [.ro I, .ro LQII], .sl 3 I .own]⟩)]
noncomputable def spec_GreedyColours_l0_1 {R : Type} (N : Nat) (k0 : (List Int) → Int → Int → (List (Int × Int)) → (List Int) → Option R) : Nat → (List Int) → Int → Int → (List (Int × Int)) → (List Int) → (List Int) → Option R
  | 0, _, _, _, _, _, _ => none
  | K + 1, x4, x5, o7, o8, o9, o10 =>
    (chk (inb x4 x5)
      (chk (inb o9 (rdI x4 x5))
      ((spec_l1Has N o10 (rdI o9 (rdI x4 x5))).bind fun r2 =>
      (br r2.1.1
        ((chk (inb x4 x5)
          (chk (inb o9 (rdI x4 x5))
          (chk (inb o9 (rdI x4 x5))
          (spec_GreedyColours_l0_1 N k0 K x4 x5 o7 o8 (tSet o9 (rdI x4 x5) (IntKind.i64.wrap ((rdI o9 (rdI x4 x5)) + 1))) o10)))))
        (k0 x4 x5 o7 o8 o9)))))
noncomputable def spec_GreedyColours_l0_1_again {R : Type} (N : Nat) (ks : (j : Nat) → ((spec_GreedyColours_l0_1_ex.getD j (.ret, Sh.none)).2).T → Option R) (k : Nat) (x : spec_GreedyColours_l0_1_sh.T) : Option R :=
  spec_GreedyColours_l0_1 N (fun y0 y1 y2 y3 y4 => ks 0 ((y0, (), (), y1, ()), ((y2, y3, ()), y4, ()))) k x.1.1 x.1.2.2.2.1 x.2.1.1 x.2.1.2.1 x.2.2.1 x.2.2.2.1
noncomputable def spec_GreedyColours_l0_1_s (N : Nat) : LSum := ⟨spec_GreedyColours_l0_1_sh, spec_GreedyColours_l0_1_ex, fun x ks => spec_GreedyColours_l0_1_again N ks N x⟩
theorem spec_GreedyColours_l0_1_step (N : Nat) (R : Type) (k : Nat) (x : spec_GreedyColours_l0_1_sh.T) (ks : (j : Nat) → ((spec_GreedyColours_l0_1_ex.getD j (.ret, Sh.none)).2).T → Option R) : spec_GreedyColours_l0_1_again N ks (k + 1) x = roundF (spec_GreedyColours_G N) tab [] (loopAt (loopAt spec_GreedyColours_code 0) 1) spec_GreedyColours_l0_1_sh spec_GreedyColours_l0_1_ex (fun y => spec_GreedyColours_l0_1_again N ks k y) ks x := by kernel_rfl
theorem spec_GreedyColours_l0_1_ok (N : Nat) : LoopOk Try.prog Try.f15.ntmps (spec_GreedyColours_l0_1_s N) (loopAt (loopAt spec_GreedyColours_code 0) 1) :=
  loop_ok (l := spec_GreedyColours_l0_1_s N) progOk (spec_GreedyColours_gok N) (draw_ok progOk (spec_GreedyColours_gok N)) (fun R k x ks => spec_GreedyColours_l0_1_again N ks k x) (fun _ _ _ => rfl) (fun R k x ks => spec_GreedyColours_l0_1_step N R k x ks) (fun R x ks r h => ⟨N, h⟩) (lsOk_at (L := []) trivial) (by kernel_rfl) (by kernel_rfl)
noncomputable def spec_GreedyColours_l0_sh : Sh := ⟨[(1, .one (.ro LI)), (2, .one (.adr 0 0)), (6, .one (.ref 1)), (7, .one (.ro I))], [.box [.ro I, .ro LQII], .sl 3 I .own]⟩
noncomputable def spec_GreedyColours_l0_ex : List (Ex × Sh) := [(.exit 0, ⟨[(6, .one (.ref 0))], [.sl 3 I .own]⟩)]
noncomputable def spec_GreedyColours_l0 {R : Type} (N : Nat) (k0 : (List Int) → Option R) : Nat → (List Int) → Int → Int → (List (Int × Int)) → (List Int) → Option R
  | 0, _, _, _, _, _ => none
  | K + 1, x, x1, o, o1, o2 =>
    (br (ilt x1 (tLen x))
      (spec_GreedyColours_l0_0 N (fun x2 x3 o3 o4 o5 o6 => spec_GreedyColours_l0_1 N (fun x4 x5 o7 o8 o9 => spec_GreedyColours_l0 N k0 K x4 (IntKind.i64.wrap (x5 + 1)) o7 o8 o9) N x2 x3 o3 o4 o5 o6) N x x1 0 o o1 o2 [])
      (k0 o2))
noncomputable def spec_GreedyColours_l0_again {R : Type} (N : Nat) (ks : (j : Nat) → ((spec_GreedyColours_l0_ex.getD j (.ret, Sh.none)).2).T → Option R) (k : Nat) (x : spec_GreedyColours_l0_sh.T) : Option R :=
  spec_GreedyColours_l0 N (fun y0 => ks 0 (((), ()), (y0, ()))) k x.1.1 x.1.2.2.2.1 x.2.1.1 x.2.1.2.1 x.2.2.1
noncomputable def spec_GreedyColours_l0_s (N : Nat) : LSum := ⟨spec_GreedyColours_l0_sh, spec_GreedyColours_l0_ex, fun x ks => spec_GreedyColours_l0_again N ks N x⟩
theorem spec_GreedyColours_l0_step (N : Nat) (R : Type) (k : Nat) (x : spec_GreedyColours_l0_sh.T) (ks : (j : Nat) → ((spec_GreedyColours_l0_ex.getD j (.ret, Sh.none)).2).T → Option R) : spec_GreedyColours_l0_again N ks (k + 1) x = roundF (spec_GreedyColours_G N) tab [spec_GreedyColours_l0_0_s N, spec_GreedyColours_l0_1_s N] (loopAt spec_GreedyColours_code 0) spec_GreedyColours_l0_sh spec_GreedyColours_l0_ex (fun y => spec_GreedyColours_l0_again N ks k y) ks x := by kernel_rfl
theorem spec_GreedyColours_l0_ok (N : Nat) : LoopOk Try.prog Try.f15.ntmps (spec_GreedyColours_l0_s N) (loopAt spec_GreedyColours_code 0) :=
  loop_ok (l := spec_GreedyColours_l0_s N) progOk (spec_GreedyColours_gok N) (draw_ok progOk (spec_GreedyColours_gok N)) (fun R k x ks => spec_GreedyColours_l0_again N ks k x) (fun _ _ _ => rfl) (fun R k x ks => spec_GreedyColours_l0_step N R k x ks) (fun R x ks r h => ⟨N, h⟩) (lsOk_at (L := [spec_GreedyColours_l0_0_s N, spec_GreedyColours_l0_1_s N]) ⟨spec_GreedyColours_l0_0_ok N, spec_GreedyColours_l0_1_ok N, trivial⟩) (by kernel_rfl) (by kernel_rfl)
noncomputable def spec_GreedyColours (N : Nat) (c : (Int × (List (Int × Int)))) (c1 : (List Int)) : Option (((List Int) × Bool × Unit) × (Unit)) :=
  ((spec_l2Good N (c.1, c.2)).bind fun r =>
    (br (!r.1.1)
      (some (([], false, ()), ()))
      (((spec_l5Order N (c.1, c.2) c1).bind fun r1 =>
        (br (!r1.1.1)
          (some (([], false, ()), ()))
          ((chk (ile 0 c.1 && ile c.1 c.1 && fits c.1)
            (spec_GreedyColours_l0 N (fun o => some ((o, true, ()), ())) N c1 0 c.1 c.2 (tRep c.1 (0 : Int))))))))))
noncomputable def spec_GreedyColours_S (N : Nat) : FSum := ⟨spec_GreedyColours_ps, spec_GreedyColours_rs, fun x => spec_GreedyColours N x.1 x.2.1⟩
theorem spec_GreedyColours_run (N : Nat) (x : argsT spec_GreedyColours_ps) : spec_GreedyColours N x.1 x.2.1 = funF (spec_GreedyColours_G N) tab [spec_GreedyColours_l0_s N] Try.f15 spec_GreedyColours_ps spec_GreedyColours_rs x := by kernel_rfl
theorem spec_GreedyColours_pc (N : Nat) : PC Try.prog 15 (spec_GreedyColours_S N) := by
  have e : spec_GreedyColours_S N = ⟨spec_GreedyColours_ps, spec_GreedyColours_rs, funF (spec_GreedyColours_G N) tab [spec_GreedyColours_l0_s N] Try.f15 spec_GreedyColours_ps spec_GreedyColours_rs⟩ := congrArg (FSum.mk spec_GreedyColours_ps spec_GreedyColours_rs) (funext (spec_GreedyColours_run N))
  rw [e]
  exact fun_ok (c := spec_GreedyColours_code) progOk (spec_GreedyColours_gok N) (draw_ok progOk (spec_GreedyColours_gok N)) Try.call15 Try.func15 (by kernel_rfl) (lsOk_at (L := [spec_GreedyColours_l0_s N]) ⟨spec_GreedyColours_l0_ok N, trivial⟩) (by kernel_rfl) (by kernel_rfl) (by kernel_rfl) (by kernel_rfl) (by kernel_rfl)

/-! ### impl_between -/
abbrev impl_between_ps : List (PV.Mode × Ty) := [(.ro, I), (.ro, I), (.ro, I)]
abbrev impl_between_rs : List (Bool × Ty) := [(true, .bool)]
noncomputable def impl_between_G (N : Nat) : GTab := gOf []
theorem impl_between_gok (N : Nat) : GOk Try.prog (impl_between_G N) := gOf_ok trivial
noncomputable def impl_between_code : Code := (Try.f46.body).getD .skip
noncomputable def impl_between (N : Nat) (n : Int) (low : Int) (high : Int) : Option ((Bool × Unit) × (Unit)) :=
  (br (ile low n)
    (some (((ile n high), ()), ()))
    (some ((false, ()), ())))
noncomputable def impl_between_S (N : Nat) : FSum := ⟨impl_between_ps, impl_between_rs, fun x => impl_between N x.1 x.2.1 x.2.2.1⟩
theorem impl_between_run (N : Nat) (x : argsT impl_between_ps) : impl_between N x.1 x.2.1 x.2.2.1 = funF (impl_between_G N) tab [] Try.f46 impl_between_ps impl_between_rs x := by kernel_rfl
theorem impl_between_pc (N : Nat) : PC Try.prog 46 (impl_between_S N) := by
  have e : impl_between_S N = ⟨impl_between_ps, impl_between_rs, funF (impl_between_G N) tab [] Try.f46 impl_between_ps impl_between_rs⟩ := congrArg (FSum.mk impl_between_ps impl_between_rs) (funext (impl_between_run N))
  rw [e]
  exact fun_ok (c := impl_between_code) progOk (impl_between_gok N) (draw_ok progOk (impl_between_gok N)) Try.call46 Try.func46 (by kernel_rfl) (lsOk_at (L := []) trivial) (by kernel_rfl) (by kernel_rfl) (by kernel_rfl) (by kernel_rfl) (by kernel_rfl)

/-! ### cmp_isNaN_int -/
abbrev cmp_isNaN_int_ps : List (PV.Mode × Ty) := [(.ro, I)]
abbrev cmp_isNaN_int_rs : List (Bool × Ty) := [(true, .bool)]
noncomputable def cmp_isNaN_int_G (N : Nat) : GTab := gOf []
theorem cmp_isNaN_int_gok (N : Nat) : GOk Try.prog (cmp_isNaN_int_G N) := gOf_ok trivial
noncomputable def cmp_isNaN_int_code : Code := (Try.f82.body).getD .skip
noncomputable def cmp_isNaN_int (N : Nat) (x : Int) : Option ((Bool × Unit) × (Unit)) :=
  some (((ine x x), ()), ())
noncomputable def cmp_isNaN_int_S (N : Nat) : FSum := ⟨cmp_isNaN_int_ps, cmp_isNaN_int_rs, fun x => cmp_isNaN_int N x.1⟩
theorem cmp_isNaN_int_run (N : Nat) (x : argsT cmp_isNaN_int_ps) : cmp_isNaN_int N x.1 = funF (cmp_isNaN_int_G N) tab [] Try.f82 cmp_isNaN_int_ps cmp_isNaN_int_rs x := by kernel_rfl
theorem cmp_isNaN_int_pc (N : Nat) : PC Try.prog 82 (cmp_isNaN_int_S N) := by
  have e : cmp_isNaN_int_S N = ⟨cmp_isNaN_int_ps, cmp_isNaN_int_rs, funF (cmp_isNaN_int_G N) tab [] Try.f82 cmp_isNaN_int_ps cmp_isNaN_int_rs⟩ := congrArg (FSum.mk cmp_isNaN_int_ps cmp_isNaN_int_rs) (funext (cmp_isNaN_int_run N))
  rw [e]
  exact fun_ok (c := cmp_isNaN_int_code) progOk (cmp_isNaN_int_gok N) (draw_ok progOk (cmp_isNaN_int_gok N)) Try.call82 Try.func82 (by kernel_rfl) (lsOk_at (L := []) trivial) (by kernel_rfl) (by kernel_rfl) (by kernel_rfl) (by kernel_rfl) (by kernel_rfl)

/-! ### cmp_Compare_int -/
abbrev cmp_Compare_int_ps : List (PV.Mode × Ty) := [(.ro, I), (.ro, I)]
abbrev cmp_Compare_int_rs : List (Bool × Ty) := [(true, I)]
noncomputable def cmp_Compare_int_G (N : Nat) : GTab := gOf [(82, cmp_isNaN_int_S N)]
theorem cmp_Compare_int_gok (N : Nat) : GOk Try.prog (cmp_Compare_int_G N) := gOf_ok ⟨cmp_isNaN_int_pc N, trivial⟩
noncomputable def cmp_Compare_int_code : Code := (Try.f69.body).getD .skip
noncomputable def cmp_Compare_int (N : Nat) (x : Int) (y : Int) : Option ((Int × Unit) × (Unit)) :=
  ((cmp_isNaN_int N x).bind fun r =>
    ((cmp_isNaN_int N y).bind fun r1 =>
      (br r.1.1
        ((br r1.1.1
          (some ((0, ()), ()))
          (some (((-1), ()), ()))))
        ((br r1.1.1
          (some ((1, ()), ()))
          ((br (ilt x y)
            (some (((-1), ()), ()))
            ((br (ilt y x)
              (some ((1, ()), ()))
              (some ((0, ()), ())))))))))))
noncomputable def cmp_Compare_int_S (N : Nat) : FSum := ⟨cmp_Compare_int_ps, cmp_Compare_int_rs, fun x => cmp_Compare_int N x.1 x.2.1⟩
theorem cmp_Compare_int_run (N : Nat) (x : argsT cmp_Compare_int_ps) : cmp_Compare_int N x.1 x.2.1 = funF (cmp_Compare_int_G N) tab [] Try.f69 cmp_Compare_int_ps cmp_Compare_int_rs x := by kernel_rfl
theorem cmp_Compare_int_pc (N : Nat) : PC Try.prog 69 (cmp_Compare_int_S N) := by
  have e : cmp_Compare_int_S N = ⟨cmp_Compare_int_ps, cmp_Compare_int_rs, funF (cmp_Compare_int_G N) tab [] Try.f69 cmp_Compare_int_ps cmp_Compare_int_rs⟩ := congrArg (FSum.mk cmp_Compare_int_ps cmp_Compare_int_rs) (funext (cmp_Compare_int_run N))
  rw [e]
  exact fun_ok (c := cmp_Compare_int_code) progOk (cmp_Compare_int_gok N) (draw_ok progOk (cmp_Compare_int_gok N)) Try.call69 Try.func69 (by kernel_rfl) (lsOk_at (L := []) trivial) (by kernel_rfl) (by kernel_rfl) (by kernel_rfl) (by kernel_rfl) (by kernel_rfl)

/-! ### cmp_Or_int -/
abbrev cmp_Or_int_ps : List (PV.Mode × Ty) := [(.ro, LI)]
abbrev cmp_Or_int_rs : List (Bool × Ty) := [(true, I)]
noncomputable def cmp_Or_int_G (N : Nat) : GTab := gOf []
theorem cmp_Or_int_gok (N : Nat) : GOk Try.prog (cmp_Or_int_G N) := gOf_ok trivial
noncomputable def cmp_Or_int_code : Code := (Try.f68.body).getD .skip
noncomputable def cmp_Or_int_l0_sh : Sh := ⟨[(3, .one (.ro I)), (6, .one (.ro LI)), (7, .one (.ro I)), (8, .one (.ro I))], []⟩
noncomputable def cmp_Or_int_l0_ex : List (Ex × Sh) := [(.ret, ⟨[(2, .one (.ro I))], []⟩), (.exit 0, ⟨[(3, .one (.ro I))], []⟩)]
noncomputable def cmp_Or_int_l0 {R : Type} (N : Nat) (k0 : Int → Option R) (k1 : Int → Option R) : Nat → Int → (List Int) → Int → Int → Option R
  | 0, _, _, _, _ => none
  | K + 1, zero, x, x1, x2 =>
    (br (ilt x2 x1)
      ((chk (inb x x2)
        (br (ine (rdI x x2) zero)
        (k0 (rdI x x2))
        (cmp_Or_int_l0 N k0 k1 K zero x x1 (IntKind.i64.wrap (x2 + 1))))))
      (k1 zero))
noncomputable def cmp_Or_int_l0_again {R : Type} (N : Nat) (ks : (j : Nat) → ((cmp_Or_int_l0_ex.getD j (.ret, Sh.none)).2).T → Option R) (k : Nat) (x : cmp_Or_int_l0_sh.T) : Option R :=
  cmp_Or_int_l0 N (fun y0 => ks 0 ((y0, ()), ())) (fun y0 => ks 1 ((y0, ()), ())) k x.1.1 x.1.2.1 x.1.2.2.1 x.1.2.2.2.1
noncomputable def cmp_Or_int_l0_s (N : Nat) : LSum := ⟨cmp_Or_int_l0_sh, cmp_Or_int_l0_ex, fun x ks => cmp_Or_int_l0_again N ks N x⟩
theorem cmp_Or_int_l0_step (N : Nat) (R : Type) (k : Nat) (x : cmp_Or_int_l0_sh.T) (ks : (j : Nat) → ((cmp_Or_int_l0_ex.getD j (.ret, Sh.none)).2).T → Option R) : cmp_Or_int_l0_again N ks (k + 1) x = roundF (cmp_Or_int_G N) tab [] (loopAt cmp_Or_int_code 0) cmp_Or_int_l0_sh cmp_Or_int_l0_ex (fun y => cmp_Or_int_l0_again N ks k y) ks x := by kernel_rfl
theorem cmp_Or_int_l0_ok (N : Nat) : LoopOk Try.prog Try.f68.ntmps (cmp_Or_int_l0_s N) (loopAt cmp_Or_int_code 0) :=
  loop_ok (l := cmp_Or_int_l0_s N) progOk (cmp_Or_int_gok N) (draw_ok progOk (cmp_Or_int_gok N)) (fun R k x ks => cmp_Or_int_l0_again N ks k x) (fun _ _ _ => rfl) (fun R k x ks => cmp_Or_int_l0_step N R k x ks) (fun R x ks r h => ⟨N, h⟩) (lsOk_at (L := []) trivial) (by kernel_rfl) (by kernel_rfl)
noncomputable def cmp_Or_int (N : Nat) (vals : (List Int)) : Option ((Int × Unit) × (Unit)) :=
  cmp_Or_int_l0 N (fun x => some ((x, ()), ())) (fun zero => some ((zero, ()), ())) N 0 vals (tLen vals) 0
noncomputable def cmp_Or_int_S (N : Nat) : FSum := ⟨cmp_Or_int_ps, cmp_Or_int_rs, fun x => cmp_Or_int N x.1⟩
theorem cmp_Or_int_run (N : Nat) (x : argsT cmp_Or_int_ps) : cmp_Or_int N x.1 = funF (cmp_Or_int_G N) tab [cmp_Or_int_l0_s N] Try.f68 cmp_Or_int_ps cmp_Or_int_rs x := by kernel_rfl
theorem cmp_Or_int_pc (N : Nat) : PC Try.prog 68 (cmp_Or_int_S N) := by
  have e : cmp_Or_int_S N = ⟨cmp_Or_int_ps, cmp_Or_int_rs, funF (cmp_Or_int_G N) tab [cmp_Or_int_l0_s N] Try.f68 cmp_Or_int_ps cmp_Or_int_rs⟩ := congrArg (FSum.mk cmp_Or_int_ps cmp_Or_int_rs) (funext (cmp_Or_int_run N))
  rw [e]
  exact fun_ok (c := cmp_Or_int_code) progOk (cmp_Or_int_gok N) (draw_ok progOk (cmp_Or_int_gok N)) Try.call68 Try.func68 (by kernel_rfl) (lsOk_at (L := [cmp_Or_int_l0_s N]) ⟨cmp_Or_int_l0_ok N, trivial⟩) (by kernel_rfl) (by kernel_rfl) (by kernel_rfl) (by kernel_rfl) (by kernel_rfl)

/-! ### impl_comparePairs -/
abbrev impl_comparePairs_ps : List (PV.Mode × Ty) := [(.ro, QII), (.ro, QII)]
abbrev impl_comparePairs_rs : List (Bool × Ty) := [(true, I)]
noncomputable def impl_comparePairs_G (N : Nat) : GTab := gOf [(69, cmp_Compare_int_S N), (68, cmp_Or_int_S N)]
theorem impl_comparePairs_gok (N : Nat) : GOk Try.prog (impl_comparePairs_G N) := gOf_ok ⟨cmp_Compare_int_pc N, cmp_Or_int_pc N, trivial⟩
noncomputable def impl_comparePairs_code : Code := (Try.f59.body).getD .skip
noncomputable def impl_comparePairs (N : Nat) (a : (Int × Int)) (b : (Int × Int)) : Option ((Int × Unit) × (Unit)) :=
  ((cmp_Compare_int N a.1 b.1).bind fun r =>
    ((cmp_Compare_int N a.2 b.2).bind fun r1 =>
      ((cmp_Or_int N [r.1.1, r1.1.1]).bind fun r2 =>
        some ((r2.1.1, ()), ()))))
noncomputable def impl_comparePairs_S (N : Nat) : FSum := ⟨impl_comparePairs_ps, impl_comparePairs_rs, fun x => impl_comparePairs N x.1 x.2.1⟩
theorem impl_comparePairs_run (N : Nat) (x : argsT impl_comparePairs_ps) : impl_comparePairs N x.1 x.2.1 = funF (impl_comparePairs_G N) tab [] Try.f59 impl_comparePairs_ps impl_comparePairs_rs x := by kernel_rfl
theorem impl_comparePairs_pc (N : Nat) : PC Try.prog 59 (impl_comparePairs_S N) := by
  have e : impl_comparePairs_S N = ⟨impl_comparePairs_ps, impl_comparePairs_rs, funF (impl_comparePairs_G N) tab [] Try.f59 impl_comparePairs_ps impl_comparePairs_rs⟩ := congrArg (FSum.mk impl_comparePairs_ps impl_comparePairs_rs) (funext (impl_comparePairs_run N))
  rw [e]
  exact fun_ok (c := impl_comparePairs_code) progOk (impl_comparePairs_gok N) (draw_ok progOk (impl_comparePairs_gok N)) Try.call59 Try.func59 (by kernel_rfl) (lsOk_at (L := []) trivial) (by kernel_rfl) (by kernel_rfl) (by kernel_rfl) (by kernel_rfl) (by kernel_rfl)

/-! ### impl_isPairs -/
abbrev impl_isPairs_ps : List (PV.Mode × Ty) := [(.ro, LQII), (.ro, I)]
abbrev impl_isPairs_rs : List (Bool × Ty) := [(true, .bool)]
noncomputable def impl_isPairs_G (N : Nat) : GTab := gOf [(59, impl_comparePairs_S N)]
theorem impl_isPairs_gok (N : Nat) : GOk Try.prog (impl_isPairs_G N) := gOf_ok ⟨impl_comparePairs_pc N, trivial⟩
noncomputable def impl_isPairs_code : Code := (Try.f47.body).getD .skip
noncomputable def impl_isPairs_l0_sh : Sh := ⟨[(0, .one (.ro LQII)), (1, .one (.ro I)), (7, .one (.ro LQII)), (8, .one (.ro I)), (9, .one (.ro I))], []⟩
noncomputable def impl_isPairs_l0_ex : List (Ex × Sh) := [(.ret, ⟨[(4, .one (.ro .bool))], []⟩), (.exit 0, ⟨[], []⟩)]
noncomputable def impl_isPairs_l0 {R : Type} (N : Nat) (k0 : Bool → Option R) (k1 : Unit → Option R) : Nat → (List (Int × Int)) → Int → (List (Int × Int)) → Int → Int → Option R
  | 0, _, _, _, _, _ => none
  | K + 1, list1, below1, x, x1, x2 =>
    (br (ilt x2 x1)
      ((chk (inb x x2)
        (br (ilt ((rdP x x2).1) 0)
        (k0 false)
        ((br (ile ((rdP x x2).2) ((rdP x x2).1))
          (k0 false)
          ((br (ile below1 ((rdP x x2).2))
            (k0 false)
            ((br (ilt 0 x2)
              ((chk (inb list1 (IntKind.i64.wrap (x2 - 1)))
                ((impl_comparePairs N (rdP list1 (IntKind.i64.wrap (x2 - 1))) ((rdP x x2).1, (rdP x x2).2)).bind fun r =>
                (br (ile 0 r.1.1)
                  (k0 false)
                  (impl_isPairs_l0 N k0 k1 K list1 below1 x x1 (IntKind.i64.wrap (x2 + 1)))))))
              (impl_isPairs_l0 N k0 k1 K list1 below1 x x1 (IntKind.i64.wrap (x2 + 1))))))))))))
      (k1 ()))
noncomputable def impl_isPairs_l0_again {R : Type} (N : Nat) (ks : (j : Nat) → ((impl_isPairs_l0_ex.getD j (.ret, Sh.none)).2).T → Option R) (k : Nat) (x : impl_isPairs_l0_sh.T) : Option R :=
  impl_isPairs_l0 N (fun y0 => ks 0 ((y0, ()), ())) (fun (_ : Unit) => ks 1 ((), ())) k x.1.1 x.1.2.1 x.1.2.2.1 x.1.2.2.2.1 x.1.2.2.2.2.1
noncomputable def impl_isPairs_l0_s (N : Nat) : LSum := ⟨impl_isPairs_l0_sh, impl_isPairs_l0_ex, fun x ks => impl_isPairs_l0_again N ks N x⟩
theorem impl_isPairs_l0_step (N : Nat) (R : Type) (k : Nat) (x : impl_isPairs_l0_sh.T) (ks : (j : Nat) → ((impl_isPairs_l0_ex.getD j (.ret, Sh.none)).2).T → Option R) : impl_isPairs_l0_again N ks (k + 1) x = roundF (impl_isPairs_G N) tab [] (loopAt impl_isPairs_code 0) impl_isPairs_l0_sh impl_isPairs_l0_ex (fun y => impl_isPairs_l0_again N ks k y) ks x := by kernel_rfl
theorem impl_isPairs_l0_ok (N : Nat) : LoopOk Try.prog Try.f47.ntmps (impl_isPairs_l0_s N) (loopAt impl_isPairs_code 0) :=
  loop_ok (l := impl_isPairs_l0_s N) progOk (impl_isPairs_gok N) (draw_ok progOk (impl_isPairs_gok N)) (fun R k x ks => impl_isPairs_l0_again N ks k x) (fun _ _ _ => rfl) (fun R k x ks => impl_isPairs_l0_step N R k x ks) (fun R x ks r h => ⟨N, h⟩) (lsOk_at (L := []) trivial) (by kernel_rfl) (by kernel_rfl)
noncomputable def impl_isPairs (N : Nat) (list : (List (Int × Int))) (below : Int) : Option ((Bool × Unit) × (Unit)) :=
  impl_isPairs_l0 N (fun x => some ((x, ()), ())) (fun (_ : Unit) => some ((true, ()), ())) N list below list (tLen list) 0
noncomputable def impl_isPairs_S (N : Nat) : FSum := ⟨impl_isPairs_ps, impl_isPairs_rs, fun x => impl_isPairs N x.1 x.2.1⟩
theorem impl_isPairs_run (N : Nat) (x : argsT impl_isPairs_ps) : impl_isPairs N x.1 x.2.1 = funF (impl_isPairs_G N) tab [impl_isPairs_l0_s N] Try.f47 impl_isPairs_ps impl_isPairs_rs x := by kernel_rfl
theorem impl_isPairs_pc (N : Nat) : PC Try.prog 47 (impl_isPairs_S N) := by
  have e : impl_isPairs_S N = ⟨impl_isPairs_ps, impl_isPairs_rs, funF (impl_isPairs_G N) tab [impl_isPairs_l0_s N] Try.f47 impl_isPairs_ps impl_isPairs_rs⟩ := congrArg (FSum.mk impl_isPairs_ps impl_isPairs_rs) (funext (impl_isPairs_run N))
  rw [e]
  exact fun_ok (c := impl_isPairs_code) progOk (impl_isPairs_gok N) (draw_ok progOk (impl_isPairs_gok N)) Try.call47 Try.func47 (by kernel_rfl) (lsOk_at (L := [impl_isPairs_l0_s N]) ⟨impl_isPairs_l0_ok N, trivial⟩) (by kernel_rfl) (by kernel_rfl) (by kernel_rfl) (by kernel_rfl) (by kernel_rfl)

/-! ### impl_IsGraph -/
abbrev impl_IsGraph_ps : List (PV.Mode × Ty) := [(.ro, QILQII)]
abbrev impl_IsGraph_rs : List (Bool × Ty) := [(true, .bool)]
noncomputable def impl_IsGraph_G (N : Nat) : GTab := gOf [(46, impl_between_S N), (47, impl_isPairs_S N)]
theorem impl_IsGraph_gok (N : Nat) : GOk Try.prog (impl_IsGraph_G N) := gOf_ok ⟨impl_between_pc N, impl_isPairs_pc N, trivial⟩
noncomputable def impl_IsGraph_code : Code := (Try.f28.body).getD .skip
noncomputable def impl_IsGraph (N : Nat) (g : (Int × (List (Int × Int)))) : Option ((Bool × Unit) × (Unit)) :=
  ((impl_between N g.1 0 8).bind fun r =>
    (br r.1.1
      (((impl_isPairs N g.2 g.1).bind fun r1 =>
        some ((r1.1.1, ()), ())))
      (some ((false, ()), ()))))
noncomputable def impl_IsGraph_S (N : Nat) : FSum := ⟨impl_IsGraph_ps, impl_IsGraph_rs, fun x => impl_IsGraph N x.1⟩
theorem impl_IsGraph_run (N : Nat) (x : argsT impl_IsGraph_ps) : impl_IsGraph N x.1 = funF (impl_IsGraph_G N) tab [] Try.f28 impl_IsGraph_ps impl_IsGraph_rs x := by kernel_rfl
theorem impl_IsGraph_pc (N : Nat) : PC Try.prog 28 (impl_IsGraph_S N) := by
  have e : impl_IsGraph_S N = ⟨impl_IsGraph_ps, impl_IsGraph_rs, funF (impl_IsGraph_G N) tab [] Try.f28 impl_IsGraph_ps impl_IsGraph_rs⟩ := congrArg (FSum.mk impl_IsGraph_ps impl_IsGraph_rs) (funext (impl_IsGraph_run N))
  rw [e]
  exact fun_ok (c := impl_IsGraph_code) progOk (impl_IsGraph_gok N) (draw_ok progOk (impl_IsGraph_gok N)) Try.call28 Try.func28 (by kernel_rfl) (lsOk_at (L := []) trivial) (by kernel_rfl) (by kernel_rfl) (by kernel_rfl) (by kernel_rfl) (by kernel_rfl)

/-! ### slices_Values_LI_int -/
abbrev slices_Values_LI_int_ps : List (PV.Mode × Ty) := [(.ro, LI)]
abbrev slices_Values_LI_int_rs : List (Bool × Ty) := [(false, K57ALI)]
noncomputable def slices_Values_LI_int_G (N : Nat) : GTab := gOf []
theorem slices_Values_LI_int_gok (N : Nat) : GOk Try.prog (slices_Values_LI_int_G N) := gOf_ok trivial
noncomputable def slices_Values_LI_int_code : Code := (Try.f42.body).getD .skip
noncomputable def slices_Values_LI_int (N : Nat) (s : (List Int)) : Option (((List Int) × Unit) × (Unit)) :=
  some ((s, ()), ())
noncomputable def slices_Values_LI_int_S (N : Nat) : FSum := ⟨slices_Values_LI_int_ps, slices_Values_LI_int_rs, fun x => slices_Values_LI_int N x.1⟩
theorem slices_Values_LI_int_run (N : Nat) (x : argsT slices_Values_LI_int_ps) : slices_Values_LI_int N x.1 = funF (slices_Values_LI_int_G N) tab [] Try.f42 slices_Values_LI_int_ps slices_Values_LI_int_rs x := by kernel_rfl
theorem slices_Values_LI_int_pc (N : Nat) : PC Try.prog 42 (slices_Values_LI_int_S N) := by
  have e : slices_Values_LI_int_S N = ⟨slices_Values_LI_int_ps, slices_Values_LI_int_rs, funF (slices_Values_LI_int_G N) tab [] Try.f42 slices_Values_LI_int_ps slices_Values_LI_int_rs⟩ := congrArg (FSum.mk slices_Values_LI_int_ps slices_Values_LI_int_rs) (funext (slices_Values_LI_int_run N))
  rw [e]
  exact fun_ok (c := slices_Values_LI_int_code) progOk (slices_Values_LI_int_gok N) (draw_ok progOk (slices_Values_LI_int_gok N)) Try.call42 Try.func42 (by kernel_rfl) (lsOk_at (L := []) trivial) (by kernel_rfl) (by kernel_rfl) (by kernel_rfl) (by kernel_rfl) (by kernel_rfl)

/-! ### slices_Sorted_int_kslices_Values_LI_int_c1 -/
abbrev slices_Sorted_int_kslices_Values_LI_int_c1_ps : List (PV.Mode × Ty) := [(.ro, K57ALI)]
abbrev slices_Sorted_int_kslices_Values_LI_int_c1_rs : List (Bool × Ty) := [(true, LI)]
noncomputable def slices_Sorted_int_kslices_Values_LI_int_c1 (N : Nat) (x : List Int) : Option ((List Int × Unit) × Unit) := sortVF x
noncomputable def slices_Sorted_int_kslices_Values_LI_int_c1_S (N : Nat) : FSum := ⟨slices_Sorted_int_kslices_Values_LI_int_c1_ps, slices_Sorted_int_kslices_Values_LI_int_c1_rs, fun x => slices_Sorted_int_kslices_Values_LI_int_c1 N x.1⟩
theorem slices_Sorted_int_kslices_Values_LI_int_c1_pc (N : Nat) : PC Try.prog 41 (slices_Sorted_int_kslices_Values_LI_int_c1_S N) := sortedVals_pc Try.sortedAt Try.call41

/-! ### impl_isRising -/
abbrev impl_isRising_ps : List (PV.Mode × Ty) := [(.ro, LI), (.ro, I)]
abbrev impl_isRising_rs : List (Bool × Ty) := [(true, .bool)]
noncomputable def impl_isRising_G (N : Nat) : GTab := gOf [(46, impl_between_S N)]
theorem impl_isRising_gok (N : Nat) : GOk Try.prog (impl_isRising_G N) := gOf_ok ⟨impl_between_pc N, trivial⟩
noncomputable def impl_isRising_code : Code := (Try.f40.body).getD .skip
noncomputable def impl_isRising_l0_sh : Sh := ⟨[(0, .one (.ro LI)), (1, .one (.ro I)), (7, .one (.ro LI)), (8, .one (.ro I)), (9, .one (.ro I))], []⟩
noncomputable def impl_isRising_l0_ex : List (Ex × Sh) := [(.ret, ⟨[(4, .one (.ro .bool))], []⟩), (.exit 0, ⟨[], []⟩)]
noncomputable def impl_isRising_l0 {R : Type} (N : Nat) (k0 : Bool → Option R) (k1 : Unit → Option R) : Nat → (List Int) → Int → (List Int) → Int → Int → Option R
  | 0, _, _, _, _, _ => none
  | K + 1, list1, below1, x, x1, x2 =>
    (br (ilt x2 x1)
      ((chk (inb x x2)
        ((impl_between N (rdI x x2) 0 (IntKind.i64.wrap (below1 - 1))).bind fun r =>
        (br (!r.1.1)
          (k0 false)
          ((br (ilt 0 x2)
            ((chk (inb list1 (IntKind.i64.wrap (x2 - 1)))
              (br (ile (rdI x x2) (rdI list1 (IntKind.i64.wrap (x2 - 1))))
              (k0 false)
              (impl_isRising_l0 N k0 k1 K list1 below1 x x1 (IntKind.i64.wrap (x2 + 1))))))
            (impl_isRising_l0 N k0 k1 K list1 below1 x x1 (IntKind.i64.wrap (x2 + 1)))))))))
      (k1 ()))
noncomputable def impl_isRising_l0_again {R : Type} (N : Nat) (ks : (j : Nat) → ((impl_isRising_l0_ex.getD j (.ret, Sh.none)).2).T → Option R) (k : Nat) (x : impl_isRising_l0_sh.T) : Option R :=
  impl_isRising_l0 N (fun y0 => ks 0 ((y0, ()), ())) (fun (_ : Unit) => ks 1 ((), ())) k x.1.1 x.1.2.1 x.1.2.2.1 x.1.2.2.2.1 x.1.2.2.2.2.1
noncomputable def impl_isRising_l0_s (N : Nat) : LSum := ⟨impl_isRising_l0_sh, impl_isRising_l0_ex, fun x ks => impl_isRising_l0_again N ks N x⟩
theorem impl_isRising_l0_step (N : Nat) (R : Type) (k : Nat) (x : impl_isRising_l0_sh.T) (ks : (j : Nat) → ((impl_isRising_l0_ex.getD j (.ret, Sh.none)).2).T → Option R) : impl_isRising_l0_again N ks (k + 1) x = roundF (impl_isRising_G N) tab [] (loopAt impl_isRising_code 0) impl_isRising_l0_sh impl_isRising_l0_ex (fun y => impl_isRising_l0_again N ks k y) ks x := by kernel_rfl
theorem impl_isRising_l0_ok (N : Nat) : LoopOk Try.prog Try.f40.ntmps (impl_isRising_l0_s N) (loopAt impl_isRising_code 0) :=
  loop_ok (l := impl_isRising_l0_s N) progOk (impl_isRising_gok N) (draw_ok progOk (impl_isRising_gok N)) (fun R k x ks => impl_isRising_l0_again N ks k x) (fun _ _ _ => rfl) (fun R k x ks => impl_isRising_l0_step N R k x ks) (fun R x ks r h => ⟨N, h⟩) (lsOk_at (L := []) trivial) (by kernel_rfl) (by kernel_rfl)
noncomputable def impl_isRising (N : Nat) (list : (List Int)) (below : Int) : Option ((Bool × Unit) × (Unit)) :=
  impl_isRising_l0 N (fun x => some ((x, ()), ())) (fun (_ : Unit) => some ((true, ()), ())) N list below list (tLen list) 0
noncomputable def impl_isRising_S (N : Nat) : FSum := ⟨impl_isRising_ps, impl_isRising_rs, fun x => impl_isRising N x.1 x.2.1⟩
theorem impl_isRising_run (N : Nat) (x : argsT impl_isRising_ps) : impl_isRising N x.1 x.2.1 = funF (impl_isRising_G N) tab [impl_isRising_l0_s N] Try.f40 impl_isRising_ps impl_isRising_rs x := by kernel_rfl
theorem impl_isRising_pc (N : Nat) : PC Try.prog 40 (impl_isRising_S N) := by
  have e : impl_isRising_S N = ⟨impl_isRising_ps, impl_isRising_rs, funF (impl_isRising_G N) tab [impl_isRising_l0_s N] Try.f40 impl_isRising_ps impl_isRising_rs⟩ := congrArg (FSum.mk impl_isRising_ps impl_isRising_rs) (funext (impl_isRising_run N))
  rw [e]
  exact fun_ok (c := impl_isRising_code) progOk (impl_isRising_gok N) (draw_ok progOk (impl_isRising_gok N)) Try.call40 Try.func40 (by kernel_rfl) (lsOk_at (L := [impl_isRising_l0_s N]) ⟨impl_isRising_l0_ok N, trivial⟩) (by kernel_rfl) (by kernel_rfl) (by kernel_rfl) (by kernel_rfl) (by kernel_rfl)

/-! ### impl_isOrder -/
abbrev impl_isOrder_ps : List (PV.Mode × Ty) := [(.ro, LI), (.ro, I)]
abbrev impl_isOrder_rs : List (Bool × Ty) := [(true, .bool)]
noncomputable def impl_isOrder_G (N : Nat) : GTab := gOf [(42, slices_Values_LI_int_S N), (41, slices_Sorted_int_kslices_Values_LI_int_c1_S N), (40, impl_isRising_S N)]
theorem impl_isOrder_gok (N : Nat) : GOk Try.prog (impl_isOrder_G N) := gOf_ok ⟨slices_Values_LI_int_pc N, slices_Sorted_int_kslices_Values_LI_int_c1_pc N, impl_isRising_pc N, trivial⟩
noncomputable def impl_isOrder_code : Code := (Try.f22.body).getD .skip
noncomputable def impl_isOrder (N : Nat) (list : (List Int)) (below : Int) : Option ((Bool × Unit) × (Unit)) :=
  (br (ieq (tLen list) below)
    (((slices_Values_LI_int N list).bind fun r =>
      ((slices_Sorted_int_kslices_Values_LI_int_c1 N r.1.1).bind fun r1 =>
        ((impl_isRising N r1.1.1 below).bind fun r2 =>
          some ((r2.1.1, ()), ())))))
    (some ((false, ()), ())))
noncomputable def impl_isOrder_S (N : Nat) : FSum := ⟨impl_isOrder_ps, impl_isOrder_rs, fun x => impl_isOrder N x.1 x.2.1⟩
theorem impl_isOrder_run (N : Nat) (x : argsT impl_isOrder_ps) : impl_isOrder N x.1 x.2.1 = funF (impl_isOrder_G N) tab [] Try.f22 impl_isOrder_ps impl_isOrder_rs x := by kernel_rfl
theorem impl_isOrder_pc (N : Nat) : PC Try.prog 22 (impl_isOrder_S N) := by
  have e : impl_isOrder_S N = ⟨impl_isOrder_ps, impl_isOrder_rs, funF (impl_isOrder_G N) tab [] Try.f22 impl_isOrder_ps impl_isOrder_rs⟩ := congrArg (FSum.mk impl_isOrder_ps impl_isOrder_rs) (funext (impl_isOrder_run N))
  rw [e]
  exact fun_ok (c := impl_isOrder_code) progOk (impl_isOrder_gok N) (draw_ok progOk (impl_isOrder_gok N)) Try.call22 Try.func22 (by kernel_rfl) (lsOk_at (L := []) trivial) (by kernel_rfl) (by kernel_rfl) (by kernel_rfl) (by kernel_rfl) (by kernel_rfl)
end Go.Proofs.Ytkffaahlpdlkoaa
