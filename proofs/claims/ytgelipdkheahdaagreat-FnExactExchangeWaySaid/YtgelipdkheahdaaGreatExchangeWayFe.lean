/- Functions of the program as functions on data. -/
import Derived.Test.YtgelipdkheahdaaGreatExchangeWayFd
set_option linter.all false
namespace Go.Proofs.YtgelipdkheahdaaGreat
open Go Go.PV
/-! ### laws_markIntA2S -/
abbrev laws_markIntA2S_ps : List (PV.Mode × Ty) := [(.mut, LQII), (.ro, I)]
abbrev laws_markIntA2S_rs : List (Bool × Ty) := [(true, I)]
noncomputable def laws_markIntA2S_G (N : Nat) : GTab := gOf []
theorem laws_markIntA2S_gok (N : Nat) : GOk Tryz.prog (laws_markIntA2S_G N) := gOf_ok trivial
noncomputable def laws_markIntA2S_code : Code := (Tryz.f50.body).getD .skip
noncomputable def laws_markIntA2S_l0_0_sh : Sh := ⟨[(0, .one (.ref 0)), (1, .one (.ro I)), (5, .one (.ro I)), (6, .one (.num .i64 0))], [.sl 93 QII .own]⟩
noncomputable def laws_markIntA2S_l0_0_ex : List (Ex × Sh) := [(.exit 2, ⟨[(0, .one (.ref 0)), (1, .one (.ro I)), (5, .one (.ro I))], [.sl 93 QII .own]⟩)]
noncomputable def laws_markIntA2S_l0_0 {R : Type} (N : Nat) (k0 : Int → Int → (List (Int × Int)) → Option R) (_ : Nat) (kv3 : Int) (i2 : Int) (o2 : (List (Int × Int))) : Option R :=
  (chk (inb o2 i2)
    (chk (inb (tSet o2 i2 (kv3, (rdP o2 i2).2)) i2)
    (k0 (IntKind.i64.wrap ((IntKind.i64.wrap (kv3 + 1)) + 1)) i2 (tSet (tSet o2 i2 (kv3, (rdP o2 i2).2)) i2 ((rdP (tSet o2 i2 (kv3, (rdP o2 i2).2)) i2).1, (IntKind.i64.wrap (kv3 + 1)))))))
noncomputable def laws_markIntA2S_l0_0_again {R : Type} (N : Nat) (ks : (j : Nat) → ((laws_markIntA2S_l0_0_ex.getD j (.ret, Sh.none)).2).T → Option R) (x : laws_markIntA2S_l0_0_sh.T) : Option R :=
  laws_markIntA2S_l0_0 N (fun y0 y1 y2 => ks 0 (((), y0, y1, ()), (y2, ()))) N x.1.2.1 x.1.2.2.1 x.2.1
noncomputable def laws_markIntA2S_l0_0_s (N : Nat) : LSum := ⟨laws_markIntA2S_l0_0_sh, laws_markIntA2S_l0_0_ex, fun x ks => laws_markIntA2S_l0_0_again N ks x⟩
theorem laws_markIntA2S_l0_0_unr (N : Nat) (R : Type) (x : laws_markIntA2S_l0_0_sh.T) (ks : (j : Nat) → ((laws_markIntA2S_l0_0_ex.getD j (.ret, Sh.none)).2).T → Option R) : laws_markIntA2S_l0_0_again N ks x = unrF (laws_markIntA2S_G N) tab (loopAt (loopAt laws_markIntA2S_code 0) 0) laws_markIntA2S_l0_0_ex ks 3 (fill laws_markIntA2S_l0_0_sh x) := by kernel_rfl
theorem laws_markIntA2S_l0_0_ok (N : Nat) : LoopOk Tryz.prog Tryz.f50.ntmps (laws_markIntA2S_l0_0_s N) (loopAt (loopAt laws_markIntA2S_code 0) 0) :=
  unroll_ok (l := laws_markIntA2S_l0_0_s N) progOk (laws_markIntA2S_gok N) (draw_ok progOk (laws_markIntA2S_gok N)) (fun R x ks r h => ⟨3, (laws_markIntA2S_l0_0_unr N R x ks).symm.trans h⟩) (by kernel_rfl) (by kernel_rfl)
noncomputable def laws_markIntA2S_l0_sh : Sh := ⟨[(0, .one (.ref 0)), (1, .one (.ro I)), (5, .one (.ro I))], [.sl 93 QII .own]⟩
noncomputable def laws_markIntA2S_l0_ex : List (Ex × Sh) := [(.exit 0, ⟨[(0, .one (.ref 0)), (1, .one (.ro I))], [.sl 93 QII .own]⟩)]
noncomputable def laws_markIntA2S_l0 {R : Type} (N : Nat) (k0 : Int → (List (Int × Int)) → Option R) : Nat → Int → Int → (List (Int × Int)) → Option R
  | 0, _, _, _ => none
  | K + 1, kv1, i, o =>
    (br (ilt i (tLen o))
      (laws_markIntA2S_l0_0 N (fun kv2 i1 o1 => laws_markIntA2S_l0 N k0 K kv2 (IntKind.i64.wrap (i1 + 1)) o1) N kv1 i o)
      (k0 kv1 o))
noncomputable def laws_markIntA2S_l0_again {R : Type} (N : Nat) (ks : (j : Nat) → ((laws_markIntA2S_l0_ex.getD j (.ret, Sh.none)).2).T → Option R) (k : Nat) (x : laws_markIntA2S_l0_sh.T) : Option R :=
  laws_markIntA2S_l0 N (fun y0 y1 => ks 0 (((), y0, ()), (y1, ()))) k x.1.2.1 x.1.2.2.1 x.2.1
noncomputable def laws_markIntA2S_l0_s (N : Nat) : LSum := ⟨laws_markIntA2S_l0_sh, laws_markIntA2S_l0_ex, fun x ks => laws_markIntA2S_l0_again N ks N x⟩
theorem laws_markIntA2S_l0_step (N : Nat) (R : Type) (k : Nat) (x : laws_markIntA2S_l0_sh.T) (ks : (j : Nat) → ((laws_markIntA2S_l0_ex.getD j (.ret, Sh.none)).2).T → Option R) : laws_markIntA2S_l0_again N ks (k + 1) x = roundF (laws_markIntA2S_G N) tab [laws_markIntA2S_l0_0_s N] (loopAt laws_markIntA2S_code 0) laws_markIntA2S_l0_sh laws_markIntA2S_l0_ex (fun y => laws_markIntA2S_l0_again N ks k y) ks x := by kernel_rfl
theorem laws_markIntA2S_l0_ok (N : Nat) : LoopOk Tryz.prog Tryz.f50.ntmps (laws_markIntA2S_l0_s N) (loopAt laws_markIntA2S_code 0) :=
  loop_ok (l := laws_markIntA2S_l0_s N) progOk (laws_markIntA2S_gok N) (draw_ok progOk (laws_markIntA2S_gok N)) (fun R k x ks => laws_markIntA2S_l0_again N ks k x) (fun _ _ _ => rfl) (fun R k x ks => laws_markIntA2S_l0_step N R k x ks) (fun R x ks r h => ⟨N, h⟩) (lsOk_at (L := [laws_markIntA2S_l0_0_s N]) ⟨laws_markIntA2S_l0_0_ok N, trivial⟩) (by kernel_rfl) (by kernel_rfl)
noncomputable def laws_markIntA2S (N : Nat) (a : (List (Int × Int))) (kv : Int) : Option ((Int × Unit) × ((List (Int × Int)) × Unit)) :=
  laws_markIntA2S_l0 N (fun kv1 o => some ((kv1, ()), (o, ()))) N kv 0 a
noncomputable def laws_markIntA2S_S (N : Nat) : FSum := ⟨laws_markIntA2S_ps, laws_markIntA2S_rs, fun x => laws_markIntA2S N x.1 x.2.1⟩
theorem laws_markIntA2S_run (N : Nat) (x : argsT laws_markIntA2S_ps) : laws_markIntA2S N x.1 x.2.1 = funF (laws_markIntA2S_G N) tab [laws_markIntA2S_l0_s N] Tryz.f50 laws_markIntA2S_ps laws_markIntA2S_rs x := by kernel_rfl
theorem laws_markIntA2S_pc (N : Nat) : PC Tryz.prog 50 (laws_markIntA2S_S N) := by
  have e : laws_markIntA2S_S N = ⟨laws_markIntA2S_ps, laws_markIntA2S_rs, funF (laws_markIntA2S_G N) tab [laws_markIntA2S_l0_s N] Tryz.f50 laws_markIntA2S_ps laws_markIntA2S_rs⟩ := congrArg (FSum.mk laws_markIntA2S_ps laws_markIntA2S_rs) (funext (laws_markIntA2S_run N))
  rw [e]
  exact fun_ok (c := laws_markIntA2S_code) progOk (laws_markIntA2S_gok N) (draw_ok progOk (laws_markIntA2S_gok N)) Tryz.call50 Tryz.func50 (by kernel_rfl) (lsOk_at (L := [laws_markIntA2S_l0_s N]) ⟨laws_markIntA2S_l0_ok N, trivial⟩) (by kernel_rfl) (by kernel_rfl) (by kernel_rfl) (by kernel_rfl) (by kernel_rfl)

/-! ### laws_markGraph -/
abbrev laws_markGraph_ps : List (PV.Mode × Ty) := [(.mut, QILQII), (.ro, I)]
abbrev laws_markGraph_rs : List (Bool × Ty) := [(true, I)]
noncomputable def laws_markGraph_G (N : Nat) : GTab := gOf [(50, laws_markIntA2S_S N)]
theorem laws_markGraph_gok (N : Nat) : GOk Tryz.prog (laws_markGraph_G N) := gOf_ok ⟨laws_markIntA2S_pc N, trivial⟩
noncomputable def laws_markGraph_code : Code := (Tryz.f15.body).getD .skip
noncomputable def laws_markGraph (N : Nat) (a : (Int × (List (Int × Int)))) (kv : Int) : Option ((Int × Unit) × ((Int × (List (Int × Int))) × Unit)) :=
  ((laws_markIntA2S N a.2 kv).bind fun r =>
    some ((r.1.1, ()), ((a.1, r.2.1), ())))
noncomputable def laws_markGraph_S (N : Nat) : FSum := ⟨laws_markGraph_ps, laws_markGraph_rs, fun x => laws_markGraph N x.1 x.2.1⟩
theorem laws_markGraph_run (N : Nat) (x : argsT laws_markGraph_ps) : laws_markGraph N x.1 x.2.1 = funF (laws_markGraph_G N) tab [] Tryz.f15 laws_markGraph_ps laws_markGraph_rs x := by kernel_rfl
theorem laws_markGraph_pc (N : Nat) : PC Tryz.prog 15 (laws_markGraph_S N) := by
  have e : laws_markGraph_S N = ⟨laws_markGraph_ps, laws_markGraph_rs, funF (laws_markGraph_G N) tab [] Tryz.f15 laws_markGraph_ps laws_markGraph_rs⟩ := congrArg (FSum.mk laws_markGraph_ps laws_markGraph_rs) (funext (laws_markGraph_run N))
  rw [e]
  exact fun_ok (c := laws_markGraph_code) progOk (laws_markGraph_gok N) (draw_ok progOk (laws_markGraph_gok N)) Tryz.call15 Tryz.func15 (by kernel_rfl) (lsOk_at (L := []) trivial) (by kernel_rfl) (by kernel_rfl) (by kernel_rfl) (by kernel_rfl) (by kernel_rfl)

/-! ### laws_markIntS -/
abbrev laws_markIntS_ps : List (PV.Mode × Ty) := [(.mut, LI), (.ro, I)]
abbrev laws_markIntS_rs : List (Bool × Ty) := [(true, I)]
noncomputable def laws_markIntS_G (N : Nat) : GTab := gOf []
theorem laws_markIntS_gok (N : Nat) : GOk Tryz.prog (laws_markIntS_G N) := gOf_ok trivial
noncomputable def laws_markIntS_code : Code := (Tryz.f26.body).getD .skip
noncomputable def laws_markIntS_l0_sh : Sh := ⟨[(0, .one (.ref 0)), (1, .one (.ro I)), (5, .one (.ro I))], [.sl 3 I .own]⟩
noncomputable def laws_markIntS_l0_ex : List (Ex × Sh) := [(.exit 0, ⟨[(0, .one (.ref 0)), (1, .one (.ro I))], [.sl 3 I .own]⟩)]
noncomputable def laws_markIntS_l0 {R : Type} (N : Nat) (k0 : Int → (List Int) → Option R) : Nat → Int → Int → (List Int) → Option R
  | 0, _, _, _ => none
  | K + 1, kv1, i, o =>
    (br (ilt i (tLen o))
      ((chk (inb o i)
        (laws_markIntS_l0 N k0 K (IntKind.i64.wrap (kv1 + 1)) (IntKind.i64.wrap (i + 1)) (tSet o i kv1))))
      (k0 kv1 o))
noncomputable def laws_markIntS_l0_again {R : Type} (N : Nat) (ks : (j : Nat) → ((laws_markIntS_l0_ex.getD j (.ret, Sh.none)).2).T → Option R) (k : Nat) (x : laws_markIntS_l0_sh.T) : Option R :=
  laws_markIntS_l0 N (fun y0 y1 => ks 0 (((), y0, ()), (y1, ()))) k x.1.2.1 x.1.2.2.1 x.2.1
noncomputable def laws_markIntS_l0_s (N : Nat) : LSum := ⟨laws_markIntS_l0_sh, laws_markIntS_l0_ex, fun x ks => laws_markIntS_l0_again N ks N x⟩
theorem laws_markIntS_l0_step (N : Nat) (R : Type) (k : Nat) (x : laws_markIntS_l0_sh.T) (ks : (j : Nat) → ((laws_markIntS_l0_ex.getD j (.ret, Sh.none)).2).T → Option R) : laws_markIntS_l0_again N ks (k + 1) x = roundF (laws_markIntS_G N) tab [] (loopAt laws_markIntS_code 0) laws_markIntS_l0_sh laws_markIntS_l0_ex (fun y => laws_markIntS_l0_again N ks k y) ks x := by kernel_rfl
theorem laws_markIntS_l0_ok (N : Nat) : LoopOk Tryz.prog Tryz.f26.ntmps (laws_markIntS_l0_s N) (loopAt laws_markIntS_code 0) :=
  loop_ok (l := laws_markIntS_l0_s N) progOk (laws_markIntS_gok N) (draw_ok progOk (laws_markIntS_gok N)) (fun R k x ks => laws_markIntS_l0_again N ks k x) (fun _ _ _ => rfl) (fun R k x ks => laws_markIntS_l0_step N R k x ks) (fun R x ks r h => ⟨N, h⟩) (lsOk_at (L := []) trivial) (by kernel_rfl) (by kernel_rfl)
noncomputable def laws_markIntS (N : Nat) (a : (List Int)) (kv : Int) : Option ((Int × Unit) × ((List Int) × Unit)) :=
  laws_markIntS_l0 N (fun kv1 o => some ((kv1, ()), (o, ()))) N kv 0 a
noncomputable def laws_markIntS_S (N : Nat) : FSum := ⟨laws_markIntS_ps, laws_markIntS_rs, fun x => laws_markIntS N x.1 x.2.1⟩
theorem laws_markIntS_run (N : Nat) (x : argsT laws_markIntS_ps) : laws_markIntS N x.1 x.2.1 = funF (laws_markIntS_G N) tab [laws_markIntS_l0_s N] Tryz.f26 laws_markIntS_ps laws_markIntS_rs x := by kernel_rfl
theorem laws_markIntS_pc (N : Nat) : PC Tryz.prog 26 (laws_markIntS_S N) := by
  have e : laws_markIntS_S N = ⟨laws_markIntS_ps, laws_markIntS_rs, funF (laws_markIntS_G N) tab [laws_markIntS_l0_s N] Tryz.f26 laws_markIntS_ps laws_markIntS_rs⟩ := congrArg (FSum.mk laws_markIntS_ps laws_markIntS_rs) (funext (laws_markIntS_run N))
  rw [e]
  exact fun_ok (c := laws_markIntS_code) progOk (laws_markIntS_gok N) (draw_ok progOk (laws_markIntS_gok N)) Tryz.call26 Tryz.func26 (by kernel_rfl) (lsOk_at (L := [laws_markIntS_l0_s N]) ⟨laws_markIntS_l0_ok N, trivial⟩) (by kernel_rfl) (by kernel_rfl) (by kernel_rfl) (by kernel_rfl) (by kernel_rfl)

/-! ### laws_markIntSS -/
abbrev laws_markIntSS_ps : List (PV.Mode × Ty) := [(.mut, LLI), (.ro, I)]
abbrev laws_markIntSS_rs : List (Bool × Ty) := [(true, I)]
noncomputable def laws_markIntSS_G (N : Nat) : GTab := gOf [(26, laws_markIntS_S N)]
theorem laws_markIntSS_gok (N : Nat) : GOk Tryz.prog (laws_markIntSS_G N) := gOf_ok ⟨laws_markIntS_pc N, trivial⟩
noncomputable def laws_markIntSS_code : Code := (Tryz.f33.body).getD .skip
noncomputable def laws_markIntSS_l0_sh : Sh := ⟨[(0, .one (.ref 0)), (1, .one (.ro I)), (5, .one (.ro I))], [.sl 40 LI .deep]⟩
noncomputable def laws_markIntSS_l0_ex : List (Ex × Sh) := [(.exit 0, ⟨[(0, .one (.ref 0)), (1, .one (.ro I))], [.sl 40 LI .deep]⟩)]
noncomputable def laws_markIntSS_l0 {R : Type} (N : Nat) (k0 : Int → (List (List Int)) → Option R) : Nat → Int → Int → (List (List Int)) → Option R
  | 0, _, _, _ => none
  | K + 1, kv1, i, o =>
    (br (ilt i (tLen o))
      ((chk (inb o i)
        ((laws_markIntS N (rdL o i) kv1).bind fun r =>
        laws_markIntSS_l0 N k0 K r.1.1 (IntKind.i64.wrap (i + 1)) (tSet o i r.2.1))))
      (k0 kv1 o))
noncomputable def laws_markIntSS_l0_again {R : Type} (N : Nat) (ks : (j : Nat) → ((laws_markIntSS_l0_ex.getD j (.ret, Sh.none)).2).T → Option R) (k : Nat) (x : laws_markIntSS_l0_sh.T) : Option R :=
  laws_markIntSS_l0 N (fun y0 y1 => ks 0 (((), y0, ()), (y1, ()))) k x.1.2.1 x.1.2.2.1 x.2.1
noncomputable def laws_markIntSS_l0_s (N : Nat) : LSum := ⟨laws_markIntSS_l0_sh, laws_markIntSS_l0_ex, fun x ks => laws_markIntSS_l0_again N ks N x⟩
theorem laws_markIntSS_l0_step (N : Nat) (R : Type) (k : Nat) (x : laws_markIntSS_l0_sh.T) (ks : (j : Nat) → ((laws_markIntSS_l0_ex.getD j (.ret, Sh.none)).2).T → Option R) : laws_markIntSS_l0_again N ks (k + 1) x = roundF (laws_markIntSS_G N) tab [] (loopAt laws_markIntSS_code 0) laws_markIntSS_l0_sh laws_markIntSS_l0_ex (fun y => laws_markIntSS_l0_again N ks k y) ks x := by kernel_rfl
theorem laws_markIntSS_l0_ok (N : Nat) : LoopOk Tryz.prog Tryz.f33.ntmps (laws_markIntSS_l0_s N) (loopAt laws_markIntSS_code 0) :=
  loop_ok (l := laws_markIntSS_l0_s N) progOk (laws_markIntSS_gok N) (draw_ok progOk (laws_markIntSS_gok N)) (fun R k x ks => laws_markIntSS_l0_again N ks k x) (fun _ _ _ => rfl) (fun R k x ks => laws_markIntSS_l0_step N R k x ks) (fun R x ks r h => ⟨N, h⟩) (lsOk_at (L := []) trivial) (by kernel_rfl) (by kernel_rfl)
noncomputable def laws_markIntSS (N : Nat) (a : (List (List Int))) (kv : Int) : Option ((Int × Unit) × ((List (List Int)) × Unit)) :=
  laws_markIntSS_l0 N (fun kv1 o => some ((kv1, ()), (o, ()))) N kv 0 a
noncomputable def laws_markIntSS_S (N : Nat) : FSum := ⟨laws_markIntSS_ps, laws_markIntSS_rs, fun x => laws_markIntSS N x.1 x.2.1⟩
theorem laws_markIntSS_run (N : Nat) (x : argsT laws_markIntSS_ps) : laws_markIntSS N x.1 x.2.1 = funF (laws_markIntSS_G N) tab [laws_markIntSS_l0_s N] Tryz.f33 laws_markIntSS_ps laws_markIntSS_rs x := by kernel_rfl
theorem laws_markIntSS_pc (N : Nat) : PC Tryz.prog 33 (laws_markIntSS_S N) := by
  have e : laws_markIntSS_S N = ⟨laws_markIntSS_ps, laws_markIntSS_rs, funF (laws_markIntSS_G N) tab [laws_markIntSS_l0_s N] Tryz.f33 laws_markIntSS_ps laws_markIntSS_rs⟩ := congrArg (FSum.mk laws_markIntSS_ps laws_markIntSS_rs) (funext (laws_markIntSS_run N))
  rw [e]
  exact fun_ok (c := laws_markIntSS_code) progOk (laws_markIntSS_gok N) (draw_ok progOk (laws_markIntSS_gok N)) Tryz.call33 Tryz.func33 (by kernel_rfl) (lsOk_at (L := [laws_markIntSS_l0_s N]) ⟨laws_markIntSS_l0_ok N, trivial⟩) (by kernel_rfl) (by kernel_rfl) (by kernel_rfl) (by kernel_rfl) (by kernel_rfl)

/-! ### laws_heldIntS -/
abbrev laws_heldIntS_ps : List (PV.Mode × Ty) := [(.ro, LI), (.ro, I)]
abbrev laws_heldIntS_rs : List (Bool × Ty) := [(true, I)]
noncomputable def laws_heldIntS_G (N : Nat) : GTab := gOf []
theorem laws_heldIntS_gok (N : Nat) : GOk Tryz.prog (laws_heldIntS_G N) := gOf_ok trivial
noncomputable def laws_heldIntS_code : Code := (Tryz.f27.body).getD .skip
noncomputable def laws_heldIntS_l0_sh : Sh := ⟨[(0, .one (.ro LI)), (1, .one (.ro I)), (5, .one (.ro I))], []⟩
noncomputable def laws_heldIntS_l0_ex : List (Ex × Sh) := [(.ret, ⟨[(4, .one (.ro I))], []⟩), (.exit 0, ⟨[(1, .one (.ro I))], []⟩)]
noncomputable def laws_heldIntS_l0 {R : Type} (N : Nat) (k0 : Int → Option R) (k1 : Int → Option R) : Nat → (List Int) → Int → Int → Option R
  | 0, _, _, _ => none
  | K + 1, a1, kv1, i =>
    (br (ilt i (tLen a1))
      ((chk (inb a1 i)
        (br (ine (rdI a1 i) kv1)
        (k0 (-1))
        (laws_heldIntS_l0 N k0 k1 K a1 (IntKind.i64.wrap (kv1 + 1)) (IntKind.i64.wrap (i + 1))))))
      (k1 kv1))
noncomputable def laws_heldIntS_l0_again {R : Type} (N : Nat) (ks : (j : Nat) → ((laws_heldIntS_l0_ex.getD j (.ret, Sh.none)).2).T → Option R) (k : Nat) (x : laws_heldIntS_l0_sh.T) : Option R :=
  laws_heldIntS_l0 N (fun y0 => ks 0 ((y0, ()), ())) (fun y0 => ks 1 ((y0, ()), ())) k x.1.1 x.1.2.1 x.1.2.2.1
noncomputable def laws_heldIntS_l0_s (N : Nat) : LSum := ⟨laws_heldIntS_l0_sh, laws_heldIntS_l0_ex, fun x ks => laws_heldIntS_l0_again N ks N x⟩
theorem laws_heldIntS_l0_step (N : Nat) (R : Type) (k : Nat) (x : laws_heldIntS_l0_sh.T) (ks : (j : Nat) → ((laws_heldIntS_l0_ex.getD j (.ret, Sh.none)).2).T → Option R) : laws_heldIntS_l0_again N ks (k + 1) x = roundF (laws_heldIntS_G N) tab [] (loopAt laws_heldIntS_code 0) laws_heldIntS_l0_sh laws_heldIntS_l0_ex (fun y => laws_heldIntS_l0_again N ks k y) ks x := by kernel_rfl
theorem laws_heldIntS_l0_ok (N : Nat) : LoopOk Tryz.prog Tryz.f27.ntmps (laws_heldIntS_l0_s N) (loopAt laws_heldIntS_code 0) :=
  loop_ok (l := laws_heldIntS_l0_s N) progOk (laws_heldIntS_gok N) (draw_ok progOk (laws_heldIntS_gok N)) (fun R k x ks => laws_heldIntS_l0_again N ks k x) (fun _ _ _ => rfl) (fun R k x ks => laws_heldIntS_l0_step N R k x ks) (fun R x ks r h => ⟨N, h⟩) (lsOk_at (L := []) trivial) (by kernel_rfl) (by kernel_rfl)
noncomputable def laws_heldIntS (N : Nat) (a : (List Int)) (kv : Int) : Option ((Int × Unit) × (Unit)) :=
  laws_heldIntS_l0 N (fun x => some ((x, ()), ())) (fun kv1 => some ((kv1, ()), ())) N a kv 0
noncomputable def laws_heldIntS_S (N : Nat) : FSum := ⟨laws_heldIntS_ps, laws_heldIntS_rs, fun x => laws_heldIntS N x.1 x.2.1⟩
theorem laws_heldIntS_run (N : Nat) (x : argsT laws_heldIntS_ps) : laws_heldIntS N x.1 x.2.1 = funF (laws_heldIntS_G N) tab [laws_heldIntS_l0_s N] Tryz.f27 laws_heldIntS_ps laws_heldIntS_rs x := by kernel_rfl
theorem laws_heldIntS_pc (N : Nat) : PC Tryz.prog 27 (laws_heldIntS_S N) := by
  have e : laws_heldIntS_S N = ⟨laws_heldIntS_ps, laws_heldIntS_rs, funF (laws_heldIntS_G N) tab [laws_heldIntS_l0_s N] Tryz.f27 laws_heldIntS_ps laws_heldIntS_rs⟩ := congrArg (FSum.mk laws_heldIntS_ps laws_heldIntS_rs) (funext (laws_heldIntS_run N))
  rw [e]
  exact fun_ok (c := laws_heldIntS_code) progOk (laws_heldIntS_gok N) (draw_ok progOk (laws_heldIntS_gok N)) Tryz.call27 Tryz.func27 (by kernel_rfl) (lsOk_at (L := [laws_heldIntS_l0_s N]) ⟨laws_heldIntS_l0_ok N, trivial⟩) (by kernel_rfl) (by kernel_rfl) (by kernel_rfl) (by kernel_rfl) (by kernel_rfl)

/-! ### laws_heldIntSS -/
abbrev laws_heldIntSS_ps : List (PV.Mode × Ty) := [(.ro, LLI), (.ro, I)]
abbrev laws_heldIntSS_rs : List (Bool × Ty) := [(true, I)]
noncomputable def laws_heldIntSS_G (N : Nat) : GTab := gOf [(27, laws_heldIntS_S N)]
theorem laws_heldIntSS_gok (N : Nat) : GOk Tryz.prog (laws_heldIntSS_G N) := gOf_ok ⟨laws_heldIntS_pc N, trivial⟩
noncomputable def laws_heldIntSS_code : Code := (Tryz.f34.body).getD .skip
noncomputable def laws_heldIntSS_l0_sh : Sh := ⟨[(0, .one (.ro LLI)), (1, .one (.ro I)), (5, .one (.ro I))], []⟩
noncomputable def laws_heldIntSS_l0_ex : List (Ex × Sh) := [(.ret, ⟨[(4, .one (.ro I))], []⟩), (.exit 0, ⟨[(1, .one (.ro I))], []⟩)]
noncomputable def laws_heldIntSS_l0 {R : Type} (N : Nat) (k0 : Int → Option R) (k1 : Int → Option R) : Nat → (List (List Int)) → Int → Int → Option R
  | 0, _, _, _ => none
  | K + 1, a1, kv1, i =>
    (br (ilt i (tLen a1))
      ((chk (inb a1 i)
        ((laws_heldIntS N (rdL a1 i) kv1).bind fun r =>
        (br (ilt r.1.1 0)
          (k0 (-1))
          (laws_heldIntSS_l0 N k0 k1 K a1 r.1.1 (IntKind.i64.wrap (i + 1)))))))
      (k1 kv1))
noncomputable def laws_heldIntSS_l0_again {R : Type} (N : Nat) (ks : (j : Nat) → ((laws_heldIntSS_l0_ex.getD j (.ret, Sh.none)).2).T → Option R) (k : Nat) (x : laws_heldIntSS_l0_sh.T) : Option R :=
  laws_heldIntSS_l0 N (fun y0 => ks 0 ((y0, ()), ())) (fun y0 => ks 1 ((y0, ()), ())) k x.1.1 x.1.2.1 x.1.2.2.1
noncomputable def laws_heldIntSS_l0_s (N : Nat) : LSum := ⟨laws_heldIntSS_l0_sh, laws_heldIntSS_l0_ex, fun x ks => laws_heldIntSS_l0_again N ks N x⟩
theorem laws_heldIntSS_l0_step (N : Nat) (R : Type) (k : Nat) (x : laws_heldIntSS_l0_sh.T) (ks : (j : Nat) → ((laws_heldIntSS_l0_ex.getD j (.ret, Sh.none)).2).T → Option R) : laws_heldIntSS_l0_again N ks (k + 1) x = roundF (laws_heldIntSS_G N) tab [] (loopAt laws_heldIntSS_code 0) laws_heldIntSS_l0_sh laws_heldIntSS_l0_ex (fun y => laws_heldIntSS_l0_again N ks k y) ks x := by kernel_rfl
theorem laws_heldIntSS_l0_ok (N : Nat) : LoopOk Tryz.prog Tryz.f34.ntmps (laws_heldIntSS_l0_s N) (loopAt laws_heldIntSS_code 0) :=
  loop_ok (l := laws_heldIntSS_l0_s N) progOk (laws_heldIntSS_gok N) (draw_ok progOk (laws_heldIntSS_gok N)) (fun R k x ks => laws_heldIntSS_l0_again N ks k x) (fun _ _ _ => rfl) (fun R k x ks => laws_heldIntSS_l0_step N R k x ks) (fun R x ks r h => ⟨N, h⟩) (lsOk_at (L := []) trivial) (by kernel_rfl) (by kernel_rfl)
noncomputable def laws_heldIntSS (N : Nat) (a : (List (List Int))) (kv : Int) : Option ((Int × Unit) × (Unit)) :=
  laws_heldIntSS_l0 N (fun x => some ((x, ()), ())) (fun kv1 => some ((kv1, ()), ())) N a kv 0
noncomputable def laws_heldIntSS_S (N : Nat) : FSum := ⟨laws_heldIntSS_ps, laws_heldIntSS_rs, fun x => laws_heldIntSS N x.1 x.2.1⟩
theorem laws_heldIntSS_run (N : Nat) (x : argsT laws_heldIntSS_ps) : laws_heldIntSS N x.1 x.2.1 = funF (laws_heldIntSS_G N) tab [laws_heldIntSS_l0_s N] Tryz.f34 laws_heldIntSS_ps laws_heldIntSS_rs x := by kernel_rfl
theorem laws_heldIntSS_pc (N : Nat) : PC Tryz.prog 34 (laws_heldIntSS_S N) := by
  have e : laws_heldIntSS_S N = ⟨laws_heldIntSS_ps, laws_heldIntSS_rs, funF (laws_heldIntSS_G N) tab [laws_heldIntSS_l0_s N] Tryz.f34 laws_heldIntSS_ps laws_heldIntSS_rs⟩ := congrArg (FSum.mk laws_heldIntSS_ps laws_heldIntSS_rs) (funext (laws_heldIntSS_run N))
  rw [e]
  exact fun_ok (c := laws_heldIntSS_code) progOk (laws_heldIntSS_gok N) (draw_ok progOk (laws_heldIntSS_gok N)) Tryz.call34 Tryz.func34 (by kernel_rfl) (lsOk_at (L := [laws_heldIntSS_l0_s N]) ⟨laws_heldIntSS_l0_ok N, trivial⟩) (by kernel_rfl) (by kernel_rfl) (by kernel_rfl) (by kernel_rfl) (by kernel_rfl)

/-! ### laws_FnExactExchangeWay -/
abbrev laws_FnExactExchangeWay_ps : List (PV.Mode × Ty) := [(.ro, QILQII), (.ro, I), (.ro, LI), (.ro, LI)]
abbrev laws_FnExactExchangeWay_rs : List (Bool × Ty) := [(true, .bool)]
noncomputable def laws_FnExactExchangeWay_G (N : Nat) : GTab := gOf [(9, laws_szGraph_S N), (11, laws_toGraph_S N), (21, laws_toIntS_S N), (37, spec_ExchangeWay_S N), (38, impl_ExchangeWay_S N), (32, laws_eqIntSS_S N), (14, laws_eqGraph_S N), (23, laws_eqIntS_S N), (15, laws_markGraph_S N), (26, laws_markIntS_S N), (33, laws_markIntSS_S N), (34, laws_heldIntSS_S N)]
theorem laws_FnExactExchangeWay_gok (N : Nat) : GOk Tryz.prog (laws_FnExactExchangeWay_G N) := gOf_ok ⟨laws_szGraph_pc N, laws_toGraph_pc N, laws_toIntS_pc N, spec_ExchangeWay_pc N, impl_ExchangeWay_pc N, laws_eqIntSS_pc N, laws_eqGraph_pc N, laws_eqIntS_pc N, laws_markGraph_pc N, laws_markIntS_pc N, laws_markIntSS_pc N, laws_heldIntSS_pc N, trivial⟩
noncomputable def laws_FnExactExchangeWay_code : Code := (Tryz.f8.body).getD .skip
noncomputable def laws_FnExactExchangeWay (N : Nat) (c : (Int × (List (Int × Int)))) (c1 : Int) (c2 : (List Int)) (c3 : (List Int)) : Option ((Bool × Unit) × (Unit)) :=
  (br (ilt 1048576 (tLen c2))
    (some ((true, ()), ()))
    ((br (ilt 1048576 (tLen c3))
      (some ((true, ()), ()))
      (((laws_szGraph N (c.1, c.2) 1048576).bind fun r =>
        (br (ilt r.1.1 0)
          (some ((true, ()), ()))
          (((laws_toGraph N (c.1, c.2)).bind fun r1 =>
            ((laws_toIntS N c2).bind fun r2 =>
              ((laws_toIntS N c3).bind fun r3 =>
                ((spec_ExchangeWay N (r1.1.1.1, r1.1.1.2) c1 r2.1.1 r3.1.1).bind fun r4 =>
                  ((laws_toGraph N (c.1, c.2)).bind fun r5 =>
                    ((laws_toIntS N c2).bind fun r6 =>
                      ((laws_toIntS N c3).bind fun r7 =>
                        ((impl_ExchangeWay N (r5.1.1.1, r5.1.1.2) c1 r6.1.1 r7.1.1).bind fun r8 =>
                          ((laws_eqIntSS N r8.1.1 r4.1.1).bind fun r9 =>
                            (br (!r9.1.1)
                              (some ((false, ()), ()))
                              ((br (!(r8.1.2.1 == r4.1.2.1))
                                (some ((false, ()), ()))
                                (((laws_toGraph N (c.1, c.2)).bind fun r10 =>
                                  ((laws_eqGraph N (r5.1.1.1, r5.1.1.2) (r10.1.1.1, r10.1.1.2)).bind fun r11 =>
                                    (br (!r11.1.1)
                                      (some ((false, ()), ()))
                                      (((laws_toIntS N c2).bind fun r12 =>
                                        ((laws_eqIntS N r6.1.1 r12.1.1).bind fun r13 =>
                                          (br (!r13.1.1)
                                            (some ((false, ()), ()))
                                            (((laws_toIntS N c3).bind fun r14 =>
                                              ((laws_eqIntS N r7.1.1 r14.1.1).bind fun r15 =>
                                                (br (!r15.1.1)
                                                  (some ((false, ()), ()))
                                                  (((laws_markGraph N (r5.1.1.1, r5.1.1.2) 1).bind fun r16 =>
                                                    ((laws_markIntS N r6.1.1 r16.1.1).bind fun r17 =>
                                                      ((laws_markIntS N r7.1.1 r17.1.1).bind fun r18 =>
                                                        (br (ilt r18.1.1 0)
                                                          (some ((false, ()), ()))
                                                          (((laws_eqIntSS N r8.1.1 r4.1.1).bind fun r19 =>
                                                            (br (!r19.1.1)
                                                              (some ((false, ()), ()))
                                                              ((br (!(r8.1.2.1 == r4.1.2.1))
                                                                (some ((false, ()), ()))
                                                                (((laws_markIntSS N r8.1.1 1).bind fun r20 =>
                                                                  ((laws_heldIntSS N r20.2.1 1).bind fun r21 =>
                                                                    (br (ilt r21.1.1 0)
                                                                      (some ((false, ()), ()))
                                                                      ((br (ine r21.1.1 r20.1.1)
                                                                        (some ((false, ()), ()))
                                                                        (((laws_toGraph N (c.1, c.2)).bind fun r22 =>
                                                                          ((laws_toIntS N c2).bind fun r23 =>
                                                                            ((laws_toIntS N c3).bind fun r24 =>
                                                                              ((impl_ExchangeWay N (r22.1.1.1, r22.1.1.2) c1 r23.1.1 r24.1.1).bind fun r25 =>
                                                                                ((laws_eqIntSS N r25.1.1 r4.1.1).bind fun r26 =>
                                                                                  (br (!r26.1.1)
                                                                                    (some ((false, ()), ()))
                                                                                    ((br (!(r25.1.2.1 == r4.1.2.1))
                                                                                      (some ((false, ()), ()))
                                                                                      (((laws_heldIntSS N r20.2.1 1).bind fun r27 =>
                                                                                        (br (ilt r27.1.1 0)
                                                                                          (some ((false, ()), ()))
                                                                                          ((br (ine r27.1.1 r20.1.1)
                                                                                            (some ((false, ()), ()))
                                                                                            (some ((true, ()), ())))))))))))))))))))))))))))))))))))))))))))))))))))))))))))))))
noncomputable def laws_FnExactExchangeWay_S (N : Nat) : FSum := ⟨laws_FnExactExchangeWay_ps, laws_FnExactExchangeWay_rs, fun x => laws_FnExactExchangeWay N x.1 x.2.1 x.2.2.1 x.2.2.2.1⟩
theorem laws_FnExactExchangeWay_run (N : Nat) (x : argsT laws_FnExactExchangeWay_ps) : laws_FnExactExchangeWay N x.1 x.2.1 x.2.2.1 x.2.2.2.1 = funF (laws_FnExactExchangeWay_G N) tab [] Tryz.f8 laws_FnExactExchangeWay_ps laws_FnExactExchangeWay_rs x := by kernel_rfl
theorem laws_FnExactExchangeWay_pc (N : Nat) : PC Tryz.prog 8 (laws_FnExactExchangeWay_S N) := by
  have e : laws_FnExactExchangeWay_S N = ⟨laws_FnExactExchangeWay_ps, laws_FnExactExchangeWay_rs, funF (laws_FnExactExchangeWay_G N) tab [] Tryz.f8 laws_FnExactExchangeWay_ps laws_FnExactExchangeWay_rs⟩ := congrArg (FSum.mk laws_FnExactExchangeWay_ps laws_FnExactExchangeWay_rs) (funext (laws_FnExactExchangeWay_run N))
  rw [e]
  exact fun_ok (c := laws_FnExactExchangeWay_code) progOk (laws_FnExactExchangeWay_gok N) (draw_ok progOk (laws_FnExactExchangeWay_gok N)) Tryz.call8 Tryz.func8 (by kernel_rfl) (lsOk_at (L := []) trivial) (by kernel_rfl) (by kernel_rfl) (by kernel_rfl) (by kernel_rfl) (by kernel_rfl)
end Go.Proofs.YtgelipdkheahdaaGreat
