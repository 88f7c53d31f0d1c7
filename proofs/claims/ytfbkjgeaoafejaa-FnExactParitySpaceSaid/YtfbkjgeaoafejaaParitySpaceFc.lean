/- Functions of the program as functions on data. -/
import Derived.Test.YtfbkjgeaoafejaaParitySpaceFb
set_option linter.all false
namespace Go.Proofs.Ytfbkjgeaoafejaa
open Go Go.PV
/-! ### laws_eqParity -/
abbrev laws_eqParity_ps : List (PV.Mode × Ty) := [(.ro, QIQLLILI), (.ro, QIQLLILI)]
abbrev laws_eqParity_rs : List (Bool × Ty) := [(true, .bool)]
noncomputable def laws_eqParity_G (N : Nat) : GTab := gOf [(19, laws_eqIntSS_S N), (35, laws_eqIntS_S N)]
theorem laws_eqParity_gok (N : Nat) : GOk Try.prog (laws_eqParity_G N) := gOf_ok ⟨laws_eqIntSS_pc N, laws_eqIntS_pc N, trivial⟩
noncomputable def laws_eqParity_code : Code := (Try.f53.body).getD .skip
noncomputable def laws_eqParity (N : Nat) (a : (Int × ((List (List Int)) × (List Int)))) (b : (Int × ((List (List Int)) × (List Int)))) : Option ((Bool × Unit) × (Unit)) :=
  (br (ine a.1 b.1)
    (some ((false, ()), ()))
    (((laws_eqIntSS N a.2.1 b.2.1).bind fun r =>
      (br (!r.1.1)
        (some ((false, ()), ()))
        (((laws_eqIntS N a.2.2 b.2.2).bind fun r1 =>
          (br (!r1.1.1)
            (some ((false, ()), ()))
            (some ((true, ()), ())))))))))
noncomputable def laws_eqParity_S (N : Nat) : FSum := ⟨laws_eqParity_ps, laws_eqParity_rs, fun x => laws_eqParity N x.1 x.2.1⟩
theorem laws_eqParity_run (N : Nat) (x : argsT laws_eqParity_ps) : laws_eqParity N x.1 x.2.1 = funF (laws_eqParity_G N) tab [] Try.f53 laws_eqParity_ps laws_eqParity_rs x := by kernel_rfl
theorem laws_eqParity_pc (N : Nat) : PC Try.prog 53 (laws_eqParity_S N) := by
  have e : laws_eqParity_S N = ⟨laws_eqParity_ps, laws_eqParity_rs, funF (laws_eqParity_G N) tab [] Try.f53 laws_eqParity_ps laws_eqParity_rs⟩ := congrArg (FSum.mk laws_eqParity_ps laws_eqParity_rs) (funext (laws_eqParity_run N))
  rw [e]
  exact fun_ok (c := laws_eqParity_code) progOk (laws_eqParity_gok N) (draw_ok progOk (laws_eqParity_gok N)) Try.call53 Try.func53 (by kernel_rfl) (lsOk_at (L := []) trivial) (by kernel_rfl) (by kernel_rfl) (by kernel_rfl) (by kernel_rfl) (by kernel_rfl)

/-! ### laws_markIntS -/
abbrev laws_markIntS_ps : List (PV.Mode × Ty) := [(.mut, LI), (.ro, I)]
abbrev laws_markIntS_rs : List (Bool × Ty) := [(true, I)]
noncomputable def laws_markIntS_G (N : Nat) : GTab := gOf []
theorem laws_markIntS_gok (N : Nat) : GOk Try.prog (laws_markIntS_G N) := gOf_ok trivial
noncomputable def laws_markIntS_code : Code := (Try.f36.body).getD .skip
noncomputable def laws_markIntS_l0_sh : Sh := ⟨[(0, .one (.ref 0)), (1, .one (.ro I)), (5, .one (.ro I))], [.sl 3 I .own]⟩
noncomputable def laws_markIntS_l0_ex : List (Ex × Sh) := [(.exit 0, ⟨[(0, .one (.ref 0)), (1, .one (.ro I))], [.sl 3 I .own]⟩)]
noncomputable def laws_markIntS_l0 {R : Type} (N : Nat) (k0 : Int → (List Int) → Option R) : Nat → Int → Int → (List Int) → Option R
  | 0, _, _, _ => none
  | K + 1, kv1, i, o =>
    (br (ilt i (tLen o))
      ((chk (inb o i)
        (laws_markIntS_l0 N k0 K (IntKind.i64.wrap (kv1 + 1)) (IntKind.i64.wrap (i + 1)) (tSet o i kv1))))
      (k0 kv1 o))
noncomputable def laws_markIntS_l0_again {R : Type} (N : Nat) (ks : (j : Nat) → ((laws_markIntS_l0_ex.getD j (.ret, Sh.none)).2).T → Option R) (k : Nat) (x : laws_markIntS_l0_sh.T) : Option R :=
  laws_markIntS_l0 N (fun y0 y1 => ks 0 (((), y0, ()), (y1, ()))) k x.1.2.1 x.1.2.2.1 x.2.1
noncomputable def laws_markIntS_l0_s (N : Nat) : LSum := ⟨laws_markIntS_l0_sh, laws_markIntS_l0_ex, fun x ks => laws_markIntS_l0_again N ks N x⟩
theorem laws_markIntS_l0_step (N : Nat) (R : Type) (k : Nat) (x : laws_markIntS_l0_sh.T) (ks : (j : Nat) → ((laws_markIntS_l0_ex.getD j (.ret, Sh.none)).2).T → Option R) : laws_markIntS_l0_again N ks (k + 1) x = roundF (laws_markIntS_G N) tab [] (loopAt laws_markIntS_code 0) laws_markIntS_l0_sh laws_markIntS_l0_ex (fun y => laws_markIntS_l0_again N ks k y) ks x := by kernel_rfl
theorem laws_markIntS_l0_ok (N : Nat) : LoopOk Try.prog Try.f36.ntmps (laws_markIntS_l0_s N) (loopAt laws_markIntS_code 0) :=
  loop_ok (l := laws_markIntS_l0_s N) progOk (laws_markIntS_gok N) (draw_ok progOk (laws_markIntS_gok N)) (fun R k x ks => laws_markIntS_l0_again N ks k x) (fun _ _ _ => rfl) (fun R k x ks => laws_markIntS_l0_step N R k x ks) (fun R x ks r h => ⟨N, h⟩) (lsOk_at (L := []) trivial) (by kernel_rfl) (by kernel_rfl)
noncomputable def laws_markIntS (N : Nat) (a : (List Int)) (kv : Int) : Option ((Int × Unit) × ((List Int) × Unit)) :=
  laws_markIntS_l0 N (fun kv1 o => some ((kv1, ()), (o, ()))) N kv 0 a
noncomputable def laws_markIntS_S (N : Nat) : FSum := ⟨laws_markIntS_ps, laws_markIntS_rs, fun x => laws_markIntS N x.1 x.2.1⟩
theorem laws_markIntS_run (N : Nat) (x : argsT laws_markIntS_ps) : laws_markIntS N x.1 x.2.1 = funF (laws_markIntS_G N) tab [laws_markIntS_l0_s N] Try.f36 laws_markIntS_ps laws_markIntS_rs x := by kernel_rfl
theorem laws_markIntS_pc (N : Nat) : PC Try.prog 36 (laws_markIntS_S N) := by
  have e : laws_markIntS_S N = ⟨laws_markIntS_ps, laws_markIntS_rs, funF (laws_markIntS_G N) tab [laws_markIntS_l0_s N] Try.f36 laws_markIntS_ps laws_markIntS_rs⟩ := congrArg (FSum.mk laws_markIntS_ps laws_markIntS_rs) (funext (laws_markIntS_run N))
  rw [e]
  exact fun_ok (c := laws_markIntS_code) progOk (laws_markIntS_gok N) (draw_ok progOk (laws_markIntS_gok N)) Try.call36 Try.func36 (by kernel_rfl) (lsOk_at (L := [laws_markIntS_l0_s N]) ⟨laws_markIntS_l0_ok N, trivial⟩) (by kernel_rfl) (by kernel_rfl) (by kernel_rfl) (by kernel_rfl) (by kernel_rfl)

/-! ### laws_markIntSS -/
abbrev laws_markIntSS_ps : List (PV.Mode × Ty) := [(.mut, LLI), (.ro, I)]
abbrev laws_markIntSS_rs : List (Bool × Ty) := [(true, I)]
noncomputable def laws_markIntSS_G (N : Nat) : GTab := gOf [(36, laws_markIntS_S N)]
theorem laws_markIntSS_gok (N : Nat) : GOk Try.prog (laws_markIntSS_G N) := gOf_ok ⟨laws_markIntS_pc N, trivial⟩
noncomputable def laws_markIntSS_code : Code := (Try.f22.body).getD .skip
noncomputable def laws_markIntSS_l0_sh : Sh := ⟨[(0, .one (.ref 0)), (1, .one (.ro I)), (5, .one (.ro I))], [.sl 42 LI .deep]⟩
noncomputable def laws_markIntSS_l0_ex : List (Ex × Sh) := [(.exit 0, ⟨[(0, .one (.ref 0)), (1, .one (.ro I))], [.sl 42 LI .deep]⟩)]
noncomputable def laws_markIntSS_l0 {R : Type} (N : Nat) (k0 : Int → (List (List Int)) → Option R) : Nat → Int → Int → (List (List Int)) → Option R
  | 0, _, _, _ => none
  | K + 1, kv1, i, o =>
    (br (ilt i (tLen o))
      ((chk (inb o i)
        ((laws_markIntS N (rdL o i) kv1).bind fun r =>
        laws_markIntSS_l0 N k0 K r.1.1 (IntKind.i64.wrap (i + 1)) (tSet o i r.2.1))))
      (k0 kv1 o))
noncomputable def laws_markIntSS_l0_again {R : Type} (N : Nat) (ks : (j : Nat) → ((laws_markIntSS_l0_ex.getD j (.ret, Sh.none)).2).T → Option R) (k : Nat) (x : laws_markIntSS_l0_sh.T) : Option R :=
  laws_markIntSS_l0 N (fun y0 y1 => ks 0 (((), y0, ()), (y1, ()))) k x.1.2.1 x.1.2.2.1 x.2.1
noncomputable def laws_markIntSS_l0_s (N : Nat) : LSum := ⟨laws_markIntSS_l0_sh, laws_markIntSS_l0_ex, fun x ks => laws_markIntSS_l0_again N ks N x⟩
theorem laws_markIntSS_l0_step (N : Nat) (R : Type) (k : Nat) (x : laws_markIntSS_l0_sh.T) (ks : (j : Nat) → ((laws_markIntSS_l0_ex.getD j (.ret, Sh.none)).2).T → Option R) : laws_markIntSS_l0_again N ks (k + 1) x = roundF (laws_markIntSS_G N) tab [] (loopAt laws_markIntSS_code 0) laws_markIntSS_l0_sh laws_markIntSS_l0_ex (fun y => laws_markIntSS_l0_again N ks k y) ks x := by kernel_rfl
theorem laws_markIntSS_l0_ok (N : Nat) : LoopOk Try.prog Try.f22.ntmps (laws_markIntSS_l0_s N) (loopAt laws_markIntSS_code 0) :=
  loop_ok (l := laws_markIntSS_l0_s N) progOk (laws_markIntSS_gok N) (draw_ok progOk (laws_markIntSS_gok N)) (fun R k x ks => laws_markIntSS_l0_again N ks k x) (fun _ _ _ => rfl) (fun R k x ks => laws_markIntSS_l0_step N R k x ks) (fun R x ks r h => ⟨N, h⟩) (lsOk_at (L := []) trivial) (by kernel_rfl) (by kernel_rfl)
noncomputable def laws_markIntSS (N : Nat) (a : (List (List Int))) (kv : Int) : Option ((Int × Unit) × ((List (List Int)) × Unit)) :=
  laws_markIntSS_l0 N (fun kv1 o => some ((kv1, ()), (o, ()))) N kv 0 a
noncomputable def laws_markIntSS_S (N : Nat) : FSum := ⟨laws_markIntSS_ps, laws_markIntSS_rs, fun x => laws_markIntSS N x.1 x.2.1⟩
theorem laws_markIntSS_run (N : Nat) (x : argsT laws_markIntSS_ps) : laws_markIntSS N x.1 x.2.1 = funF (laws_markIntSS_G N) tab [laws_markIntSS_l0_s N] Try.f22 laws_markIntSS_ps laws_markIntSS_rs x := by kernel_rfl
theorem laws_markIntSS_pc (N : Nat) : PC Try.prog 22 (laws_markIntSS_S N) := by
  have e : laws_markIntSS_S N = ⟨laws_markIntSS_ps, laws_markIntSS_rs, funF (laws_markIntSS_G N) tab [laws_markIntSS_l0_s N] Try.f22 laws_markIntSS_ps laws_markIntSS_rs⟩ := congrArg (FSum.mk laws_markIntSS_ps laws_markIntSS_rs) (funext (laws_markIntSS_run N))
  rw [e]
  exact fun_ok (c := laws_markIntSS_code) progOk (laws_markIntSS_gok N) (draw_ok progOk (laws_markIntSS_gok N)) Try.call22 Try.func22 (by kernel_rfl) (lsOk_at (L := [laws_markIntSS_l0_s N]) ⟨laws_markIntSS_l0_ok N, trivial⟩) (by kernel_rfl) (by kernel_rfl) (by kernel_rfl) (by kernel_rfl) (by kernel_rfl)

/-! ### laws_markParity -/
abbrev laws_markParity_ps : List (PV.Mode × Ty) := [(.mut, QIQLLILI), (.ro, I)]
abbrev laws_markParity_rs : List (Bool × Ty) := [(true, I)]
noncomputable def laws_markParity_G (N : Nat) : GTab := gOf [(22, laws_markIntSS_S N), (36, laws_markIntS_S N)]
theorem laws_markParity_gok (N : Nat) : GOk Try.prog (laws_markParity_G N) := gOf_ok ⟨laws_markIntSS_pc N, laws_markIntS_pc N, trivial⟩
noncomputable def laws_markParity_code : Code := (Try.f54.body).getD .skip
noncomputable def laws_markParity (N : Nat) (a : (Int × ((List (List Int)) × (List Int)))) (kv : Int) : Option ((Int × Unit) × ((Int × ((List (List Int)) × (List Int))) × Unit)) :=
  ((laws_markIntSS N a.2.1 kv).bind fun r =>
    ((laws_markIntS N a.2.2 r.1.1).bind fun r1 =>
      some ((r1.1.1, ()), ((a.1, (r.2.1, r1.2.1)), ()))))
noncomputable def laws_markParity_S (N : Nat) : FSum := ⟨laws_markParity_ps, laws_markParity_rs, fun x => laws_markParity N x.1 x.2.1⟩
theorem laws_markParity_run (N : Nat) (x : argsT laws_markParity_ps) : laws_markParity N x.1 x.2.1 = funF (laws_markParity_G N) tab [] Try.f54 laws_markParity_ps laws_markParity_rs x := by kernel_rfl
theorem laws_markParity_pc (N : Nat) : PC Try.prog 54 (laws_markParity_S N) := by
  have e : laws_markParity_S N = ⟨laws_markParity_ps, laws_markParity_rs, funF (laws_markParity_G N) tab [] Try.f54 laws_markParity_ps laws_markParity_rs⟩ := congrArg (FSum.mk laws_markParity_ps laws_markParity_rs) (funext (laws_markParity_run N))
  rw [e]
  exact fun_ok (c := laws_markParity_code) progOk (laws_markParity_gok N) (draw_ok progOk (laws_markParity_gok N)) Try.call54 Try.func54 (by kernel_rfl) (lsOk_at (L := []) trivial) (by kernel_rfl) (by kernel_rfl) (by kernel_rfl) (by kernel_rfl) (by kernel_rfl)

/-! ### laws_markIntA2S -/
abbrev laws_markIntA2S_ps : List (PV.Mode × Ty) := [(.mut, LQII), (.ro, I)]
abbrev laws_markIntA2S_rs : List (Bool × Ty) := [(true, I)]
noncomputable def laws_markIntA2S_G (N : Nat) : GTab := gOf []
theorem laws_markIntA2S_gok (N : Nat) : GOk Try.prog (laws_markIntA2S_G N) := gOf_ok trivial
noncomputable def laws_markIntA2S_code : Code := (Try.f77.body).getD .skip
noncomputable def laws_markIntA2S_l0_0_sh : Sh := ⟨[(0, .one (.ref 0)), (1, .one (.ro I)), (5, .one (.ro I)), (6, .one (.num .i64 0))], [.sl 137 QII .own]⟩
noncomputable def laws_markIntA2S_l0_0_ex : List (Ex × Sh) := [(.exit 2, ⟨[(0, .one (.ref 0)), (1, .one (.ro I)), (5, .one (.ro I))], [.sl 137 QII .own]⟩)]
noncomputable def laws_markIntA2S_l0_0 {R : Type} (N : Nat) (k0 : Int → Int → (List (Int × Int)) → Option R) (_ : Nat) (kv3 : Int) (i2 : Int) (o2 : (List (Int × Int))) : Option R :=
  (chk (inb o2 i2)
    (chk (inb (tSet o2 i2 (kv3, (rdP o2 i2).2)) i2)
    (k0 (IntKind.i64.wrap ((IntKind.i64.wrap (kv3 + 1)) + 1)) i2 (tSet (tSet o2 i2 (kv3, (rdP o2 i2).2)) i2 ((rdP (tSet o2 i2 (kv3, (rdP o2 i2).2)) i2).1, (IntKind.i64.wrap (kv3 + 1)))))))
noncomputable def laws_markIntA2S_l0_0_again {R : Type} (N : Nat) (ks : (j : Nat) → ((laws_markIntA2S_l0_0_ex.getD j (.ret, Sh.none)).2).T → Option R) (x : laws_markIntA2S_l0_0_sh.T) : Option R :=
  laws_markIntA2S_l0_0 N (fun y0 y1 y2 => ks 0 (((), y0, y1, ()), (y2, ()))) N x.1.2.1 x.1.2.2.1 x.2.1
noncomputable def laws_markIntA2S_l0_0_s (N : Nat) : LSum := ⟨laws_markIntA2S_l0_0_sh, laws_markIntA2S_l0_0_ex, fun x ks => laws_markIntA2S_l0_0_again N ks x⟩
theorem laws_markIntA2S_l0_0_unr (N : Nat) (R : Type) (x : laws_markIntA2S_l0_0_sh.T) (ks : (j : Nat) → ((laws_markIntA2S_l0_0_ex.getD j (.ret, Sh.none)).2).T → Option R) : laws_markIntA2S_l0_0_again N ks x = unrF (laws_markIntA2S_G N) tab (loopAt (loopAt laws_markIntA2S_code 0) 0) laws_markIntA2S_l0_0_ex ks 3 (fill laws_markIntA2S_l0_0_sh x) := by kernel_rfl
theorem laws_markIntA2S_l0_0_ok (N : Nat) : LoopOk Try.prog Try.f77.ntmps (laws_markIntA2S_l0_0_s N) (loopAt (loopAt laws_markIntA2S_code 0) 0) :=
  unroll_ok (l := laws_markIntA2S_l0_0_s N) progOk (laws_markIntA2S_gok N) (draw_ok progOk (laws_markIntA2S_gok N)) (fun R x ks r h => ⟨3, (laws_markIntA2S_l0_0_unr N R x ks).symm.trans h⟩) (by kernel_rfl) (by kernel_rfl)
noncomputable def laws_markIntA2S_l0_sh : Sh := ⟨[(0, .one (.ref 0)), (1, .one (.ro I)), (5, .one (.ro I))], [.sl 137 QII .own]⟩
noncomputable def laws_markIntA2S_l0_ex : List (Ex × Sh) := [(.exit 0, ⟨[(0, .one (.ref 0)), (1, .one (.ro I))], [.sl 137 QII .own]⟩)]
noncomputable def laws_markIntA2S_l0 {R : Type} (N : Nat) (k0 : Int → (List (Int × Int)) → Option R) : Nat → Int → Int → (List (Int × Int)) → Option R
  | 0, _, _, _ => none
  | K + 1, kv1, i, o =>
    (br (ilt i (tLen o))
      (laws_markIntA2S_l0_0 N (fun kv2 i1 o1 => laws_markIntA2S_l0 N k0 K kv2 (IntKind.i64.wrap (i1 + 1)) o1) N kv1 i o)
      (k0 kv1 o))
noncomputable def laws_markIntA2S_l0_again {R : Type} (N : Nat) (ks : (j : Nat) → ((laws_markIntA2S_l0_ex.getD j (.ret, Sh.none)).2).T → Option R) (k : Nat) (x : laws_markIntA2S_l0_sh.T) : Option R :=
  laws_markIntA2S_l0 N (fun y0 y1 => ks 0 (((), y0, ()), (y1, ()))) k x.1.2.1 x.1.2.2.1 x.2.1
noncomputable def laws_markIntA2S_l0_s (N : Nat) : LSum := ⟨laws_markIntA2S_l0_sh, laws_markIntA2S_l0_ex, fun x ks => laws_markIntA2S_l0_again N ks N x⟩
theorem laws_markIntA2S_l0_step (N : Nat) (R : Type) (k : Nat) (x : laws_markIntA2S_l0_sh.T) (ks : (j : Nat) → ((laws_markIntA2S_l0_ex.getD j (.ret, Sh.none)).2).T → Option R) : laws_markIntA2S_l0_again N ks (k + 1) x = roundF (laws_markIntA2S_G N) tab [laws_markIntA2S_l0_0_s N] (loopAt laws_markIntA2S_code 0) laws_markIntA2S_l0_sh laws_markIntA2S_l0_ex (fun y => laws_markIntA2S_l0_again N ks k y) ks x := by kernel_rfl
theorem laws_markIntA2S_l0_ok (N : Nat) : LoopOk Try.prog Try.f77.ntmps (laws_markIntA2S_l0_s N) (loopAt laws_markIntA2S_code 0) :=
  loop_ok (l := laws_markIntA2S_l0_s N) progOk (laws_markIntA2S_gok N) (draw_ok progOk (laws_markIntA2S_gok N)) (fun R k x ks => laws_markIntA2S_l0_again N ks k x) (fun _ _ _ => rfl) (fun R k x ks => laws_markIntA2S_l0_step N R k x ks) (fun R x ks r h => ⟨N, h⟩) (lsOk_at (L := [laws_markIntA2S_l0_0_s N]) ⟨laws_markIntA2S_l0_0_ok N, trivial⟩) (by kernel_rfl) (by kernel_rfl)
noncomputable def laws_markIntA2S (N : Nat) (a : (List (Int × Int))) (kv : Int) : Option ((Int × Unit) × ((List (Int × Int)) × Unit)) :=
  laws_markIntA2S_l0 N (fun kv1 o => some ((kv1, ()), (o, ()))) N kv 0 a
noncomputable def laws_markIntA2S_S (N : Nat) : FSum := ⟨laws_markIntA2S_ps, laws_markIntA2S_rs, fun x => laws_markIntA2S N x.1 x.2.1⟩
theorem laws_markIntA2S_run (N : Nat) (x : argsT laws_markIntA2S_ps) : laws_markIntA2S N x.1 x.2.1 = funF (laws_markIntA2S_G N) tab [laws_markIntA2S_l0_s N] Try.f77 laws_markIntA2S_ps laws_markIntA2S_rs x := by kernel_rfl
theorem laws_markIntA2S_pc (N : Nat) : PC Try.prog 77 (laws_markIntA2S_S N) := by
  have e : laws_markIntA2S_S N = ⟨laws_markIntA2S_ps, laws_markIntA2S_rs, funF (laws_markIntA2S_G N) tab [laws_markIntA2S_l0_s N] Try.f77 laws_markIntA2S_ps laws_markIntA2S_rs⟩ := congrArg (FSum.mk laws_markIntA2S_ps laws_markIntA2S_rs) (funext (laws_markIntA2S_run N))
  rw [e]
  exact fun_ok (c := laws_markIntA2S_code) progOk (laws_markIntA2S_gok N) (draw_ok progOk (laws_markIntA2S_gok N)) Try.call77 Try.func77 (by kernel_rfl) (lsOk_at (L := [laws_markIntA2S_l0_s N]) ⟨laws_markIntA2S_l0_ok N, trivial⟩) (by kernel_rfl) (by kernel_rfl) (by kernel_rfl) (by kernel_rfl) (by kernel_rfl)

/-! ### laws_markSpace -/
abbrev laws_markSpace_ps : List (PV.Mode × Ty) := [(.mut, QLLILQII), (.ro, I)]
abbrev laws_markSpace_rs : List (Bool × Ty) := [(true, I)]
noncomputable def laws_markSpace_G (N : Nat) : GTab := gOf [(22, laws_markIntSS_S N), (77, laws_markIntA2S_S N)]
theorem laws_markSpace_gok (N : Nat) : GOk Try.prog (laws_markSpace_G N) := gOf_ok ⟨laws_markIntSS_pc N, laws_markIntA2S_pc N, trivial⟩
noncomputable def laws_markSpace_code : Code := (Try.f47.body).getD .skip
noncomputable def laws_markSpace (N : Nat) (a : ((List (List Int)) × (List (Int × Int)))) (kv : Int) : Option ((Int × Unit) × (((List (List Int)) × (List (Int × Int))) × Unit)) :=
  ((laws_markIntSS N a.1 kv).bind fun r =>
    ((laws_markIntA2S N a.2 r.1.1).bind fun r1 =>
      some ((r1.1.1, ()), ((r.2.1, r1.2.1), ()))))
noncomputable def laws_markSpace_S (N : Nat) : FSum := ⟨laws_markSpace_ps, laws_markSpace_rs, fun x => laws_markSpace N x.1 x.2.1⟩
theorem laws_markSpace_run (N : Nat) (x : argsT laws_markSpace_ps) : laws_markSpace N x.1 x.2.1 = funF (laws_markSpace_G N) tab [] Try.f47 laws_markSpace_ps laws_markSpace_rs x := by kernel_rfl
theorem laws_markSpace_pc (N : Nat) : PC Try.prog 47 (laws_markSpace_S N) := by
  have e : laws_markSpace_S N = ⟨laws_markSpace_ps, laws_markSpace_rs, funF (laws_markSpace_G N) tab [] Try.f47 laws_markSpace_ps laws_markSpace_rs⟩ := congrArg (FSum.mk laws_markSpace_ps laws_markSpace_rs) (funext (laws_markSpace_run N))
  rw [e]
  exact fun_ok (c := laws_markSpace_code) progOk (laws_markSpace_gok N) (draw_ok progOk (laws_markSpace_gok N)) Try.call47 Try.func47 (by kernel_rfl) (lsOk_at (L := []) trivial) (by kernel_rfl) (by kernel_rfl) (by kernel_rfl) (by kernel_rfl) (by kernel_rfl)

/-! ### laws_heldIntS -/
abbrev laws_heldIntS_ps : List (PV.Mode × Ty) := [(.ro, LI), (.ro, I)]
abbrev laws_heldIntS_rs : List (Bool × Ty) := [(true, I)]
noncomputable def laws_heldIntS_G (N : Nat) : GTab := gOf []
theorem laws_heldIntS_gok (N : Nat) : GOk Try.prog (laws_heldIntS_G N) := gOf_ok trivial
noncomputable def laws_heldIntS_code : Code := (Try.f37.body).getD .skip
noncomputable def laws_heldIntS_l0_sh : Sh := ⟨[(0, .one (.ro LI)), (1, .one (.ro I)), (5, .one (.ro I))], []⟩
noncomputable def laws_heldIntS_l0_ex : List (Ex × Sh) := [(.ret, ⟨[(4, .one (.ro I))], []⟩), (.exit 0, ⟨[(1, .one (.ro I))], []⟩)]
noncomputable def laws_heldIntS_l0 {R : Type} (N : Nat) (k0 : Int → Option R) (k1 : Int → Option R) : Nat → (List Int) → Int → Int → Option R
  | 0, _, _, _ => none
  | K + 1, a1, kv1, i =>
    (br (ilt i (tLen a1))
      ((chk (inb a1 i)
        (br (ine (rdI a1 i) kv1)
        (k0 (-1))
        (laws_heldIntS_l0 N k0 k1 K a1 (IntKind.i64.wrap (kv1 + 1)) (IntKind.i64.wrap (i + 1))))))
      (k1 kv1))
noncomputable def laws_heldIntS_l0_again {R : Type} (N : Nat) (ks : (j : Nat) → ((laws_heldIntS_l0_ex.getD j (.ret, Sh.none)).2).T → Option R) (k : Nat) (x : laws_heldIntS_l0_sh.T) : Option R :=
  laws_heldIntS_l0 N (fun y0 => ks 0 ((y0, ()), ())) (fun y0 => ks 1 ((y0, ()), ())) k x.1.1 x.1.2.1 x.1.2.2.1
noncomputable def laws_heldIntS_l0_s (N : Nat) : LSum := ⟨laws_heldIntS_l0_sh, laws_heldIntS_l0_ex, fun x ks => laws_heldIntS_l0_again N ks N x⟩
theorem laws_heldIntS_l0_step (N : Nat) (R : Type) (k : Nat) (x : laws_heldIntS_l0_sh.T) (ks : (j : Nat) → ((laws_heldIntS_l0_ex.getD j (.ret, Sh.none)).2).T → Option R) : laws_heldIntS_l0_again N ks (k + 1) x = roundF (laws_heldIntS_G N) tab [] (loopAt laws_heldIntS_code 0) laws_heldIntS_l0_sh laws_heldIntS_l0_ex (fun y => laws_heldIntS_l0_again N ks k y) ks x := by kernel_rfl
theorem laws_heldIntS_l0_ok (N : Nat) : LoopOk Try.prog Try.f37.ntmps (laws_heldIntS_l0_s N) (loopAt laws_heldIntS_code 0) :=
  loop_ok (l := laws_heldIntS_l0_s N) progOk (laws_heldIntS_gok N) (draw_ok progOk (laws_heldIntS_gok N)) (fun R k x ks => laws_heldIntS_l0_again N ks k x) (fun _ _ _ => rfl) (fun R k x ks => laws_heldIntS_l0_step N R k x ks) (fun R x ks r h => ⟨N, h⟩) (lsOk_at (L := []) trivial) (by kernel_rfl) (by kernel_rfl)
noncomputable def laws_heldIntS (N : Nat) (a : (List Int)) (kv : Int) : Option ((Int × Unit) × (Unit)) :=
  laws_heldIntS_l0 N (fun x => some ((x, ()), ())) (fun kv1 => some ((kv1, ()), ())) N a kv 0
noncomputable def laws_heldIntS_S (N : Nat) : FSum := ⟨laws_heldIntS_ps, laws_heldIntS_rs, fun x => laws_heldIntS N x.1 x.2.1⟩
theorem laws_heldIntS_run (N : Nat) (x : argsT laws_heldIntS_ps) : laws_heldIntS N x.1 x.2.1 = funF (laws_heldIntS_G N) tab [laws_heldIntS_l0_s N] Try.f37 laws_heldIntS_ps laws_heldIntS_rs x := by kernel_rfl
theorem laws_heldIntS_pc (N : Nat) : PC Try.prog 37 (laws_heldIntS_S N) := by
  have e : laws_heldIntS_S N = ⟨laws_heldIntS_ps, laws_heldIntS_rs, funF (laws_heldIntS_G N) tab [laws_heldIntS_l0_s N] Try.f37 laws_heldIntS_ps laws_heldIntS_rs⟩ := congrArg (FSum.mk laws_heldIntS_ps laws_heldIntS_rs) (funext (laws_heldIntS_run N))
  rw [e]
  exact fun_ok (c := laws_heldIntS_code) progOk (laws_heldIntS_gok N) (draw_ok progOk (laws_heldIntS_gok N)) Try.call37 Try.func37 (by kernel_rfl) (lsOk_at (L := [laws_heldIntS_l0_s N]) ⟨laws_heldIntS_l0_ok N, trivial⟩) (by kernel_rfl) (by kernel_rfl) (by kernel_rfl) (by kernel_rfl) (by kernel_rfl)

/-! ### laws_heldIntSS -/
abbrev laws_heldIntSS_ps : List (PV.Mode × Ty) := [(.ro, LLI), (.ro, I)]
abbrev laws_heldIntSS_rs : List (Bool × Ty) := [(true, I)]
noncomputable def laws_heldIntSS_G (N : Nat) : GTab := gOf [(37, laws_heldIntS_S N)]
theorem laws_heldIntSS_gok (N : Nat) : GOk Try.prog (laws_heldIntSS_G N) := gOf_ok ⟨laws_heldIntS_pc N, trivial⟩
noncomputable def laws_heldIntSS_code : Code := (Try.f23.body).getD .skip
noncomputable def laws_heldIntSS_l0_sh : Sh := ⟨[(0, .one (.ro LLI)), (1, .one (.ro I)), (5, .one (.ro I))], []⟩
noncomputable def laws_heldIntSS_l0_ex : List (Ex × Sh) := [(.ret, ⟨[(4, .one (.ro I))], []⟩), (.exit 0, ⟨[(1, .one (.ro I))], []⟩)]
noncomputable def laws_heldIntSS_l0 {R : Type} (N : Nat) (k0 : Int → Option R) (k1 : Int → Option R) : Nat → (List (List Int)) → Int → Int → Option R
  | 0, _, _, _ => none
  | K + 1, a1, kv1, i =>
    (br (ilt i (tLen a1))
      ((chk (inb a1 i)
        ((laws_heldIntS N (rdL a1 i) kv1).bind fun r =>
        (br (ilt r.1.1 0)
          (k0 (-1))
          (laws_heldIntSS_l0 N k0 k1 K a1 r.1.1 (IntKind.i64.wrap (i + 1)))))))
      (k1 kv1))
noncomputable def laws_heldIntSS_l0_again {R : Type} (N : Nat) (ks : (j : Nat) → ((laws_heldIntSS_l0_ex.getD j (.ret, Sh.none)).2).T → Option R) (k : Nat) (x : laws_heldIntSS_l0_sh.T) : Option R :=
  laws_heldIntSS_l0 N (fun y0 => ks 0 ((y0, ()), ())) (fun y0 => ks 1 ((y0, ()), ())) k x.1.1 x.1.2.1 x.1.2.2.1
noncomputable def laws_heldIntSS_l0_s (N : Nat) : LSum := ⟨laws_heldIntSS_l0_sh, laws_heldIntSS_l0_ex, fun x ks => laws_heldIntSS_l0_again N ks N x⟩
theorem laws_heldIntSS_l0_step (N : Nat) (R : Type) (k : Nat) (x : laws_heldIntSS_l0_sh.T) (ks : (j : Nat) → ((laws_heldIntSS_l0_ex.getD j (.ret, Sh.none)).2).T → Option R) : laws_heldIntSS_l0_again N ks (k + 1) x = roundF (laws_heldIntSS_G N) tab [] (loopAt laws_heldIntSS_code 0) laws_heldIntSS_l0_sh laws_heldIntSS_l0_ex (fun y => laws_heldIntSS_l0_again N ks k y) ks x := by kernel_rfl
theorem laws_heldIntSS_l0_ok (N : Nat) : LoopOk Try.prog Try.f23.ntmps (laws_heldIntSS_l0_s N) (loopAt laws_heldIntSS_code 0) :=
  loop_ok (l := laws_heldIntSS_l0_s N) progOk (laws_heldIntSS_gok N) (draw_ok progOk (laws_heldIntSS_gok N)) (fun R k x ks => laws_heldIntSS_l0_again N ks k x) (fun _ _ _ => rfl) (fun R k x ks => laws_heldIntSS_l0_step N R k x ks) (fun R x ks r h => ⟨N, h⟩) (lsOk_at (L := []) trivial) (by kernel_rfl) (by kernel_rfl)
noncomputable def laws_heldIntSS (N : Nat) (a : (List (List Int))) (kv : Int) : Option ((Int × Unit) × (Unit)) :=
  laws_heldIntSS_l0 N (fun x => some ((x, ()), ())) (fun kv1 => some ((kv1, ()), ())) N a kv 0
noncomputable def laws_heldIntSS_S (N : Nat) : FSum := ⟨laws_heldIntSS_ps, laws_heldIntSS_rs, fun x => laws_heldIntSS N x.1 x.2.1⟩
theorem laws_heldIntSS_run (N : Nat) (x : argsT laws_heldIntSS_ps) : laws_heldIntSS N x.1 x.2.1 = funF (laws_heldIntSS_G N) tab [laws_heldIntSS_l0_s N] Try.f23 laws_heldIntSS_ps laws_heldIntSS_rs x := by kernel_rfl
theorem laws_heldIntSS_pc (N : Nat) : PC Try.prog 23 (laws_heldIntSS_S N) := by
  have e : laws_heldIntSS_S N = ⟨laws_heldIntSS_ps, laws_heldIntSS_rs, funF (laws_heldIntSS_G N) tab [laws_heldIntSS_l0_s N] Try.f23 laws_heldIntSS_ps laws_heldIntSS_rs⟩ := congrArg (FSum.mk laws_heldIntSS_ps laws_heldIntSS_rs) (funext (laws_heldIntSS_run N))
  rw [e]
  exact fun_ok (c := laws_heldIntSS_code) progOk (laws_heldIntSS_gok N) (draw_ok progOk (laws_heldIntSS_gok N)) Try.call23 Try.func23 (by kernel_rfl) (lsOk_at (L := [laws_heldIntSS_l0_s N]) ⟨laws_heldIntSS_l0_ok N, trivial⟩) (by kernel_rfl) (by kernel_rfl) (by kernel_rfl) (by kernel_rfl) (by kernel_rfl)

/-! ### laws_heldIntA2S -/
abbrev laws_heldIntA2S_ps : List (PV.Mode × Ty) := [(.ro, LQII), (.ro, I)]
abbrev laws_heldIntA2S_rs : List (Bool × Ty) := [(true, I)]
noncomputable def laws_heldIntA2S_G (N : Nat) : GTab := gOf []
theorem laws_heldIntA2S_gok (N : Nat) : GOk Try.prog (laws_heldIntA2S_G N) := gOf_ok trivial
noncomputable def laws_heldIntA2S_code : Code := (Try.f109.body).getD .skip
noncomputable def laws_heldIntA2S_l0_0_sh : Sh := ⟨[(0, .one (.ro LQII)), (1, .one (.ro I)), (5, .one (.ro I)), (6, .one (.num .i64 0))], []⟩
noncomputable def laws_heldIntA2S_l0_0_ex : List (Ex × Sh) := [(.ret, ⟨[(4, .one (.ro I))], []⟩), (.exit 2, ⟨[(0, .one (.ro LQII)), (1, .one (.ro I)), (5, .one (.ro I))], []⟩)]
noncomputable def laws_heldIntA2S_l0_0 {R : Type} (N : Nat) (k0 : Int → Option R) (k1 : (List (Int × Int)) → Int → Int → Option R) (_ : Nat) (a3 : (List (Int × Int))) (kv3 : Int) (i2 : Int) : Option R :=
  (chk (inb a3 i2)
    (br (ine ((rdP a3 i2).1) kv3)
    (k0 (-1))
    ((chk (inb a3 i2)
      (br (ine ((rdP a3 i2).2) (IntKind.i64.wrap (kv3 + 1)))
      (k0 (-1))
      (k1 a3 (IntKind.i64.wrap ((IntKind.i64.wrap (kv3 + 1)) + 1)) i2))))))
noncomputable def laws_heldIntA2S_l0_0_again {R : Type} (N : Nat) (ks : (j : Nat) → ((laws_heldIntA2S_l0_0_ex.getD j (.ret, Sh.none)).2).T → Option R) (x : laws_heldIntA2S_l0_0_sh.T) : Option R :=
  laws_heldIntA2S_l0_0 N (fun y0 => ks 0 ((y0, ()), ())) (fun y0 y1 y2 => ks 1 ((y0, y1, y2, ()), ())) N x.1.1 x.1.2.1 x.1.2.2.1
noncomputable def laws_heldIntA2S_l0_0_s (N : Nat) : LSum := ⟨laws_heldIntA2S_l0_0_sh, laws_heldIntA2S_l0_0_ex, fun x ks => laws_heldIntA2S_l0_0_again N ks x⟩
theorem laws_heldIntA2S_l0_0_unr (N : Nat) (R : Type) (x : laws_heldIntA2S_l0_0_sh.T) (ks : (j : Nat) → ((laws_heldIntA2S_l0_0_ex.getD j (.ret, Sh.none)).2).T → Option R) : laws_heldIntA2S_l0_0_again N ks x = unrF (laws_heldIntA2S_G N) tab (loopAt (loopAt laws_heldIntA2S_code 0) 0) laws_heldIntA2S_l0_0_ex ks 3 (fill laws_heldIntA2S_l0_0_sh x) := by kernel_rfl
theorem laws_heldIntA2S_l0_0_ok (N : Nat) : LoopOk Try.prog Try.f109.ntmps (laws_heldIntA2S_l0_0_s N) (loopAt (loopAt laws_heldIntA2S_code 0) 0) :=
  unroll_ok (l := laws_heldIntA2S_l0_0_s N) progOk (laws_heldIntA2S_gok N) (draw_ok progOk (laws_heldIntA2S_gok N)) (fun R x ks r h => ⟨3, (laws_heldIntA2S_l0_0_unr N R x ks).symm.trans h⟩) (by kernel_rfl) (by kernel_rfl)
noncomputable def laws_heldIntA2S_l0_sh : Sh := ⟨[(0, .one (.ro LQII)), (1, .one (.ro I)), (5, .one (.ro I))], []⟩
noncomputable def laws_heldIntA2S_l0_ex : List (Ex × Sh) := [(.ret, ⟨[(4, .one (.ro I))], []⟩), (.exit 0, ⟨[(1, .one (.ro I))], []⟩)]
noncomputable def laws_heldIntA2S_l0 {R : Type} (N : Nat) (k0 : Int → Option R) (k1 : Int → Option R) : Nat → (List (Int × Int)) → Int → Int → Option R
  | 0, _, _, _ => none
  | K + 1, a1, kv1, i =>
    (br (ilt i (tLen a1))
      (laws_heldIntA2S_l0_0 N (fun x => k0 x) (fun a2 kv2 i1 => laws_heldIntA2S_l0 N k0 k1 K a2 kv2 (IntKind.i64.wrap (i1 + 1))) N a1 kv1 i)
      (k1 kv1))
noncomputable def laws_heldIntA2S_l0_again {R : Type} (N : Nat) (ks : (j : Nat) → ((laws_heldIntA2S_l0_ex.getD j (.ret, Sh.none)).2).T → Option R) (k : Nat) (x : laws_heldIntA2S_l0_sh.T) : Option R :=
  laws_heldIntA2S_l0 N (fun y0 => ks 0 ((y0, ()), ())) (fun y0 => ks 1 ((y0, ()), ())) k x.1.1 x.1.2.1 x.1.2.2.1
noncomputable def laws_heldIntA2S_l0_s (N : Nat) : LSum := ⟨laws_heldIntA2S_l0_sh, laws_heldIntA2S_l0_ex, fun x ks => laws_heldIntA2S_l0_again N ks N x⟩
theorem laws_heldIntA2S_l0_step (N : Nat) (R : Type) (k : Nat) (x : laws_heldIntA2S_l0_sh.T) (ks : (j : Nat) → ((laws_heldIntA2S_l0_ex.getD j (.ret, Sh.none)).2).T → Option R) : laws_heldIntA2S_l0_again N ks (k + 1) x = roundF (laws_heldIntA2S_G N) tab [laws_heldIntA2S_l0_0_s N] (loopAt laws_heldIntA2S_code 0) laws_heldIntA2S_l0_sh laws_heldIntA2S_l0_ex (fun y => laws_heldIntA2S_l0_again N ks k y) ks x := by kernel_rfl
theorem laws_heldIntA2S_l0_ok (N : Nat) : LoopOk Try.prog Try.f109.ntmps (laws_heldIntA2S_l0_s N) (loopAt laws_heldIntA2S_code 0) :=
  loop_ok (l := laws_heldIntA2S_l0_s N) progOk (laws_heldIntA2S_gok N) (draw_ok progOk (laws_heldIntA2S_gok N)) (fun R k x ks => laws_heldIntA2S_l0_again N ks k x) (fun _ _ _ => rfl) (fun R k x ks => laws_heldIntA2S_l0_step N R k x ks) (fun R x ks r h => ⟨N, h⟩) (lsOk_at (L := [laws_heldIntA2S_l0_0_s N]) ⟨laws_heldIntA2S_l0_0_ok N, trivial⟩) (by kernel_rfl) (by kernel_rfl)
noncomputable def laws_heldIntA2S (N : Nat) (a : (List (Int × Int))) (kv : Int) : Option ((Int × Unit) × (Unit)) :=
  laws_heldIntA2S_l0 N (fun x => some ((x, ()), ())) (fun kv1 => some ((kv1, ()), ())) N a kv 0
noncomputable def laws_heldIntA2S_S (N : Nat) : FSum := ⟨laws_heldIntA2S_ps, laws_heldIntA2S_rs, fun x => laws_heldIntA2S N x.1 x.2.1⟩
theorem laws_heldIntA2S_run (N : Nat) (x : argsT laws_heldIntA2S_ps) : laws_heldIntA2S N x.1 x.2.1 = funF (laws_heldIntA2S_G N) tab [laws_heldIntA2S_l0_s N] Try.f109 laws_heldIntA2S_ps laws_heldIntA2S_rs x := by kernel_rfl
theorem laws_heldIntA2S_pc (N : Nat) : PC Try.prog 109 (laws_heldIntA2S_S N) := by
  have e : laws_heldIntA2S_S N = ⟨laws_heldIntA2S_ps, laws_heldIntA2S_rs, funF (laws_heldIntA2S_G N) tab [laws_heldIntA2S_l0_s N] Try.f109 laws_heldIntA2S_ps laws_heldIntA2S_rs⟩ := congrArg (FSum.mk laws_heldIntA2S_ps laws_heldIntA2S_rs) (funext (laws_heldIntA2S_run N))
  rw [e]
  exact fun_ok (c := laws_heldIntA2S_code) progOk (laws_heldIntA2S_gok N) (draw_ok progOk (laws_heldIntA2S_gok N)) Try.call109 Try.func109 (by kernel_rfl) (lsOk_at (L := [laws_heldIntA2S_l0_s N]) ⟨laws_heldIntA2S_l0_ok N, trivial⟩) (by kernel_rfl) (by kernel_rfl) (by kernel_rfl) (by kernel_rfl) (by kernel_rfl)

/-! ### laws_heldSpace -/
abbrev laws_heldSpace_ps : List (PV.Mode × Ty) := [(.ro, QLLILQII), (.ro, I)]
abbrev laws_heldSpace_rs : List (Bool × Ty) := [(true, I)]
noncomputable def laws_heldSpace_G (N : Nat) : GTab := gOf [(23, laws_heldIntSS_S N), (109, laws_heldIntA2S_S N)]
theorem laws_heldSpace_gok (N : Nat) : GOk Try.prog (laws_heldSpace_G N) := gOf_ok ⟨laws_heldIntSS_pc N, laws_heldIntA2S_pc N, trivial⟩
noncomputable def laws_heldSpace_code : Code := (Try.f48.body).getD .skip
noncomputable def laws_heldSpace (N : Nat) (a : ((List (List Int)) × (List (Int × Int)))) (kv : Int) : Option ((Int × Unit) × (Unit)) :=
  ((laws_heldIntSS N a.1 kv).bind fun r =>
    (br (ilt r.1.1 0)
      (some (((-1), ()), ()))
      (((laws_heldIntA2S N a.2 r.1.1).bind fun r1 =>
        (br (ilt r1.1.1 0)
          (some (((-1), ()), ()))
          (some ((r1.1.1, ()), ())))))))
noncomputable def laws_heldSpace_S (N : Nat) : FSum := ⟨laws_heldSpace_ps, laws_heldSpace_rs, fun x => laws_heldSpace N x.1 x.2.1⟩
theorem laws_heldSpace_run (N : Nat) (x : argsT laws_heldSpace_ps) : laws_heldSpace N x.1 x.2.1 = funF (laws_heldSpace_G N) tab [] Try.f48 laws_heldSpace_ps laws_heldSpace_rs x := by kernel_rfl
theorem laws_heldSpace_pc (N : Nat) : PC Try.prog 48 (laws_heldSpace_S N) := by
  have e : laws_heldSpace_S N = ⟨laws_heldSpace_ps, laws_heldSpace_rs, funF (laws_heldSpace_G N) tab [] Try.f48 laws_heldSpace_ps laws_heldSpace_rs⟩ := congrArg (FSum.mk laws_heldSpace_ps laws_heldSpace_rs) (funext (laws_heldSpace_run N))
  rw [e]
  exact fun_ok (c := laws_heldSpace_code) progOk (laws_heldSpace_gok N) (draw_ok progOk (laws_heldSpace_gok N)) Try.call48 Try.func48 (by kernel_rfl) (lsOk_at (L := []) trivial) (by kernel_rfl) (by kernel_rfl) (by kernel_rfl) (by kernel_rfl) (by kernel_rfl)

/-! ### laws_FnExactParitySpace -/
abbrev laws_FnExactParitySpace_ps : List (PV.Mode × Ty) := [(.ro, QIQLLILI)]
abbrev laws_FnExactParitySpace_rs : List (Bool × Ty) := [(true, .bool)]
noncomputable def laws_FnExactParitySpace_G (N : Nat) : GTab := gOf [(49, laws_szParity_S N), (51, laws_toParity_S N), (50, spec_ParitySpace_S N), (52, impl_ParitySpace_S N), (44, laws_eqSpace_S N), (53, laws_eqParity_S N), (54, laws_markParity_S N), (47, laws_markSpace_S N), (48, laws_heldSpace_S N)]
theorem laws_FnExactParitySpace_gok (N : Nat) : GOk Try.prog (laws_FnExactParitySpace_G N) := gOf_ok ⟨laws_szParity_pc N, laws_toParity_pc N, spec_ParitySpace_pc N, impl_ParitySpace_pc N, laws_eqSpace_pc N, laws_eqParity_pc N, laws_markParity_pc N, laws_markSpace_pc N, laws_heldSpace_pc N, trivial⟩
noncomputable def laws_FnExactParitySpace_code : Code := (Try.f11.body).getD .skip
noncomputable def laws_FnExactParitySpace (N : Nat) (c : (Int × ((List (List Int)) × (List Int)))) : Option ((Bool × Unit) × (Unit)) :=
  ((laws_szParity N (c.1, (c.2.1, c.2.2)) 1048576).bind fun r =>
    (br (ilt r.1.1 0)
      (some ((true, ()), ()))
      (((laws_toParity N (c.1, (c.2.1, c.2.2))).bind fun r1 =>
        ((spec_ParitySpace N (r1.1.1.1, (r1.1.1.2.1, r1.1.1.2.2))).bind fun r2 =>
          ((laws_toParity N (c.1, (c.2.1, c.2.2))).bind fun r3 =>
            ((impl_ParitySpace N (r3.1.1.1, (r3.1.1.2.1, r3.1.1.2.2))).bind fun r4 =>
              ((laws_eqSpace N (r4.1.1.1, r4.1.1.2) (r2.1.1.1, r2.1.1.2)).bind fun r5 =>
                (br (!r5.1.1)
                  (some ((false, ()), ()))
                  ((br (!(r4.1.2.1 == r2.1.2.1))
                    (some ((false, ()), ()))
                    (((laws_toParity N (c.1, (c.2.1, c.2.2))).bind fun r6 =>
                      ((laws_eqParity N (r3.1.1.1, (r3.1.1.2.1, r3.1.1.2.2)) (r6.1.1.1, (r6.1.1.2.1, r6.1.1.2.2))).bind fun r7 =>
                        (br (!r7.1.1)
                          (some ((false, ()), ()))
                          (((laws_markParity N (r3.1.1.1, (r3.1.1.2.1, r3.1.1.2.2)) 1).bind fun r8 =>
                            (br (ilt r8.1.1 0)
                              (some ((false, ()), ()))
                              (((laws_eqSpace N (r4.1.1.1, r4.1.1.2) (r2.1.1.1, r2.1.1.2)).bind fun r9 =>
                                (br (!r9.1.1)
                                  (some ((false, ()), ()))
                                  ((br (!(r4.1.2.1 == r2.1.2.1))
                                    (some ((false, ()), ()))
                                    (((laws_markSpace N (r4.1.1.1, r4.1.1.2) 1).bind fun r10 =>
                                      ((laws_heldSpace N (r10.2.1.1, r10.2.1.2) 1).bind fun r11 =>
                                        (br (ilt r11.1.1 0)
                                          (some ((false, ()), ()))
                                          ((br (ine r11.1.1 r10.1.1)
                                            (some ((false, ()), ()))
                                            (((laws_toParity N (c.1, (c.2.1, c.2.2))).bind fun r12 =>
                                              ((impl_ParitySpace N (r12.1.1.1, (r12.1.1.2.1, r12.1.1.2.2))).bind fun r13 =>
                                                ((laws_eqSpace N (r13.1.1.1, r13.1.1.2) (r2.1.1.1, r2.1.1.2)).bind fun r14 =>
                                                  (br (!r14.1.1)
                                                    (some ((false, ()), ()))
                                                    ((br (!(r13.1.2.1 == r2.1.2.1))
                                                      (some ((false, ()), ()))
                                                      (((laws_heldSpace N (r10.2.1.1, r10.2.1.2) 1).bind fun r15 =>
                                                        (br (ilt r15.1.1 0)
                                                          (some ((false, ()), ()))
                                                          ((br (ine r15.1.1 r10.1.1)
                                                            (some ((false, ()), ()))
                                                            (some ((true, ()), ())))))))))))))))))))))))))))))))))))))))))))
noncomputable def laws_FnExactParitySpace_S (N : Nat) : FSum := ⟨laws_FnExactParitySpace_ps, laws_FnExactParitySpace_rs, fun x => laws_FnExactParitySpace N x.1⟩
theorem laws_FnExactParitySpace_run (N : Nat) (x : argsT laws_FnExactParitySpace_ps) : laws_FnExactParitySpace N x.1 = funF (laws_FnExactParitySpace_G N) tab [] Try.f11 laws_FnExactParitySpace_ps laws_FnExactParitySpace_rs x := by kernel_rfl
theorem laws_FnExactParitySpace_pc (N : Nat) : PC Try.prog 11 (laws_FnExactParitySpace_S N) := by
  have e : laws_FnExactParitySpace_S N = ⟨laws_FnExactParitySpace_ps, laws_FnExactParitySpace_rs, funF (laws_FnExactParitySpace_G N) tab [] Try.f11 laws_FnExactParitySpace_ps laws_FnExactParitySpace_rs⟩ := congrArg (FSum.mk laws_FnExactParitySpace_ps laws_FnExactParitySpace_rs) (funext (laws_FnExactParitySpace_run N))
  rw [e]
  exact fun_ok (c := laws_FnExactParitySpace_code) progOk (laws_FnExactParitySpace_gok N) (draw_ok progOk (laws_FnExactParitySpace_gok N)) Try.call11 Try.func11 (by kernel_rfl) (lsOk_at (L := []) trivial) (by kernel_rfl) (by kernel_rfl) (by kernel_rfl) (by kernel_rfl) (by kernel_rfl)
end Go.Proofs.Ytfbkjgeaoafejaa
