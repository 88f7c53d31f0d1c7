/- Functions of the program as functions on data. -/
import Derived.Test.YtbnebekejbhopaaLooseVarsFa
set_option linter.all false
namespace Go.Proofs.Ytbnebekejbhopaa
open Go Go.PV
/-! ### impl_LooseVars -/
noncomputable def impl_LooseVars_G (N : Nat) : GTab := gOf [(27, impl_IsParity_S N), (66, slices_ContainsFunc_LLI_LI_S N), (85, impl_LooseVars_c1_S N)]
theorem impl_LooseVars_gok (N : Nat) : GOk Try.prog (impl_LooseVars_G N) := gOf_ok ⟨impl_IsParity_pc N, slices_ContainsFunc_LLI_LI_pc N, impl_LooseVars_c1_pc N, trivial⟩
noncomputable def impl_LooseVars_code : Code := (Try.f43.body).getD .skip
noncomputable def impl_LooseVars_l0_sh : Sh := ⟨[(1, .one (.adr 0 0)), (4, .one (.ref 1)), (11, .one (.ro I)), (12, .one (.ro I))], [.box [.ro I, .ro LLI, .ro LI], .sl 3 I .own]⟩
noncomputable def impl_LooseVars_l0_ex : List (Ex × Sh) := [(.exit 0, ⟨[(4, .one (.ref 0))], [.sl 3 I .own]⟩)]
noncomputable def impl_LooseVars_l0 {R : Type} (N : Nat) (k0 : (List Int) → Option R) : Nat → Int → Int → Int → (List (List Int)) → (List Int) → (List Int) → Option R
  | 0, _, _, _, _, _, _ => none
  | K + 1, x, x1, o, o1, o2, o3 =>
    (br (ilt x1 x)
      (((slices_ContainsFunc_LLI_LI N o1 (fun y0 => (impl_LooseVars_c1 N y0 x1).bind fun z => some z.1.1)).bind fun r1 =>
        (br (!r1.1.1)
          ((chk (room o3 [x1])
            (impl_LooseVars_l0 N k0 K x (IntKind.i64.wrap (x1 + 1)) o o1 o2 (tApp o3 [x1]))))
          (impl_LooseVars_l0 N k0 K x (IntKind.i64.wrap (x1 + 1)) o o1 o2 o3))))
      (k0 o3))
noncomputable def impl_LooseVars_l0_again {R : Type} (N : Nat) (ks : (j : Nat) → ((impl_LooseVars_l0_ex.getD j (.ret, Sh.none)).2).T → Option R) (k : Nat) (x : impl_LooseVars_l0_sh.T) : Option R :=
  impl_LooseVars_l0 N (fun y0 => ks 0 (((), ()), (y0, ()))) k x.1.2.2.1 x.1.2.2.2.1 x.2.1.1 x.2.1.2.1 x.2.1.2.2.1 x.2.2.1
noncomputable def impl_LooseVars_l0_s (N : Nat) : LSum := ⟨impl_LooseVars_l0_sh, impl_LooseVars_l0_ex, fun x ks => impl_LooseVars_l0_again N ks N x⟩
theorem impl_LooseVars_l0_step (N : Nat) (R : Type) (k : Nat) (x : impl_LooseVars_l0_sh.T) (ks : (j : Nat) → ((impl_LooseVars_l0_ex.getD j (.ret, Sh.none)).2).T → Option R) : impl_LooseVars_l0_again N ks (k + 1) x = roundF (impl_LooseVars_G N) tab [] (loopAt impl_LooseVars_code 0) impl_LooseVars_l0_sh impl_LooseVars_l0_ex (fun y => impl_LooseVars_l0_again N ks k y) ks x := by kernel_rfl
theorem impl_LooseVars_l0_ok (N : Nat) : LoopOk Try.prog Try.f43.ntmps (impl_LooseVars_l0_s N) (loopAt impl_LooseVars_code 0) :=
  loop_ok (l := impl_LooseVars_l0_s N) progOk (impl_LooseVars_gok N) (draw_ok progOk (impl_LooseVars_gok N)) (fun R k x ks => impl_LooseVars_l0_again N ks k x) (fun _ _ _ => rfl) (fun R k x ks => impl_LooseVars_l0_step N R k x ks) (fun R x ks r h => ⟨N, h⟩) (lsOk_at (L := []) trivial) (by kernel_rfl) (by kernel_rfl)
noncomputable def impl_LooseVars (N : Nat) (p : (Int × ((List (List Int)) × (List Int)))) : Option (((List Int) × Bool × Unit) × (Unit)) :=
  ((impl_IsParity N (p.1, (p.2.1, p.2.2))).bind fun r =>
    (br (!r.1.1)
      (some (([], false, ()), ()))
      (impl_LooseVars_l0 N (fun o => some ((o, true, ()), ())) N p.1 0 p.1 p.2.1 p.2.2 [])))
abbrev impl_LooseVars_ps : List (PV.Mode × Ty) := [(.ro, QIQLLILI)]
abbrev impl_LooseVars_rs : List (Bool × Ty) := [(true, LI), (true, .bool)]
noncomputable def impl_LooseVars_S (N : Nat) : FSum := ⟨impl_LooseVars_ps, impl_LooseVars_rs, fun x => impl_LooseVars N x.1⟩
theorem impl_LooseVars_run (N : Nat) (x : argsT impl_LooseVars_ps) : impl_LooseVars N x.1 = funF (impl_LooseVars_G N) tab [impl_LooseVars_l0_s N] Try.f43 impl_LooseVars_ps impl_LooseVars_rs x := by kernel_rfl
theorem impl_LooseVars_pc (N : Nat) : PC Try.prog 43 (impl_LooseVars_S N) := by
  have e : impl_LooseVars_S N = ⟨impl_LooseVars_ps, impl_LooseVars_rs, funF (impl_LooseVars_G N) tab [impl_LooseVars_l0_s N] Try.f43 impl_LooseVars_ps impl_LooseVars_rs⟩ := congrArg (FSum.mk impl_LooseVars_ps impl_LooseVars_rs) (funext (impl_LooseVars_run N))
  rw [e]
  exact fun_ok (c := impl_LooseVars_code) progOk (impl_LooseVars_gok N) (draw_ok progOk (impl_LooseVars_gok N)) Try.call43 Try.func43 (by kernel_rfl) (lsOk_at (L := [impl_LooseVars_l0_s N]) ⟨impl_LooseVars_l0_ok N, trivial⟩) (by kernel_rfl) (by kernel_rfl) (by kernel_rfl) (by kernel_rfl) (by kernel_rfl)

/-! ### laws_eqIntS -/
noncomputable def laws_eqIntS_G (N : Nat) : GTab := gOf []
theorem laws_eqIntS_gok (N : Nat) : GOk Try.prog (laws_eqIntS_G N) := gOf_ok trivial
noncomputable def laws_eqIntS_code : Code := (Try.f18.body).getD .skip
noncomputable def laws_eqIntS_l0_sh : Sh := ⟨[(0, .one (.ro LI)), (1, .one (.ro LI)), (5, .one (.ro I))], []⟩
noncomputable def laws_eqIntS_l0_ex : List (Ex × Sh) := [(.ret, ⟨[(4, .one (.ro .bool))], []⟩), (.exit 0, ⟨[], []⟩)]
noncomputable def laws_eqIntS_l0 {R : Type} (N : Nat) (k0 : Bool → Option R) (k1 : Unit → Option R) : Nat → (List Int) → (List Int) → Int → Option R
  | 0, _, _, _ => none
  | K + 1, a1, b1, i =>
    (br (ilt i (tLen a1))
      ((chk (inb a1 i)
        (chk (inb b1 i)
        (br (ine (rdI a1 i) (rdI b1 i))
        (k0 false)
        (laws_eqIntS_l0 N k0 k1 K a1 b1 (IntKind.i64.wrap (i + 1)))))))
      (k1 ()))
noncomputable def laws_eqIntS_l0_again {R : Type} (N : Nat) (ks : (j : Nat) → ((laws_eqIntS_l0_ex.getD j (.ret, Sh.none)).2).T → Option R) (k : Nat) (x : laws_eqIntS_l0_sh.T) : Option R :=
  laws_eqIntS_l0 N (fun y0 => ks 0 ((y0, ()), ())) (fun (_ : Unit) => ks 1 ((), ())) k x.1.1 x.1.2.1 x.1.2.2.1
noncomputable def laws_eqIntS_l0_s (N : Nat) : LSum := ⟨laws_eqIntS_l0_sh, laws_eqIntS_l0_ex, fun x ks => laws_eqIntS_l0_again N ks N x⟩
theorem laws_eqIntS_l0_step (N : Nat) (R : Type) (k : Nat) (x : laws_eqIntS_l0_sh.T) (ks : (j : Nat) → ((laws_eqIntS_l0_ex.getD j (.ret, Sh.none)).2).T → Option R) : laws_eqIntS_l0_again N ks (k + 1) x = roundF (laws_eqIntS_G N) tab [] (loopAt laws_eqIntS_code 0) laws_eqIntS_l0_sh laws_eqIntS_l0_ex (fun y => laws_eqIntS_l0_again N ks k y) ks x := by kernel_rfl
theorem laws_eqIntS_l0_ok (N : Nat) : LoopOk Try.prog Try.f18.ntmps (laws_eqIntS_l0_s N) (loopAt laws_eqIntS_code 0) :=
  loop_ok (l := laws_eqIntS_l0_s N) progOk (laws_eqIntS_gok N) (draw_ok progOk (laws_eqIntS_gok N)) (fun R k x ks => laws_eqIntS_l0_again N ks k x) (fun _ _ _ => rfl) (fun R k x ks => laws_eqIntS_l0_step N R k x ks) (fun R x ks r h => ⟨N, h⟩) (lsOk_at (L := []) trivial) (by kernel_rfl) (by kernel_rfl)
noncomputable def laws_eqIntS (N : Nat) (a : (List Int)) (b : (List Int)) : Option ((Bool × Unit) × (Unit)) :=
  (br (ine (tLen a) (tLen b))
    (some ((false, ()), ()))
    (laws_eqIntS_l0 N (fun x => some ((x, ()), ())) (fun (_ : Unit) => some ((true, ()), ())) N a b 0))
abbrev laws_eqIntS_ps : List (PV.Mode × Ty) := [(.ro, LI), (.ro, LI)]
abbrev laws_eqIntS_rs : List (Bool × Ty) := [(true, .bool)]
noncomputable def laws_eqIntS_S (N : Nat) : FSum := ⟨laws_eqIntS_ps, laws_eqIntS_rs, fun x => laws_eqIntS N x.1 x.2.1⟩
theorem laws_eqIntS_run (N : Nat) (x : argsT laws_eqIntS_ps) : laws_eqIntS N x.1 x.2.1 = funF (laws_eqIntS_G N) tab [laws_eqIntS_l0_s N] Try.f18 laws_eqIntS_ps laws_eqIntS_rs x := by kernel_rfl
theorem laws_eqIntS_pc (N : Nat) : PC Try.prog 18 (laws_eqIntS_S N) := by
  have e : laws_eqIntS_S N = ⟨laws_eqIntS_ps, laws_eqIntS_rs, funF (laws_eqIntS_G N) tab [laws_eqIntS_l0_s N] Try.f18 laws_eqIntS_ps laws_eqIntS_rs⟩ := congrArg (FSum.mk laws_eqIntS_ps laws_eqIntS_rs) (funext (laws_eqIntS_run N))
  rw [e]
  exact fun_ok (c := laws_eqIntS_code) progOk (laws_eqIntS_gok N) (draw_ok progOk (laws_eqIntS_gok N)) Try.call18 Try.func18 (by kernel_rfl) (lsOk_at (L := [laws_eqIntS_l0_s N]) ⟨laws_eqIntS_l0_ok N, trivial⟩) (by kernel_rfl) (by kernel_rfl) (by kernel_rfl) (by kernel_rfl) (by kernel_rfl)

/-! ### laws_eqIntSS -/
noncomputable def laws_eqIntSS_G (N : Nat) : GTab := gOf [(18, laws_eqIntS_S N)]
theorem laws_eqIntSS_gok (N : Nat) : GOk Try.prog (laws_eqIntSS_G N) := gOf_ok ⟨laws_eqIntS_pc N, trivial⟩
noncomputable def laws_eqIntSS_code : Code := (Try.f63.body).getD .skip
noncomputable def laws_eqIntSS_l0_sh : Sh := ⟨[(0, .one (.ro LLI)), (1, .one (.ro LLI)), (5, .one (.ro I))], []⟩
noncomputable def laws_eqIntSS_l0_ex : List (Ex × Sh) := [(.ret, ⟨[(4, .one (.ro .bool))], []⟩), (.exit 0, ⟨[], []⟩)]
noncomputable def laws_eqIntSS_l0 {R : Type} (N : Nat) (k0 : Bool → Option R) (k1 : Unit → Option R) : Nat → (List (List Int)) → (List (List Int)) → Int → Option R
  | 0, _, _, _ => none
  | K + 1, a1, b1, i =>
    (br (ilt i (tLen a1))
      ((chk (inb a1 i)
        (chk (inb b1 i)
        ((laws_eqIntS N (rdL a1 i) (rdL b1 i)).bind fun r =>
        (br (!r.1.1)
          (k0 false)
          (laws_eqIntSS_l0 N k0 k1 K a1 b1 (IntKind.i64.wrap (i + 1))))))))
      (k1 ()))
noncomputable def laws_eqIntSS_l0_again {R : Type} (N : Nat) (ks : (j : Nat) → ((laws_eqIntSS_l0_ex.getD j (.ret, Sh.none)).2).T → Option R) (k : Nat) (x : laws_eqIntSS_l0_sh.T) : Option R :=
  laws_eqIntSS_l0 N (fun y0 => ks 0 ((y0, ()), ())) (fun (_ : Unit) => ks 1 ((), ())) k x.1.1 x.1.2.1 x.1.2.2.1
noncomputable def laws_eqIntSS_l0_s (N : Nat) : LSum := ⟨laws_eqIntSS_l0_sh, laws_eqIntSS_l0_ex, fun x ks => laws_eqIntSS_l0_again N ks N x⟩
theorem laws_eqIntSS_l0_step (N : Nat) (R : Type) (k : Nat) (x : laws_eqIntSS_l0_sh.T) (ks : (j : Nat) → ((laws_eqIntSS_l0_ex.getD j (.ret, Sh.none)).2).T → Option R) : laws_eqIntSS_l0_again N ks (k + 1) x = roundF (laws_eqIntSS_G N) tab [] (loopAt laws_eqIntSS_code 0) laws_eqIntSS_l0_sh laws_eqIntSS_l0_ex (fun y => laws_eqIntSS_l0_again N ks k y) ks x := by kernel_rfl
theorem laws_eqIntSS_l0_ok (N : Nat) : LoopOk Try.prog Try.f63.ntmps (laws_eqIntSS_l0_s N) (loopAt laws_eqIntSS_code 0) :=
  loop_ok (l := laws_eqIntSS_l0_s N) progOk (laws_eqIntSS_gok N) (draw_ok progOk (laws_eqIntSS_gok N)) (fun R k x ks => laws_eqIntSS_l0_again N ks k x) (fun _ _ _ => rfl) (fun R k x ks => laws_eqIntSS_l0_step N R k x ks) (fun R x ks r h => ⟨N, h⟩) (lsOk_at (L := []) trivial) (by kernel_rfl) (by kernel_rfl)
noncomputable def laws_eqIntSS (N : Nat) (a : (List (List Int))) (b : (List (List Int))) : Option ((Bool × Unit) × (Unit)) :=
  (br (ine (tLen a) (tLen b))
    (some ((false, ()), ()))
    (laws_eqIntSS_l0 N (fun x => some ((x, ()), ())) (fun (_ : Unit) => some ((true, ()), ())) N a b 0))
abbrev laws_eqIntSS_ps : List (PV.Mode × Ty) := [(.ro, LLI), (.ro, LLI)]
abbrev laws_eqIntSS_rs : List (Bool × Ty) := [(true, .bool)]
noncomputable def laws_eqIntSS_S (N : Nat) : FSum := ⟨laws_eqIntSS_ps, laws_eqIntSS_rs, fun x => laws_eqIntSS N x.1 x.2.1⟩
theorem laws_eqIntSS_run (N : Nat) (x : argsT laws_eqIntSS_ps) : laws_eqIntSS N x.1 x.2.1 = funF (laws_eqIntSS_G N) tab [laws_eqIntSS_l0_s N] Try.f63 laws_eqIntSS_ps laws_eqIntSS_rs x := by kernel_rfl
theorem laws_eqIntSS_pc (N : Nat) : PC Try.prog 63 (laws_eqIntSS_S N) := by
  have e : laws_eqIntSS_S N = ⟨laws_eqIntSS_ps, laws_eqIntSS_rs, funF (laws_eqIntSS_G N) tab [laws_eqIntSS_l0_s N] Try.f63 laws_eqIntSS_ps laws_eqIntSS_rs⟩ := congrArg (FSum.mk laws_eqIntSS_ps laws_eqIntSS_rs) (funext (laws_eqIntSS_run N))
  rw [e]
  exact fun_ok (c := laws_eqIntSS_code) progOk (laws_eqIntSS_gok N) (draw_ok progOk (laws_eqIntSS_gok N)) Try.call63 Try.func63 (by kernel_rfl) (lsOk_at (L := [laws_eqIntSS_l0_s N]) ⟨laws_eqIntSS_l0_ok N, trivial⟩) (by kernel_rfl) (by kernel_rfl) (by kernel_rfl) (by kernel_rfl) (by kernel_rfl)

/-! ### laws_eqParity -/
noncomputable def laws_eqParity_G (N : Nat) : GTab := gOf [(63, laws_eqIntSS_S N), (18, laws_eqIntS_S N)]
theorem laws_eqParity_gok (N : Nat) : GOk Try.prog (laws_eqParity_G N) := gOf_ok ⟨laws_eqIntSS_pc N, laws_eqIntS_pc N, trivial⟩
noncomputable def laws_eqParity_code : Code := (Try.f28.body).getD .skip
noncomputable def laws_eqParity (N : Nat) (a : (Int × ((List (List Int)) × (List Int)))) (b : (Int × ((List (List Int)) × (List Int)))) : Option ((Bool × Unit) × (Unit)) :=
  (br (ine a.1 b.1)
    (some ((false, ()), ()))
    (((laws_eqIntSS N a.2.1 b.2.1).bind fun r =>
      (br (!r.1.1)
        (some ((false, ()), ()))
        (((laws_eqIntS N a.2.2 b.2.2).bind fun r1 =>
          (br (!r1.1.1)
            (some ((false, ()), ()))
            (some ((true, ()), ())))))))))
abbrev laws_eqParity_ps : List (PV.Mode × Ty) := [(.ro, QIQLLILI), (.ro, QIQLLILI)]
abbrev laws_eqParity_rs : List (Bool × Ty) := [(true, .bool)]
noncomputable def laws_eqParity_S (N : Nat) : FSum := ⟨laws_eqParity_ps, laws_eqParity_rs, fun x => laws_eqParity N x.1 x.2.1⟩
theorem laws_eqParity_run (N : Nat) (x : argsT laws_eqParity_ps) : laws_eqParity N x.1 x.2.1 = funF (laws_eqParity_G N) tab [] Try.f28 laws_eqParity_ps laws_eqParity_rs x := by kernel_rfl
theorem laws_eqParity_pc (N : Nat) : PC Try.prog 28 (laws_eqParity_S N) := by
  have e : laws_eqParity_S N = ⟨laws_eqParity_ps, laws_eqParity_rs, funF (laws_eqParity_G N) tab [] Try.f28 laws_eqParity_ps laws_eqParity_rs⟩ := congrArg (FSum.mk laws_eqParity_ps laws_eqParity_rs) (funext (laws_eqParity_run N))
  rw [e]
  exact fun_ok (c := laws_eqParity_code) progOk (laws_eqParity_gok N) (draw_ok progOk (laws_eqParity_gok N)) Try.call28 Try.func28 (by kernel_rfl) (lsOk_at (L := []) trivial) (by kernel_rfl) (by kernel_rfl) (by kernel_rfl) (by kernel_rfl) (by kernel_rfl)

/-! ### laws_markIntS -/
noncomputable def laws_markIntS_G (N : Nat) : GTab := gOf []
theorem laws_markIntS_gok (N : Nat) : GOk Try.prog (laws_markIntS_G N) := gOf_ok trivial
noncomputable def laws_markIntS_code : Code := (Try.f45.body).getD .skip
noncomputable def laws_markIntS_l0_sh : Sh := ⟨[(0, .one (.ref 0)), (1, .one (.ro I)), (5, .one (.ro I))], [.sl 3 I .own]⟩
noncomputable def laws_markIntS_l0_ex : List (Ex × Sh) := [(.exit 0, ⟨[(0, .one (.ref 0)), (1, .one (.ro I))], [.sl 3 I .own]⟩)]
noncomputable def laws_markIntS_l0 {R : Type} (N : Nat) (k0 : Int → (List Int) → Option R) : Nat → Int → Int → (List Int) → Option R
  | 0, _, _, _ => none
  | K + 1, kv1, i, o =>
    (br (ilt i (tLen o))
      ((chk (inb o i)
        (laws_markIntS_l0 N k0 K (IntKind.i64.wrap (kv1 + 1)) (IntKind.i64.wrap (i + 1)) (tSet o i kv1))))
      (k0 kv1 o))
noncomputable def laws_markIntS_l0_again {R : Type} (N : Nat) (ks : (j : Nat) → ((laws_markIntS_l0_ex.getD j (.ret, Sh.none)).2).T → Option R) (k : Nat) (x : laws_markIntS_l0_sh.T) : Option R :=
  laws_markIntS_l0 N (fun y0 y1 => ks 0 (((), y0, ()), (y1, ()))) k x.1.2.1 x.1.2.2.1 x.2.1
noncomputable def laws_markIntS_l0_s (N : Nat) : LSum := ⟨laws_markIntS_l0_sh, laws_markIntS_l0_ex, fun x ks => laws_markIntS_l0_again N ks N x⟩
theorem laws_markIntS_l0_step (N : Nat) (R : Type) (k : Nat) (x : laws_markIntS_l0_sh.T) (ks : (j : Nat) → ((laws_markIntS_l0_ex.getD j (.ret, Sh.none)).2).T → Option R) : laws_markIntS_l0_again N ks (k + 1) x = roundF (laws_markIntS_G N) tab [] (loopAt laws_markIntS_code 0) laws_markIntS_l0_sh laws_markIntS_l0_ex (fun y => laws_markIntS_l0_again N ks k y) ks x := by kernel_rfl
theorem laws_markIntS_l0_ok (N : Nat) : LoopOk Try.prog Try.f45.ntmps (laws_markIntS_l0_s N) (loopAt laws_markIntS_code 0) :=
  loop_ok (l := laws_markIntS_l0_s N) progOk (laws_markIntS_gok N) (draw_ok progOk (laws_markIntS_gok N)) (fun R k x ks => laws_markIntS_l0_again N ks k x) (fun _ _ _ => rfl) (fun R k x ks => laws_markIntS_l0_step N R k x ks) (fun R x ks r h => ⟨N, h⟩) (lsOk_at (L := []) trivial) (by kernel_rfl) (by kernel_rfl)
noncomputable def laws_markIntS (N : Nat) (a : (List Int)) (kv : Int) : Option ((Int × Unit) × ((List Int) × Unit)) :=
  laws_markIntS_l0 N (fun kv1 o => some ((kv1, ()), (o, ()))) N kv 0 a
abbrev laws_markIntS_ps : List (PV.Mode × Ty) := [(.mut, LI), (.ro, I)]
abbrev laws_markIntS_rs : List (Bool × Ty) := [(true, I)]
noncomputable def laws_markIntS_S (N : Nat) : FSum := ⟨laws_markIntS_ps, laws_markIntS_rs, fun x => laws_markIntS N x.1 x.2.1⟩
theorem laws_markIntS_run (N : Nat) (x : argsT laws_markIntS_ps) : laws_markIntS N x.1 x.2.1 = funF (laws_markIntS_G N) tab [laws_markIntS_l0_s N] Try.f45 laws_markIntS_ps laws_markIntS_rs x := by kernel_rfl
theorem laws_markIntS_pc (N : Nat) : PC Try.prog 45 (laws_markIntS_S N) := by
  have e : laws_markIntS_S N = ⟨laws_markIntS_ps, laws_markIntS_rs, funF (laws_markIntS_G N) tab [laws_markIntS_l0_s N] Try.f45 laws_markIntS_ps laws_markIntS_rs⟩ := congrArg (FSum.mk laws_markIntS_ps laws_markIntS_rs) (funext (laws_markIntS_run N))
  rw [e]
  exact fun_ok (c := laws_markIntS_code) progOk (laws_markIntS_gok N) (draw_ok progOk (laws_markIntS_gok N)) Try.call45 Try.func45 (by kernel_rfl) (lsOk_at (L := [laws_markIntS_l0_s N]) ⟨laws_markIntS_l0_ok N, trivial⟩) (by kernel_rfl) (by kernel_rfl) (by kernel_rfl) (by kernel_rfl) (by kernel_rfl)

/-! ### laws_markIntSS -/
noncomputable def laws_markIntSS_G (N : Nat) : GTab := gOf [(45, laws_markIntS_S N)]
theorem laws_markIntSS_gok (N : Nat) : GOk Try.prog (laws_markIntSS_G N) := gOf_ok ⟨laws_markIntS_pc N, trivial⟩
noncomputable def laws_markIntSS_code : Code := (Try.f82.body).getD .skip
noncomputable def laws_markIntSS_l0_sh : Sh := ⟨[(0, .one (.ref 0)), (1, .one (.ro I)), (5, .one (.ro I))], [.sl 22 LI .deep]⟩
noncomputable def laws_markIntSS_l0_ex : List (Ex × Sh) := [(.exit 0, ⟨[(0, .one (.ref 0)), (1, .one (.ro I))], [.sl 22 LI .deep]⟩)]
noncomputable def laws_markIntSS_l0 {R : Type} (N : Nat) (k0 : Int → (List (List Int)) → Option R) : Nat → Int → Int → (List (List Int)) → Option R
  | 0, _, _, _ => none
  | K + 1, kv1, i, o =>
    (br (ilt i (tLen o))
      ((chk (inb o i)
        ((laws_markIntS N (rdL o i) kv1).bind fun r =>
        laws_markIntSS_l0 N k0 K r.1.1 (IntKind.i64.wrap (i + 1)) (tSet o i r.2.1))))
      (k0 kv1 o))
noncomputable def laws_markIntSS_l0_again {R : Type} (N : Nat) (ks : (j : Nat) → ((laws_markIntSS_l0_ex.getD j (.ret, Sh.none)).2).T → Option R) (k : Nat) (x : laws_markIntSS_l0_sh.T) : Option R :=
  laws_markIntSS_l0 N (fun y0 y1 => ks 0 (((), y0, ()), (y1, ()))) k x.1.2.1 x.1.2.2.1 x.2.1
noncomputable def laws_markIntSS_l0_s (N : Nat) : LSum := ⟨laws_markIntSS_l0_sh, laws_markIntSS_l0_ex, fun x ks => laws_markIntSS_l0_again N ks N x⟩
theorem laws_markIntSS_l0_step (N : Nat) (R : Type) (k : Nat) (x : laws_markIntSS_l0_sh.T) (ks : (j : Nat) → ((laws_markIntSS_l0_ex.getD j (.ret, Sh.none)).2).T → Option R) : laws_markIntSS_l0_again N ks (k + 1) x = roundF (laws_markIntSS_G N) tab [] (loopAt laws_markIntSS_code 0) laws_markIntSS_l0_sh laws_markIntSS_l0_ex (fun y => laws_markIntSS_l0_again N ks k y) ks x := by kernel_rfl
theorem laws_markIntSS_l0_ok (N : Nat) : LoopOk Try.prog Try.f82.ntmps (laws_markIntSS_l0_s N) (loopAt laws_markIntSS_code 0) :=
  loop_ok (l := laws_markIntSS_l0_s N) progOk (laws_markIntSS_gok N) (draw_ok progOk (laws_markIntSS_gok N)) (fun R k x ks => laws_markIntSS_l0_again N ks k x) (fun _ _ _ => rfl) (fun R k x ks => laws_markIntSS_l0_step N R k x ks) (fun R x ks r h => ⟨N, h⟩) (lsOk_at (L := []) trivial) (by kernel_rfl) (by kernel_rfl)
noncomputable def laws_markIntSS (N : Nat) (a : (List (List Int))) (kv : Int) : Option ((Int × Unit) × ((List (List Int)) × Unit)) :=
  laws_markIntSS_l0 N (fun kv1 o => some ((kv1, ()), (o, ()))) N kv 0 a
abbrev laws_markIntSS_ps : List (PV.Mode × Ty) := [(.mut, LLI), (.ro, I)]
abbrev laws_markIntSS_rs : List (Bool × Ty) := [(true, I)]
noncomputable def laws_markIntSS_S (N : Nat) : FSum := ⟨laws_markIntSS_ps, laws_markIntSS_rs, fun x => laws_markIntSS N x.1 x.2.1⟩
theorem laws_markIntSS_run (N : Nat) (x : argsT laws_markIntSS_ps) : laws_markIntSS N x.1 x.2.1 = funF (laws_markIntSS_G N) tab [laws_markIntSS_l0_s N] Try.f82 laws_markIntSS_ps laws_markIntSS_rs x := by kernel_rfl
theorem laws_markIntSS_pc (N : Nat) : PC Try.prog 82 (laws_markIntSS_S N) := by
  have e : laws_markIntSS_S N = ⟨laws_markIntSS_ps, laws_markIntSS_rs, funF (laws_markIntSS_G N) tab [laws_markIntSS_l0_s N] Try.f82 laws_markIntSS_ps laws_markIntSS_rs⟩ := congrArg (FSum.mk laws_markIntSS_ps laws_markIntSS_rs) (funext (laws_markIntSS_run N))
  rw [e]
  exact fun_ok (c := laws_markIntSS_code) progOk (laws_markIntSS_gok N) (draw_ok progOk (laws_markIntSS_gok N)) Try.call82 Try.func82 (by kernel_rfl) (lsOk_at (L := [laws_markIntSS_l0_s N]) ⟨laws_markIntSS_l0_ok N, trivial⟩) (by kernel_rfl) (by kernel_rfl) (by kernel_rfl) (by kernel_rfl) (by kernel_rfl)

/-! ### laws_markParity -/
noncomputable def laws_markParity_G (N : Nat) : GTab := gOf [(82, laws_markIntSS_S N), (45, laws_markIntS_S N)]
theorem laws_markParity_gok (N : Nat) : GOk Try.prog (laws_markParity_G N) := gOf_ok ⟨laws_markIntSS_pc N, laws_markIntS_pc N, trivial⟩
noncomputable def laws_markParity_code : Code := (Try.f44.body).getD .skip
noncomputable def laws_markParity (N : Nat) (a : (Int × ((List (List Int)) × (List Int)))) (kv : Int) : Option ((Int × Unit) × ((Int × ((List (List Int)) × (List Int))) × Unit)) :=
  ((laws_markIntSS N a.2.1 kv).bind fun r =>
    ((laws_markIntS N a.2.2 r.1.1).bind fun r1 =>
      some ((r1.1.1, ()), ((a.1, (r.2.1, r1.2.1)), ()))))
abbrev laws_markParity_ps : List (PV.Mode × Ty) := [(.mut, QIQLLILI), (.ro, I)]
abbrev laws_markParity_rs : List (Bool × Ty) := [(true, I)]
noncomputable def laws_markParity_S (N : Nat) : FSum := ⟨laws_markParity_ps, laws_markParity_rs, fun x => laws_markParity N x.1 x.2.1⟩
theorem laws_markParity_run (N : Nat) (x : argsT laws_markParity_ps) : laws_markParity N x.1 x.2.1 = funF (laws_markParity_G N) tab [] Try.f44 laws_markParity_ps laws_markParity_rs x := by kernel_rfl
theorem laws_markParity_pc (N : Nat) : PC Try.prog 44 (laws_markParity_S N) := by
  have e : laws_markParity_S N = ⟨laws_markParity_ps, laws_markParity_rs, funF (laws_markParity_G N) tab [] Try.f44 laws_markParity_ps laws_markParity_rs⟩ := congrArg (FSum.mk laws_markParity_ps laws_markParity_rs) (funext (laws_markParity_run N))
  rw [e]
  exact fun_ok (c := laws_markParity_code) progOk (laws_markParity_gok N) (draw_ok progOk (laws_markParity_gok N)) Try.call44 Try.func44 (by kernel_rfl) (lsOk_at (L := []) trivial) (by kernel_rfl) (by kernel_rfl) (by kernel_rfl) (by kernel_rfl) (by kernel_rfl)

/-! ### laws_heldIntS -/
noncomputable def laws_heldIntS_G (N : Nat) : GTab := gOf []
theorem laws_heldIntS_gok (N : Nat) : GOk Try.prog (laws_heldIntS_G N) := gOf_ok trivial
noncomputable def laws_heldIntS_code : Code := (Try.f46.body).getD .skip
noncomputable def laws_heldIntS_l0_sh : Sh := ⟨[(0, .one (.ro LI)), (1, .one (.ro I)), (5, .one (.ro I))], []⟩
noncomputable def laws_heldIntS_l0_ex : List (Ex × Sh) := [(.ret, ⟨[(4, .one (.ro I))], []⟩), (.exit 0, ⟨[(1, .one (.ro I))], []⟩)]
noncomputable def laws_heldIntS_l0 {R : Type} (N : Nat) (k0 : Int → Option R) (k1 : Int → Option R) : Nat → (List Int) → Int → Int → Option R
  | 0, _, _, _ => none
  | K + 1, a1, kv1, i =>
    (br (ilt i (tLen a1))
      ((chk (inb a1 i)
        (br (ine (rdI a1 i) kv1)
        (k0 (-1))
        (laws_heldIntS_l0 N k0 k1 K a1 (IntKind.i64.wrap (kv1 + 1)) (IntKind.i64.wrap (i + 1))))))
      (k1 kv1))
noncomputable def laws_heldIntS_l0_again {R : Type} (N : Nat) (ks : (j : Nat) → ((laws_heldIntS_l0_ex.getD j (.ret, Sh.none)).2).T → Option R) (k : Nat) (x : laws_heldIntS_l0_sh.T) : Option R :=
  laws_heldIntS_l0 N (fun y0 => ks 0 ((y0, ()), ())) (fun y0 => ks 1 ((y0, ()), ())) k x.1.1 x.1.2.1 x.1.2.2.1
noncomputable def laws_heldIntS_l0_s (N : Nat) : LSum := ⟨laws_heldIntS_l0_sh, laws_heldIntS_l0_ex, fun x ks => laws_heldIntS_l0_again N ks N x⟩
theorem laws_heldIntS_l0_step (N : Nat) (R : Type) (k : Nat) (x : laws_heldIntS_l0_sh.T) (ks : (j : Nat) → ((laws_heldIntS_l0_ex.getD j (.ret, Sh.none)).2).T → Option R) : laws_heldIntS_l0_again N ks (k + 1) x = roundF (laws_heldIntS_G N) tab [] (loopAt laws_heldIntS_code 0) laws_heldIntS_l0_sh laws_heldIntS_l0_ex (fun y => laws_heldIntS_l0_again N ks k y) ks x := by kernel_rfl
theorem laws_heldIntS_l0_ok (N : Nat) : LoopOk Try.prog Try.f46.ntmps (laws_heldIntS_l0_s N) (loopAt laws_heldIntS_code 0) :=
  loop_ok (l := laws_heldIntS_l0_s N) progOk (laws_heldIntS_gok N) (draw_ok progOk (laws_heldIntS_gok N)) (fun R k x ks => laws_heldIntS_l0_again N ks k x) (fun _ _ _ => rfl) (fun R k x ks => laws_heldIntS_l0_step N R k x ks) (fun R x ks r h => ⟨N, h⟩) (lsOk_at (L := []) trivial) (by kernel_rfl) (by kernel_rfl)
noncomputable def laws_heldIntS (N : Nat) (a : (List Int)) (kv : Int) : Option ((Int × Unit) × (Unit)) :=
  laws_heldIntS_l0 N (fun x => some ((x, ()), ())) (fun kv1 => some ((kv1, ()), ())) N a kv 0
abbrev laws_heldIntS_ps : List (PV.Mode × Ty) := [(.ro, LI), (.ro, I)]
abbrev laws_heldIntS_rs : List (Bool × Ty) := [(true, I)]
noncomputable def laws_heldIntS_S (N : Nat) : FSum := ⟨laws_heldIntS_ps, laws_heldIntS_rs, fun x => laws_heldIntS N x.1 x.2.1⟩
theorem laws_heldIntS_run (N : Nat) (x : argsT laws_heldIntS_ps) : laws_heldIntS N x.1 x.2.1 = funF (laws_heldIntS_G N) tab [laws_heldIntS_l0_s N] Try.f46 laws_heldIntS_ps laws_heldIntS_rs x := by kernel_rfl
theorem laws_heldIntS_pc (N : Nat) : PC Try.prog 46 (laws_heldIntS_S N) := by
  have e : laws_heldIntS_S N = ⟨laws_heldIntS_ps, laws_heldIntS_rs, funF (laws_heldIntS_G N) tab [laws_heldIntS_l0_s N] Try.f46 laws_heldIntS_ps laws_heldIntS_rs⟩ := congrArg (FSum.mk laws_heldIntS_ps laws_heldIntS_rs) (funext (laws_heldIntS_run N))
  rw [e]
  exact fun_ok (c := laws_heldIntS_code) progOk (laws_heldIntS_gok N) (draw_ok progOk (laws_heldIntS_gok N)) Try.call46 Try.func46 (by kernel_rfl) (lsOk_at (L := [laws_heldIntS_l0_s N]) ⟨laws_heldIntS_l0_ok N, trivial⟩) (by kernel_rfl) (by kernel_rfl) (by kernel_rfl) (by kernel_rfl) (by kernel_rfl)

/-! ### laws_FnExactLooseVars -/
noncomputable def laws_FnExactLooseVars_G (N : Nat) : GTab := gOf [(24, laws_szParity_S N), (26, laws_toParity_S N), (42, spec_LooseVars_S N), (43, impl_LooseVars_S N), (18, laws_eqIntS_S N), (28, laws_eqParity_S N), (44, laws_markParity_S N), (45, laws_markIntS_S N), (46, laws_heldIntS_S N)]
theorem laws_FnExactLooseVars_gok (N : Nat) : GOk Try.prog (laws_FnExactLooseVars_G N) := gOf_ok ⟨laws_szParity_pc N, laws_toParity_pc N, spec_LooseVars_pc N, impl_LooseVars_pc N, laws_eqIntS_pc N, laws_eqParity_pc N, laws_markParity_pc N, laws_markIntS_pc N, laws_heldIntS_pc N, trivial⟩
noncomputable def laws_FnExactLooseVars_code : Code := (Try.f10.body).getD .skip
noncomputable def laws_FnExactLooseVars (N : Nat) (c : (Int × ((List (List Int)) × (List Int)))) : Option ((Bool × Unit) × (Unit)) :=
  ((laws_szParity N (c.1, (c.2.1, c.2.2)) 1048576).bind fun r =>
    (br (ilt r.1.1 0)
      (some ((true, ()), ()))
      (((laws_toParity N (c.1, (c.2.1, c.2.2))).bind fun r1 =>
        ((spec_LooseVars N (r1.1.1.1, (r1.1.1.2.1, r1.1.1.2.2))).bind fun r2 =>
          ((laws_toParity N (c.1, (c.2.1, c.2.2))).bind fun r3 =>
            ((impl_LooseVars N (r3.1.1.1, (r3.1.1.2.1, r3.1.1.2.2))).bind fun r4 =>
              ((laws_eqIntS N r4.1.1 r2.1.1).bind fun r5 =>
                (br (!r5.1.1)
                  (some ((false, ()), ()))
                  ((br (!(r4.1.2.1 == r2.1.2.1))
                    (some ((false, ()), ()))
                    (((laws_toParity N (c.1, (c.2.1, c.2.2))).bind fun r6 =>
                      ((laws_eqParity N (r3.1.1.1, (r3.1.1.2.1, r3.1.1.2.2)) (r6.1.1.1, (r6.1.1.2.1, r6.1.1.2.2))).bind fun r7 =>
                        (br (!r7.1.1)
                          (some ((false, ()), ()))
                          (((laws_markParity N (r3.1.1.1, (r3.1.1.2.1, r3.1.1.2.2)) 1).bind fun r8 =>
                            (br (ilt r8.1.1 0)
                              (some ((false, ()), ()))
                              (((laws_eqIntS N r4.1.1 r2.1.1).bind fun r9 =>
                                (br (!r9.1.1)
                                  (some ((false, ()), ()))
                                  ((br (!(r4.1.2.1 == r2.1.2.1))
                                    (some ((false, ()), ()))
                                    (((laws_markIntS N r4.1.1 1).bind fun r10 =>
                                      ((laws_heldIntS N r10.2.1 1).bind fun r11 =>
                                        (br (ilt r11.1.1 0)
                                          (some ((false, ()), ()))
                                          ((br (ine r11.1.1 r10.1.1)
                                            (some ((false, ()), ()))
                                            (((laws_toParity N (c.1, (c.2.1, c.2.2))).bind fun r12 =>
                                              ((impl_LooseVars N (r12.1.1.1, (r12.1.1.2.1, r12.1.1.2.2))).bind fun r13 =>
                                                ((laws_eqIntS N r13.1.1 r2.1.1).bind fun r14 =>
                                                  (br (!r14.1.1)
                                                    (some ((false, ()), ()))
                                                    ((br (!(r13.1.2.1 == r2.1.2.1))
                                                      (some ((false, ()), ()))
                                                      (((laws_heldIntS N r10.2.1 1).bind fun r15 =>
                                                        (br (ilt r15.1.1 0)
                                                          (some ((false, ()), ()))
                                                          ((br (ine r15.1.1 r10.1.1)
                                                            (some ((false, ()), ()))
                                                            (some ((true, ()), ())))))))))))))))))))))))))))))))))))))))))))
abbrev laws_FnExactLooseVars_ps : List (PV.Mode × Ty) := [(.ro, QIQLLILI)]
abbrev laws_FnExactLooseVars_rs : List (Bool × Ty) := [(true, .bool)]
noncomputable def laws_FnExactLooseVars_S (N : Nat) : FSum := ⟨laws_FnExactLooseVars_ps, laws_FnExactLooseVars_rs, fun x => laws_FnExactLooseVars N x.1⟩
theorem laws_FnExactLooseVars_run (N : Nat) (x : argsT laws_FnExactLooseVars_ps) : laws_FnExactLooseVars N x.1 = funF (laws_FnExactLooseVars_G N) tab [] Try.f10 laws_FnExactLooseVars_ps laws_FnExactLooseVars_rs x := by kernel_rfl
theorem laws_FnExactLooseVars_pc (N : Nat) : PC Try.prog 10 (laws_FnExactLooseVars_S N) := by
  have e : laws_FnExactLooseVars_S N = ⟨laws_FnExactLooseVars_ps, laws_FnExactLooseVars_rs, funF (laws_FnExactLooseVars_G N) tab [] Try.f10 laws_FnExactLooseVars_ps laws_FnExactLooseVars_rs⟩ := congrArg (FSum.mk laws_FnExactLooseVars_ps laws_FnExactLooseVars_rs) (funext (laws_FnExactLooseVars_run N))
  rw [e]
  exact fun_ok (c := laws_FnExactLooseVars_code) progOk (laws_FnExactLooseVars_gok N) (draw_ok progOk (laws_FnExactLooseVars_gok N)) Try.call10 Try.func10 (by kernel_rfl) (lsOk_at (L := []) trivial) (by kernel_rfl) (by kernel_rfl) (by kernel_rfl) (by kernel_rfl) (by kernel_rfl)
end Go.Proofs.Ytbnebekejbhopaa
