/- Functions of the program as functions on data. -/
import Derived.Test.YtaodifjegdpifaaGreatHornFc
set_option linter.all false
namespace Go.Proofs.YtaodifjegdpifaaGreat
open Go Go.PV
/-! ### spec_HighestOf -/
abbrev spec_HighestOf_ps : List (PV.Mode × Ty) := [(.ro, QILLI), (.ro, LI)]
abbrev spec_HighestOf_rs : List (Bool × Ty) := [(true, LI), (true, .bool)]
noncomputable def spec_HighestOf_G (N : Nat) : GTab := gOf [(19, spec_l6Two_S N), (22, spec_l6Down_S N)]
theorem spec_HighestOf_gok (N : Nat) : GOk Tryz.prog (spec_HighestOf_G N) := gOf_ok ⟨spec_l6Two_pc N, spec_l6Down_pc N, trivial⟩
noncomputable def spec_HighestOf_code : Code := (Tryz.f12.body).getD .skip
noncomputable def spec_HighestOf (N : Nat) (f : (Int × (List (List Int)))) (bits : (List Int)) : Option (((List Int) × Bool × Unit) × (Unit)) :=
  ((spec_l6Two N (f.1, f.2) bits bits).bind fun r =>
    (br (!r.1.1)
      (some (([], false, ()), ()))
      (((spec_l6Down N (f.1, f.2) bits 0).bind fun r1 =>
        some ((r1.1.1, true, ()), ())))))
noncomputable def spec_HighestOf_S (N : Nat) : FSum := ⟨spec_HighestOf_ps, spec_HighestOf_rs, fun x => spec_HighestOf N x.1 x.2.1⟩
theorem spec_HighestOf_run (N : Nat) (x : argsT spec_HighestOf_ps) : spec_HighestOf N x.1 x.2.1 = funF (spec_HighestOf_G N) tab [] Tryz.f12 spec_HighestOf_ps spec_HighestOf_rs x := by kernel_rfl
theorem spec_HighestOf_pc (N : Nat) : PC Tryz.prog 12 (spec_HighestOf_S N) := by
  have e : spec_HighestOf_S N = ⟨spec_HighestOf_ps, spec_HighestOf_rs, funF (spec_HighestOf_G N) tab [] Tryz.f12 spec_HighestOf_ps spec_HighestOf_rs⟩ := congrArg (FSum.mk spec_HighestOf_ps spec_HighestOf_rs) (funext (spec_HighestOf_run N))
  rw [e]
  exact fun_ok (c := spec_HighestOf_code) progOk (spec_HighestOf_gok N) (draw_ok progOk (spec_HighestOf_gok N)) Tryz.call12 Tryz.func12 (by kernel_rfl) (lsOk_at (L := []) trivial) (by kernel_rfl) (by kernel_rfl) (by kernel_rfl) (by kernel_rfl) (by kernel_rfl)

/-! ### impl_FlippableVars -/
abbrev impl_FlippableVars_ps : List (PV.Mode × Ty) := [(.ro, QILLI), (.ro, LI)]
abbrev impl_FlippableVars_rs : List (Bool × Ty) := [(true, LI), (true, .bool)]
noncomputable def impl_FlippableVars_G (N : Nat) : GTab := gOf [(23, impl_isSolution_S N), (25, impl_flipped_S N), (24, impl_Formula_solves_S N)]
theorem impl_FlippableVars_gok (N : Nat) : GOk Tryz.prog (impl_FlippableVars_G N) := gOf_ok ⟨impl_isSolution_pc N, impl_flipped_pc N, impl_Formula_solves_pc N, trivial⟩
noncomputable def impl_FlippableVars_code : Code := (Tryz.f13.body).getD .skip
noncomputable def impl_FlippableVars_l0_sh : Sh := ⟨[(1, .one (.ro LI)), (2, .one (.adr 0 0)), (6, .one (.ref 1)), (14, .one (.ro I)), (15, .one (.ro I))], [.box [.ro I, .ro LLI], .sl 3 I .own]⟩
noncomputable def impl_FlippableVars_l0_ex : List (Ex × Sh) := [(.exit 0, ⟨[(6, .one (.ref 0))], [.sl 3 I .own]⟩)]
noncomputable def impl_FlippableVars_l0 {R : Type} (N : Nat) (k0 : (List Int) → Option R) : Nat → (List Int) → Int → Int → Int → (List (List Int)) → (List Int) → Option R
  | 0, _, _, _, _, _, _ => none
  | K + 1, bits1, x, x1, o, o1, o2 =>
    (br (ilt x1 x)
      (((impl_flipped N bits1 x1).bind fun r1 =>
        ((impl_Formula_solves N (o, o1) r1.1.1).bind fun r2 =>
          (br r2.1.1
            ((chk (room o2 [x1])
              (impl_FlippableVars_l0 N k0 K bits1 x (IntKind.i64.wrap (x1 + 1)) o o1 (tApp o2 [x1]))))
            (impl_FlippableVars_l0 N k0 K bits1 x (IntKind.i64.wrap (x1 + 1)) o o1 o2)))))
      (k0 o2))
noncomputable def impl_FlippableVars_l0_again {R : Type} (N : Nat) (ks : (j : Nat) → ((impl_FlippableVars_l0_ex.getD j (.ret, Sh.none)).2).T → Option R) (k : Nat) (x : impl_FlippableVars_l0_sh.T) : Option R :=
  impl_FlippableVars_l0 N (fun y0 => ks 0 (((), ()), (y0, ()))) k x.1.1 x.1.2.2.2.1 x.1.2.2.2.2.1 x.2.1.1 x.2.1.2.1 x.2.2.1
noncomputable def impl_FlippableVars_l0_s (N : Nat) : LSum := ⟨impl_FlippableVars_l0_sh, impl_FlippableVars_l0_ex, fun x ks => impl_FlippableVars_l0_again N ks N x⟩
theorem impl_FlippableVars_l0_step (N : Nat) (R : Type) (k : Nat) (x : impl_FlippableVars_l0_sh.T) (ks : (j : Nat) → ((impl_FlippableVars_l0_ex.getD j (.ret, Sh.none)).2).T → Option R) : impl_FlippableVars_l0_again N ks (k + 1) x = roundF (impl_FlippableVars_G N) tab [] (loopAt impl_FlippableVars_code 0) impl_FlippableVars_l0_sh impl_FlippableVars_l0_ex (fun y => impl_FlippableVars_l0_again N ks k y) ks x := by kernel_rfl
theorem impl_FlippableVars_l0_ok (N : Nat) : LoopOk Tryz.prog Tryz.f13.ntmps (impl_FlippableVars_l0_s N) (loopAt impl_FlippableVars_code 0) :=
  loop_ok (l := impl_FlippableVars_l0_s N) progOk (impl_FlippableVars_gok N) (draw_ok progOk (impl_FlippableVars_gok N)) (fun R k x ks => impl_FlippableVars_l0_again N ks k x) (fun _ _ _ => rfl) (fun R k x ks => impl_FlippableVars_l0_step N R k x ks) (fun R x ks r h => ⟨N, h⟩) (lsOk_at (L := []) trivial) (by kernel_rfl) (by kernel_rfl)
noncomputable def impl_FlippableVars (N : Nat) (f : (Int × (List (List Int)))) (bits : (List Int)) : Option (((List Int) × Bool × Unit) × (Unit)) :=
  ((impl_isSolution N (f.1, f.2) bits).bind fun r =>
    (br (!r.1.1)
      (some (([], false, ()), ()))
      (impl_FlippableVars_l0 N (fun o => some ((o, true, ()), ())) N bits f.1 0 f.1 f.2 [])))
noncomputable def impl_FlippableVars_S (N : Nat) : FSum := ⟨impl_FlippableVars_ps, impl_FlippableVars_rs, fun x => impl_FlippableVars N x.1 x.2.1⟩
theorem impl_FlippableVars_run (N : Nat) (x : argsT impl_FlippableVars_ps) : impl_FlippableVars N x.1 x.2.1 = funF (impl_FlippableVars_G N) tab [impl_FlippableVars_l0_s N] Tryz.f13 impl_FlippableVars_ps impl_FlippableVars_rs x := by kernel_rfl
theorem impl_FlippableVars_pc (N : Nat) : PC Tryz.prog 13 (impl_FlippableVars_S N) := by
  have e : impl_FlippableVars_S N = ⟨impl_FlippableVars_ps, impl_FlippableVars_rs, funF (impl_FlippableVars_G N) tab [impl_FlippableVars_l0_s N] Tryz.f13 impl_FlippableVars_ps impl_FlippableVars_rs⟩ := congrArg (FSum.mk impl_FlippableVars_ps impl_FlippableVars_rs) (funext (impl_FlippableVars_run N))
  rw [e]
  exact fun_ok (c := impl_FlippableVars_code) progOk (impl_FlippableVars_gok N) (draw_ok progOk (impl_FlippableVars_gok N)) Tryz.call13 Tryz.func13 (by kernel_rfl) (lsOk_at (L := [impl_FlippableVars_l0_s N]) ⟨impl_FlippableVars_l0_ok N, trivial⟩) (by kernel_rfl) (by kernel_rfl) (by kernel_rfl) (by kernel_rfl) (by kernel_rfl)

/-! ### spec_FlippableVars -/
abbrev spec_FlippableVars_ps : List (PV.Mode × Ty) := [(.ro, QILLI), (.ro, LI)]
abbrev spec_FlippableVars_rs : List (Bool × Ty) := [(true, LI), (true, .bool)]
noncomputable def spec_FlippableVars_G (N : Nat) : GTab := gOf [(19, spec_l6Two_S N), (27, spec_l6Flip_S N), (26, spec_l6Solves_S N)]
theorem spec_FlippableVars_gok (N : Nat) : GOk Tryz.prog (spec_FlippableVars_G N) := gOf_ok ⟨spec_l6Two_pc N, spec_l6Flip_pc N, spec_l6Solves_pc N, trivial⟩
noncomputable def spec_FlippableVars_code : Code := (Tryz.f14.body).getD .skip
noncomputable def spec_FlippableVars_l0_sh : Sh := ⟨[(1, .one (.ro LI)), (2, .one (.adr 0 0)), (6, .one (.ref 1)), (7, .one (.ro I))], [.box [.ro I, .ro LLI], .sl 3 I .own]⟩
noncomputable def spec_FlippableVars_l0_ex : List (Ex × Sh) := [(.exit 0, ⟨[(6, .one (.ref 0))], [.sl 3 I .own]⟩)]
noncomputable def spec_FlippableVars_l0 {R : Type} (N : Nat) (k0 : (List Int) → Option R) : Nat → (List Int) → Int → Int → (List (List Int)) → (List Int) → Option R
  | 0, _, _, _, _, _ => none
  | K + 1, bits1, v, o, o1, o2 =>
    (br (ilt v o)
      (((spec_l6Flip N bits1 v).bind fun r1 =>
        ((spec_l6Solves N (o, o1) r1.1.1).bind fun r2 =>
          (br r2.1.1
            ((chk (room o2 [v])
              (spec_FlippableVars_l0 N k0 K bits1 (IntKind.i64.wrap (v + 1)) o o1 (tApp o2 [v]))))
            (spec_FlippableVars_l0 N k0 K bits1 (IntKind.i64.wrap (v + 1)) o o1 o2)))))
      (k0 o2))
noncomputable def spec_FlippableVars_l0_again {R : Type} (N : Nat) (ks : (j : Nat) → ((spec_FlippableVars_l0_ex.getD j (.ret, Sh.none)).2).T → Option R) (k : Nat) (x : spec_FlippableVars_l0_sh.T) : Option R :=
  spec_FlippableVars_l0 N (fun y0 => ks 0 (((), ()), (y0, ()))) k x.1.1 x.1.2.2.2.1 x.2.1.1 x.2.1.2.1 x.2.2.1
noncomputable def spec_FlippableVars_l0_s (N : Nat) : LSum := ⟨spec_FlippableVars_l0_sh, spec_FlippableVars_l0_ex, fun x ks => spec_FlippableVars_l0_again N ks N x⟩
theorem spec_FlippableVars_l0_step (N : Nat) (R : Type) (k : Nat) (x : spec_FlippableVars_l0_sh.T) (ks : (j : Nat) → ((spec_FlippableVars_l0_ex.getD j (.ret, Sh.none)).2).T → Option R) : spec_FlippableVars_l0_again N ks (k + 1) x = roundF (spec_FlippableVars_G N) tab [] (loopAt spec_FlippableVars_code 0) spec_FlippableVars_l0_sh spec_FlippableVars_l0_ex (fun y => spec_FlippableVars_l0_again N ks k y) ks x := by kernel_rfl
theorem spec_FlippableVars_l0_ok (N : Nat) : LoopOk Tryz.prog Tryz.f14.ntmps (spec_FlippableVars_l0_s N) (loopAt spec_FlippableVars_code 0) :=
  loop_ok (l := spec_FlippableVars_l0_s N) progOk (spec_FlippableVars_gok N) (draw_ok progOk (spec_FlippableVars_gok N)) (fun R k x ks => spec_FlippableVars_l0_again N ks k x) (fun _ _ _ => rfl) (fun R k x ks => spec_FlippableVars_l0_step N R k x ks) (fun R x ks r h => ⟨N, h⟩) (lsOk_at (L := []) trivial) (by kernel_rfl) (by kernel_rfl)
noncomputable def spec_FlippableVars (N : Nat) (f : (Int × (List (List Int)))) (bits : (List Int)) : Option (((List Int) × Bool × Unit) × (Unit)) :=
  ((spec_l6Two N (f.1, f.2) bits bits).bind fun r =>
    (br (!r.1.1)
      (some (([], false, ()), ()))
      (spec_FlippableVars_l0 N (fun o => some ((o, true, ()), ())) N bits 0 f.1 f.2 [])))
noncomputable def spec_FlippableVars_S (N : Nat) : FSum := ⟨spec_FlippableVars_ps, spec_FlippableVars_rs, fun x => spec_FlippableVars N x.1 x.2.1⟩
theorem spec_FlippableVars_run (N : Nat) (x : argsT spec_FlippableVars_ps) : spec_FlippableVars N x.1 x.2.1 = funF (spec_FlippableVars_G N) tab [spec_FlippableVars_l0_s N] Tryz.f14 spec_FlippableVars_ps spec_FlippableVars_rs x := by kernel_rfl
theorem spec_FlippableVars_pc (N : Nat) : PC Tryz.prog 14 (spec_FlippableVars_S N) := by
  have e : spec_FlippableVars_S N = ⟨spec_FlippableVars_ps, spec_FlippableVars_rs, funF (spec_FlippableVars_G N) tab [spec_FlippableVars_l0_s N] Tryz.f14 spec_FlippableVars_ps spec_FlippableVars_rs⟩ := congrArg (FSum.mk spec_FlippableVars_ps spec_FlippableVars_rs) (funext (spec_FlippableVars_run N))
  rw [e]
  exact fun_ok (c := spec_FlippableVars_code) progOk (spec_FlippableVars_gok N) (draw_ok progOk (spec_FlippableVars_gok N)) Tryz.call14 Tryz.func14 (by kernel_rfl) (lsOk_at (L := [spec_FlippableVars_l0_s N]) ⟨spec_FlippableVars_l0_ok N, trivial⟩) (by kernel_rfl) (by kernel_rfl) (by kernel_rfl) (by kernel_rfl) (by kernel_rfl)

/-! ### impl_ClassOf -/
abbrev impl_ClassOf_ps : List (PV.Mode × Ty) := [(.ro, QILLI)]
abbrev impl_ClassOf_rs : List (Bool × Ty) := [(true, .bool), (true, .bool), (true, .bool), (true, .bool)]
noncomputable def impl_ClassOf_G (N : Nat) : GTab := gOf [(28, impl_IsFormula_S N)]
theorem impl_ClassOf_gok (N : Nat) : GOk Tryz.prog (impl_ClassOf_G N) := gOf_ok ⟨impl_IsFormula_pc N, trivial⟩
noncomputable def impl_ClassOf_code : Code := (Tryz.f15.body).getD .skip
noncomputable def impl_ClassOf_l0_0_sh : Sh := ⟨[(6, .one (.ro .bool)), (7, .one (.ro .bool)), (8, .one (.ro .bool)), (10, .one (.ro LI)), (11, .one (.ro I)), (18, .one (.ro LLI)), (19, .one (.ro I)), (20, .one (.ro I)), (24, .one (.ro LI)), (25, .one (.ro I)), (26, .one (.ro I))], []⟩
noncomputable def impl_ClassOf_l0_0_ex : List (Ex × Sh) := [(.exit 2, ⟨[(6, .one (.ro .bool)), (7, .one (.ro .bool)), (8, .one (.ro .bool)), (10, .one (.ro LI)), (11, .one (.ro I)), (18, .one (.ro LLI)), (19, .one (.ro I)), (20, .one (.ro I))], []⟩)]
noncomputable def impl_ClassOf_l0_0 {R : Type} (N : Nat) (k0 : Bool → Bool → Bool → (List Int) → Int → (List (List Int)) → Int → Int → Option R) : Nat → Bool → Bool → Bool → (List Int) → Int → (List (List Int)) → Int → Int → (List Int) → Int → Int → Option R
  | 0, _, _, _, _, _, _, _, _, _, _, _ => none
  | K + 1, two1, horn1, dual1, clause, above, x3, x4, x5, x6, x7, x8 =>
    (br (ilt x8 x7)
      ((chk (inb x6 x8)
        (br (ilt 0 (rdI x6 x8))
        (impl_ClassOf_l0_0 N k0 K two1 horn1 dual1 clause (IntKind.i64.wrap (above + 1)) x3 x4 x5 x6 x7 (IntKind.i64.wrap (x8 + 1)))
        (impl_ClassOf_l0_0 N k0 K two1 horn1 dual1 clause above x3 x4 x5 x6 x7 (IntKind.i64.wrap (x8 + 1))))))
      (k0 two1 horn1 dual1 clause above x3 x4 x5))
noncomputable def impl_ClassOf_l0_0_again {R : Type} (N : Nat) (ks : (j : Nat) → ((impl_ClassOf_l0_0_ex.getD j (.ret, Sh.none)).2).T → Option R) (k : Nat) (x : impl_ClassOf_l0_0_sh.T) : Option R :=
  impl_ClassOf_l0_0 N (fun y0 y1 y2 y3 y4 y5 y6 y7 => ks 0 ((y0, y1, y2, y3, y4, y5, y6, y7, ()), ())) k x.1.1 x.1.2.1 x.1.2.2.1 x.1.2.2.2.1 x.1.2.2.2.2.1 x.1.2.2.2.2.2.1 x.1.2.2.2.2.2.2.1 x.1.2.2.2.2.2.2.2.1 x.1.2.2.2.2.2.2.2.2.1 x.1.2.2.2.2.2.2.2.2.2.1 x.1.2.2.2.2.2.2.2.2.2.2.1
noncomputable def impl_ClassOf_l0_0_s (N : Nat) : LSum := ⟨impl_ClassOf_l0_0_sh, impl_ClassOf_l0_0_ex, fun x ks => impl_ClassOf_l0_0_again N ks N x⟩
theorem impl_ClassOf_l0_0_step (N : Nat) (R : Type) (k : Nat) (x : impl_ClassOf_l0_0_sh.T) (ks : (j : Nat) → ((impl_ClassOf_l0_0_ex.getD j (.ret, Sh.none)).2).T → Option R) : impl_ClassOf_l0_0_again N ks (k + 1) x = roundF (impl_ClassOf_G N) tab [] (loopAt (loopAt impl_ClassOf_code 0) 0) impl_ClassOf_l0_0_sh impl_ClassOf_l0_0_ex (fun y => impl_ClassOf_l0_0_again N ks k y) ks x := by kernel_rfl
theorem impl_ClassOf_l0_0_ok (N : Nat) : LoopOk Tryz.prog Tryz.f15.ntmps (impl_ClassOf_l0_0_s N) (loopAt (loopAt impl_ClassOf_code 0) 0) :=
  loop_ok (l := impl_ClassOf_l0_0_s N) progOk (impl_ClassOf_gok N) (draw_ok progOk (impl_ClassOf_gok N)) (fun R k x ks => impl_ClassOf_l0_0_again N ks k x) (fun _ _ _ => rfl) (fun R k x ks => impl_ClassOf_l0_0_step N R k x ks) (fun R x ks r h => ⟨N, h⟩) (lsOk_at (L := []) trivial) (by kernel_rfl) (by kernel_rfl)
noncomputable def impl_ClassOf_l0_sh : Sh := ⟨[(6, .one (.ro .bool)), (7, .one (.ro .bool)), (8, .one (.ro .bool)), (18, .one (.ro LLI)), (19, .one (.ro I)), (20, .one (.ro I))], []⟩
noncomputable def impl_ClassOf_l0_ex : List (Ex × Sh) := [(.exit 0, ⟨[(6, .one (.ro .bool)), (7, .one (.ro .bool)), (8, .one (.ro .bool))], []⟩)]
noncomputable def impl_ClassOf_l0 {R : Type} (N : Nat) (k0 : Bool → Bool → Bool → Option R) : Nat → Bool → Bool → Bool → (List (List Int)) → Int → Int → Option R
  | 0, _, _, _, _, _, _ => none
  | K + 1, two, horn, dual, x, x1, x2 =>
    (br (ilt x2 x1)
      ((chk (inb x x2)
        (impl_ClassOf_l0_0 N (fun two1 horn1 dual1 clause above x3 x4 x5 => (br two1
        ((br horn1
          ((br dual1
            (impl_ClassOf_l0 N k0 K (ile (tLen clause) 2) (ile above 1) (ile (IntKind.i64.wrap ((tLen clause) - above)) 1) x3 x4 (IntKind.i64.wrap (x5 + 1)))
            (impl_ClassOf_l0 N k0 K (ile (tLen clause) 2) (ile above 1) false x3 x4 (IntKind.i64.wrap (x5 + 1)))))
          ((br dual1
            (impl_ClassOf_l0 N k0 K (ile (tLen clause) 2) false (ile (IntKind.i64.wrap ((tLen clause) - above)) 1) x3 x4 (IntKind.i64.wrap (x5 + 1)))
            (impl_ClassOf_l0 N k0 K (ile (tLen clause) 2) false false x3 x4 (IntKind.i64.wrap (x5 + 1)))))))
        ((br horn1
          ((br dual1
            (impl_ClassOf_l0 N k0 K false (ile above 1) (ile (IntKind.i64.wrap ((tLen clause) - above)) 1) x3 x4 (IntKind.i64.wrap (x5 + 1)))
            (impl_ClassOf_l0 N k0 K false (ile above 1) false x3 x4 (IntKind.i64.wrap (x5 + 1)))))
          ((br dual1
            (impl_ClassOf_l0 N k0 K false false (ile (IntKind.i64.wrap ((tLen clause) - above)) 1) x3 x4 (IntKind.i64.wrap (x5 + 1)))
            (impl_ClassOf_l0 N k0 K false false false x3 x4 (IntKind.i64.wrap (x5 + 1))))))))) N two horn dual (rdL x x2) 0 x x1 x2 (rdL x x2) (tLen (rdL x x2)) 0)))
      (k0 two horn dual))
noncomputable def impl_ClassOf_l0_again {R : Type} (N : Nat) (ks : (j : Nat) → ((impl_ClassOf_l0_ex.getD j (.ret, Sh.none)).2).T → Option R) (k : Nat) (x : impl_ClassOf_l0_sh.T) : Option R :=
  impl_ClassOf_l0 N (fun y0 y1 y2 => ks 0 ((y0, y1, y2, ()), ())) k x.1.1 x.1.2.1 x.1.2.2.1 x.1.2.2.2.1 x.1.2.2.2.2.1 x.1.2.2.2.2.2.1
noncomputable def impl_ClassOf_l0_s (N : Nat) : LSum := ⟨impl_ClassOf_l0_sh, impl_ClassOf_l0_ex, fun x ks => impl_ClassOf_l0_again N ks N x⟩
theorem impl_ClassOf_l0_step (N : Nat) (R : Type) (k : Nat) (x : impl_ClassOf_l0_sh.T) (ks : (j : Nat) → ((impl_ClassOf_l0_ex.getD j (.ret, Sh.none)).2).T → Option R) : impl_ClassOf_l0_again N ks (k + 1) x = roundF (impl_ClassOf_G N) tab [impl_ClassOf_l0_0_s N] (loopAt impl_ClassOf_code 0) impl_ClassOf_l0_sh impl_ClassOf_l0_ex (fun y => impl_ClassOf_l0_again N ks k y) ks x := by kernel_rfl
theorem impl_ClassOf_l0_ok (N : Nat) : LoopOk Tryz.prog Tryz.f15.ntmps (impl_ClassOf_l0_s N) (loopAt impl_ClassOf_code 0) :=
  loop_ok (l := impl_ClassOf_l0_s N) progOk (impl_ClassOf_gok N) (draw_ok progOk (impl_ClassOf_gok N)) (fun R k x ks => impl_ClassOf_l0_again N ks k x) (fun _ _ _ => rfl) (fun R k x ks => impl_ClassOf_l0_step N R k x ks) (fun R x ks r h => ⟨N, h⟩) (lsOk_at (L := [impl_ClassOf_l0_0_s N]) ⟨impl_ClassOf_l0_0_ok N, trivial⟩) (by kernel_rfl) (by kernel_rfl)
noncomputable def impl_ClassOf (N : Nat) (f : (Int × (List (List Int)))) : Option ((Bool × Bool × Bool × Bool × Unit) × (Unit)) :=
  ((impl_IsFormula N (f.1, f.2)).bind fun r =>
    (br (!r.1.1)
      (some ((false, false, false, false, ()), ()))
      (impl_ClassOf_l0 N (fun two horn dual => some ((two, horn, dual, true, ()), ())) N true true true f.2 (tLen f.2) 0)))
noncomputable def impl_ClassOf_S (N : Nat) : FSum := ⟨impl_ClassOf_ps, impl_ClassOf_rs, fun x => impl_ClassOf N x.1⟩
theorem impl_ClassOf_run (N : Nat) (x : argsT impl_ClassOf_ps) : impl_ClassOf N x.1 = funF (impl_ClassOf_G N) tab [impl_ClassOf_l0_s N] Tryz.f15 impl_ClassOf_ps impl_ClassOf_rs x := by kernel_rfl
theorem impl_ClassOf_pc (N : Nat) : PC Tryz.prog 15 (impl_ClassOf_S N) := by
  have e : impl_ClassOf_S N = ⟨impl_ClassOf_ps, impl_ClassOf_rs, funF (impl_ClassOf_G N) tab [impl_ClassOf_l0_s N] Tryz.f15 impl_ClassOf_ps impl_ClassOf_rs⟩ := congrArg (FSum.mk impl_ClassOf_ps impl_ClassOf_rs) (funext (impl_ClassOf_run N))
  rw [e]
  exact fun_ok (c := impl_ClassOf_code) progOk (impl_ClassOf_gok N) (draw_ok progOk (impl_ClassOf_gok N)) Tryz.call15 Tryz.func15 (by kernel_rfl) (lsOk_at (L := [impl_ClassOf_l0_s N]) ⟨impl_ClassOf_l0_ok N, trivial⟩) (by kernel_rfl) (by kernel_rfl) (by kernel_rfl) (by kernel_rfl) (by kernel_rfl)

/-! ### laws_FnHorn -/
abbrev laws_FnHorn_ps : List (PV.Mode × Ty) := [(.ro, LU8)]
abbrev laws_FnHorn_rs : List (Bool × Ty) := [(true, .bool)]
noncomputable def laws_FnHorn_G (N : Nat) : GTab := gOf [(4, laws_rBig_S N), (5, spec_DrawFlipDistance_S N), (6, impl_FlipDistance_S N), (7, spec_FlipDistance_S N), (8, impl_LowestOf_S N), (9, spec_LowestOf_S N), (10, laws_rInts_S N), (11, impl_HighestOf_S N), (12, spec_HighestOf_S N), (13, impl_FlippableVars_S N), (14, spec_FlippableVars_S N), (15, impl_ClassOf_S N)]
theorem laws_FnHorn_gok (N : Nat) : GOk Tryz.prog (laws_FnHorn_G N) := gOf_ok ⟨laws_rBig_pc N, spec_DrawFlipDistance_pc N, impl_FlipDistance_pc N, spec_FlipDistance_pc N, impl_LowestOf_pc N, spec_LowestOf_pc N, laws_rInts_pc N, impl_HighestOf_pc N, spec_HighestOf_pc N, impl_FlippableVars_pc N, spec_FlippableVars_pc N, impl_ClassOf_pc N, trivial⟩
noncomputable def laws_FnHorn_code : Code := (Tryz.f3.body).getD .skip
noncomputable def laws_FnHorn (N : Nat) (c : (List Int)) : Option ((Bool × Unit) × (Unit)) :=
  ((laws_rBig N c).bind fun r =>
    (br r.1.1
      (some ((true, ()), ()))
      (((spec_DrawFlipDistance N c).bind fun r1 =>
        ((impl_FlipDistance N (r1.1.1.1, r1.1.1.2) r1.1.2.1 r1.1.2.2.1).bind fun r2 =>
          ((spec_FlipDistance N (r1.1.1.1, r1.1.1.2) r1.1.2.1 r1.1.2.2.1).bind fun r3 =>
            (br (!(r2.1.2.1 == r3.1.2.1))
              (some ((false, ()), ()))
              (((impl_LowestOf N (r1.1.1.1, r1.1.1.2) r1.1.2.1).bind fun r4 =>
                ((spec_LowestOf N (r1.1.1.1, r1.1.1.2) r1.1.2.1).bind fun r5 =>
                  (br (!(r4.1.2.1 == r5.1.2.1))
                    (some ((false, ()), ()))
                    (((laws_rInts N r4.1.1 r5.1.1).bind fun r6 =>
                      (br (!r6.1.1)
                        (some ((false, ()), ()))
                        (((impl_LowestOf N (r1.1.1.1, r1.1.1.2) r1.1.2.2.1).bind fun r7 =>
                          ((spec_LowestOf N (r1.1.1.1, r1.1.1.2) r1.1.2.2.1).bind fun r8 =>
                            (br (!(r7.1.2.1 == r8.1.2.1))
                              (some ((false, ()), ()))
                              (((laws_rInts N r7.1.1 r8.1.1).bind fun r9 =>
                                (br (!r9.1.1)
                                  (some ((false, ()), ()))
                                  (((impl_HighestOf N (r1.1.1.1, r1.1.1.2) r1.1.2.1).bind fun r10 =>
                                    ((spec_HighestOf N (r1.1.1.1, r1.1.1.2) r1.1.2.1).bind fun r11 =>
                                      (br (!(r10.1.2.1 == r11.1.2.1))
                                        (some ((false, ()), ()))
                                        ((br (!(r10.1.2.1 == r4.1.2.1))
                                          (some ((false, ()), ()))
                                          (((laws_rInts N r10.1.1 r11.1.1).bind fun r12 =>
                                            (br (!r12.1.1)
                                              (some ((false, ()), ()))
                                              (((impl_HighestOf N (r1.1.1.1, r1.1.1.2) r1.1.2.2.1).bind fun r13 =>
                                                ((spec_HighestOf N (r1.1.1.1, r1.1.1.2) r1.1.2.2.1).bind fun r14 =>
                                                  (br (!(r13.1.2.1 == r14.1.2.1))
                                                    (some ((false, ()), ()))
                                                    ((br (!(r13.1.2.1 == r7.1.2.1))
                                                      (some ((false, ()), ()))
                                                      (((laws_rInts N r13.1.1 r14.1.1).bind fun r15 =>
                                                        (br (!r15.1.1)
                                                          (some ((false, ()), ()))
                                                          (((impl_FlippableVars N (r1.1.1.1, r1.1.1.2) r1.1.2.1).bind fun r16 =>
                                                            ((spec_FlippableVars N (r1.1.1.1, r1.1.1.2) r1.1.2.1).bind fun r17 =>
                                                              (br (!(r16.1.2.1 == r17.1.2.1))
                                                                (some ((false, ()), ()))
                                                                ((br (!(r16.1.2.1 == r4.1.2.1))
                                                                  (some ((false, ()), ()))
                                                                  (((laws_rInts N r16.1.1 r17.1.1).bind fun r18 =>
                                                                    (br (!r18.1.1)
                                                                      (some ((false, ()), ()))
                                                                      ((br (!r4.1.2.1)
                                                                        (some (((!r2.1.2.1), ()), ()))
                                                                        ((br (!r7.1.2.1)
                                                                          (some (((!r2.1.2.1), ()), ()))
                                                                          (((impl_ClassOf N (r1.1.1.1, r1.1.1.2)).bind fun r19 =>
                                                                            (br (!r19.1.2.2.2.1)
                                                                              (some ((false, ()), ()))
                                                                              ((br r19.1.2.1
                                                                                (((laws_rInts N r4.1.1 r7.1.1).bind fun r20 =>
                                                                                  (br (!(r2.1.2.1 == r20.1.1))
                                                                                    (some ((false, ()), ()))
                                                                                    ((br r19.1.2.2.1
                                                                                      (((laws_rInts N r10.1.1 r13.1.1).bind fun r21 =>
                                                                                        (br (!(r2.1.2.1 == r21.1.1))
                                                                                          (some ((false, ()), ()))
                                                                                          (((impl_FlipDistance N (r1.1.1.1, r1.1.1.2) r1.1.2.1 r4.1.1).bind fun r22 =>
                                                                                            ((impl_FlipDistance N (r1.1.1.1, r1.1.1.2) r1.1.2.1 r10.1.1).bind fun r23 =>
                                                                                              (br r22.1.2.1
                                                                                                (some ((r23.1.2.1, ()), ()))
                                                                                                (some ((false, ()), ())))))))))
                                                                                      (((impl_FlipDistance N (r1.1.1.1, r1.1.1.2) r1.1.2.1 r4.1.1).bind fun r24 =>
                                                                                        ((impl_FlipDistance N (r1.1.1.1, r1.1.1.2) r1.1.2.1 r10.1.1).bind fun r25 =>
                                                                                          (br r24.1.2.1
                                                                                            (some ((r25.1.2.1, ()), ()))
                                                                                            (some ((false, ()), ())))))))))))
                                                                                ((br r19.1.2.2.1
                                                                                  (((laws_rInts N r10.1.1 r13.1.1).bind fun r26 =>
                                                                                    (br (!(r2.1.2.1 == r26.1.1))
                                                                                      (some ((false, ()), ()))
                                                                                      (((impl_FlipDistance N (r1.1.1.1, r1.1.1.2) r1.1.2.1 r4.1.1).bind fun r27 =>
                                                                                        ((impl_FlipDistance N (r1.1.1.1, r1.1.1.2) r1.1.2.1 r10.1.1).bind fun r28 =>
                                                                                          (br r27.1.2.1
                                                                                            (some ((r28.1.2.1, ()), ()))
                                                                                            (some ((false, ()), ())))))))))
                                                                                  (((impl_FlipDistance N (r1.1.1.1, r1.1.1.2) r1.1.2.1 r4.1.1).bind fun r29 =>
                                                                                    ((impl_FlipDistance N (r1.1.1.1, r1.1.1.2) r1.1.2.1 r10.1.1).bind fun r30 =>
                                                                                      (br r29.1.2.1
                                                                                        (some ((r30.1.2.1, ()), ()))
                                                                                        (some ((false, ()), ())))))))))))))))))))))))))))))))))))))))))))))))))))))))))))))))))
noncomputable def laws_FnHorn_S (N : Nat) : FSum := ⟨laws_FnHorn_ps, laws_FnHorn_rs, fun x => laws_FnHorn N x.1⟩
theorem laws_FnHorn_run (N : Nat) (x : argsT laws_FnHorn_ps) : laws_FnHorn N x.1 = funF (laws_FnHorn_G N) tab [] Tryz.f3 laws_FnHorn_ps laws_FnHorn_rs x := by kernel_rfl
theorem laws_FnHorn_pc (N : Nat) : PC Tryz.prog 3 (laws_FnHorn_S N) := by
  have e : laws_FnHorn_S N = ⟨laws_FnHorn_ps, laws_FnHorn_rs, funF (laws_FnHorn_G N) tab [] Tryz.f3 laws_FnHorn_ps laws_FnHorn_rs⟩ := congrArg (FSum.mk laws_FnHorn_ps laws_FnHorn_rs) (funext (laws_FnHorn_run N))
  rw [e]
  exact fun_ok (c := laws_FnHorn_code) progOk (laws_FnHorn_gok N) (draw_ok progOk (laws_FnHorn_gok N)) Tryz.call3 Tryz.func3 (by kernel_rfl) (lsOk_at (L := []) trivial) (by kernel_rfl) (by kernel_rfl) (by kernel_rfl) (by kernel_rfl) (by kernel_rfl)
end Go.Proofs.YtaodifjegdpifaaGreat
