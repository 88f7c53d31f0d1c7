/- Functions of the program as functions on data. -/
import Derived.Test.YtbnjcjpnpidhmaaGreatFlipWaysFc
set_option linter.all false
namespace Go.Proofs.YtbnjcjpnpidhmaaGreat
open Go Go.PV
/-! ### spec_HammingOf -/
abbrev spec_HammingOf_ps : List (PV.Mode × Ty) := [(.ro, LI), (.ro, LI)]
abbrev spec_HammingOf_rs : List (Bool × Ty) := [(true, I), (true, .bool)]
noncomputable def spec_HammingOf_G (N : Nat) : GTab := gOf [(208, spec_l6Bits_S N), (209, spec_l6Apart_S N)]
theorem spec_HammingOf_gok (N : Nat) : GOk Tryz.prog (spec_HammingOf_G N) := gOf_ok ⟨spec_l6Bits_pc N, spec_l6Apart_pc N, trivial⟩
noncomputable def spec_HammingOf_code : Code := (Tryz.f92.body).getD .skip
noncomputable def spec_HammingOf (N : Nat) (a : (List Int)) (b : (List Int)) : Option ((Int × Bool × Unit) × (Unit)) :=
  (br (ilt 6 (tLen a))
    (some ((0, false, ()), ()))
    (((spec_l6Bits N (tLen a) a).bind fun r =>
      (br (!r.1.1)
        (some ((0, false, ()), ()))
        (((spec_l6Bits N (tLen a) b).bind fun r1 =>
          (br (!r1.1.1)
            (some ((0, false, ()), ()))
            (((spec_l6Apart N a b).bind fun r2 =>
              some ((r2.1.1, true, ()), ()))))))))))
noncomputable def spec_HammingOf_S (N : Nat) : FSum := ⟨spec_HammingOf_ps, spec_HammingOf_rs, fun x => spec_HammingOf N x.1 x.2.1⟩
theorem spec_HammingOf_run (N : Nat) (x : argsT spec_HammingOf_ps) : spec_HammingOf N x.1 x.2.1 = funF (spec_HammingOf_G N) tab [] Tryz.f92 spec_HammingOf_ps spec_HammingOf_rs x := by kernel_rfl
theorem spec_HammingOf_pc (N : Nat) : PC Tryz.prog 92 (spec_HammingOf_S N) := by
  have e : spec_HammingOf_S N = ⟨spec_HammingOf_ps, spec_HammingOf_rs, funF (spec_HammingOf_G N) tab [] Tryz.f92 spec_HammingOf_ps spec_HammingOf_rs⟩ := congrArg (FSum.mk spec_HammingOf_ps spec_HammingOf_rs) (funext (spec_HammingOf_run N))
  rw [e]
  exact fun_ok (c := spec_HammingOf_code) progOk (spec_HammingOf_gok N) (draw_ok progOk (spec_HammingOf_gok N)) Tryz.call92 Tryz.func92 (by kernel_rfl) (lsOk_at (L := []) trivial) (by kernel_rfl) (by kernel_rfl) (by kernel_rfl) (by kernel_rfl) (by kernel_rfl)

/-! ### impl_FlipSpace -/
abbrev impl_FlipSpace_ps : List (PV.Mode × Ty) := [(.ro, QILLI)]
abbrev impl_FlipSpace_rs : List (Bool × Ty) := [(true, QLLILQII), (true, .bool)]
noncomputable def impl_FlipSpace_G (N : Nat) : GTab := gOf [(89, impl_IsFormula_S N), (199, impl_Formula_flips_S N)]
theorem impl_FlipSpace_gok (N : Nat) : GOk Tryz.prog (impl_FlipSpace_G N) := gOf_ok ⟨impl_IsFormula_pc N, impl_Formula_flips_pc N, trivial⟩
noncomputable def impl_FlipSpace_code : Code := (Tryz.f93.body).getD .skip
noncomputable def impl_FlipSpace (N : Nat) (f : (Int × (List (List Int)))) : Option ((((List (List Int)) × (List (Int × Int))) × Bool × Unit) × (Unit)) :=
  ((impl_IsFormula N (f.1, f.2)).bind fun r =>
    (br (!r.1.1)
      (some ((([], []), false, ()), ()))
      (((impl_Formula_flips N (f.1, f.2)).bind fun r1 =>
        some (((r1.1.1.1, r1.1.1.2), true, ()), ())))))
noncomputable def impl_FlipSpace_S (N : Nat) : FSum := ⟨impl_FlipSpace_ps, impl_FlipSpace_rs, fun x => impl_FlipSpace N x.1⟩
theorem impl_FlipSpace_run (N : Nat) (x : argsT impl_FlipSpace_ps) : impl_FlipSpace N x.1 = funF (impl_FlipSpace_G N) tab [] Tryz.f93 impl_FlipSpace_ps impl_FlipSpace_rs x := by kernel_rfl
theorem impl_FlipSpace_pc (N : Nat) : PC Tryz.prog 93 (impl_FlipSpace_S N) := by
  have e : impl_FlipSpace_S N = ⟨impl_FlipSpace_ps, impl_FlipSpace_rs, funF (impl_FlipSpace_G N) tab [] Tryz.f93 impl_FlipSpace_ps impl_FlipSpace_rs⟩ := congrArg (FSum.mk impl_FlipSpace_ps impl_FlipSpace_rs) (funext (impl_FlipSpace_run N))
  rw [e]
  exact fun_ok (c := impl_FlipSpace_code) progOk (impl_FlipSpace_gok N) (draw_ok progOk (impl_FlipSpace_gok N)) Tryz.call93 Tryz.func93 (by kernel_rfl) (lsOk_at (L := []) trivial) (by kernel_rfl) (by kernel_rfl) (by kernel_rfl) (by kernel_rfl) (by kernel_rfl)

/-! ### spec_FlipSpace -/
abbrev spec_FlipSpace_ps : List (PV.Mode × Ty) := [(.ro, QILLI)]
abbrev spec_FlipSpace_rs : List (Bool × Ty) := [(false, QLLILQII), (true, .bool)]
noncomputable def spec_FlipSpace_G (N : Nat) : GTab := gOf [(202, spec_l6Good_S N), (211, spec_l6Solutions_S N), (210, spec_l6Space_S N)]
theorem spec_FlipSpace_gok (N : Nat) : GOk Tryz.prog (spec_FlipSpace_G N) := gOf_ok ⟨spec_l6Good_pc N, spec_l6Solutions_pc N, spec_l6Space_pc N, trivial⟩
noncomputable def spec_FlipSpace_code : Code := (Tryz.f94.body).getD .skip
noncomputable def spec_FlipSpace (N : Nat) (f : (Int × (List (List Int)))) : Option ((((List (List Int)) × (List (Int × Int))) × Bool × Unit) × (Unit)) :=
  ((spec_l6Good N (f.1, f.2)).bind fun r =>
    (br (!r.1.1)
      (some ((([], []), false, ()), ()))
      (((spec_l6Solutions N (f.1, f.2)).bind fun r1 =>
        ((spec_l6Space N r1.1.1).bind fun r2 =>
          some (((r2.1.1.1, r2.1.1.2), true, ()), ()))))))
noncomputable def spec_FlipSpace_S (N : Nat) : FSum := ⟨spec_FlipSpace_ps, spec_FlipSpace_rs, fun x => spec_FlipSpace N x.1⟩
theorem spec_FlipSpace_run (N : Nat) (x : argsT spec_FlipSpace_ps) : spec_FlipSpace N x.1 = funF (spec_FlipSpace_G N) tab [] Tryz.f94 spec_FlipSpace_ps spec_FlipSpace_rs x := by kernel_rfl
theorem spec_FlipSpace_pc (N : Nat) : PC Tryz.prog 94 (spec_FlipSpace_S N) := by
  have e : spec_FlipSpace_S N = ⟨spec_FlipSpace_ps, spec_FlipSpace_rs, funF (spec_FlipSpace_G N) tab [] Tryz.f94 spec_FlipSpace_ps spec_FlipSpace_rs⟩ := congrArg (FSum.mk spec_FlipSpace_ps spec_FlipSpace_rs) (funext (spec_FlipSpace_run N))
  rw [e]
  exact fun_ok (c := spec_FlipSpace_code) progOk (spec_FlipSpace_gok N) (draw_ok progOk (spec_FlipSpace_gok N)) Tryz.call94 Tryz.func94 (by kernel_rfl) (lsOk_at (L := []) trivial) (by kernel_rfl) (by kernel_rfl) (by kernel_rfl) (by kernel_rfl) (by kernel_rfl)

/-! ### laws_rTable -/
abbrev laws_rTable_ps : List (PV.Mode × Ty) := [(.ro, LLI), (.ro, LLI)]
abbrev laws_rTable_rs : List (Bool × Ty) := [(true, .bool)]
noncomputable def laws_rTable_G (N : Nat) : GTab := gOf [(33, laws_rInts_S N)]
theorem laws_rTable_gok (N : Nat) : GOk Tryz.prog (laws_rTable_G N) := gOf_ok ⟨laws_rInts_pc N, trivial⟩
noncomputable def laws_rTable_code : Code := (Tryz.f39.body).getD .skip
noncomputable def laws_rTable_l0_sh : Sh := ⟨[(0, .one (.ro LLI)), (1, .one (.ro LLI)), (5, .one (.ro I))], []⟩
noncomputable def laws_rTable_l0_ex : List (Ex × Sh) := [(.ret, ⟨[(4, .one (.ro .bool))], []⟩), (.exit 0, ⟨[], []⟩)]
noncomputable def laws_rTable_l0 {R : Type} (N : Nat) (k0 : Bool → Option R) (k1 : Unit → Option R) : Nat → (List (List Int)) → (List (List Int)) → Int → Option R
  | 0, _, _, _ => none
  | K + 1, a1, b1, i =>
    (br (ilt i (tLen a1))
      ((chk (inb a1 i)
        (chk (inb b1 i)
        ((laws_rInts N (rdL a1 i) (rdL b1 i)).bind fun r =>
        (br (!r.1.1)
          (k0 false)
          (laws_rTable_l0 N k0 k1 K a1 b1 (IntKind.i64.wrap (i + 1))))))))
      (k1 ()))
noncomputable def laws_rTable_l0_again {R : Type} (N : Nat) (ks : (j : Nat) → ((laws_rTable_l0_ex.getD j (.ret, Sh.none)).2).T → Option R) (k : Nat) (x : laws_rTable_l0_sh.T) : Option R :=
  laws_rTable_l0 N (fun y0 => ks 0 ((y0, ()), ())) (fun (_ : Unit) => ks 1 ((), ())) k x.1.1 x.1.2.1 x.1.2.2.1
noncomputable def laws_rTable_l0_s (N : Nat) : LSum := ⟨laws_rTable_l0_sh, laws_rTable_l0_ex, fun x ks => laws_rTable_l0_again N ks N x⟩
theorem laws_rTable_l0_step (N : Nat) (R : Type) (k : Nat) (x : laws_rTable_l0_sh.T) (ks : (j : Nat) → ((laws_rTable_l0_ex.getD j (.ret, Sh.none)).2).T → Option R) : laws_rTable_l0_again N ks (k + 1) x = roundF (laws_rTable_G N) tab [] (loopAt laws_rTable_code 0) laws_rTable_l0_sh laws_rTable_l0_ex (fun y => laws_rTable_l0_again N ks k y) ks x := by kernel_rfl
theorem laws_rTable_l0_ok (N : Nat) : LoopOk Tryz.prog Tryz.f39.ntmps (laws_rTable_l0_s N) (loopAt laws_rTable_code 0) :=
  loop_ok (l := laws_rTable_l0_s N) progOk (laws_rTable_gok N) (draw_ok progOk (laws_rTable_gok N)) (fun R k x ks => laws_rTable_l0_again N ks k x) (fun _ _ _ => rfl) (fun R k x ks => laws_rTable_l0_step N R k x ks) (fun R x ks r h => ⟨N, h⟩) (lsOk_at (L := []) trivial) (by kernel_rfl) (by kernel_rfl)
noncomputable def laws_rTable (N : Nat) (a : (List (List Int))) (b : (List (List Int))) : Option ((Bool × Unit) × (Unit)) :=
  (br (ine (tLen a) (tLen b))
    (some ((false, ()), ()))
    (laws_rTable_l0 N (fun x => some ((x, ()), ())) (fun (_ : Unit) => some ((true, ()), ())) N a b 0))
noncomputable def laws_rTable_S (N : Nat) : FSum := ⟨laws_rTable_ps, laws_rTable_rs, fun x => laws_rTable N x.1 x.2.1⟩
theorem laws_rTable_run (N : Nat) (x : argsT laws_rTable_ps) : laws_rTable N x.1 x.2.1 = funF (laws_rTable_G N) tab [laws_rTable_l0_s N] Tryz.f39 laws_rTable_ps laws_rTable_rs x := by kernel_rfl
theorem laws_rTable_pc (N : Nat) : PC Tryz.prog 39 (laws_rTable_S N) := by
  have e : laws_rTable_S N = ⟨laws_rTable_ps, laws_rTable_rs, funF (laws_rTable_G N) tab [laws_rTable_l0_s N] Tryz.f39 laws_rTable_ps laws_rTable_rs⟩ := congrArg (FSum.mk laws_rTable_ps laws_rTable_rs) (funext (laws_rTable_run N))
  rw [e]
  exact fun_ok (c := laws_rTable_code) progOk (laws_rTable_gok N) (draw_ok progOk (laws_rTable_gok N)) Tryz.call39 Tryz.func39 (by kernel_rfl) (lsOk_at (L := [laws_rTable_l0_s N]) ⟨laws_rTable_l0_ok N, trivial⟩) (by kernel_rfl) (by kernel_rfl) (by kernel_rfl) (by kernel_rfl) (by kernel_rfl)

/-! ### laws_rPairs -/
abbrev laws_rPairs_ps : List (PV.Mode × Ty) := [(.ro, LQII), (.ro, LQII)]
abbrev laws_rPairs_rs : List (Bool × Ty) := [(true, .bool)]
noncomputable def laws_rPairs_G (N : Nat) : GTab := gOf []
theorem laws_rPairs_gok (N : Nat) : GOk Tryz.prog (laws_rPairs_G N) := gOf_ok trivial
noncomputable def laws_rPairs_code : Code := (Tryz.f150.body).getD .skip
noncomputable def laws_rPairs_l0_sh : Sh := ⟨[(0, .one (.ro LQII)), (1, .one (.ro LQII)), (5, .one (.ro I))], []⟩
noncomputable def laws_rPairs_l0_ex : List (Ex × Sh) := [(.ret, ⟨[(4, .one (.ro .bool))], []⟩), (.exit 0, ⟨[], []⟩)]
noncomputable def laws_rPairs_l0 {R : Type} (N : Nat) (k0 : Bool → Option R) (k1 : Unit → Option R) : Nat → (List (Int × Int)) → (List (Int × Int)) → Int → Option R
  | 0, _, _, _ => none
  | K + 1, a1, b1, i =>
    (br (ilt i (tLen a1))
      ((chk (inb a1 i)
        (chk (inb b1 i)
        (br (!(ieq ((rdP a1 i).1) ((rdP b1 i).1) && ieq ((rdP a1 i).2) ((rdP b1 i).2)))
        (k0 false)
        (laws_rPairs_l0 N k0 k1 K a1 b1 (IntKind.i64.wrap (i + 1)))))))
      (k1 ()))
noncomputable def laws_rPairs_l0_again {R : Type} (N : Nat) (ks : (j : Nat) → ((laws_rPairs_l0_ex.getD j (.ret, Sh.none)).2).T → Option R) (k : Nat) (x : laws_rPairs_l0_sh.T) : Option R :=
  laws_rPairs_l0 N (fun y0 => ks 0 ((y0, ()), ())) (fun (_ : Unit) => ks 1 ((), ())) k x.1.1 x.1.2.1 x.1.2.2.1
noncomputable def laws_rPairs_l0_s (N : Nat) : LSum := ⟨laws_rPairs_l0_sh, laws_rPairs_l0_ex, fun x ks => laws_rPairs_l0_again N ks N x⟩
theorem laws_rPairs_l0_step (N : Nat) (R : Type) (k : Nat) (x : laws_rPairs_l0_sh.T) (ks : (j : Nat) → ((laws_rPairs_l0_ex.getD j (.ret, Sh.none)).2).T → Option R) : laws_rPairs_l0_again N ks (k + 1) x = roundF (laws_rPairs_G N) tab [] (loopAt laws_rPairs_code 0) laws_rPairs_l0_sh laws_rPairs_l0_ex (fun y => laws_rPairs_l0_again N ks k y) ks x := by kernel_rfl
theorem laws_rPairs_l0_ok (N : Nat) : LoopOk Tryz.prog Tryz.f150.ntmps (laws_rPairs_l0_s N) (loopAt laws_rPairs_code 0) :=
  loop_ok (l := laws_rPairs_l0_s N) progOk (laws_rPairs_gok N) (draw_ok progOk (laws_rPairs_gok N)) (fun R k x ks => laws_rPairs_l0_again N ks k x) (fun _ _ _ => rfl) (fun R k x ks => laws_rPairs_l0_step N R k x ks) (fun R x ks r h => ⟨N, h⟩) (lsOk_at (L := []) trivial) (by kernel_rfl) (by kernel_rfl)
noncomputable def laws_rPairs (N : Nat) (a : (List (Int × Int))) (b : (List (Int × Int))) : Option ((Bool × Unit) × (Unit)) :=
  (br (ine (tLen a) (tLen b))
    (some ((false, ()), ()))
    (laws_rPairs_l0 N (fun x => some ((x, ()), ())) (fun (_ : Unit) => some ((true, ()), ())) N a b 0))
noncomputable def laws_rPairs_S (N : Nat) : FSum := ⟨laws_rPairs_ps, laws_rPairs_rs, fun x => laws_rPairs N x.1 x.2.1⟩
theorem laws_rPairs_run (N : Nat) (x : argsT laws_rPairs_ps) : laws_rPairs N x.1 x.2.1 = funF (laws_rPairs_G N) tab [laws_rPairs_l0_s N] Tryz.f150 laws_rPairs_ps laws_rPairs_rs x := by kernel_rfl
theorem laws_rPairs_pc (N : Nat) : PC Tryz.prog 150 (laws_rPairs_S N) := by
  have e : laws_rPairs_S N = ⟨laws_rPairs_ps, laws_rPairs_rs, funF (laws_rPairs_G N) tab [laws_rPairs_l0_s N] Tryz.f150 laws_rPairs_ps laws_rPairs_rs⟩ := congrArg (FSum.mk laws_rPairs_ps laws_rPairs_rs) (funext (laws_rPairs_run N))
  rw [e]
  exact fun_ok (c := laws_rPairs_code) progOk (laws_rPairs_gok N) (draw_ok progOk (laws_rPairs_gok N)) Tryz.call150 Tryz.func150 (by kernel_rfl) (lsOk_at (L := [laws_rPairs_l0_s N]) ⟨laws_rPairs_l0_ok N, trivial⟩) (by kernel_rfl) (by kernel_rfl) (by kernel_rfl) (by kernel_rfl) (by kernel_rfl)

/-! ### laws_rSpace -/
abbrev laws_rSpace_ps : List (PV.Mode × Ty) := [(.ro, QLLILQII), (.ro, QLLILQII)]
abbrev laws_rSpace_rs : List (Bool × Ty) := [(true, .bool)]
noncomputable def laws_rSpace_G (N : Nat) : GTab := gOf [(39, laws_rTable_S N), (150, laws_rPairs_S N)]
theorem laws_rSpace_gok (N : Nat) : GOk Tryz.prog (laws_rSpace_G N) := gOf_ok ⟨laws_rTable_pc N, laws_rPairs_pc N, trivial⟩
noncomputable def laws_rSpace_code : Code := (Tryz.f55.body).getD .skip
noncomputable def laws_rSpace (N : Nat) (a : ((List (List Int)) × (List (Int × Int)))) (b : ((List (List Int)) × (List (Int × Int)))) : Option ((Bool × Unit) × (Unit)) :=
  ((laws_rTable N a.1 b.1).bind fun r =>
    (br r.1.1
      (((laws_rPairs N a.2 b.2).bind fun r1 =>
        some ((r1.1.1, ()), ())))
      (some ((false, ()), ()))))
noncomputable def laws_rSpace_S (N : Nat) : FSum := ⟨laws_rSpace_ps, laws_rSpace_rs, fun x => laws_rSpace N x.1 x.2.1⟩
theorem laws_rSpace_run (N : Nat) (x : argsT laws_rSpace_ps) : laws_rSpace N x.1 x.2.1 = funF (laws_rSpace_G N) tab [] Tryz.f55 laws_rSpace_ps laws_rSpace_rs x := by kernel_rfl
theorem laws_rSpace_pc (N : Nat) : PC Tryz.prog 55 (laws_rSpace_S N) := by
  have e : laws_rSpace_S N = ⟨laws_rSpace_ps, laws_rSpace_rs, funF (laws_rSpace_G N) tab [] Tryz.f55 laws_rSpace_ps laws_rSpace_rs⟩ := congrArg (FSum.mk laws_rSpace_ps laws_rSpace_rs) (funext (laws_rSpace_run N))
  rw [e]
  exact fun_ok (c := laws_rSpace_code) progOk (laws_rSpace_gok N) (draw_ok progOk (laws_rSpace_gok N)) Tryz.call55 Tryz.func55 (by kernel_rfl) (lsOk_at (L := []) trivial) (by kernel_rfl) (by kernel_rfl) (by kernel_rfl) (by kernel_rfl) (by kernel_rfl)

/-! ### laws_FnFlipWays -/
abbrev laws_FnFlipWays_ps : List (PV.Mode × Ty) := [(.ro, LU8)]
abbrev laws_FnFlipWays_rs : List (Bool × Ty) := [(true, .bool)]
noncomputable def laws_FnFlipWays_G (N : Nat) : GTab := gOf [(25, laws_rBig_S N), (82, spec_DrawFlipWay_S N), (83, impl_FlipWay_S N), (84, spec_FlipWay_S N), (33, laws_rInts_S N), (85, impl_FlipDistance_S N), (86, spec_FlipDistance_S N), (87, impl_ClassOf_S N), (88, spec_ClassOf_S N), (89, impl_IsFormula_S N), (90, spec_DrawHammingOf_S N), (91, impl_HammingOf_S N), (92, spec_HammingOf_S N), (93, impl_FlipSpace_S N), (94, spec_FlipSpace_S N), (55, laws_rSpace_S N), (95, impl_IsSolution_S N)]
theorem laws_FnFlipWays_gok (N : Nat) : GOk Tryz.prog (laws_FnFlipWays_G N) := gOf_ok ⟨laws_rBig_pc N, spec_DrawFlipWay_pc N, impl_FlipWay_pc N, spec_FlipWay_pc N, laws_rInts_pc N, impl_FlipDistance_pc N, spec_FlipDistance_pc N, impl_ClassOf_pc N, spec_ClassOf_pc N, impl_IsFormula_pc N, spec_DrawHammingOf_pc N, impl_HammingOf_pc N, spec_HammingOf_pc N, impl_FlipSpace_pc N, spec_FlipSpace_pc N, laws_rSpace_pc N, impl_IsSolution_pc N, trivial⟩
noncomputable def laws_FnFlipWays_code : Code := (Tryz.f9.body).getD .skip
noncomputable def laws_FnFlipWays_l0_sh : Sh := ⟨[(3, .one (.adr 0 0)), (5, .one (.ro LI)), (6, .one (.ref 1)), (34, .one (.ref 2)), (35, .one (.ro I))], [.box [.ro I, .ro LLI], .sl 3 I .own, .sl 3 I .own]⟩
noncomputable def laws_FnFlipWays_l0_ex : List (Ex × Sh) := [(.ret, ⟨[(2, .one (.ro .bool))], []⟩), (.exit 0, ⟨[(5, .one (.ro LI)), (34, .one (.ref 0))], [.sl 3 I .own]⟩)]
noncomputable def laws_FnFlipWays_l0 {R : Type} (N : Nat) (k0 : Bool → Option R) (k1 : (List Int) → (List Int) → Option R) : Nat → (List Int) → Int → Int → (List (List Int)) → (List Int) → (List Int) → Option R
  | 0, _, _, _, _, _, _ => none
  | K + 1, x, x1, o, o1, o2, o3 =>
    (br (ilt x1 (tLen o2))
      ((chk (inb o2 x1)
        (chk (inb o2 x1)
        (chk (inb o3 (rdI o2 x1))
        (chk (inb o3 (rdI o2 x1))
        ((impl_IsSolution N (o, o1) (tSet o3 (rdI o2 x1) (IntKind.i64.wrap (1 - (rdI o3 (rdI o2 x1)))))).bind fun r17 =>
        (br (!r17.1.2.1)
          (k0 false)
          ((br (!r17.1.1)
            (k0 false)
            (laws_FnFlipWays_l0 N k0 k1 K x (IntKind.i64.wrap (x1 + 1)) o o1 o2 (tSet o3 (rdI o2 x1) (IntKind.i64.wrap (1 - (rdI o3 (rdI o2 x1)))))))))))))))
      (k1 x o3))
noncomputable def laws_FnFlipWays_l0_again {R : Type} (N : Nat) (ks : (j : Nat) → ((laws_FnFlipWays_l0_ex.getD j (.ret, Sh.none)).2).T → Option R) (k : Nat) (x : laws_FnFlipWays_l0_sh.T) : Option R :=
  laws_FnFlipWays_l0 N (fun y0 => ks 0 ((y0, ()), ())) (fun y0 y1 => ks 1 ((y0, (), ()), (y1, ()))) k x.1.2.1 x.1.2.2.2.2.1 x.2.1.1 x.2.1.2.1 x.2.2.1 x.2.2.2.1
noncomputable def laws_FnFlipWays_l0_s (N : Nat) : LSum := ⟨laws_FnFlipWays_l0_sh, laws_FnFlipWays_l0_ex, fun x ks => laws_FnFlipWays_l0_again N ks N x⟩
theorem laws_FnFlipWays_l0_step (N : Nat) (R : Type) (k : Nat) (x : laws_FnFlipWays_l0_sh.T) (ks : (j : Nat) → ((laws_FnFlipWays_l0_ex.getD j (.ret, Sh.none)).2).T → Option R) : laws_FnFlipWays_l0_again N ks (k + 1) x = roundF (laws_FnFlipWays_G N) tab [] (loopAt laws_FnFlipWays_code 0) laws_FnFlipWays_l0_sh laws_FnFlipWays_l0_ex (fun y => laws_FnFlipWays_l0_again N ks k y) ks x := by kernel_rfl
theorem laws_FnFlipWays_l0_ok (N : Nat) : LoopOk Tryz.prog Tryz.f9.ntmps (laws_FnFlipWays_l0_s N) (loopAt laws_FnFlipWays_code 0) :=
  loop_ok (l := laws_FnFlipWays_l0_s N) progOk (laws_FnFlipWays_gok N) (draw_ok progOk (laws_FnFlipWays_gok N)) (fun R k x ks => laws_FnFlipWays_l0_again N ks k x) (fun _ _ _ => rfl) (fun R k x ks => laws_FnFlipWays_l0_step N R k x ks) (fun R x ks r h => ⟨N, h⟩) (lsOk_at (L := []) trivial) (by kernel_rfl) (by kernel_rfl)
noncomputable def laws_FnFlipWays (N : Nat) (c : (List Int)) : Option ((Bool × Unit) × (Unit)) :=
  ((laws_rBig N c).bind fun r =>
    (br r.1.1
      (some ((true, ()), ()))
      (((spec_DrawFlipWay N c).bind fun r1 =>
        ((impl_FlipWay N (r1.1.1.1, r1.1.1.2) r1.1.2.1 r1.1.2.2.1).bind fun r2 =>
          ((spec_FlipWay N (r1.1.1.1, r1.1.1.2) r1.1.2.1 r1.1.2.2.1).bind fun r3 =>
            (br (!(r2.1.2.1 == r3.1.2.1))
              (some ((false, ()), ()))
              (((laws_rInts N r2.1.1 r3.1.1).bind fun r4 =>
                (br (!r4.1.1)
                  (some ((false, ()), ()))
                  (((impl_FlipDistance N (r1.1.1.1, r1.1.1.2) r1.1.2.1 r1.1.2.2.1).bind fun r5 =>
                    ((spec_FlipDistance N (r1.1.1.1, r1.1.1.2) r1.1.2.1 r1.1.2.2.1).bind fun r6 =>
                      (br (ine r5.1.1 r6.1.1)
                        (some ((false, ()), ()))
                        ((br (!(r5.1.2.1 == r6.1.2.1))
                          (some ((false, ()), ()))
                          ((br (!(r5.1.2.1 == r2.1.2.1))
                            (some ((false, ()), ()))
                            (((impl_ClassOf N (r1.1.1.1, r1.1.1.2)).bind fun r7 =>
                              ((spec_ClassOf N (r1.1.1.1, r1.1.1.2)).bind fun r8 =>
                                (br (!(r7.1.1 == r8.1.1))
                                  (some ((false, ()), ()))
                                  ((br (!(r7.1.2.1 == r8.1.2.1))
                                    (some ((false, ()), ()))
                                    ((br (!(r7.1.2.2.1 == r8.1.2.2.1))
                                      (some ((false, ()), ()))
                                      ((br (!(r7.1.2.2.2.1 == r8.1.2.2.2.1))
                                        (some ((false, ()), ()))
                                        (((impl_IsFormula N (r1.1.1.1, r1.1.1.2)).bind fun r9 =>
                                          (br (!(r7.1.2.2.2.1 == r9.1.1))
                                            (some ((false, ()), ()))
                                            (((spec_DrawHammingOf N c).bind fun r10 =>
                                              ((impl_HammingOf N r10.1.1 r10.1.2.1).bind fun r11 =>
                                                ((spec_HammingOf N r10.1.1 r10.1.2.1).bind fun r12 =>
                                                  (br (ine r11.1.1 r12.1.1)
                                                    (some ((false, ()), ()))
                                                    ((br (!(r11.1.2.1 == r12.1.2.1))
                                                      (some ((false, ()), ()))
                                                      (((impl_FlipSpace N (r1.1.1.1, r1.1.1.2)).bind fun r13 =>
                                                        ((spec_FlipSpace N (r1.1.1.1, r1.1.1.2)).bind fun r14 =>
                                                          (br (!(r13.1.2.1 == r14.1.2.1))
                                                            (some ((false, ()), ()))
                                                            ((br (!(r13.1.2.1 == r7.1.2.2.2.1))
                                                              (some ((false, ()), ()))
                                                              (((laws_rSpace N (r13.1.1.1, r13.1.1.2) (r14.1.1.1, r14.1.1.2)).bind fun r15 =>
                                                                (br (!r15.1.1)
                                                                  (some ((false, ()), ()))
                                                                  ((br (!r2.1.2.1)
                                                                    (some ((true, ()), ()))
                                                                    (((impl_HammingOf N r1.1.2.1 r1.1.2.2.1).bind fun r16 =>
                                                                      (br (!r16.1.2.1)
                                                                        (some ((false, ()), ()))
                                                                        ((br (ilt r5.1.1 r16.1.1)
                                                                          (some ((false, ()), ()))
                                                                          ((br (ine (tLen r2.1.1) r5.1.1)
                                                                            (some ((false, ()), ()))
                                                                            ((br r7.1.1
                                                                              ((br (ine r5.1.1 r16.1.1)
                                                                                (some ((false, ()), ()))
                                                                                ((chk (room (α := Int) (β := Int) [] r1.1.2.1)
                                                                                  (laws_FnFlipWays_l0 N (fun x => some ((x, ()), ())) (fun x1 o => ((laws_rInts N o x1).bind fun r17 =>
                                                                                  some ((r17.1.1, ()), ()))) N r1.1.2.2.1 0 r1.1.1.1 r1.1.1.2 r2.1.1 (tApp [] r1.1.2.1))))))
                                                                              ((chk (room (α := Int) (β := Int) [] r1.1.2.1)
                                                                                (laws_FnFlipWays_l0 N (fun x2 => some ((x2, ()), ())) (fun x3 o1 => ((laws_rInts N o1 x3).bind fun r18 =>
                                                                                some ((r18.1.1, ()), ()))) N r1.1.2.2.1 0 r1.1.1.1 r1.1.1.2 r2.1.1 (tApp [] r1.1.2.1))))))))))))))))))))))))))))))))))))))))))))))))))))))))))))))
noncomputable def laws_FnFlipWays_S (N : Nat) : FSum := ⟨laws_FnFlipWays_ps, laws_FnFlipWays_rs, fun x => laws_FnFlipWays N x.1⟩
theorem laws_FnFlipWays_run (N : Nat) (x : argsT laws_FnFlipWays_ps) : laws_FnFlipWays N x.1 = funF (laws_FnFlipWays_G N) tab [laws_FnFlipWays_l0_s N] Tryz.f9 laws_FnFlipWays_ps laws_FnFlipWays_rs x := by kernel_rfl
theorem laws_FnFlipWays_pc (N : Nat) : PC Tryz.prog 9 (laws_FnFlipWays_S N) := by
  have e : laws_FnFlipWays_S N = ⟨laws_FnFlipWays_ps, laws_FnFlipWays_rs, funF (laws_FnFlipWays_G N) tab [laws_FnFlipWays_l0_s N] Tryz.f9 laws_FnFlipWays_ps laws_FnFlipWays_rs⟩ := congrArg (FSum.mk laws_FnFlipWays_ps laws_FnFlipWays_rs) (funext (laws_FnFlipWays_run N))
  rw [e]
  exact fun_ok (c := laws_FnFlipWays_code) progOk (laws_FnFlipWays_gok N) (draw_ok progOk (laws_FnFlipWays_gok N)) Tryz.call9 Tryz.func9 (by kernel_rfl) (lsOk_at (L := [laws_FnFlipWays_l0_s N]) ⟨laws_FnFlipWays_l0_ok N, trivial⟩) (by kernel_rfl) (by kernel_rfl) (by kernel_rfl) (by kernel_rfl) (by kernel_rfl)
end Go.Proofs.YtbnjcjpnpidhmaaGreat
