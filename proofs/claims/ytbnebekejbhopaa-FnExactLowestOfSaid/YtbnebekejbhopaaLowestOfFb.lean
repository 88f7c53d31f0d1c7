/- Functions of the program as functions on data. -/
import Derived.Test.YtbnebekejbhopaaLowestOfFa
set_option linter.all false
namespace Go.Proofs.Ytbnebekejbhopaa
open Go Go.PV
/-! ### impl_meets -/
noncomputable def impl_meets_G (N : Nat) : GTab := gOf []
theorem impl_meets_gok (N : Nat) : GOk Try.prog (impl_meets_G N) := gOf_ok trivial
noncomputable def impl_meets_code : Code := (Try.f106.body).getD .skip
noncomputable def impl_meets (N : Nat) (list : (List Int)) (literal : Int) : Option ((Bool × Unit) × (Unit)) :=
  (br (ilt 0 literal)
    ((chk (inb list (IntKind.i64.wrap (literal - 1)))
      (some (((ieq (rdI list (IntKind.i64.wrap (literal - 1))) 1), ()), ()))))
    ((chk (inb list (IntKind.i64.wrap ((-1) - literal)))
      (some (((ieq (rdI list (IntKind.i64.wrap ((-1) - literal))) 0), ()), ())))))
abbrev impl_meets_ps : List (PV.Mode × Ty) := [(.ro, LI), (.ro, I)]
abbrev impl_meets_rs : List (Bool × Ty) := [(true, .bool)]
noncomputable def impl_meets_S (N : Nat) : FSum := ⟨impl_meets_ps, impl_meets_rs, fun x => impl_meets N x.1 x.2.1⟩
theorem impl_meets_run (N : Nat) (x : argsT impl_meets_ps) : impl_meets N x.1 x.2.1 = funF (impl_meets_G N) tab [] Try.f106 impl_meets_ps impl_meets_rs x := by kernel_rfl
theorem impl_meets_pc (N : Nat) : PC Try.prog 106 (impl_meets_S N) := by
  have e : impl_meets_S N = ⟨impl_meets_ps, impl_meets_rs, funF (impl_meets_G N) tab [] Try.f106 impl_meets_ps impl_meets_rs⟩ := congrArg (FSum.mk impl_meets_ps impl_meets_rs) (funext (impl_meets_run N))
  rw [e]
  exact fun_ok (c := impl_meets_code) progOk (impl_meets_gok N) (draw_ok progOk (impl_meets_gok N)) Try.call106 Try.func106 (by kernel_rfl) (lsOk_at (L := []) trivial) (by kernel_rfl) (by kernel_rfl) (by kernel_rfl) (by kernel_rfl) (by kernel_rfl)

/-! ### impl_Formula_solves_c1_c1 -/
noncomputable def impl_Formula_solves_c1_c1_G (N : Nat) : GTab := gOf [(106, impl_meets_S N)]
theorem impl_Formula_solves_c1_c1_gok (N : Nat) : GOk Try.prog (impl_Formula_solves_c1_c1_G N) := gOf_ok ⟨impl_meets_pc N, trivial⟩
noncomputable def impl_Formula_solves_c1_c1_code : Code := (Try.f105.body).getD .skip
noncomputable def impl_Formula_solves_c1_c1 (N : Nat) (literal : Int) (c : (List Int)) : Option ((Bool × Unit) × (Unit)) :=
  ((impl_meets N c literal).bind fun r =>
    some ((r.1.1, ()), ()))
abbrev impl_Formula_solves_c1_c1_ps : List (PV.Mode × Ty) := [(.ro, I), (.ro, ALI)]
abbrev impl_Formula_solves_c1_c1_rs : List (Bool × Ty) := [(true, .bool)]
noncomputable def impl_Formula_solves_c1_c1_S (N : Nat) : FSum := ⟨impl_Formula_solves_c1_c1_ps, impl_Formula_solves_c1_c1_rs, fun x => impl_Formula_solves_c1_c1 N x.1 x.2.1⟩
theorem impl_Formula_solves_c1_c1_run (N : Nat) (x : argsT impl_Formula_solves_c1_c1_ps) : impl_Formula_solves_c1_c1 N x.1 x.2.1 = funF (impl_Formula_solves_c1_c1_G N) tab [] Try.f105 impl_Formula_solves_c1_c1_ps impl_Formula_solves_c1_c1_rs x := by kernel_rfl
theorem impl_Formula_solves_c1_c1_pc (N : Nat) : PC Try.prog 105 (impl_Formula_solves_c1_c1_S N) := by
  have e : impl_Formula_solves_c1_c1_S N = ⟨impl_Formula_solves_c1_c1_ps, impl_Formula_solves_c1_c1_rs, funF (impl_Formula_solves_c1_c1_G N) tab [] Try.f105 impl_Formula_solves_c1_c1_ps impl_Formula_solves_c1_c1_rs⟩ := congrArg (FSum.mk impl_Formula_solves_c1_c1_ps impl_Formula_solves_c1_c1_rs) (funext (impl_Formula_solves_c1_c1_run N))
  rw [e]
  exact fun_ok (c := impl_Formula_solves_c1_c1_code) progOk (impl_Formula_solves_c1_c1_gok N) (draw_ok progOk (impl_Formula_solves_c1_c1_gok N)) Try.call105 Try.func105 (by kernel_rfl) (lsOk_at (L := []) trivial) (by kernel_rfl) (by kernel_rfl) (by kernel_rfl) (by kernel_rfl) (by kernel_rfl)

/-! ### impl_Formula_solves_c1 -/
noncomputable def impl_Formula_solves_c1_G (N : Nat) : GTab := gOf [(105, impl_Formula_solves_c1_c1_S N), (97, slices_ContainsFunc_LI_int_S N)]
theorem impl_Formula_solves_c1_gok (N : Nat) : GOk Try.prog (impl_Formula_solves_c1_G N) := gOf_ok ⟨impl_Formula_solves_c1_c1_pc N, slices_ContainsFunc_LI_int_pc N, trivial⟩
noncomputable def impl_Formula_solves_c1_code : Code := (Try.f104.body).getD .skip
noncomputable def impl_Formula_solves_c1 (N : Nat) (clause : (List Int)) (c : (List Int)) : Option ((Bool × Unit) × (Unit)) :=
  ((slices_ContainsFunc_LI_int N clause (fun y0 => (impl_Formula_solves_c1_c1 N y0 c).bind fun z => some z.1.1)).bind fun r =>
    some (((!r.1.1), ()), ()))
abbrev impl_Formula_solves_c1_ps : List (PV.Mode × Ty) := [(.ro, LI), (.ro, ALI)]
abbrev impl_Formula_solves_c1_rs : List (Bool × Ty) := [(true, .bool)]
noncomputable def impl_Formula_solves_c1_S (N : Nat) : FSum := ⟨impl_Formula_solves_c1_ps, impl_Formula_solves_c1_rs, fun x => impl_Formula_solves_c1 N x.1 x.2.1⟩
theorem impl_Formula_solves_c1_run (N : Nat) (x : argsT impl_Formula_solves_c1_ps) : impl_Formula_solves_c1 N x.1 x.2.1 = funF (impl_Formula_solves_c1_G N) tab [] Try.f104 impl_Formula_solves_c1_ps impl_Formula_solves_c1_rs x := by kernel_rfl
theorem impl_Formula_solves_c1_pc (N : Nat) : PC Try.prog 104 (impl_Formula_solves_c1_S N) := by
  have e : impl_Formula_solves_c1_S N = ⟨impl_Formula_solves_c1_ps, impl_Formula_solves_c1_rs, funF (impl_Formula_solves_c1_G N) tab [] Try.f104 impl_Formula_solves_c1_ps impl_Formula_solves_c1_rs⟩ := congrArg (FSum.mk impl_Formula_solves_c1_ps impl_Formula_solves_c1_rs) (funext (impl_Formula_solves_c1_run N))
  rw [e]
  exact fun_ok (c := impl_Formula_solves_c1_code) progOk (impl_Formula_solves_c1_gok N) (draw_ok progOk (impl_Formula_solves_c1_gok N)) Try.call104 Try.func104 (by kernel_rfl) (lsOk_at (L := []) trivial) (by kernel_rfl) (by kernel_rfl) (by kernel_rfl) (by kernel_rfl) (by kernel_rfl)

/-! ### impl_Formula_solves -/
noncomputable def impl_Formula_solves_G (N : Nat) : GTab := gOf [(66, slices_ContainsFunc_LLI_LI_S N), (104, impl_Formula_solves_c1_S N)]
theorem impl_Formula_solves_gok (N : Nat) : GOk Try.prog (impl_Formula_solves_G N) := gOf_ok ⟨slices_ContainsFunc_LLI_LI_pc N, impl_Formula_solves_c1_pc N, trivial⟩
noncomputable def impl_Formula_solves_code : Code := (Try.f71.body).getD .skip
noncomputable def impl_Formula_solves (N : Nat) (f : (Int × (List (List Int)))) (list : (List Int)) : Option ((Bool × Unit) × (Unit)) :=
  ((slices_ContainsFunc_LLI_LI N f.2 (fun y0 => (impl_Formula_solves_c1 N y0 list).bind fun z => some z.1.1)).bind fun r =>
    some (((!r.1.1), ()), ()))
abbrev impl_Formula_solves_ps : List (PV.Mode × Ty) := [(.ro, QILLI), (.ro, LI)]
abbrev impl_Formula_solves_rs : List (Bool × Ty) := [(true, .bool)]
noncomputable def impl_Formula_solves_S (N : Nat) : FSum := ⟨impl_Formula_solves_ps, impl_Formula_solves_rs, fun x => impl_Formula_solves N x.1 x.2.1⟩
theorem impl_Formula_solves_run (N : Nat) (x : argsT impl_Formula_solves_ps) : impl_Formula_solves N x.1 x.2.1 = funF (impl_Formula_solves_G N) tab [] Try.f71 impl_Formula_solves_ps impl_Formula_solves_rs x := by kernel_rfl
theorem impl_Formula_solves_pc (N : Nat) : PC Try.prog 71 (impl_Formula_solves_S N) := by
  have e : impl_Formula_solves_S N = ⟨impl_Formula_solves_ps, impl_Formula_solves_rs, funF (impl_Formula_solves_G N) tab [] Try.f71 impl_Formula_solves_ps impl_Formula_solves_rs⟩ := congrArg (FSum.mk impl_Formula_solves_ps impl_Formula_solves_rs) (funext (impl_Formula_solves_run N))
  rw [e]
  exact fun_ok (c := impl_Formula_solves_code) progOk (impl_Formula_solves_gok N) (draw_ok progOk (impl_Formula_solves_gok N)) Try.call71 Try.func71 (by kernel_rfl) (lsOk_at (L := []) trivial) (by kernel_rfl) (by kernel_rfl) (by kernel_rfl) (by kernel_rfl) (by kernel_rfl)

/-! ### impl_IsSolution -/
noncomputable def impl_IsSolution_G (N : Nat) : GTab := gOf [(22, impl_IsFormula_S N), (57, impl_isAssignment_S N), (71, impl_Formula_solves_S N)]
theorem impl_IsSolution_gok (N : Nat) : GOk Try.prog (impl_IsSolution_G N) := gOf_ok ⟨impl_IsFormula_pc N, impl_isAssignment_pc N, impl_Formula_solves_pc N, trivial⟩
noncomputable def impl_IsSolution_code : Code := (Try.f32.body).getD .skip
noncomputable def impl_IsSolution (N : Nat) (f : (Int × (List (List Int)))) (bits : (List Int)) : Option ((Bool × Bool × Unit) × (Unit)) :=
  ((impl_IsFormula N (f.1, f.2)).bind fun r =>
    (br (!r.1.1)
      (some ((false, false, ()), ()))
      (((impl_isAssignment N f.1 bits).bind fun r1 =>
        (br (!r1.1.1)
          (some ((false, false, ()), ()))
          (((impl_Formula_solves N (f.1, f.2) bits).bind fun r2 =>
            some ((r2.1.1, true, ()), ()))))))))
abbrev impl_IsSolution_ps : List (PV.Mode × Ty) := [(.ro, QILLI), (.ro, LI)]
abbrev impl_IsSolution_rs : List (Bool × Ty) := [(true, .bool), (true, .bool)]
noncomputable def impl_IsSolution_S (N : Nat) : FSum := ⟨impl_IsSolution_ps, impl_IsSolution_rs, fun x => impl_IsSolution N x.1 x.2.1⟩
theorem impl_IsSolution_run (N : Nat) (x : argsT impl_IsSolution_ps) : impl_IsSolution N x.1 x.2.1 = funF (impl_IsSolution_G N) tab [] Try.f32 impl_IsSolution_ps impl_IsSolution_rs x := by kernel_rfl
theorem impl_IsSolution_pc (N : Nat) : PC Try.prog 32 (impl_IsSolution_S N) := by
  have e : impl_IsSolution_S N = ⟨impl_IsSolution_ps, impl_IsSolution_rs, funF (impl_IsSolution_G N) tab [] Try.f32 impl_IsSolution_ps impl_IsSolution_rs⟩ := congrArg (FSum.mk impl_IsSolution_ps impl_IsSolution_rs) (funext (impl_IsSolution_run N))
  rw [e]
  exact fun_ok (c := impl_IsSolution_code) progOk (impl_IsSolution_gok N) (draw_ok progOk (impl_IsSolution_gok N)) Try.call32 Try.func32 (by kernel_rfl) (lsOk_at (L := []) trivial) (by kernel_rfl) (by kernel_rfl) (by kernel_rfl) (by kernel_rfl) (by kernel_rfl)

/-! ### impl_isSolution -/
noncomputable def impl_isSolution_G (N : Nat) : GTab := gOf [(32, impl_IsSolution_S N)]
theorem impl_isSolution_gok (N : Nat) : GOk Try.prog (impl_isSolution_G N) := gOf_ok ⟨impl_IsSolution_pc N, trivial⟩
noncomputable def impl_isSolution_code : Code := (Try.f89.body).getD .skip
noncomputable def impl_isSolution (N : Nat) (f : (Int × (List (List Int)))) (list : (List Int)) : Option ((Bool × Unit) × (Unit)) :=
  ((impl_IsSolution N (f.1, f.2) list).bind fun r =>
    some ((r.1.1, ()), ()))
abbrev impl_isSolution_ps : List (PV.Mode × Ty) := [(.ro, QILLI), (.ro, LI)]
abbrev impl_isSolution_rs : List (Bool × Ty) := [(true, .bool)]
noncomputable def impl_isSolution_S (N : Nat) : FSum := ⟨impl_isSolution_ps, impl_isSolution_rs, fun x => impl_isSolution N x.1 x.2.1⟩
theorem impl_isSolution_run (N : Nat) (x : argsT impl_isSolution_ps) : impl_isSolution N x.1 x.2.1 = funF (impl_isSolution_G N) tab [] Try.f89 impl_isSolution_ps impl_isSolution_rs x := by kernel_rfl
theorem impl_isSolution_pc (N : Nat) : PC Try.prog 89 (impl_isSolution_S N) := by
  have e : impl_isSolution_S N = ⟨impl_isSolution_ps, impl_isSolution_rs, funF (impl_isSolution_G N) tab [] Try.f89 impl_isSolution_ps impl_isSolution_rs⟩ := congrArg (FSum.mk impl_isSolution_ps impl_isSolution_rs) (funext (impl_isSolution_run N))
  rw [e]
  exact fun_ok (c := impl_isSolution_code) progOk (impl_isSolution_gok N) (draw_ok progOk (impl_isSolution_gok N)) Try.call89 Try.func89 (by kernel_rfl) (lsOk_at (L := []) trivial) (by kernel_rfl) (by kernel_rfl) (by kernel_rfl) (by kernel_rfl) (by kernel_rfl)

/-! ### slices_Clone_LI_int -/
noncomputable def slices_Clone_LI_int_G (N : Nat) : GTab := gOf []
theorem slices_Clone_LI_int_gok (N : Nat) : GOk Try.prog (slices_Clone_LI_int_G N) := gOf_ok trivial
noncomputable def slices_Clone_LI_int_code : Code := (Try.f114.body).getD .skip
noncomputable def slices_Clone_LI_int (N : Nat) (s : (List Int)) : Option (((List Int) × Unit) × (Unit)) :=
  (br (ieq (tLen s) 0)
    ((amb
      (some (([], ()), ()))
      ((chk (room (α := Int) (β := Int) [] s)
        (some (((tApp [] s), ()), ()))))))
    ((chk (room (α := Int) (β := Int) [] s)
      (some (((tApp [] s), ()), ())))))
abbrev slices_Clone_LI_int_ps : List (PV.Mode × Ty) := [(.ro, LI)]
abbrev slices_Clone_LI_int_rs : List (Bool × Ty) := [(true, LI)]
noncomputable def slices_Clone_LI_int_S (N : Nat) : FSum := ⟨slices_Clone_LI_int_ps, slices_Clone_LI_int_rs, fun x => slices_Clone_LI_int N x.1⟩
theorem slices_Clone_LI_int_run (N : Nat) (x : argsT slices_Clone_LI_int_ps) : slices_Clone_LI_int N x.1 = funF (slices_Clone_LI_int_G N) tab [] Try.f114 slices_Clone_LI_int_ps slices_Clone_LI_int_rs x := by kernel_rfl
theorem slices_Clone_LI_int_pc (N : Nat) : PC Try.prog 114 (slices_Clone_LI_int_S N) := by
  have e : slices_Clone_LI_int_S N = ⟨slices_Clone_LI_int_ps, slices_Clone_LI_int_rs, funF (slices_Clone_LI_int_G N) tab [] Try.f114 slices_Clone_LI_int_ps slices_Clone_LI_int_rs⟩ := congrArg (FSum.mk slices_Clone_LI_int_ps slices_Clone_LI_int_rs) (funext (slices_Clone_LI_int_run N))
  rw [e]
  exact fun_ok (c := slices_Clone_LI_int_code) progOk (slices_Clone_LI_int_gok N) (draw_ok progOk (slices_Clone_LI_int_gok N)) Try.call114 Try.func114 (by kernel_rfl) (lsOk_at (L := []) trivial) (by kernel_rfl) (by kernel_rfl) (by kernel_rfl) (by kernel_rfl) (by kernel_rfl)

/-! ### impl_flipped -/
noncomputable def impl_flipped_G (N : Nat) : GTab := gOf [(114, slices_Clone_LI_int_S N)]
theorem impl_flipped_gok (N : Nat) : GOk Try.prog (impl_flipped_G N) := gOf_ok ⟨slices_Clone_LI_int_pc N, trivial⟩
noncomputable def impl_flipped_code : Code := (Try.f90.body).getD .skip
noncomputable def impl_flipped (N : Nat) (list : (List Int)) (v : Int) : Option (((List Int) × Unit) × (Unit)) :=
  ((slices_Clone_LI_int N list).bind fun r =>
    (chk (inb r.1.1 v)
      (chk (inb r.1.1 v)
      (some (((tSet r.1.1 v (IntKind.i64.wrap (1 - (rdI r.1.1 v)))), ()), ())))))
abbrev impl_flipped_ps : List (PV.Mode × Ty) := [(.ro, LI), (.ro, I)]
abbrev impl_flipped_rs : List (Bool × Ty) := [(true, LI)]
noncomputable def impl_flipped_S (N : Nat) : FSum := ⟨impl_flipped_ps, impl_flipped_rs, fun x => impl_flipped N x.1 x.2.1⟩
theorem impl_flipped_run (N : Nat) (x : argsT impl_flipped_ps) : impl_flipped N x.1 x.2.1 = funF (impl_flipped_G N) tab [] Try.f90 impl_flipped_ps impl_flipped_rs x := by kernel_rfl
theorem impl_flipped_pc (N : Nat) : PC Try.prog 90 (impl_flipped_S N) := by
  have e : impl_flipped_S N = ⟨impl_flipped_ps, impl_flipped_rs, funF (impl_flipped_G N) tab [] Try.f90 impl_flipped_ps impl_flipped_rs⟩ := congrArg (FSum.mk impl_flipped_ps impl_flipped_rs) (funext (impl_flipped_run N))
  rw [e]
  exact fun_ok (c := impl_flipped_code) progOk (impl_flipped_gok N) (draw_ok progOk (impl_flipped_gok N)) Try.call90 Try.func90 (by kernel_rfl) (lsOk_at (L := []) trivial) (by kernel_rfl) (by kernel_rfl) (by kernel_rfl) (by kernel_rfl) (by kernel_rfl)

/-! ### impl_farthest -/
noncomputable def impl_farthest_G (N : Nat) : GTab := gOf [(89, impl_isSolution_S N), (114, slices_Clone_LI_int_S N), (90, impl_flipped_S N), (71, impl_Formula_solves_S N)]
theorem impl_farthest_gok (N : Nat) : GOk Try.prog (impl_farthest_G N) := gOf_ok ⟨impl_isSolution_pc N, slices_Clone_LI_int_pc N, impl_flipped_pc N, impl_Formula_solves_pc N, trivial⟩
noncomputable def impl_farthest_code : Code := (Try.f96.body).getD .skip
noncomputable def impl_farthest_l0_sh : Sh := ⟨[(2, .one (.ro I)), (3, .one (.adr 0 0)), (8, .one (.ref 1)), (9, .one (.ro I))], [.box [.ro I, .ro LLI], .sl 3 I .own]⟩
noncomputable def impl_farthest_l0_ex : List (Ex × Sh) := [(.exit 0, ⟨[(8, .one (.ref 0))], [.sl 3 I .own]⟩)]
noncomputable def impl_farthest_l0 {R : Type} (N : Nat) (k0 : (List Int) → Option R) : Nat → Int → Int → Int → (List (List Int)) → (List Int) → Option R
  | 0, _, _, _, _, _ => none
  | K + 1, bit1, v, o, o1, o2 =>
    (br (ilt v o)
      ((chk (inb o2 v)
        (br (ieq (rdI o2 v) bit1)
        (((impl_flipped N o2 v).bind fun r2 =>
          ((impl_Formula_solves N (o, o1) r2.1.1).bind fun r3 =>
            (br r3.1.1
              (((impl_flipped N o2 v).bind fun r4 =>
                impl_farthest_l0 N k0 K bit1 0 o o1 r4.1.1))
              (impl_farthest_l0 N k0 K bit1 (IntKind.i64.wrap (v + 1)) o o1 o2)))))
        (impl_farthest_l0 N k0 K bit1 (IntKind.i64.wrap (v + 1)) o o1 o2))))
      (k0 o2))
noncomputable def impl_farthest_l0_again {R : Type} (N : Nat) (ks : (j : Nat) → ((impl_farthest_l0_ex.getD j (.ret, Sh.none)).2).T → Option R) (k : Nat) (x : impl_farthest_l0_sh.T) : Option R :=
  impl_farthest_l0 N (fun y0 => ks 0 (((), ()), (y0, ()))) k x.1.1 x.1.2.2.2.1 x.2.1.1 x.2.1.2.1 x.2.2.1
noncomputable def impl_farthest_l0_s (N : Nat) : LSum := ⟨impl_farthest_l0_sh, impl_farthest_l0_ex, fun x ks => impl_farthest_l0_again N ks N x⟩
theorem impl_farthest_l0_step (N : Nat) (R : Type) (k : Nat) (x : impl_farthest_l0_sh.T) (ks : (j : Nat) → ((impl_farthest_l0_ex.getD j (.ret, Sh.none)).2).T → Option R) : impl_farthest_l0_again N ks (k + 1) x = roundF (impl_farthest_G N) tab [] (loopAt impl_farthest_code 0) impl_farthest_l0_sh impl_farthest_l0_ex (fun y => impl_farthest_l0_again N ks k y) ks x := by kernel_rfl
theorem impl_farthest_l0_ok (N : Nat) : LoopOk Try.prog Try.f96.ntmps (impl_farthest_l0_s N) (loopAt impl_farthest_code 0) :=
  loop_ok (l := impl_farthest_l0_s N) progOk (impl_farthest_gok N) (draw_ok progOk (impl_farthest_gok N)) (fun R k x ks => impl_farthest_l0_again N ks k x) (fun _ _ _ => rfl) (fun R k x ks => impl_farthest_l0_step N R k x ks) (fun R x ks r h => ⟨N, h⟩) (lsOk_at (L := []) trivial) (by kernel_rfl) (by kernel_rfl)
noncomputable def impl_farthest (N : Nat) (f : (Int × (List (List Int)))) (list : (List Int)) (bit : Int) : Option (((List Int) × Bool × Unit) × (Unit)) :=
  ((impl_isSolution N (f.1, f.2) list).bind fun r =>
    (br (!r.1.1)
      (some (([], false, ()), ()))
      (((slices_Clone_LI_int N list).bind fun r1 =>
        impl_farthest_l0 N (fun o => some ((o, true, ()), ())) N bit 0 f.1 f.2 r1.1.1))))
abbrev impl_farthest_ps : List (PV.Mode × Ty) := [(.ro, QILLI), (.ro, LI), (.ro, I)]
abbrev impl_farthest_rs : List (Bool × Ty) := [(true, LI), (true, .bool)]
noncomputable def impl_farthest_S (N : Nat) : FSum := ⟨impl_farthest_ps, impl_farthest_rs, fun x => impl_farthest N x.1 x.2.1 x.2.2.1⟩
theorem impl_farthest_run (N : Nat) (x : argsT impl_farthest_ps) : impl_farthest N x.1 x.2.1 x.2.2.1 = funF (impl_farthest_G N) tab [impl_farthest_l0_s N] Try.f96 impl_farthest_ps impl_farthest_rs x := by kernel_rfl
theorem impl_farthest_pc (N : Nat) : PC Try.prog 96 (impl_farthest_S N) := by
  have e : impl_farthest_S N = ⟨impl_farthest_ps, impl_farthest_rs, funF (impl_farthest_G N) tab [impl_farthest_l0_s N] Try.f96 impl_farthest_ps impl_farthest_rs⟩ := congrArg (FSum.mk impl_farthest_ps impl_farthest_rs) (funext (impl_farthest_run N))
  rw [e]
  exact fun_ok (c := impl_farthest_code) progOk (impl_farthest_gok N) (draw_ok progOk (impl_farthest_gok N)) Try.call96 Try.func96 (by kernel_rfl) (lsOk_at (L := [impl_farthest_l0_s N]) ⟨impl_farthest_l0_ok N, trivial⟩) (by kernel_rfl) (by kernel_rfl) (by kernel_rfl) (by kernel_rfl) (by kernel_rfl)

/-! ### impl_LowestOf -/
noncomputable def impl_LowestOf_G (N : Nat) : GTab := gOf [(96, impl_farthest_S N)]
theorem impl_LowestOf_gok (N : Nat) : GOk Try.prog (impl_LowestOf_G N) := gOf_ok ⟨impl_farthest_pc N, trivial⟩
noncomputable def impl_LowestOf_code : Code := (Try.f54.body).getD .skip
noncomputable def impl_LowestOf (N : Nat) (f : (Int × (List (List Int)))) (bits : (List Int)) : Option (((List Int) × Bool × Unit) × (Unit)) :=
  ((impl_farthest N (f.1, f.2) bits 1).bind fun r =>
    some ((r.1.1, r.1.2.1, ()), ()))
abbrev impl_LowestOf_ps : List (PV.Mode × Ty) := [(.ro, QILLI), (.ro, LI)]
abbrev impl_LowestOf_rs : List (Bool × Ty) := [(true, LI), (true, .bool)]
noncomputable def impl_LowestOf_S (N : Nat) : FSum := ⟨impl_LowestOf_ps, impl_LowestOf_rs, fun x => impl_LowestOf N x.1 x.2.1⟩
theorem impl_LowestOf_run (N : Nat) (x : argsT impl_LowestOf_ps) : impl_LowestOf N x.1 x.2.1 = funF (impl_LowestOf_G N) tab [] Try.f54 impl_LowestOf_ps impl_LowestOf_rs x := by kernel_rfl
theorem impl_LowestOf_pc (N : Nat) : PC Try.prog 54 (impl_LowestOf_S N) := by
  have e : impl_LowestOf_S N = ⟨impl_LowestOf_ps, impl_LowestOf_rs, funF (impl_LowestOf_G N) tab [] Try.f54 impl_LowestOf_ps impl_LowestOf_rs⟩ := congrArg (FSum.mk impl_LowestOf_ps impl_LowestOf_rs) (funext (impl_LowestOf_run N))
  rw [e]
  exact fun_ok (c := impl_LowestOf_code) progOk (impl_LowestOf_gok N) (draw_ok progOk (impl_LowestOf_gok N)) Try.call54 Try.func54 (by kernel_rfl) (lsOk_at (L := []) trivial) (by kernel_rfl) (by kernel_rfl) (by kernel_rfl) (by kernel_rfl) (by kernel_rfl)

/-! ### laws_eqIntS -/
noncomputable def laws_eqIntS_G (N : Nat) : GTab := gOf []
theorem laws_eqIntS_gok (N : Nat) : GOk Try.prog (laws_eqIntS_G N) := gOf_ok trivial
noncomputable def laws_eqIntS_code : Code := (Try.f18.body).getD .skip
noncomputable def laws_eqIntS_l0_sh : Sh := ⟨[(0, .one (.ro LI)), (1, .one (.ro LI)), (5, .one (.ro I))], []⟩
noncomputable def laws_eqIntS_l0_ex : List (Ex × Sh) := [(.ret, ⟨[(4, .one (.ro .bool))], []⟩), (.exit 0, ⟨[], []⟩)]
noncomputable def laws_eqIntS_l0 {R : Type} (N : Nat) (k0 : Bool → Option R) (k1 : Unit → Option R) : Nat → (List Int) → (List Int) → Int → Option R
  | 0, _, _, _ => none
  | K + 1, a1, b1, i =>
    (br (ilt i (tLen a1))
      ((chk (inb a1 i)
        (chk (inb b1 i)
        (br (ine (rdI a1 i) (rdI b1 i))
        (k0 false)
        (laws_eqIntS_l0 N k0 k1 K a1 b1 (IntKind.i64.wrap (i + 1)))))))
      (k1 ()))
noncomputable def laws_eqIntS_l0_again {R : Type} (N : Nat) (ks : (j : Nat) → ((laws_eqIntS_l0_ex.getD j (.ret, Sh.none)).2).T → Option R) (k : Nat) (x : laws_eqIntS_l0_sh.T) : Option R :=
  laws_eqIntS_l0 N (fun y0 => ks 0 ((y0, ()), ())) (fun (_ : Unit) => ks 1 ((), ())) k x.1.1 x.1.2.1 x.1.2.2.1
noncomputable def laws_eqIntS_l0_s (N : Nat) : LSum := ⟨laws_eqIntS_l0_sh, laws_eqIntS_l0_ex, fun x ks => laws_eqIntS_l0_again N ks N x⟩
theorem laws_eqIntS_l0_step (N : Nat) (R : Type) (k : Nat) (x : laws_eqIntS_l0_sh.T) (ks : (j : Nat) → ((laws_eqIntS_l0_ex.getD j (.ret, Sh.none)).2).T → Option R) : laws_eqIntS_l0_again N ks (k + 1) x = roundF (laws_eqIntS_G N) tab [] (loopAt laws_eqIntS_code 0) laws_eqIntS_l0_sh laws_eqIntS_l0_ex (fun y => laws_eqIntS_l0_again N ks k y) ks x := by kernel_rfl
theorem laws_eqIntS_l0_ok (N : Nat) : LoopOk Try.prog Try.f18.ntmps (laws_eqIntS_l0_s N) (loopAt laws_eqIntS_code 0) :=
  loop_ok (l := laws_eqIntS_l0_s N) progOk (laws_eqIntS_gok N) (draw_ok progOk (laws_eqIntS_gok N)) (fun R k x ks => laws_eqIntS_l0_again N ks k x) (fun _ _ _ => rfl) (fun R k x ks => laws_eqIntS_l0_step N R k x ks) (fun R x ks r h => ⟨N, h⟩) (lsOk_at (L := []) trivial) (by kernel_rfl) (by kernel_rfl)
noncomputable def laws_eqIntS (N : Nat) (a : (List Int)) (b : (List Int)) : Option ((Bool × Unit) × (Unit)) :=
  (br (ine (tLen a) (tLen b))
    (some ((false, ()), ()))
    (laws_eqIntS_l0 N (fun x => some ((x, ()), ())) (fun (_ : Unit) => some ((true, ()), ())) N a b 0))
abbrev laws_eqIntS_ps : List (PV.Mode × Ty) := [(.ro, LI), (.ro, LI)]
abbrev laws_eqIntS_rs : List (Bool × Ty) := [(true, .bool)]
noncomputable def laws_eqIntS_S (N : Nat) : FSum := ⟨laws_eqIntS_ps, laws_eqIntS_rs, fun x => laws_eqIntS N x.1 x.2.1⟩
theorem laws_eqIntS_run (N : Nat) (x : argsT laws_eqIntS_ps) : laws_eqIntS N x.1 x.2.1 = funF (laws_eqIntS_G N) tab [laws_eqIntS_l0_s N] Try.f18 laws_eqIntS_ps laws_eqIntS_rs x := by kernel_rfl
theorem laws_eqIntS_pc (N : Nat) : PC Try.prog 18 (laws_eqIntS_S N) := by
  have e : laws_eqIntS_S N = ⟨laws_eqIntS_ps, laws_eqIntS_rs, funF (laws_eqIntS_G N) tab [laws_eqIntS_l0_s N] Try.f18 laws_eqIntS_ps laws_eqIntS_rs⟩ := congrArg (FSum.mk laws_eqIntS_ps laws_eqIntS_rs) (funext (laws_eqIntS_run N))
  rw [e]
  exact fun_ok (c := laws_eqIntS_code) progOk (laws_eqIntS_gok N) (draw_ok progOk (laws_eqIntS_gok N)) Try.call18 Try.func18 (by kernel_rfl) (lsOk_at (L := [laws_eqIntS_l0_s N]) ⟨laws_eqIntS_l0_ok N, trivial⟩) (by kernel_rfl) (by kernel_rfl) (by kernel_rfl) (by kernel_rfl) (by kernel_rfl)

/-! ### laws_eqIntSS -/
noncomputable def laws_eqIntSS_G (N : Nat) : GTab := gOf [(18, laws_eqIntS_S N)]
theorem laws_eqIntSS_gok (N : Nat) : GOk Try.prog (laws_eqIntSS_G N) := gOf_ok ⟨laws_eqIntS_pc N, trivial⟩
noncomputable def laws_eqIntSS_code : Code := (Try.f63.body).getD .skip
noncomputable def laws_eqIntSS_l0_sh : Sh := ⟨[(0, .one (.ro LLI)), (1, .one (.ro LLI)), (5, .one (.ro I))], []⟩
noncomputable def laws_eqIntSS_l0_ex : List (Ex × Sh) := [(.ret, ⟨[(4, .one (.ro .bool))], []⟩), (.exit 0, ⟨[], []⟩)]
noncomputable def laws_eqIntSS_l0 {R : Type} (N : Nat) (k0 : Bool → Option R) (k1 : Unit → Option R) : Nat → (List (List Int)) → (List (List Int)) → Int → Option R
  | 0, _, _, _ => none
  | K + 1, a1, b1, i =>
    (br (ilt i (tLen a1))
      ((chk (inb a1 i)
        (chk (inb b1 i)
        ((laws_eqIntS N (rdL a1 i) (rdL b1 i)).bind fun r =>
        (br (!r.1.1)
          (k0 false)
          (laws_eqIntSS_l0 N k0 k1 K a1 b1 (IntKind.i64.wrap (i + 1))))))))
      (k1 ()))
noncomputable def laws_eqIntSS_l0_again {R : Type} (N : Nat) (ks : (j : Nat) → ((laws_eqIntSS_l0_ex.getD j (.ret, Sh.none)).2).T → Option R) (k : Nat) (x : laws_eqIntSS_l0_sh.T) : Option R :=
  laws_eqIntSS_l0 N (fun y0 => ks 0 ((y0, ()), ())) (fun (_ : Unit) => ks 1 ((), ())) k x.1.1 x.1.2.1 x.1.2.2.1
noncomputable def laws_eqIntSS_l0_s (N : Nat) : LSum := ⟨laws_eqIntSS_l0_sh, laws_eqIntSS_l0_ex, fun x ks => laws_eqIntSS_l0_again N ks N x⟩
theorem laws_eqIntSS_l0_step (N : Nat) (R : Type) (k : Nat) (x : laws_eqIntSS_l0_sh.T) (ks : (j : Nat) → ((laws_eqIntSS_l0_ex.getD j (.ret, Sh.none)).2).T → Option R) : laws_eqIntSS_l0_again N ks (k + 1) x = roundF (laws_eqIntSS_G N) tab [] (loopAt laws_eqIntSS_code 0) laws_eqIntSS_l0_sh laws_eqIntSS_l0_ex (fun y => laws_eqIntSS_l0_again N ks k y) ks x := by kernel_rfl
theorem laws_eqIntSS_l0_ok (N : Nat) : LoopOk Try.prog Try.f63.ntmps (laws_eqIntSS_l0_s N) (loopAt laws_eqIntSS_code 0) :=
  loop_ok (l := laws_eqIntSS_l0_s N) progOk (laws_eqIntSS_gok N) (draw_ok progOk (laws_eqIntSS_gok N)) (fun R k x ks => laws_eqIntSS_l0_again N ks k x) (fun _ _ _ => rfl) (fun R k x ks => laws_eqIntSS_l0_step N R k x ks) (fun R x ks r h => ⟨N, h⟩) (lsOk_at (L := []) trivial) (by kernel_rfl) (by kernel_rfl)
noncomputable def laws_eqIntSS (N : Nat) (a : (List (List Int))) (b : (List (List Int))) : Option ((Bool × Unit) × (Unit)) :=
  (br (ine (tLen a) (tLen b))
    (some ((false, ()), ()))
    (laws_eqIntSS_l0 N (fun x => some ((x, ()), ())) (fun (_ : Unit) => some ((true, ()), ())) N a b 0))
abbrev laws_eqIntSS_ps : List (PV.Mode × Ty) := [(.ro, LLI), (.ro, LLI)]
abbrev laws_eqIntSS_rs : List (Bool × Ty) := [(true, .bool)]
noncomputable def laws_eqIntSS_S (N : Nat) : FSum := ⟨laws_eqIntSS_ps, laws_eqIntSS_rs, fun x => laws_eqIntSS N x.1 x.2.1⟩
theorem laws_eqIntSS_run (N : Nat) (x : argsT laws_eqIntSS_ps) : laws_eqIntSS N x.1 x.2.1 = funF (laws_eqIntSS_G N) tab [laws_eqIntSS_l0_s N] Try.f63 laws_eqIntSS_ps laws_eqIntSS_rs x := by kernel_rfl
theorem laws_eqIntSS_pc (N : Nat) : PC Try.prog 63 (laws_eqIntSS_S N) := by
  have e : laws_eqIntSS_S N = ⟨laws_eqIntSS_ps, laws_eqIntSS_rs, funF (laws_eqIntSS_G N) tab [laws_eqIntSS_l0_s N] Try.f63 laws_eqIntSS_ps laws_eqIntSS_rs⟩ := congrArg (FSum.mk laws_eqIntSS_ps laws_eqIntSS_rs) (funext (laws_eqIntSS_run N))
  rw [e]
  exact fun_ok (c := laws_eqIntSS_code) progOk (laws_eqIntSS_gok N) (draw_ok progOk (laws_eqIntSS_gok N)) Try.call63 Try.func63 (by kernel_rfl) (lsOk_at (L := [laws_eqIntSS_l0_s N]) ⟨laws_eqIntSS_l0_ok N, trivial⟩) (by kernel_rfl) (by kernel_rfl) (by kernel_rfl) (by kernel_rfl) (by kernel_rfl)

/-! ### laws_eqFormula -/
noncomputable def laws_eqFormula_G (N : Nat) : GTab := gOf [(63, laws_eqIntSS_S N)]
theorem laws_eqFormula_gok (N : Nat) : GOk Try.prog (laws_eqFormula_G N) := gOf_ok ⟨laws_eqIntSS_pc N, trivial⟩
noncomputable def laws_eqFormula_code : Code := (Try.f23.body).getD .skip
noncomputable def laws_eqFormula (N : Nat) (a : (Int × (List (List Int)))) (b : (Int × (List (List Int)))) : Option ((Bool × Unit) × (Unit)) :=
  (br (ine a.1 b.1)
    (some ((false, ()), ()))
    (((laws_eqIntSS N a.2 b.2).bind fun r =>
      (br (!r.1.1)
        (some ((false, ()), ()))
        (some ((true, ()), ()))))))
abbrev laws_eqFormula_ps : List (PV.Mode × Ty) := [(.ro, QILLI), (.ro, QILLI)]
abbrev laws_eqFormula_rs : List (Bool × Ty) := [(true, .bool)]
noncomputable def laws_eqFormula_S (N : Nat) : FSum := ⟨laws_eqFormula_ps, laws_eqFormula_rs, fun x => laws_eqFormula N x.1 x.2.1⟩
theorem laws_eqFormula_run (N : Nat) (x : argsT laws_eqFormula_ps) : laws_eqFormula N x.1 x.2.1 = funF (laws_eqFormula_G N) tab [] Try.f23 laws_eqFormula_ps laws_eqFormula_rs x := by kernel_rfl
theorem laws_eqFormula_pc (N : Nat) : PC Try.prog 23 (laws_eqFormula_S N) := by
  have e : laws_eqFormula_S N = ⟨laws_eqFormula_ps, laws_eqFormula_rs, funF (laws_eqFormula_G N) tab [] Try.f23 laws_eqFormula_ps laws_eqFormula_rs⟩ := congrArg (FSum.mk laws_eqFormula_ps laws_eqFormula_rs) (funext (laws_eqFormula_run N))
  rw [e]
  exact fun_ok (c := laws_eqFormula_code) progOk (laws_eqFormula_gok N) (draw_ok progOk (laws_eqFormula_gok N)) Try.call23 Try.func23 (by kernel_rfl) (lsOk_at (L := []) trivial) (by kernel_rfl) (by kernel_rfl) (by kernel_rfl) (by kernel_rfl) (by kernel_rfl)

/-! ### laws_markIntS -/
noncomputable def laws_markIntS_G (N : Nat) : GTab := gOf []
theorem laws_markIntS_gok (N : Nat) : GOk Try.prog (laws_markIntS_G N) := gOf_ok trivial
noncomputable def laws_markIntS_code : Code := (Try.f45.body).getD .skip
noncomputable def laws_markIntS_l0_sh : Sh := ⟨[(0, .one (.ref 0)), (1, .one (.ro I)), (5, .one (.ro I))], [.sl 3 I .own]⟩
noncomputable def laws_markIntS_l0_ex : List (Ex × Sh) := [(.exit 0, ⟨[(0, .one (.ref 0)), (1, .one (.ro I))], [.sl 3 I .own]⟩)]
noncomputable def laws_markIntS_l0 {R : Type} (N : Nat) (k0 : Int → (List Int) → Option R) : Nat → Int → Int → (List Int) → Option R
  | 0, _, _, _ => none
  | K + 1, kv1, i, o =>
    (br (ilt i (tLen o))
      ((chk (inb o i)
        (laws_markIntS_l0 N k0 K (IntKind.i64.wrap (kv1 + 1)) (IntKind.i64.wrap (i + 1)) (tSet o i kv1))))
      (k0 kv1 o))
noncomputable def laws_markIntS_l0_again {R : Type} (N : Nat) (ks : (j : Nat) → ((laws_markIntS_l0_ex.getD j (.ret, Sh.none)).2).T → Option R) (k : Nat) (x : laws_markIntS_l0_sh.T) : Option R :=
  laws_markIntS_l0 N (fun y0 y1 => ks 0 (((), y0, ()), (y1, ()))) k x.1.2.1 x.1.2.2.1 x.2.1
noncomputable def laws_markIntS_l0_s (N : Nat) : LSum := ⟨laws_markIntS_l0_sh, laws_markIntS_l0_ex, fun x ks => laws_markIntS_l0_again N ks N x⟩
theorem laws_markIntS_l0_step (N : Nat) (R : Type) (k : Nat) (x : laws_markIntS_l0_sh.T) (ks : (j : Nat) → ((laws_markIntS_l0_ex.getD j (.ret, Sh.none)).2).T → Option R) : laws_markIntS_l0_again N ks (k + 1) x = roundF (laws_markIntS_G N) tab [] (loopAt laws_markIntS_code 0) laws_markIntS_l0_sh laws_markIntS_l0_ex (fun y => laws_markIntS_l0_again N ks k y) ks x := by kernel_rfl
theorem laws_markIntS_l0_ok (N : Nat) : LoopOk Try.prog Try.f45.ntmps (laws_markIntS_l0_s N) (loopAt laws_markIntS_code 0) :=
  loop_ok (l := laws_markIntS_l0_s N) progOk (laws_markIntS_gok N) (draw_ok progOk (laws_markIntS_gok N)) (fun R k x ks => laws_markIntS_l0_again N ks k x) (fun _ _ _ => rfl) (fun R k x ks => laws_markIntS_l0_step N R k x ks) (fun R x ks r h => ⟨N, h⟩) (lsOk_at (L := []) trivial) (by kernel_rfl) (by kernel_rfl)
noncomputable def laws_markIntS (N : Nat) (a : (List Int)) (kv : Int) : Option ((Int × Unit) × ((List Int) × Unit)) :=
  laws_markIntS_l0 N (fun kv1 o => some ((kv1, ()), (o, ()))) N kv 0 a
abbrev laws_markIntS_ps : List (PV.Mode × Ty) := [(.mut, LI), (.ro, I)]
abbrev laws_markIntS_rs : List (Bool × Ty) := [(true, I)]
noncomputable def laws_markIntS_S (N : Nat) : FSum := ⟨laws_markIntS_ps, laws_markIntS_rs, fun x => laws_markIntS N x.1 x.2.1⟩
theorem laws_markIntS_run (N : Nat) (x : argsT laws_markIntS_ps) : laws_markIntS N x.1 x.2.1 = funF (laws_markIntS_G N) tab [laws_markIntS_l0_s N] Try.f45 laws_markIntS_ps laws_markIntS_rs x := by kernel_rfl
theorem laws_markIntS_pc (N : Nat) : PC Try.prog 45 (laws_markIntS_S N) := by
  have e : laws_markIntS_S N = ⟨laws_markIntS_ps, laws_markIntS_rs, funF (laws_markIntS_G N) tab [laws_markIntS_l0_s N] Try.f45 laws_markIntS_ps laws_markIntS_rs⟩ := congrArg (FSum.mk laws_markIntS_ps laws_markIntS_rs) (funext (laws_markIntS_run N))
  rw [e]
  exact fun_ok (c := laws_markIntS_code) progOk (laws_markIntS_gok N) (draw_ok progOk (laws_markIntS_gok N)) Try.call45 Try.func45 (by kernel_rfl) (lsOk_at (L := [laws_markIntS_l0_s N]) ⟨laws_markIntS_l0_ok N, trivial⟩) (by kernel_rfl) (by kernel_rfl) (by kernel_rfl) (by kernel_rfl) (by kernel_rfl)

/-! ### laws_markIntSS -/
noncomputable def laws_markIntSS_G (N : Nat) : GTab := gOf [(45, laws_markIntS_S N)]
theorem laws_markIntSS_gok (N : Nat) : GOk Try.prog (laws_markIntSS_G N) := gOf_ok ⟨laws_markIntS_pc N, trivial⟩
noncomputable def laws_markIntSS_code : Code := (Try.f82.body).getD .skip
noncomputable def laws_markIntSS_l0_sh : Sh := ⟨[(0, .one (.ref 0)), (1, .one (.ro I)), (5, .one (.ro I))], [.sl 22 LI .deep]⟩
noncomputable def laws_markIntSS_l0_ex : List (Ex × Sh) := [(.exit 0, ⟨[(0, .one (.ref 0)), (1, .one (.ro I))], [.sl 22 LI .deep]⟩)]
noncomputable def laws_markIntSS_l0 {R : Type} (N : Nat) (k0 : Int → (List (List Int)) → Option R) : Nat → Int → Int → (List (List Int)) → Option R
  | 0, _, _, _ => none
  | K + 1, kv1, i, o =>
    (br (ilt i (tLen o))
      ((chk (inb o i)
        ((laws_markIntS N (rdL o i) kv1).bind fun r =>
        laws_markIntSS_l0 N k0 K r.1.1 (IntKind.i64.wrap (i + 1)) (tSet o i r.2.1))))
      (k0 kv1 o))
noncomputable def laws_markIntSS_l0_again {R : Type} (N : Nat) (ks : (j : Nat) → ((laws_markIntSS_l0_ex.getD j (.ret, Sh.none)).2).T → Option R) (k : Nat) (x : laws_markIntSS_l0_sh.T) : Option R :=
  laws_markIntSS_l0 N (fun y0 y1 => ks 0 (((), y0, ()), (y1, ()))) k x.1.2.1 x.1.2.2.1 x.2.1
noncomputable def laws_markIntSS_l0_s (N : Nat) : LSum := ⟨laws_markIntSS_l0_sh, laws_markIntSS_l0_ex, fun x ks => laws_markIntSS_l0_again N ks N x⟩
theorem laws_markIntSS_l0_step (N : Nat) (R : Type) (k : Nat) (x : laws_markIntSS_l0_sh.T) (ks : (j : Nat) → ((laws_markIntSS_l0_ex.getD j (.ret, Sh.none)).2).T → Option R) : laws_markIntSS_l0_again N ks (k + 1) x = roundF (laws_markIntSS_G N) tab [] (loopAt laws_markIntSS_code 0) laws_markIntSS_l0_sh laws_markIntSS_l0_ex (fun y => laws_markIntSS_l0_again N ks k y) ks x := by kernel_rfl
theorem laws_markIntSS_l0_ok (N : Nat) : LoopOk Try.prog Try.f82.ntmps (laws_markIntSS_l0_s N) (loopAt laws_markIntSS_code 0) :=
  loop_ok (l := laws_markIntSS_l0_s N) progOk (laws_markIntSS_gok N) (draw_ok progOk (laws_markIntSS_gok N)) (fun R k x ks => laws_markIntSS_l0_again N ks k x) (fun _ _ _ => rfl) (fun R k x ks => laws_markIntSS_l0_step N R k x ks) (fun R x ks r h => ⟨N, h⟩) (lsOk_at (L := []) trivial) (by kernel_rfl) (by kernel_rfl)
noncomputable def laws_markIntSS (N : Nat) (a : (List (List Int))) (kv : Int) : Option ((Int × Unit) × ((List (List Int)) × Unit)) :=
  laws_markIntSS_l0 N (fun kv1 o => some ((kv1, ()), (o, ()))) N kv 0 a
abbrev laws_markIntSS_ps : List (PV.Mode × Ty) := [(.mut, LLI), (.ro, I)]
abbrev laws_markIntSS_rs : List (Bool × Ty) := [(true, I)]
noncomputable def laws_markIntSS_S (N : Nat) : FSum := ⟨laws_markIntSS_ps, laws_markIntSS_rs, fun x => laws_markIntSS N x.1 x.2.1⟩
theorem laws_markIntSS_run (N : Nat) (x : argsT laws_markIntSS_ps) : laws_markIntSS N x.1 x.2.1 = funF (laws_markIntSS_G N) tab [laws_markIntSS_l0_s N] Try.f82 laws_markIntSS_ps laws_markIntSS_rs x := by kernel_rfl
theorem laws_markIntSS_pc (N : Nat) : PC Try.prog 82 (laws_markIntSS_S N) := by
  have e : laws_markIntSS_S N = ⟨laws_markIntSS_ps, laws_markIntSS_rs, funF (laws_markIntSS_G N) tab [laws_markIntSS_l0_s N] Try.f82 laws_markIntSS_ps laws_markIntSS_rs⟩ := congrArg (FSum.mk laws_markIntSS_ps laws_markIntSS_rs) (funext (laws_markIntSS_run N))
  rw [e]
  exact fun_ok (c := laws_markIntSS_code) progOk (laws_markIntSS_gok N) (draw_ok progOk (laws_markIntSS_gok N)) Try.call82 Try.func82 (by kernel_rfl) (lsOk_at (L := [laws_markIntSS_l0_s N]) ⟨laws_markIntSS_l0_ok N, trivial⟩) (by kernel_rfl) (by kernel_rfl) (by kernel_rfl) (by kernel_rfl) (by kernel_rfl)

/-! ### laws_markFormula -/
noncomputable def laws_markFormula_G (N : Nat) : GTab := gOf [(82, laws_markIntSS_S N)]
theorem laws_markFormula_gok (N : Nat) : GOk Try.prog (laws_markFormula_G N) := gOf_ok ⟨laws_markIntSS_pc N, trivial⟩
noncomputable def laws_markFormula_code : Code := (Try.f40.body).getD .skip
noncomputable def laws_markFormula (N : Nat) (a : (Int × (List (List Int)))) (kv : Int) : Option ((Int × Unit) × ((Int × (List (List Int))) × Unit)) :=
  ((laws_markIntSS N a.2 kv).bind fun r =>
    some ((r.1.1, ()), ((a.1, r.2.1), ())))
abbrev laws_markFormula_ps : List (PV.Mode × Ty) := [(.mut, QILLI), (.ro, I)]
abbrev laws_markFormula_rs : List (Bool × Ty) := [(true, I)]
noncomputable def laws_markFormula_S (N : Nat) : FSum := ⟨laws_markFormula_ps, laws_markFormula_rs, fun x => laws_markFormula N x.1 x.2.1⟩
theorem laws_markFormula_run (N : Nat) (x : argsT laws_markFormula_ps) : laws_markFormula N x.1 x.2.1 = funF (laws_markFormula_G N) tab [] Try.f40 laws_markFormula_ps laws_markFormula_rs x := by kernel_rfl
theorem laws_markFormula_pc (N : Nat) : PC Try.prog 40 (laws_markFormula_S N) := by
  have e : laws_markFormula_S N = ⟨laws_markFormula_ps, laws_markFormula_rs, funF (laws_markFormula_G N) tab [] Try.f40 laws_markFormula_ps laws_markFormula_rs⟩ := congrArg (FSum.mk laws_markFormula_ps laws_markFormula_rs) (funext (laws_markFormula_run N))
  rw [e]
  exact fun_ok (c := laws_markFormula_code) progOk (laws_markFormula_gok N) (draw_ok progOk (laws_markFormula_gok N)) Try.call40 Try.func40 (by kernel_rfl) (lsOk_at (L := []) trivial) (by kernel_rfl) (by kernel_rfl) (by kernel_rfl) (by kernel_rfl) (by kernel_rfl)

/-! ### laws_heldIntS -/
noncomputable def laws_heldIntS_G (N : Nat) : GTab := gOf []
theorem laws_heldIntS_gok (N : Nat) : GOk Try.prog (laws_heldIntS_G N) := gOf_ok trivial
noncomputable def laws_heldIntS_code : Code := (Try.f46.body).getD .skip
noncomputable def laws_heldIntS_l0_sh : Sh := ⟨[(0, .one (.ro LI)), (1, .one (.ro I)), (5, .one (.ro I))], []⟩
noncomputable def laws_heldIntS_l0_ex : List (Ex × Sh) := [(.ret, ⟨[(4, .one (.ro I))], []⟩), (.exit 0, ⟨[(1, .one (.ro I))], []⟩)]
noncomputable def laws_heldIntS_l0 {R : Type} (N : Nat) (k0 : Int → Option R) (k1 : Int → Option R) : Nat → (List Int) → Int → Int → Option R
  | 0, _, _, _ => none
  | K + 1, a1, kv1, i =>
    (br (ilt i (tLen a1))
      ((chk (inb a1 i)
        (br (ine (rdI a1 i) kv1)
        (k0 (-1))
        (laws_heldIntS_l0 N k0 k1 K a1 (IntKind.i64.wrap (kv1 + 1)) (IntKind.i64.wrap (i + 1))))))
      (k1 kv1))
noncomputable def laws_heldIntS_l0_again {R : Type} (N : Nat) (ks : (j : Nat) → ((laws_heldIntS_l0_ex.getD j (.ret, Sh.none)).2).T → Option R) (k : Nat) (x : laws_heldIntS_l0_sh.T) : Option R :=
  laws_heldIntS_l0 N (fun y0 => ks 0 ((y0, ()), ())) (fun y0 => ks 1 ((y0, ()), ())) k x.1.1 x.1.2.1 x.1.2.2.1
noncomputable def laws_heldIntS_l0_s (N : Nat) : LSum := ⟨laws_heldIntS_l0_sh, laws_heldIntS_l0_ex, fun x ks => laws_heldIntS_l0_again N ks N x⟩
theorem laws_heldIntS_l0_step (N : Nat) (R : Type) (k : Nat) (x : laws_heldIntS_l0_sh.T) (ks : (j : Nat) → ((laws_heldIntS_l0_ex.getD j (.ret, Sh.none)).2).T → Option R) : laws_heldIntS_l0_again N ks (k + 1) x = roundF (laws_heldIntS_G N) tab [] (loopAt laws_heldIntS_code 0) laws_heldIntS_l0_sh laws_heldIntS_l0_ex (fun y => laws_heldIntS_l0_again N ks k y) ks x := by kernel_rfl
theorem laws_heldIntS_l0_ok (N : Nat) : LoopOk Try.prog Try.f46.ntmps (laws_heldIntS_l0_s N) (loopAt laws_heldIntS_code 0) :=
  loop_ok (l := laws_heldIntS_l0_s N) progOk (laws_heldIntS_gok N) (draw_ok progOk (laws_heldIntS_gok N)) (fun R k x ks => laws_heldIntS_l0_again N ks k x) (fun _ _ _ => rfl) (fun R k x ks => laws_heldIntS_l0_step N R k x ks) (fun R x ks r h => ⟨N, h⟩) (lsOk_at (L := []) trivial) (by kernel_rfl) (by kernel_rfl)
noncomputable def laws_heldIntS (N : Nat) (a : (List Int)) (kv : Int) : Option ((Int × Unit) × (Unit)) :=
  laws_heldIntS_l0 N (fun x => some ((x, ()), ())) (fun kv1 => some ((kv1, ()), ())) N a kv 0
abbrev laws_heldIntS_ps : List (PV.Mode × Ty) := [(.ro, LI), (.ro, I)]
abbrev laws_heldIntS_rs : List (Bool × Ty) := [(true, I)]
noncomputable def laws_heldIntS_S (N : Nat) : FSum := ⟨laws_heldIntS_ps, laws_heldIntS_rs, fun x => laws_heldIntS N x.1 x.2.1⟩
theorem laws_heldIntS_run (N : Nat) (x : argsT laws_heldIntS_ps) : laws_heldIntS N x.1 x.2.1 = funF (laws_heldIntS_G N) tab [laws_heldIntS_l0_s N] Try.f46 laws_heldIntS_ps laws_heldIntS_rs x := by kernel_rfl
theorem laws_heldIntS_pc (N : Nat) : PC Try.prog 46 (laws_heldIntS_S N) := by
  have e : laws_heldIntS_S N = ⟨laws_heldIntS_ps, laws_heldIntS_rs, funF (laws_heldIntS_G N) tab [laws_heldIntS_l0_s N] Try.f46 laws_heldIntS_ps laws_heldIntS_rs⟩ := congrArg (FSum.mk laws_heldIntS_ps laws_heldIntS_rs) (funext (laws_heldIntS_run N))
  rw [e]
  exact fun_ok (c := laws_heldIntS_code) progOk (laws_heldIntS_gok N) (draw_ok progOk (laws_heldIntS_gok N)) Try.call46 Try.func46 (by kernel_rfl) (lsOk_at (L := [laws_heldIntS_l0_s N]) ⟨laws_heldIntS_l0_ok N, trivial⟩) (by kernel_rfl) (by kernel_rfl) (by kernel_rfl) (by kernel_rfl) (by kernel_rfl)

/-! ### laws_FnExactLowestOf -/
noncomputable def laws_FnExactLowestOf_G (N : Nat) : GTab := gOf [(19, laws_szFormula_S N), (21, laws_toFormula_S N), (16, laws_toIntS_S N), (53, spec_LowestOf_S N), (54, impl_LowestOf_S N), (18, laws_eqIntS_S N), (23, laws_eqFormula_S N), (40, laws_markFormula_S N), (45, laws_markIntS_S N), (46, laws_heldIntS_S N)]
theorem laws_FnExactLowestOf_gok (N : Nat) : GOk Try.prog (laws_FnExactLowestOf_G N) := gOf_ok ⟨laws_szFormula_pc N, laws_toFormula_pc N, laws_toIntS_pc N, spec_LowestOf_pc N, impl_LowestOf_pc N, laws_eqIntS_pc N, laws_eqFormula_pc N, laws_markFormula_pc N, laws_markIntS_pc N, laws_heldIntS_pc N, trivial⟩
noncomputable def laws_FnExactLowestOf_code : Code := (Try.f14.body).getD .skip
noncomputable def laws_FnExactLowestOf (N : Nat) (c : (Int × (List (List Int)))) (c1 : (List Int)) : Option ((Bool × Unit) × (Unit)) :=
  (br (ilt 1048576 (tLen c1))
    (some ((true, ()), ()))
    (((laws_szFormula N (c.1, c.2) 1048576).bind fun r =>
      (br (ilt r.1.1 0)
        (some ((true, ()), ()))
        (((laws_toFormula N (c.1, c.2)).bind fun r1 =>
          ((laws_toIntS N c1).bind fun r2 =>
            ((spec_LowestOf N (r1.1.1.1, r1.1.1.2) r2.1.1).bind fun r3 =>
              ((laws_toFormula N (c.1, c.2)).bind fun r4 =>
                ((laws_toIntS N c1).bind fun r5 =>
                  ((impl_LowestOf N (r4.1.1.1, r4.1.1.2) r5.1.1).bind fun r6 =>
                    ((laws_eqIntS N r6.1.1 r3.1.1).bind fun r7 =>
                      (br (!r7.1.1)
                        (some ((false, ()), ()))
                        ((br (!(r6.1.2.1 == r3.1.2.1))
                          (some ((false, ()), ()))
                          (((laws_toFormula N (c.1, c.2)).bind fun r8 =>
                            ((laws_eqFormula N (r4.1.1.1, r4.1.1.2) (r8.1.1.1, r8.1.1.2)).bind fun r9 =>
                              (br (!r9.1.1)
                                (some ((false, ()), ()))
                                (((laws_toIntS N c1).bind fun r10 =>
                                  ((laws_eqIntS N r5.1.1 r10.1.1).bind fun r11 =>
                                    (br (!r11.1.1)
                                      (some ((false, ()), ()))
                                      (((laws_markFormula N (r4.1.1.1, r4.1.1.2) 1).bind fun r12 =>
                                        ((laws_markIntS N r5.1.1 r12.1.1).bind fun r13 =>
                                          (br (ilt r13.1.1 0)
                                            (some ((false, ()), ()))
                                            (((laws_eqIntS N r6.1.1 r3.1.1).bind fun r14 =>
                                              (br (!r14.1.1)
                                                (some ((false, ()), ()))
                                                ((br (!(r6.1.2.1 == r3.1.2.1))
                                                  (some ((false, ()), ()))
                                                  (((laws_markIntS N r6.1.1 1).bind fun r15 =>
                                                    ((laws_heldIntS N r15.2.1 1).bind fun r16 =>
                                                      (br (ilt r16.1.1 0)
                                                        (some ((false, ()), ()))
                                                        ((br (ine r16.1.1 r15.1.1)
                                                          (some ((false, ()), ()))
                                                          (((laws_toFormula N (c.1, c.2)).bind fun r17 =>
                                                            ((laws_toIntS N c1).bind fun r18 =>
                                                              ((impl_LowestOf N (r17.1.1.1, r17.1.1.2) r18.1.1).bind fun r19 =>
                                                                ((laws_eqIntS N r19.1.1 r3.1.1).bind fun r20 =>
                                                                  (br (!r20.1.1)
                                                                    (some ((false, ()), ()))
                                                                    ((br (!(r19.1.2.1 == r3.1.2.1))
                                                                      (some ((false, ()), ()))
                                                                      (((laws_heldIntS N r15.2.1 1).bind fun r21 =>
                                                                        (br (ilt r21.1.1 0)
                                                                          (some ((false, ()), ()))
                                                                          ((br (ine r21.1.1 r15.1.1)
                                                                            (some ((false, ()), ()))
                                                                            (some ((true, ()), ())))))))))))))))))))))))))))))))))))))))))))))))))))))
abbrev laws_FnExactLowestOf_ps : List (PV.Mode × Ty) := [(.ro, QILLI), (.ro, LI)]
abbrev laws_FnExactLowestOf_rs : List (Bool × Ty) := [(true, .bool)]
noncomputable def laws_FnExactLowestOf_S (N : Nat) : FSum := ⟨laws_FnExactLowestOf_ps, laws_FnExactLowestOf_rs, fun x => laws_FnExactLowestOf N x.1 x.2.1⟩
theorem laws_FnExactLowestOf_run (N : Nat) (x : argsT laws_FnExactLowestOf_ps) : laws_FnExactLowestOf N x.1 x.2.1 = funF (laws_FnExactLowestOf_G N) tab [] Try.f14 laws_FnExactLowestOf_ps laws_FnExactLowestOf_rs x := by kernel_rfl
theorem laws_FnExactLowestOf_pc (N : Nat) : PC Try.prog 14 (laws_FnExactLowestOf_S N) := by
  have e : laws_FnExactLowestOf_S N = ⟨laws_FnExactLowestOf_ps, laws_FnExactLowestOf_rs, funF (laws_FnExactLowestOf_G N) tab [] Try.f14 laws_FnExactLowestOf_ps laws_FnExactLowestOf_rs⟩ := congrArg (FSum.mk laws_FnExactLowestOf_ps laws_FnExactLowestOf_rs) (funext (laws_FnExactLowestOf_run N))
  rw [e]
  exact fun_ok (c := laws_FnExactLowestOf_code) progOk (laws_FnExactLowestOf_gok N) (draw_ok progOk (laws_FnExactLowestOf_gok N)) Try.call14 Try.func14 (by kernel_rfl) (lsOk_at (L := []) trivial) (by kernel_rfl) (by kernel_rfl) (by kernel_rfl) (by kernel_rfl) (by kernel_rfl)
end Go.Proofs.Ytbnebekejbhopaa
