/- Functions of the program as functions on data. -/
import Derived.Test.YtgelipdkheahdaaMixingColoursFb
set_option linter.all false
namespace Go.Proofs.Ytgelipdkheahdaa
open Go Go.PV
/-! ### impl_places -/
abbrev impl_places_ps : List (PV.Mode × Ty) := [(.ro, LI), (.ro, LI)]
abbrev impl_places_rs : List (Bool × Ty) := [(true, LI)]
noncomputable def impl_places_G (N : Nat) : GTab := gOf []
theorem impl_places_gok (N : Nat) : GOk Try.prog (impl_places_G N) := gOf_ok trivial
noncomputable def impl_places_code : Code := (Try.f115.body).getD .skip
noncomputable def impl_places_l0_sh : Sh := ⟨[(1, .one (.ro LI)), (5, .one (.ref 0)), (9, .one (.ro LI)), (10, .one (.ro I)), (11, .one (.ro I))], [.sl 3 I .own]⟩
noncomputable def impl_places_l0_ex : List (Ex × Sh) := [(.exit 0, ⟨[(5, .one (.ref 0))], [.sl 3 I .own]⟩)]
noncomputable def impl_places_l0 {R : Type} (N : Nat) (k0 : (List Int) → Option R) : Nat → (List Int) → (List Int) → Int → Int → (List Int) → Option R
  | 0, _, _, _, _, _ => none
  | K + 1, b1, x, x1, x2, o =>
    (br (ilt x2 x1)
      ((chk (inb x x2)
        (chk (inb b1 x2)
        (br (ine (rdI b1 x2) (rdI x x2))
        ((chk (room o [x2])
          (impl_places_l0 N k0 K b1 x x1 (IntKind.i64.wrap (x2 + 1)) (tApp o [x2]))))
        (impl_places_l0 N k0 K b1 x x1 (IntKind.i64.wrap (x2 + 1)) o)))))
      (k0 o))
noncomputable def impl_places_l0_again {R : Type} (N : Nat) (ks : (j : Nat) → ((impl_places_l0_ex.getD j (.ret, Sh.none)).2).T → Option R) (k : Nat) (x : impl_places_l0_sh.T) : Option R :=
  impl_places_l0 N (fun y0 => ks 0 (((), ()), (y0, ()))) k x.1.1 x.1.2.2.1 x.1.2.2.2.1 x.1.2.2.2.2.1 x.2.1
noncomputable def impl_places_l0_s (N : Nat) : LSum := ⟨impl_places_l0_sh, impl_places_l0_ex, fun x ks => impl_places_l0_again N ks N x⟩
theorem impl_places_l0_step (N : Nat) (R : Type) (k : Nat) (x : impl_places_l0_sh.T) (ks : (j : Nat) → ((impl_places_l0_ex.getD j (.ret, Sh.none)).2).T → Option R) : impl_places_l0_again N ks (k + 1) x = roundF (impl_places_G N) tab [] (loopAt impl_places_code 0) impl_places_l0_sh impl_places_l0_ex (fun y => impl_places_l0_again N ks k y) ks x := by kernel_rfl
theorem impl_places_l0_ok (N : Nat) : LoopOk Try.prog Try.f115.ntmps (impl_places_l0_s N) (loopAt impl_places_code 0) :=
  loop_ok (l := impl_places_l0_s N) progOk (impl_places_gok N) (draw_ok progOk (impl_places_gok N)) (fun R k x ks => impl_places_l0_again N ks k x) (fun _ _ _ => rfl) (fun R k x ks => impl_places_l0_step N R k x ks) (fun R x ks r h => ⟨N, h⟩) (lsOk_at (L := []) trivial) (by kernel_rfl) (by kernel_rfl)
noncomputable def impl_places (N : Nat) (a : (List Int)) (b : (List Int)) : Option (((List Int) × Unit) × (Unit)) :=
  impl_places_l0 N (fun o => some ((o, ()), ())) N b a (tLen a) 0 []
noncomputable def impl_places_S (N : Nat) : FSum := ⟨impl_places_ps, impl_places_rs, fun x => impl_places N x.1 x.2.1⟩
theorem impl_places_run (N : Nat) (x : argsT impl_places_ps) : impl_places N x.1 x.2.1 = funF (impl_places_G N) tab [impl_places_l0_s N] Try.f115 impl_places_ps impl_places_rs x := by kernel_rfl
theorem impl_places_pc (N : Nat) : PC Try.prog 115 (impl_places_S N) := by
  have e : impl_places_S N = ⟨impl_places_ps, impl_places_rs, funF (impl_places_G N) tab [impl_places_l0_s N] Try.f115 impl_places_ps impl_places_rs⟩ := congrArg (FSum.mk impl_places_ps impl_places_rs) (funext (impl_places_run N))
  rw [e]
  exact fun_ok (c := impl_places_code) progOk (impl_places_gok N) (draw_ok progOk (impl_places_gok N)) Try.call115 Try.func115 (by kernel_rfl) (lsOk_at (L := [impl_places_l0_s N]) ⟨impl_places_l0_ok N, trivial⟩) (by kernel_rfl) (by kernel_rfl) (by kernel_rfl) (by kernel_rfl) (by kernel_rfl)

/-! ### impl_isChange -/
abbrev impl_isChange_ps : List (PV.Mode × Ty) := [(.ro, LI), (.ro, LI)]
abbrev impl_isChange_rs : List (Bool × Ty) := [(true, .bool)]
noncomputable def impl_isChange_G (N : Nat) : GTab := gOf [(115, impl_places_S N)]
theorem impl_isChange_gok (N : Nat) : GOk Try.prog (impl_isChange_G N) := gOf_ok ⟨impl_places_pc N, trivial⟩
noncomputable def impl_isChange_code : Code := (Try.f102.body).getD .skip
noncomputable def impl_isChange (N : Nat) (a : (List Int)) (b : (List Int)) : Option ((Bool × Unit) × (Unit)) :=
  ((impl_places N a b).bind fun r =>
    some (((ieq (tLen r.1.1) 1), ()), ()))
noncomputable def impl_isChange_S (N : Nat) : FSum := ⟨impl_isChange_ps, impl_isChange_rs, fun x => impl_isChange N x.1 x.2.1⟩
theorem impl_isChange_run (N : Nat) (x : argsT impl_isChange_ps) : impl_isChange N x.1 x.2.1 = funF (impl_isChange_G N) tab [] Try.f102 impl_isChange_ps impl_isChange_rs x := by kernel_rfl
theorem impl_isChange_pc (N : Nat) : PC Try.prog 102 (impl_isChange_S N) := by
  have e : impl_isChange_S N = ⟨impl_isChange_ps, impl_isChange_rs, funF (impl_isChange_G N) tab [] Try.f102 impl_isChange_ps impl_isChange_rs⟩ := congrArg (FSum.mk impl_isChange_ps impl_isChange_rs) (funext (impl_isChange_run N))
  rw [e]
  exact fun_ok (c := impl_isChange_code) progOk (impl_isChange_gok N) (draw_ok progOk (impl_isChange_gok N)) Try.call102 Try.func102 (by kernel_rfl) (lsOk_at (L := []) trivial) (by kernel_rfl) (by kernel_rfl) (by kernel_rfl) (by kernel_rfl) (by kernel_rfl)

/-! ### impl_orNone -/
abbrev impl_orNone_ps : List (PV.Mode × Ty) := [(.own, QLLILQII)]
abbrev impl_orNone_rs : List (Bool × Ty) := [(true, QLLILQII), (true, .bool)]
noncomputable def impl_orNone_G (N : Nat) : GTab := gOf []
theorem impl_orNone_gok (N : Nat) : GOk Try.prog (impl_orNone_G N) := gOf_ok trivial
noncomputable def impl_orNone_code : Code := (Try.f101.body).getD .skip
noncomputable def impl_orNone (N : Nat) (x : ((List (List Int)) × (List (Int × Int)))) : Option ((((List (List Int)) × (List (Int × Int))) × Bool × Unit) × (Unit)) :=
  (br (ilt 300 (tLen x.1))
    (some ((([], []), false, ()), ()))
    ((br (ilt 6000 (tLen x.2))
      (some ((([], []), false, ()), ()))
      (some (((x.1, x.2), true, ()), ())))))
noncomputable def impl_orNone_S (N : Nat) : FSum := ⟨impl_orNone_ps, impl_orNone_rs, fun x => impl_orNone N x.1⟩
theorem impl_orNone_run (N : Nat) (x : argsT impl_orNone_ps) : impl_orNone N x.1 = funF (impl_orNone_G N) tab [] Try.f101 impl_orNone_ps impl_orNone_rs x := by kernel_rfl
theorem impl_orNone_pc (N : Nat) : PC Try.prog 101 (impl_orNone_S N) := by
  have e : impl_orNone_S N = ⟨impl_orNone_ps, impl_orNone_rs, funF (impl_orNone_G N) tab [] Try.f101 impl_orNone_ps impl_orNone_rs⟩ := congrArg (FSum.mk impl_orNone_ps impl_orNone_rs) (funext (impl_orNone_run N))
  rw [e]
  exact fun_ok (c := impl_orNone_code) progOk (impl_orNone_gok N) (draw_ok progOk (impl_orNone_gok N)) Try.call101 Try.func101 (by kernel_rfl) (lsOk_at (L := []) trivial) (by kernel_rfl) (by kernel_rfl) (by kernel_rfl) (by kernel_rfl) (by kernel_rfl)

/-! ### impl_ColourSpace -/
abbrev impl_ColourSpace_ps : List (PV.Mode × Ty) := [(.ro, QILQII), (.ro, I)]
abbrev impl_ColourSpace_rs : List (Bool × Ty) := [(true, QLLILQII), (true, .bool)]
noncomputable def impl_ColourSpace_G (N : Nat) : GTab := gOf [(100, impl_Colourings_S N), (46, impl_spaceOf_S N), (102, impl_isChange_S N), (101, impl_orNone_S N)]
theorem impl_ColourSpace_gok (N : Nat) : GOk Try.prog (impl_ColourSpace_G N) := gOf_ok ⟨impl_Colourings_pc N, impl_spaceOf_pc N, impl_isChange_pc N, impl_orNone_pc N, trivial⟩
noncomputable def impl_ColourSpace_code : Code := (Try.f59.body).getD .skip
noncomputable def impl_ColourSpace (N : Nat) (g : (Int × (List (Int × Int)))) (kv : Int) : Option ((((List (List Int)) × (List (Int × Int))) × Bool × Unit) × (Unit)) :=
  ((impl_Colourings N (g.1, g.2) kv).bind fun r =>
    (br (!r.1.2.1)
      (some ((([], []), false, ()), ()))
      (((impl_spaceOf N r.1.1 (fun y0 y1 => (impl_isChange N y0 y1).bind fun z => some z.1.1)).bind fun r1 =>
        ((impl_orNone N (r1.1.1.1, r1.1.1.2)).bind fun r2 =>
          some (((r2.1.1.1, r2.1.1.2), r2.1.2.1, ()), ()))))))
noncomputable def impl_ColourSpace_S (N : Nat) : FSum := ⟨impl_ColourSpace_ps, impl_ColourSpace_rs, fun x => impl_ColourSpace N x.1 x.2.1⟩
theorem impl_ColourSpace_run (N : Nat) (x : argsT impl_ColourSpace_ps) : impl_ColourSpace N x.1 x.2.1 = funF (impl_ColourSpace_G N) tab [] Try.f59 impl_ColourSpace_ps impl_ColourSpace_rs x := by kernel_rfl
theorem impl_ColourSpace_pc (N : Nat) : PC Try.prog 59 (impl_ColourSpace_S N) := by
  have e : impl_ColourSpace_S N = ⟨impl_ColourSpace_ps, impl_ColourSpace_rs, funF (impl_ColourSpace_G N) tab [] Try.f59 impl_ColourSpace_ps impl_ColourSpace_rs⟩ := congrArg (FSum.mk impl_ColourSpace_ps impl_ColourSpace_rs) (funext (impl_ColourSpace_run N))
  rw [e]
  exact fun_ok (c := impl_ColourSpace_code) progOk (impl_ColourSpace_gok N) (draw_ok progOk (impl_ColourSpace_gok N)) Try.call59 Try.func59 (by kernel_rfl) (lsOk_at (L := []) trivial) (by kernel_rfl) (by kernel_rfl) (by kernel_rfl) (by kernel_rfl) (by kernel_rfl)

/-! ### slices_Sort_LI_int -/
abbrev slices_Sort_LI_int_ps : List (PV.Mode × Ty) := [(.mut, LI)]
abbrev slices_Sort_LI_int_rs : List (Bool × Ty) := []
noncomputable def slices_Sort_LI_int (N : Nat) (x : List Int) : Option (Unit × (List Int × Unit)) := sortIF x
noncomputable def slices_Sort_LI_int_S (N : Nat) : FSum := ⟨slices_Sort_LI_int_ps, slices_Sort_LI_int_rs, fun x => slices_Sort_LI_int N x.1⟩
theorem slices_Sort_LI_int_pc (N : Nat) : PC Try.prog 103 (slices_Sort_LI_int_S N) := sortInts_pc (sortsI Try.sortIL) (sortsINone Try.sortIL) Try.call103

/-! ### impl_Space_roads -/
abbrev impl_Space_roads_ps : List (PV.Mode × Ty) := [(.ro, QLLILQII)]
abbrev impl_Space_roads_rs : List (Bool × Ty) := [(true, LLI)]
noncomputable def impl_Space_roads_G (N : Nat) : GTab := gOf [(103, slices_Sort_LI_int_S N)]
theorem impl_Space_roads_gok (N : Nat) : GOk Try.prog (impl_Space_roads_G N) := gOf_ok ⟨slices_Sort_LI_int_pc N, trivial⟩
noncomputable def impl_Space_roads_code : Code := (Try.f61.body).getD .skip
noncomputable def impl_Space_roads_l0_sh : Sh := ⟨[(3, .one (.ref 0)), (13, .one (.ro LQII)), (14, .one (.ro I)), (15, .one (.ro I))], [.sl 43 LI .deep]⟩
noncomputable def impl_Space_roads_l0_ex : List (Ex × Sh) := [(.exit 0, ⟨[(3, .one (.ref 0))], [.sl 43 LI .deep]⟩)]
noncomputable def impl_Space_roads_l0 {R : Type} (N : Nat) (k0 : (List (List Int)) → Option R) : Nat → (List (Int × Int)) → Int → Int → (List (List Int)) → Option R
  | 0, _, _, _, _ => none
  | K + 1, x1, x2, x3, o =>
    (br (ilt x3 x2)
      ((chk (inb x1 x3)
        (chk (inb o ((rdP x1 x3).1))
        (chk (room (rdL o ((rdP x1 x3).1)) [(rdP x1 x3).2])
        (chk (inb o ((rdP x1 x3).1))
        (chk (ieq ((rdP x1 x3).1) ((rdP x1 x3).1))
        (chk (inb (tSet o ((rdP x1 x3).1) (tApp (rdL o ((rdP x1 x3).1)) [(rdP x1 x3).2])) ((rdP x1 x3).2))
        (chk (room (rdL (tSet o ((rdP x1 x3).1) (tApp (rdL o ((rdP x1 x3).1)) [(rdP x1 x3).2])) ((rdP x1 x3).2)) [(rdP x1 x3).1])
        (chk (inb (tSet o ((rdP x1 x3).1) (tApp (rdL o ((rdP x1 x3).1)) [(rdP x1 x3).2])) ((rdP x1 x3).2))
        (chk (ieq ((rdP x1 x3).2) ((rdP x1 x3).2))
        (impl_Space_roads_l0 N k0 K x1 x2 (IntKind.i64.wrap (x3 + 1)) (tSet (tSet o ((rdP x1 x3).1) (tApp (rdL o ((rdP x1 x3).1)) [(rdP x1 x3).2])) ((rdP x1 x3).2) (tApp (rdL (tSet o ((rdP x1 x3).1) (tApp (rdL o ((rdP x1 x3).1)) [(rdP x1 x3).2])) ((rdP x1 x3).2)) [(rdP x1 x3).1])))))))))))))
      (k0 o))
noncomputable def impl_Space_roads_l0_again {R : Type} (N : Nat) (ks : (j : Nat) → ((impl_Space_roads_l0_ex.getD j (.ret, Sh.none)).2).T → Option R) (k : Nat) (x : impl_Space_roads_l0_sh.T) : Option R :=
  impl_Space_roads_l0 N (fun y0 => ks 0 (((), ()), (y0, ()))) k x.1.2.1 x.1.2.2.1 x.1.2.2.2.1 x.2.1
noncomputable def impl_Space_roads_l0_s (N : Nat) : LSum := ⟨impl_Space_roads_l0_sh, impl_Space_roads_l0_ex, fun x ks => impl_Space_roads_l0_again N ks N x⟩
theorem impl_Space_roads_l0_step (N : Nat) (R : Type) (k : Nat) (x : impl_Space_roads_l0_sh.T) (ks : (j : Nat) → ((impl_Space_roads_l0_ex.getD j (.ret, Sh.none)).2).T → Option R) : impl_Space_roads_l0_again N ks (k + 1) x = roundF (impl_Space_roads_G N) tab [] (loopAt impl_Space_roads_code 0) impl_Space_roads_l0_sh impl_Space_roads_l0_ex (fun y => impl_Space_roads_l0_again N ks k y) ks x := by kernel_rfl
theorem impl_Space_roads_l0_ok (N : Nat) : LoopOk Try.prog Try.f61.ntmps (impl_Space_roads_l0_s N) (loopAt impl_Space_roads_code 0) :=
  loop_ok (l := impl_Space_roads_l0_s N) progOk (impl_Space_roads_gok N) (draw_ok progOk (impl_Space_roads_gok N)) (fun R k x ks => impl_Space_roads_l0_again N ks k x) (fun _ _ _ => rfl) (fun R k x ks => impl_Space_roads_l0_step N R k x ks) (fun R x ks r h => ⟨N, h⟩) (lsOk_at (L := []) trivial) (by kernel_rfl) (by kernel_rfl)
noncomputable def impl_Space_roads_l1_sh : Sh := ⟨[(3, .one (.ref 0)), (46, .one (.ref 0)), (47, .one (.ro I)), (48, .one (.ro I))], [.sl 43 LI .deep]⟩
noncomputable def impl_Space_roads_l1_ex : List (Ex × Sh) := [(.exit 2, ⟨[(3, .one (.ref 0))], [.sl 43 LI .deep]⟩)]
noncomputable def impl_Space_roads_l1 {R : Type} (N : Nat) (k0 : (List (List Int)) → Option R) : Nat → Int → Int → (List (List Int)) → Option R
  | 0, _, _, _ => none
  | K + 1, x1, x2, o1 =>
    (br (ilt x2 x1)
      ((chk (inb o1 x2)
        ((slices_Sort_LI_int N (rdL o1 x2)).bind fun r =>
        impl_Space_roads_l1 N k0 K x1 (IntKind.i64.wrap (x2 + 1)) (tSet o1 x2 r.2.1))))
      (k0 o1))
noncomputable def impl_Space_roads_l1_again {R : Type} (N : Nat) (ks : (j : Nat) → ((impl_Space_roads_l1_ex.getD j (.ret, Sh.none)).2).T → Option R) (k : Nat) (x : impl_Space_roads_l1_sh.T) : Option R :=
  impl_Space_roads_l1 N (fun y0 => ks 0 (((), ()), (y0, ()))) k x.1.2.2.1 x.1.2.2.2.1 x.2.1
noncomputable def impl_Space_roads_l1_s (N : Nat) : LSum := ⟨impl_Space_roads_l1_sh, impl_Space_roads_l1_ex, fun x ks => impl_Space_roads_l1_again N ks N x⟩
theorem impl_Space_roads_l1_step (N : Nat) (R : Type) (k : Nat) (x : impl_Space_roads_l1_sh.T) (ks : (j : Nat) → ((impl_Space_roads_l1_ex.getD j (.ret, Sh.none)).2).T → Option R) : impl_Space_roads_l1_again N ks (k + 1) x = roundF (impl_Space_roads_G N) tab [] (loopAt impl_Space_roads_code 1) impl_Space_roads_l1_sh impl_Space_roads_l1_ex (fun y => impl_Space_roads_l1_again N ks k y) ks x := by kernel_rfl
theorem impl_Space_roads_l1_ok (N : Nat) : LoopOk Try.prog Try.f61.ntmps (impl_Space_roads_l1_s N) (loopAt impl_Space_roads_code 1) :=
  loop_ok (l := impl_Space_roads_l1_s N) progOk (impl_Space_roads_gok N) (draw_ok progOk (impl_Space_roads_gok N)) (fun R k x ks => impl_Space_roads_l1_again N ks k x) (fun _ _ _ => rfl) (fun R k x ks => impl_Space_roads_l1_step N R k x ks) (fun R x ks r h => ⟨N, h⟩) (lsOk_at (L := []) trivial) (by kernel_rfl) (by kernel_rfl)
noncomputable def impl_Space_roads (N : Nat) (x : ((List (List Int)) × (List (Int × Int)))) : Option (((List (List Int)) × Unit) × (Unit)) :=
  (chk (ile 0 (tLen x.1) && ile (tLen x.1) (tLen x.1) && fits (tLen x.1))
    (impl_Space_roads_l0 N (fun o => impl_Space_roads_l1 N (fun o1 => some ((o1, ()), ())) N (tLen o) 0 o) N x.2 (tLen x.2) 0 (tRep (tLen x.1) [])))
noncomputable def impl_Space_roads_S (N : Nat) : FSum := ⟨impl_Space_roads_ps, impl_Space_roads_rs, fun x => impl_Space_roads N x.1⟩
theorem impl_Space_roads_run (N : Nat) (x : argsT impl_Space_roads_ps) : impl_Space_roads N x.1 = funF (impl_Space_roads_G N) tab [impl_Space_roads_l0_s N, impl_Space_roads_l1_s N] Try.f61 impl_Space_roads_ps impl_Space_roads_rs x := by kernel_rfl
theorem impl_Space_roads_pc (N : Nat) : PC Try.prog 61 (impl_Space_roads_S N) := by
  have e : impl_Space_roads_S N = ⟨impl_Space_roads_ps, impl_Space_roads_rs, funF (impl_Space_roads_G N) tab [impl_Space_roads_l0_s N, impl_Space_roads_l1_s N] Try.f61 impl_Space_roads_ps impl_Space_roads_rs⟩ := congrArg (FSum.mk impl_Space_roads_ps impl_Space_roads_rs) (funext (impl_Space_roads_run N))
  rw [e]
  exact fun_ok (c := impl_Space_roads_code) progOk (impl_Space_roads_gok N) (draw_ok progOk (impl_Space_roads_gok N)) Try.call61 Try.func61 (by kernel_rfl) (lsOk_at (L := [impl_Space_roads_l0_s N, impl_Space_roads_l1_s N]) ⟨impl_Space_roads_l0_ok N, impl_Space_roads_l1_ok N, trivial⟩) (by kernel_rfl) (by kernel_rfl) (by kernel_rfl) (by kernel_rfl) (by kernel_rfl)

/-! ### impl_parts -/
abbrev impl_parts_ps : List (PV.Mode × Ty) := [(.ro, LLI), (.ro, I)]
abbrev impl_parts_rs : List (Bool × Ty) := [(true, LLI)]
noncomputable def impl_parts_G (N : Nat) : GTab := gOf [(103, slices_Sort_LI_int_S N)]
theorem impl_parts_gok (N : Nat) : GOk Try.prog (impl_parts_G N) := gOf_ok ⟨slices_Sort_LI_int_pc N, trivial⟩
noncomputable def impl_parts_code : Code := (Try.f60.body).getD .skip
noncomputable def impl_parts_l0_0_0_sh : Sh := ⟨[(0, .one (.ro LLI)), (5, .one (.ref 0)), (6, .one (.ref 1)), (8, .one (.ref 2)), (9, .one (.ro I)), (22, .one (.ro I)), (23, .one (.ro I)), (47, .one (.ro LI)), (48, .one (.ro I)), (49, .one (.ro I))], [.sl 43 LI .deep, .sl 4 .bool .own, .sl 3 I .own]⟩
noncomputable def impl_parts_l0_0_0_ex : List (Ex × Sh) := [(.exit 4, ⟨[(0, .one (.ro LLI)), (5, .one (.ref 0)), (6, .one (.ref 1)), (8, .one (.ref 2)), (9, .one (.ro I)), (22, .one (.ro I)), (23, .one (.ro I))], [.sl 43 LI .deep, .sl 4 .bool .own, .sl 3 I .own]⟩)]
noncomputable def impl_parts_l0_0_0 {R : Type} (N : Nat) (k0 : (List (List Int)) → Int → Int → Int → (List (List Int)) → (List Bool) → (List Int) → Option R) : Nat → (List (List Int)) → Int → Int → Int → (List Int) → Int → Int → (List (List Int)) → (List Bool) → (List Int) → Option R
  | 0, _, _, _, _, _, _, _, _, _, _ => none
  | K + 1, x7, x8, x9, x10, x11, x12, x13, o5, o6, o7 =>
    (br (ilt x13 x12)
      ((chk (inb x11 x13)
        (chk (inb o6 (rdI x11 x13))
        (br (!(rdB o6 (rdI x11 x13)))
        ((chk (inb o6 (rdI x11 x13))
          (chk (room o7 [(rdI x11 x13)])
          (impl_parts_l0_0_0 N k0 K x7 x8 x9 x10 x11 x12 (IntKind.i64.wrap (x13 + 1)) o5 (tSet o6 (rdI x11 x13) true) (tApp o7 [(rdI x11 x13)])))))
        (impl_parts_l0_0_0 N k0 K x7 x8 x9 x10 x11 x12 (IntKind.i64.wrap (x13 + 1)) o5 o6 o7)))))
      (k0 x7 x8 x9 x10 o5 o6 o7))
noncomputable def impl_parts_l0_0_0_again {R : Type} (N : Nat) (ks : (j : Nat) → ((impl_parts_l0_0_0_ex.getD j (.ret, Sh.none)).2).T → Option R) (k : Nat) (x : impl_parts_l0_0_0_sh.T) : Option R :=
  impl_parts_l0_0_0 N (fun y0 y1 y2 y3 y4 y5 y6 => ks 0 ((y0, (), (), (), y1, y2, y3, ()), (y4, y5, y6, ()))) k x.1.1 x.1.2.2.2.2.1 x.1.2.2.2.2.2.1 x.1.2.2.2.2.2.2.1 x.1.2.2.2.2.2.2.2.1 x.1.2.2.2.2.2.2.2.2.1 x.1.2.2.2.2.2.2.2.2.2.1 x.2.1 x.2.2.1 x.2.2.2.1
noncomputable def impl_parts_l0_0_0_s (N : Nat) : LSum := ⟨impl_parts_l0_0_0_sh, impl_parts_l0_0_0_ex, fun x ks => impl_parts_l0_0_0_again N ks N x⟩
theorem impl_parts_l0_0_0_step (N : Nat) (R : Type) (k : Nat) (x : impl_parts_l0_0_0_sh.T) (ks : (j : Nat) → ((impl_parts_l0_0_0_ex.getD j (.ret, Sh.none)).2).T → Option R) : impl_parts_l0_0_0_again N ks (k + 1) x = roundF (impl_parts_G N) tab [] (loopAt (loopAt (loopAt impl_parts_code 0) 0) 0) impl_parts_l0_0_0_sh impl_parts_l0_0_0_ex (fun y => impl_parts_l0_0_0_again N ks k y) ks x := by kernel_rfl
theorem impl_parts_l0_0_0_ok (N : Nat) : LoopOk Try.prog Try.f60.ntmps (impl_parts_l0_0_0_s N) (loopAt (loopAt (loopAt impl_parts_code 0) 0) 0) :=
  loop_ok (l := impl_parts_l0_0_0_s N) progOk (impl_parts_gok N) (draw_ok progOk (impl_parts_gok N)) (fun R k x ks => impl_parts_l0_0_0_again N ks k x) (fun _ _ _ => rfl) (fun R k x ks => impl_parts_l0_0_0_step N R k x ks) (fun R x ks r h => ⟨N, h⟩) (lsOk_at (L := []) trivial) (by kernel_rfl) (by kernel_rfl)
noncomputable def impl_parts_l0_0_sh : Sh := ⟨[(0, .one (.ro LLI)), (5, .one (.ref 0)), (6, .one (.ref 1)), (8, .one (.ref 2)), (9, .one (.ro I)), (22, .one (.ro I)), (23, .one (.ro I))], [.sl 43 LI .deep, .sl 4 .bool .own, .sl 3 I .own]⟩
noncomputable def impl_parts_l0_0_ex : List (Ex × Sh) := [(.exit 2, ⟨[(0, .one (.ro LLI)), (5, .one (.ref 0)), (6, .one (.ref 1)), (8, .one (.ref 2)), (22, .one (.ro I)), (23, .one (.ro I))], [.sl 43 LI .deep, .sl 4 .bool .own, .sl 3 I .own]⟩)]
noncomputable def impl_parts_l0_0 {R : Type} (N : Nat) (k0 : (List (List Int)) → Int → Int → (List (List Int)) → (List Bool) → (List Int) → Option R) : Nat → (List (List Int)) → Int → Int → Int → (List (List Int)) → (List Bool) → (List Int) → Option R
  | 0, _, _, _, _, _, _, _ => none
  | K + 1, x3, x4, x5, x6, o2, o3, o4 =>
    (br (ilt x4 (tLen o4))
      ((chk (inb o4 x4)
        (chk (inb x3 (rdI o4 x4))
        (impl_parts_l0_0_0 N (fun x7 x8 x9 x10 o5 o6 o7 => impl_parts_l0_0 N k0 K x7 (IntKind.i64.wrap (x8 + 1)) x9 x10 o5 o6 o7) N x3 x4 x5 x6 (rdL x3 (rdI o4 x4)) (tLen (rdL x3 (rdI o4 x4))) 0 o2 o3 o4))))
      (k0 x3 x5 x6 o2 o3 o4))
noncomputable def impl_parts_l0_0_again {R : Type} (N : Nat) (ks : (j : Nat) → ((impl_parts_l0_0_ex.getD j (.ret, Sh.none)).2).T → Option R) (k : Nat) (x : impl_parts_l0_0_sh.T) : Option R :=
  impl_parts_l0_0 N (fun y0 y1 y2 y3 y4 y5 => ks 0 ((y0, (), (), (), y1, y2, ()), (y3, y4, y5, ()))) k x.1.1 x.1.2.2.2.2.1 x.1.2.2.2.2.2.1 x.1.2.2.2.2.2.2.1 x.2.1 x.2.2.1 x.2.2.2.1
noncomputable def impl_parts_l0_0_s (N : Nat) : LSum := ⟨impl_parts_l0_0_sh, impl_parts_l0_0_ex, fun x ks => impl_parts_l0_0_again N ks N x⟩
theorem impl_parts_l0_0_step (N : Nat) (R : Type) (k : Nat) (x : impl_parts_l0_0_sh.T) (ks : (j : Nat) → ((impl_parts_l0_0_ex.getD j (.ret, Sh.none)).2).T → Option R) : impl_parts_l0_0_again N ks (k + 1) x = roundF (impl_parts_G N) tab [impl_parts_l0_0_0_s N] (loopAt (loopAt impl_parts_code 0) 0) impl_parts_l0_0_sh impl_parts_l0_0_ex (fun y => impl_parts_l0_0_again N ks k y) ks x := by kernel_rfl
theorem impl_parts_l0_0_ok (N : Nat) : LoopOk Try.prog Try.f60.ntmps (impl_parts_l0_0_s N) (loopAt (loopAt impl_parts_code 0) 0) :=
  loop_ok (l := impl_parts_l0_0_s N) progOk (impl_parts_gok N) (draw_ok progOk (impl_parts_gok N)) (fun R k x ks => impl_parts_l0_0_again N ks k x) (fun _ _ _ => rfl) (fun R k x ks => impl_parts_l0_0_step N R k x ks) (fun R x ks r h => ⟨N, h⟩) (lsOk_at (L := [impl_parts_l0_0_0_s N]) ⟨impl_parts_l0_0_0_ok N, trivial⟩) (by kernel_rfl) (by kernel_rfl)
noncomputable def impl_parts_l0_sh : Sh := ⟨[(0, .one (.ro LLI)), (5, .one (.ref 0)), (6, .one (.ref 1)), (22, .one (.ro I)), (23, .one (.ro I))], [.sl 43 LI .deep, .sl 4 .bool .own]⟩
noncomputable def impl_parts_l0_ex : List (Ex × Sh) := [(.exit 0, ⟨[(5, .one (.ref 0))], [.sl 43 LI .deep]⟩)]
noncomputable def impl_parts_l0 {R : Type} (N : Nat) (k0 : (List (List Int)) → Option R) : Nat → (List (List Int)) → Int → Int → (List (List Int)) → (List Bool) → Option R
  | 0, _, _, _, _, _ => none
  | K + 1, x, x1, x2, o, o1 =>
    (br (ilt x2 x1)
      ((chk (inb o1 x2)
        (br (rdB o1 x2)
        (impl_parts_l0 N k0 K x x1 (IntKind.i64.wrap (x2 + 1)) o o1)
        ((chk (inb o1 x2)
          (impl_parts_l0_0 N (fun x3 x4 x5 o2 o3 o4 => ((slices_Sort_LI_int N o4).bind fun r =>
          (chk (room o2 [r.2.1])
            (impl_parts_l0 N k0 K x3 x4 (IntKind.i64.wrap (x5 + 1)) (tApp o2 [r.2.1]) o3)))) N x 0 x1 x2 o (tSet o1 x2 true) [x2]))))))
      (k0 o))
noncomputable def impl_parts_l0_again {R : Type} (N : Nat) (ks : (j : Nat) → ((impl_parts_l0_ex.getD j (.ret, Sh.none)).2).T → Option R) (k : Nat) (x : impl_parts_l0_sh.T) : Option R :=
  impl_parts_l0 N (fun y0 => ks 0 (((), ()), (y0, ()))) k x.1.1 x.1.2.2.2.1 x.1.2.2.2.2.1 x.2.1 x.2.2.1
noncomputable def impl_parts_l0_s (N : Nat) : LSum := ⟨impl_parts_l0_sh, impl_parts_l0_ex, fun x ks => impl_parts_l0_again N ks N x⟩
theorem impl_parts_l0_step (N : Nat) (R : Type) (k : Nat) (x : impl_parts_l0_sh.T) (ks : (j : Nat) → ((impl_parts_l0_ex.getD j (.ret, Sh.none)).2).T → Option R) : impl_parts_l0_again N ks (k + 1) x = roundF (impl_parts_G N) tab [impl_parts_l0_0_s N] (loopAt impl_parts_code 0) impl_parts_l0_sh impl_parts_l0_ex (fun y => impl_parts_l0_again N ks k y) ks x := by kernel_rfl
theorem impl_parts_l0_ok (N : Nat) : LoopOk Try.prog Try.f60.ntmps (impl_parts_l0_s N) (loopAt impl_parts_code 0) :=
  loop_ok (l := impl_parts_l0_s N) progOk (impl_parts_gok N) (draw_ok progOk (impl_parts_gok N)) (fun R k x ks => impl_parts_l0_again N ks k x) (fun _ _ _ => rfl) (fun R k x ks => impl_parts_l0_step N R k x ks) (fun R x ks r h => ⟨N, h⟩) (lsOk_at (L := [impl_parts_l0_0_s N]) ⟨impl_parts_l0_0_ok N, trivial⟩) (by kernel_rfl) (by kernel_rfl)
noncomputable def impl_parts (N : Nat) (c : (List (List Int))) (c1 : Int) : Option (((List (List Int)) × Unit) × (Unit)) :=
  (chk (ile 0 (tLen c) && ile (tLen c) (tLen c) && fits (tLen c))
    (br (ile 0 c1)
    ((chk (inb (tRep (tLen c) false) c1)
      (impl_parts_l0 N (fun o => some ((o, ()), ())) N c (tLen c) 0 [] (tSet (tRep (tLen c) false) c1 true))))
    (impl_parts_l0 N (fun o1 => some ((o1, ()), ())) N c (tLen c) 0 [] (tRep (tLen c) false))))
noncomputable def impl_parts_S (N : Nat) : FSum := ⟨impl_parts_ps, impl_parts_rs, fun x => impl_parts N x.1 x.2.1⟩
theorem impl_parts_run (N : Nat) (x : argsT impl_parts_ps) : impl_parts N x.1 x.2.1 = funF (impl_parts_G N) tab [impl_parts_l0_s N] Try.f60 impl_parts_ps impl_parts_rs x := by kernel_rfl
theorem impl_parts_pc (N : Nat) : PC Try.prog 60 (impl_parts_S N) := by
  have e : impl_parts_S N = ⟨impl_parts_ps, impl_parts_rs, funF (impl_parts_G N) tab [impl_parts_l0_s N] Try.f60 impl_parts_ps impl_parts_rs⟩ := congrArg (FSum.mk impl_parts_ps impl_parts_rs) (funext (impl_parts_run N))
  rw [e]
  exact fun_ok (c := impl_parts_code) progOk (impl_parts_gok N) (draw_ok progOk (impl_parts_gok N)) Try.call60 Try.func60 (by kernel_rfl) (lsOk_at (L := [impl_parts_l0_s N]) ⟨impl_parts_l0_ok N, trivial⟩) (by kernel_rfl) (by kernel_rfl) (by kernel_rfl) (by kernel_rfl) (by kernel_rfl)

/-! ### impl_MixingColours -/
abbrev impl_MixingColours_ps : List (PV.Mode × Ty) := [(.ro, QILQII)]
abbrev impl_MixingColours_rs : List (Bool × Ty) := [(true, I), (true, .bool)]
noncomputable def impl_MixingColours_G (N : Nat) : GTab := gOf [(59, impl_ColourSpace_S N), (61, impl_Space_roads_S N), (60, impl_parts_S N)]
theorem impl_MixingColours_gok (N : Nat) : GOk Try.prog (impl_MixingColours_G N) := gOf_ok ⟨impl_ColourSpace_pc N, impl_Space_roads_pc N, impl_parts_pc N, trivial⟩
noncomputable def impl_MixingColours_code : Code := (Try.f25.body).getD .skip
noncomputable def impl_MixingColours_l0_sh : Sh := ⟨[(1, .one (.adr 0 0)), (4, .one (.ro I))], [.box [.ro I, .ro LQII]]⟩
noncomputable def impl_MixingColours_l0_ex : List (Ex × Sh) := [(.ret, ⟨[(2, .one (.ro I)), (3, .one (.ro .bool))], []⟩), (.exit 0, ⟨[], []⟩)]
noncomputable def impl_MixingColours_l0 {R : Type} (N : Nat) (k0 : Int → Bool → Option R) (k1 : Unit → Option R) : Nat → Int → Int → (List (Int × Int)) → Option R
  | 0, _, _, _ => none
  | K + 1, kv, o, o1 =>
    (br (ile kv 5)
      (((impl_ColourSpace N (o, o1) kv).bind fun r =>
        (br (!r.1.2.1)
          (k0 0 false)
          (((impl_Space_roads N (r.1.1.1, r.1.1.2)).bind fun r1 =>
            ((impl_parts N r1.1.1 (-1)).bind fun r2 =>
              (br (ieq (tLen r2.1.1) 1)
                (k0 kv true)
                (impl_MixingColours_l0 N k0 k1 K (IntKind.i64.wrap (kv + 1)) o o1))))))))
      (k1 ()))
noncomputable def impl_MixingColours_l0_again {R : Type} (N : Nat) (ks : (j : Nat) → ((impl_MixingColours_l0_ex.getD j (.ret, Sh.none)).2).T → Option R) (k : Nat) (x : impl_MixingColours_l0_sh.T) : Option R :=
  impl_MixingColours_l0 N (fun y0 y1 => ks 0 ((y0, y1, ()), ())) (fun (_ : Unit) => ks 1 ((), ())) k x.1.2.1 x.2.1.1 x.2.1.2.1
noncomputable def impl_MixingColours_l0_s (N : Nat) : LSum := ⟨impl_MixingColours_l0_sh, impl_MixingColours_l0_ex, fun x ks => impl_MixingColours_l0_again N ks N x⟩
theorem impl_MixingColours_l0_step (N : Nat) (R : Type) (k : Nat) (x : impl_MixingColours_l0_sh.T) (ks : (j : Nat) → ((impl_MixingColours_l0_ex.getD j (.ret, Sh.none)).2).T → Option R) : impl_MixingColours_l0_again N ks (k + 1) x = roundF (impl_MixingColours_G N) tab [] (loopAt impl_MixingColours_code 0) impl_MixingColours_l0_sh impl_MixingColours_l0_ex (fun y => impl_MixingColours_l0_again N ks k y) ks x := by kernel_rfl
theorem impl_MixingColours_l0_ok (N : Nat) : LoopOk Try.prog Try.f25.ntmps (impl_MixingColours_l0_s N) (loopAt impl_MixingColours_code 0) :=
  loop_ok (l := impl_MixingColours_l0_s N) progOk (impl_MixingColours_gok N) (draw_ok progOk (impl_MixingColours_gok N)) (fun R k x ks => impl_MixingColours_l0_again N ks k x) (fun _ _ _ => rfl) (fun R k x ks => impl_MixingColours_l0_step N R k x ks) (fun R x ks r h => ⟨N, h⟩) (lsOk_at (L := []) trivial) (by kernel_rfl) (by kernel_rfl)
noncomputable def impl_MixingColours (N : Nat) (g : (Int × (List (Int × Int)))) : Option ((Int × Bool × Unit) × (Unit)) :=
  impl_MixingColours_l0 N (fun x x1 => some ((x, x1, ()), ())) (fun (_ : Unit) => some ((0, false, ()), ())) N 1 g.1 g.2
noncomputable def impl_MixingColours_S (N : Nat) : FSum := ⟨impl_MixingColours_ps, impl_MixingColours_rs, fun x => impl_MixingColours N x.1⟩
theorem impl_MixingColours_run (N : Nat) (x : argsT impl_MixingColours_ps) : impl_MixingColours N x.1 = funF (impl_MixingColours_G N) tab [impl_MixingColours_l0_s N] Try.f25 impl_MixingColours_ps impl_MixingColours_rs x := by kernel_rfl
theorem impl_MixingColours_pc (N : Nat) : PC Try.prog 25 (impl_MixingColours_S N) := by
  have e : impl_MixingColours_S N = ⟨impl_MixingColours_ps, impl_MixingColours_rs, funF (impl_MixingColours_G N) tab [impl_MixingColours_l0_s N] Try.f25 impl_MixingColours_ps impl_MixingColours_rs⟩ := congrArg (FSum.mk impl_MixingColours_ps impl_MixingColours_rs) (funext (impl_MixingColours_run N))
  rw [e]
  exact fun_ok (c := impl_MixingColours_code) progOk (impl_MixingColours_gok N) (draw_ok progOk (impl_MixingColours_gok N)) Try.call25 Try.func25 (by kernel_rfl) (lsOk_at (L := [impl_MixingColours_l0_s N]) ⟨impl_MixingColours_l0_ok N, trivial⟩) (by kernel_rfl) (by kernel_rfl) (by kernel_rfl) (by kernel_rfl) (by kernel_rfl)

/-! ### laws_eqIntA2 -/
abbrev laws_eqIntA2_ps : List (PV.Mode × Ty) := [(.ro, QII), (.ro, QII)]
abbrev laws_eqIntA2_rs : List (Bool × Ty) := [(true, .bool)]
noncomputable def laws_eqIntA2_G (N : Nat) : GTab := gOf []
theorem laws_eqIntA2_gok (N : Nat) : GOk Try.prog (laws_eqIntA2_G N) := gOf_ok trivial
noncomputable def laws_eqIntA2_code : Code := (Try.f73.body).getD .skip
noncomputable def laws_eqIntA2_l0_sh : Sh := ⟨[(2, .one (.adr 0 0)), (3, .one (.adr 1 0)), (5, .one (.num .i64 0))], [.box [.ro I, .ro I], .box [.ro I, .ro I]]⟩
noncomputable def laws_eqIntA2_l0_ex : List (Ex × Sh) := [(.ret, ⟨[(4, .one (.ro .bool))], []⟩), (.exit 0, ⟨[], []⟩)]
noncomputable def laws_eqIntA2_l0 {R : Type} (N : Nat) (k0 : Bool → Option R) (k1 : Unit → Option R) (_ : Nat) (o4 : Int) (o5 : Int) (o6 : Int) (o7 : Int) : Option R :=
  (br (ine o4 o6)
    (k0 false)
    ((br (ine o5 o7)
      (k0 false)
      (k1 ()))))
noncomputable def laws_eqIntA2_l0_again {R : Type} (N : Nat) (ks : (j : Nat) → ((laws_eqIntA2_l0_ex.getD j (.ret, Sh.none)).2).T → Option R) (x : laws_eqIntA2_l0_sh.T) : Option R :=
  laws_eqIntA2_l0 N (fun y0 => ks 0 ((y0, ()), ())) (fun (_ : Unit) => ks 1 ((), ())) N x.2.1.1 x.2.1.2.1 x.2.2.1.1 x.2.2.1.2.1
noncomputable def laws_eqIntA2_l0_s (N : Nat) : LSum := ⟨laws_eqIntA2_l0_sh, laws_eqIntA2_l0_ex, fun x ks => laws_eqIntA2_l0_again N ks x⟩
theorem laws_eqIntA2_l0_unr (N : Nat) (R : Type) (x : laws_eqIntA2_l0_sh.T) (ks : (j : Nat) → ((laws_eqIntA2_l0_ex.getD j (.ret, Sh.none)).2).T → Option R) : laws_eqIntA2_l0_again N ks x = unrF (laws_eqIntA2_G N) tab (loopAt laws_eqIntA2_code 0) laws_eqIntA2_l0_ex ks 3 (fill laws_eqIntA2_l0_sh x) := by kernel_rfl
theorem laws_eqIntA2_l0_ok (N : Nat) : LoopOk Try.prog Try.f73.ntmps (laws_eqIntA2_l0_s N) (loopAt laws_eqIntA2_code 0) :=
  unroll_ok (l := laws_eqIntA2_l0_s N) progOk (laws_eqIntA2_gok N) (draw_ok progOk (laws_eqIntA2_gok N)) (fun R x ks r h => ⟨3, (laws_eqIntA2_l0_unr N R x ks).symm.trans h⟩) (by kernel_rfl) (by kernel_rfl)
noncomputable def laws_eqIntA2 (N : Nat) (a : (Int × Int)) (b : (Int × Int)) : Option ((Bool × Unit) × (Unit)) :=
  laws_eqIntA2_l0 N (fun x => some ((x, ()), ())) (fun (_ : Unit) => some ((true, ()), ())) N a.1 a.2 b.1 b.2
noncomputable def laws_eqIntA2_S (N : Nat) : FSum := ⟨laws_eqIntA2_ps, laws_eqIntA2_rs, fun x => laws_eqIntA2 N x.1 x.2.1⟩
theorem laws_eqIntA2_run (N : Nat) (x : argsT laws_eqIntA2_ps) : laws_eqIntA2 N x.1 x.2.1 = funF (laws_eqIntA2_G N) tab [laws_eqIntA2_l0_s N] Try.f73 laws_eqIntA2_ps laws_eqIntA2_rs x := by kernel_rfl
theorem laws_eqIntA2_pc (N : Nat) : PC Try.prog 73 (laws_eqIntA2_S N) := by
  have e : laws_eqIntA2_S N = ⟨laws_eqIntA2_ps, laws_eqIntA2_rs, funF (laws_eqIntA2_G N) tab [laws_eqIntA2_l0_s N] Try.f73 laws_eqIntA2_ps laws_eqIntA2_rs⟩ := congrArg (FSum.mk laws_eqIntA2_ps laws_eqIntA2_rs) (funext (laws_eqIntA2_run N))
  rw [e]
  exact fun_ok (c := laws_eqIntA2_code) progOk (laws_eqIntA2_gok N) (draw_ok progOk (laws_eqIntA2_gok N)) Try.call73 Try.func73 (by kernel_rfl) (lsOk_at (L := [laws_eqIntA2_l0_s N]) ⟨laws_eqIntA2_l0_ok N, trivial⟩) (by kernel_rfl) (by kernel_rfl) (by kernel_rfl) (by kernel_rfl) (by kernel_rfl)

/-! ### laws_eqIntA2S -/
abbrev laws_eqIntA2S_ps : List (PV.Mode × Ty) := [(.ro, LQII), (.ro, LQII)]
abbrev laws_eqIntA2S_rs : List (Bool × Ty) := [(true, .bool)]
noncomputable def laws_eqIntA2S_G (N : Nat) : GTab := gOf [(73, laws_eqIntA2_S N)]
theorem laws_eqIntA2S_gok (N : Nat) : GOk Try.prog (laws_eqIntA2S_G N) := gOf_ok ⟨laws_eqIntA2_pc N, trivial⟩
noncomputable def laws_eqIntA2S_code : Code := (Try.f42.body).getD .skip
noncomputable def laws_eqIntA2S_l0_sh : Sh := ⟨[(0, .one (.ro LQII)), (1, .one (.ro LQII)), (5, .one (.ro I))], []⟩
noncomputable def laws_eqIntA2S_l0_ex : List (Ex × Sh) := [(.ret, ⟨[(4, .one (.ro .bool))], []⟩), (.exit 0, ⟨[], []⟩)]
noncomputable def laws_eqIntA2S_l0 {R : Type} (N : Nat) (k0 : Bool → Option R) (k1 : Unit → Option R) : Nat → (List (Int × Int)) → (List (Int × Int)) → Int → Option R
  | 0, _, _, _ => none
  | K + 1, a1, b1, i =>
    (br (ilt i (tLen a1))
      ((chk (inb a1 i)
        (chk (inb b1 i)
        ((laws_eqIntA2 N (rdP a1 i) (rdP b1 i)).bind fun r =>
        (br (!r.1.1)
          (k0 false)
          (laws_eqIntA2S_l0 N k0 k1 K a1 b1 (IntKind.i64.wrap (i + 1))))))))
      (k1 ()))
noncomputable def laws_eqIntA2S_l0_again {R : Type} (N : Nat) (ks : (j : Nat) → ((laws_eqIntA2S_l0_ex.getD j (.ret, Sh.none)).2).T → Option R) (k : Nat) (x : laws_eqIntA2S_l0_sh.T) : Option R :=
  laws_eqIntA2S_l0 N (fun y0 => ks 0 ((y0, ()), ())) (fun (_ : Unit) => ks 1 ((), ())) k x.1.1 x.1.2.1 x.1.2.2.1
noncomputable def laws_eqIntA2S_l0_s (N : Nat) : LSum := ⟨laws_eqIntA2S_l0_sh, laws_eqIntA2S_l0_ex, fun x ks => laws_eqIntA2S_l0_again N ks N x⟩
theorem laws_eqIntA2S_l0_step (N : Nat) (R : Type) (k : Nat) (x : laws_eqIntA2S_l0_sh.T) (ks : (j : Nat) → ((laws_eqIntA2S_l0_ex.getD j (.ret, Sh.none)).2).T → Option R) : laws_eqIntA2S_l0_again N ks (k + 1) x = roundF (laws_eqIntA2S_G N) tab [] (loopAt laws_eqIntA2S_code 0) laws_eqIntA2S_l0_sh laws_eqIntA2S_l0_ex (fun y => laws_eqIntA2S_l0_again N ks k y) ks x := by kernel_rfl
theorem laws_eqIntA2S_l0_ok (N : Nat) : LoopOk Try.prog Try.f42.ntmps (laws_eqIntA2S_l0_s N) (loopAt laws_eqIntA2S_code 0) :=
  loop_ok (l := laws_eqIntA2S_l0_s N) progOk (laws_eqIntA2S_gok N) (draw_ok progOk (laws_eqIntA2S_gok N)) (fun R k x ks => laws_eqIntA2S_l0_again N ks k x) (fun _ _ _ => rfl) (fun R k x ks => laws_eqIntA2S_l0_step N R k x ks) (fun R x ks r h => ⟨N, h⟩) (lsOk_at (L := []) trivial) (by kernel_rfl) (by kernel_rfl)
noncomputable def laws_eqIntA2S (N : Nat) (a : (List (Int × Int))) (b : (List (Int × Int))) : Option ((Bool × Unit) × (Unit)) :=
  (br (ine (tLen a) (tLen b))
    (some ((false, ()), ()))
    (laws_eqIntA2S_l0 N (fun x => some ((x, ()), ())) (fun (_ : Unit) => some ((true, ()), ())) N a b 0))
noncomputable def laws_eqIntA2S_S (N : Nat) : FSum := ⟨laws_eqIntA2S_ps, laws_eqIntA2S_rs, fun x => laws_eqIntA2S N x.1 x.2.1⟩
theorem laws_eqIntA2S_run (N : Nat) (x : argsT laws_eqIntA2S_ps) : laws_eqIntA2S N x.1 x.2.1 = funF (laws_eqIntA2S_G N) tab [laws_eqIntA2S_l0_s N] Try.f42 laws_eqIntA2S_ps laws_eqIntA2S_rs x := by kernel_rfl
theorem laws_eqIntA2S_pc (N : Nat) : PC Try.prog 42 (laws_eqIntA2S_S N) := by
  have e : laws_eqIntA2S_S N = ⟨laws_eqIntA2S_ps, laws_eqIntA2S_rs, funF (laws_eqIntA2S_G N) tab [laws_eqIntA2S_l0_s N] Try.f42 laws_eqIntA2S_ps laws_eqIntA2S_rs⟩ := congrArg (FSum.mk laws_eqIntA2S_ps laws_eqIntA2S_rs) (funext (laws_eqIntA2S_run N))
  rw [e]
  exact fun_ok (c := laws_eqIntA2S_code) progOk (laws_eqIntA2S_gok N) (draw_ok progOk (laws_eqIntA2S_gok N)) Try.call42 Try.func42 (by kernel_rfl) (lsOk_at (L := [laws_eqIntA2S_l0_s N]) ⟨laws_eqIntA2S_l0_ok N, trivial⟩) (by kernel_rfl) (by kernel_rfl) (by kernel_rfl) (by kernel_rfl) (by kernel_rfl)

/-! ### laws_eqGraph -/
abbrev laws_eqGraph_ps : List (PV.Mode × Ty) := [(.ro, QILQII), (.ro, QILQII)]
abbrev laws_eqGraph_rs : List (Bool × Ty) := [(true, .bool)]
noncomputable def laws_eqGraph_G (N : Nat) : GTab := gOf [(42, laws_eqIntA2S_S N)]
theorem laws_eqGraph_gok (N : Nat) : GOk Try.prog (laws_eqGraph_G N) := gOf_ok ⟨laws_eqIntA2S_pc N, trivial⟩
noncomputable def laws_eqGraph_code : Code := (Try.f13.body).getD .skip
noncomputable def laws_eqGraph (N : Nat) (a : (Int × (List (Int × Int)))) (b : (Int × (List (Int × Int)))) : Option ((Bool × Unit) × (Unit)) :=
  (br (ine a.1 b.1)
    (some ((false, ()), ()))
    (((laws_eqIntA2S N a.2 b.2).bind fun r =>
      (br (!r.1.1)
        (some ((false, ()), ()))
        (some ((true, ()), ()))))))
noncomputable def laws_eqGraph_S (N : Nat) : FSum := ⟨laws_eqGraph_ps, laws_eqGraph_rs, fun x => laws_eqGraph N x.1 x.2.1⟩
theorem laws_eqGraph_run (N : Nat) (x : argsT laws_eqGraph_ps) : laws_eqGraph N x.1 x.2.1 = funF (laws_eqGraph_G N) tab [] Try.f13 laws_eqGraph_ps laws_eqGraph_rs x := by kernel_rfl
theorem laws_eqGraph_pc (N : Nat) : PC Try.prog 13 (laws_eqGraph_S N) := by
  have e : laws_eqGraph_S N = ⟨laws_eqGraph_ps, laws_eqGraph_rs, funF (laws_eqGraph_G N) tab [] Try.f13 laws_eqGraph_ps laws_eqGraph_rs⟩ := congrArg (FSum.mk laws_eqGraph_ps laws_eqGraph_rs) (funext (laws_eqGraph_run N))
  rw [e]
  exact fun_ok (c := laws_eqGraph_code) progOk (laws_eqGraph_gok N) (draw_ok progOk (laws_eqGraph_gok N)) Try.call13 Try.func13 (by kernel_rfl) (lsOk_at (L := []) trivial) (by kernel_rfl) (by kernel_rfl) (by kernel_rfl) (by kernel_rfl) (by kernel_rfl)

/-! ### laws_FnExactMixingColours -/
abbrev laws_FnExactMixingColours_ps : List (PV.Mode × Ty) := [(.ro, QILQII)]
abbrev laws_FnExactMixingColours_rs : List (Bool × Ty) := [(true, .bool)]
noncomputable def laws_FnExactMixingColours_G (N : Nat) : GTab := gOf [(9, laws_szGraph_S N), (11, laws_toGraph_S N), (24, spec_MixingColours_S N), (25, impl_MixingColours_S N), (13, laws_eqGraph_S N)]
theorem laws_FnExactMixingColours_gok (N : Nat) : GOk Try.prog (laws_FnExactMixingColours_G N) := gOf_ok ⟨laws_szGraph_pc N, laws_toGraph_pc N, spec_MixingColours_pc N, impl_MixingColours_pc N, laws_eqGraph_pc N, trivial⟩
noncomputable def laws_FnExactMixingColours_code : Code := (Try.f7.body).getD .skip
noncomputable def laws_FnExactMixingColours (N : Nat) (aG : (Int × (List (Int × Int)))) : Option ((Bool × Unit) × (Unit)) :=
  ((laws_szGraph N (aG.1, aG.2) 1048576).bind fun r =>
    (br (ilt r.1.1 0)
      (some ((true, ()), ()))
      (((laws_toGraph N (aG.1, aG.2)).bind fun r1 =>
        ((spec_MixingColours N (r1.1.1.1, r1.1.1.2)).bind fun r2 =>
          ((laws_toGraph N (aG.1, aG.2)).bind fun r3 =>
            ((impl_MixingColours N (r3.1.1.1, r3.1.1.2)).bind fun r4 =>
              (br (ine r4.1.1 r2.1.1)
                (some ((false, ()), ()))
                ((br (!(r4.1.2.1 == r2.1.2.1))
                  (some ((false, ()), ()))
                  (((laws_toGraph N (aG.1, aG.2)).bind fun r5 =>
                    ((laws_eqGraph N (r3.1.1.1, r3.1.1.2) (r5.1.1.1, r5.1.1.2)).bind fun r6 =>
                      (br (!r6.1.1)
                        (some ((false, ()), ()))
                        (some ((true, ()), ()))))))))))))))))
noncomputable def laws_FnExactMixingColours_S (N : Nat) : FSum := ⟨laws_FnExactMixingColours_ps, laws_FnExactMixingColours_rs, fun x => laws_FnExactMixingColours N x.1⟩
theorem laws_FnExactMixingColours_run (N : Nat) (x : argsT laws_FnExactMixingColours_ps) : laws_FnExactMixingColours N x.1 = funF (laws_FnExactMixingColours_G N) tab [] Try.f7 laws_FnExactMixingColours_ps laws_FnExactMixingColours_rs x := by kernel_rfl
theorem laws_FnExactMixingColours_pc (N : Nat) : PC Try.prog 7 (laws_FnExactMixingColours_S N) := by
  have e : laws_FnExactMixingColours_S N = ⟨laws_FnExactMixingColours_ps, laws_FnExactMixingColours_rs, funF (laws_FnExactMixingColours_G N) tab [] Try.f7 laws_FnExactMixingColours_ps laws_FnExactMixingColours_rs⟩ := congrArg (FSum.mk laws_FnExactMixingColours_ps laws_FnExactMixingColours_rs) (funext (laws_FnExactMixingColours_run N))
  rw [e]
  exact fun_ok (c := laws_FnExactMixingColours_code) progOk (laws_FnExactMixingColours_gok N) (draw_ok progOk (laws_FnExactMixingColours_gok N)) Try.call7 Try.func7 (by kernel_rfl) (lsOk_at (L := []) trivial) (by kernel_rfl) (by kernel_rfl) (by kernel_rfl) (by kernel_rfl) (by kernel_rfl)
end Go.Proofs.Ytgelipdkheahdaa
