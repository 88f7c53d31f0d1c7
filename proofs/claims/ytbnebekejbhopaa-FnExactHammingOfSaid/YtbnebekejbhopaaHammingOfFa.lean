/- Functions of the program as functions on data. -/
import Derived.Test.YtbnebekejbhopaaHammingOfTa
set_option linter.all false
namespace Go.Proofs.Ytbnebekejbhopaa
open Go Go.PV
/-! ### laws_toIntS -/
noncomputable def laws_toIntS_G (N : Nat) : GTab := gOf []
theorem laws_toIntS_gok (N : Nat) : GOk Try.prog (laws_toIntS_G N) := gOf_ok trivial
noncomputable def laws_toIntS_code : Code := (Try.f16.body).getD .skip
noncomputable def laws_toIntS_l0_sh : Sh := ⟨[(0, .one (.ro LI)), (3, .one (.ref 0)), (4, .one (.ro I))], [.sl 3 I .own]⟩
noncomputable def laws_toIntS_l0_ex : List (Ex × Sh) := [(.exit 0, ⟨[(3, .one (.ref 0))], [.sl 3 I .own]⟩)]
noncomputable def laws_toIntS_l0 {R : Type} (N : Nat) (k0 : (List Int) → Option R) : Nat → (List Int) → Int → (List Int) → Option R
  | 0, _, _, _ => none
  | K + 1, a1, i, o =>
    (br (ilt i (tLen a1))
      ((chk (inb a1 i)
        (chk (inb o i)
        (laws_toIntS_l0 N k0 K a1 (IntKind.i64.wrap (i + 1)) (tSet o i (rd I a1 i))))))
      (k0 o))
noncomputable def laws_toIntS_l0_again {R : Type} (N : Nat) (ks : (j : Nat) → ((laws_toIntS_l0_ex.getD j (.ret, Sh.none)).2).T → Option R) (k : Nat) (x : laws_toIntS_l0_sh.T) : Option R :=
  laws_toIntS_l0 N (fun y0 => ks 0 (((), ()), (y0, ()))) k x.1.1 x.1.2.2.1 x.2.1
noncomputable def laws_toIntS_l0_s (N : Nat) : LSum := ⟨laws_toIntS_l0_sh, laws_toIntS_l0_ex, fun x ks => laws_toIntS_l0_again N ks N x⟩
theorem laws_toIntS_l0_step (N : Nat) (R : Type) (k : Nat) (x : laws_toIntS_l0_sh.T) (ks : (j : Nat) → ((laws_toIntS_l0_ex.getD j (.ret, Sh.none)).2).T → Option R) : laws_toIntS_l0_again N ks (k + 1) x = roundF (laws_toIntS_G N) tab [] (loopAt laws_toIntS_code 0) laws_toIntS_l0_sh laws_toIntS_l0_ex (fun y => laws_toIntS_l0_again N ks k y) ks x := by kernel_rfl
theorem laws_toIntS_l0_ok (N : Nat) : LoopOk Try.prog Try.f16.ntmps (laws_toIntS_l0_s N) (loopAt laws_toIntS_code 0) :=
  loop_ok (l := laws_toIntS_l0_s N) progOk (laws_toIntS_gok N) (draw_ok progOk (laws_toIntS_gok N)) (fun R k x ks => laws_toIntS_l0_again N ks k x) (fun _ _ _ => rfl) (fun R k x ks => laws_toIntS_l0_step N R k x ks) (fun R x ks r h => ⟨N, h⟩) (lsOk_at (L := []) trivial) (by kernel_rfl) (by kernel_rfl)
noncomputable def laws_toIntS (N : Nat) (a : (List Int)) : Option (((List Int) × Unit) × (Unit)) :=
  (chk (ile 0 (tLen a) && ile (tLen a) (tLen a) && fits (tLen a))
    (laws_toIntS_l0 N (fun o => some ((o, ()), ())) N a 0 (tRep (tLen a) 0)))
abbrev laws_toIntS_ps : List (PV.Mode × Ty) := [(.ro, LI)]
abbrev laws_toIntS_rs : List (Bool × Ty) := [(true, LI)]
noncomputable def laws_toIntS_S (N : Nat) : FSum := ⟨laws_toIntS_ps, laws_toIntS_rs, fun x => laws_toIntS N x.1⟩
theorem laws_toIntS_eq (N : Nat) (x : argsT laws_toIntS_ps) : laws_toIntS N x.1 = funF (laws_toIntS_G N) tab [laws_toIntS_l0_s N] Try.f16 laws_toIntS_ps laws_toIntS_rs x := by kernel_rfl
theorem laws_toIntS_pc (N : Nat) : PC Try.prog 16 (laws_toIntS_S N) := by
  have e : laws_toIntS_S N = ⟨laws_toIntS_ps, laws_toIntS_rs, funF (laws_toIntS_G N) tab [laws_toIntS_l0_s N] Try.f16 laws_toIntS_ps laws_toIntS_rs⟩ := congrArg (FSum.mk laws_toIntS_ps laws_toIntS_rs) (funext (laws_toIntS_eq N))
  rw [e]
  exact fun_ok (c := laws_toIntS_code) progOk (laws_toIntS_gok N) (draw_ok progOk (laws_toIntS_gok N)) Try.call16 Try.func16 (by kernel_rfl) (lsOk_at (L := [laws_toIntS_l0_s N]) ⟨laws_toIntS_l0_ok N, trivial⟩) (by kernel_rfl) (by kernel_rfl) (by kernel_rfl) (by kernel_rfl) (by kernel_rfl)

/-! ### spec_l1In -/
noncomputable def spec_l1In_G (N : Nat) : GTab := gOf []
theorem spec_l1In_gok (N : Nat) : GOk Try.prog (spec_l1In_G N) := gOf_ok trivial
noncomputable def spec_l1In_code : Code := (Try.f79.body).getD .skip
noncomputable def spec_l1In (N : Nat) (x : Int) (a : Int) (b : Int) : Option ((Bool × Unit) × (Unit)) :=
  (br (ile a x)
    (some (((ile x b), ()), ()))
    (some ((false, ()), ())))
abbrev spec_l1In_ps : List (PV.Mode × Ty) := [(.ro, I), (.ro, I), (.ro, I)]
abbrev spec_l1In_rs : List (Bool × Ty) := [(true, .bool)]
noncomputable def spec_l1In_S (N : Nat) : FSum := ⟨spec_l1In_ps, spec_l1In_rs, fun x => spec_l1In N x.1 x.2.1 x.2.2.1⟩
theorem spec_l1In_eq (N : Nat) (x : argsT spec_l1In_ps) : spec_l1In N x.1 x.2.1 x.2.2.1 = funF (spec_l1In_G N) tab [] Try.f79 spec_l1In_ps spec_l1In_rs x := by kernel_rfl
theorem spec_l1In_pc (N : Nat) : PC Try.prog 79 (spec_l1In_S N) := by
  have e : spec_l1In_S N = ⟨spec_l1In_ps, spec_l1In_rs, funF (spec_l1In_G N) tab [] Try.f79 spec_l1In_ps spec_l1In_rs⟩ := congrArg (FSum.mk spec_l1In_ps spec_l1In_rs) (funext (spec_l1In_eq N))
  rw [e]
  exact fun_ok (c := spec_l1In_code) progOk (spec_l1In_gok N) (draw_ok progOk (spec_l1In_gok N)) Try.call79 Try.func79 (by kernel_rfl) (lsOk_at (L := []) trivial) (by kernel_rfl) (by kernel_rfl) (by kernel_rfl) (by kernel_rfl) (by kernel_rfl)

/-! ### spec_l6Bits -/
noncomputable def spec_l6Bits_G (N : Nat) : GTab := gOf [(79, spec_l1In_S N)]
theorem spec_l6Bits_gok (N : Nat) : GOk Try.prog (spec_l6Bits_G N) := gOf_ok ⟨spec_l1In_pc N, trivial⟩
noncomputable def spec_l6Bits_code : Code := (Try.f55.body).getD .skip
noncomputable def spec_l6Bits_l0_sh : Sh := ⟨[(0, .one (.ro I)), (1, .one (.ro LI)), (5, .one (.ro I))], []⟩
noncomputable def spec_l6Bits_l0_ex : List (Ex × Sh) := [(.ret, ⟨[(4, .one (.ro .bool))], []⟩), (.exit 0, ⟨[(0, .one (.ro I)), (1, .one (.ro LI))], []⟩)]
noncomputable def spec_l6Bits_l0 {R : Type} (N : Nat) (k0 : Bool → Option R) (k1 : Int → (List Int) → Option R) : Nat → Int → (List Int) → Int → Option R
  | 0, _, _, _ => none
  | K + 1, vars1, bits1, i =>
    (br (ilt i (tLen bits1))
      ((chk (inb bits1 i)
        ((spec_l1In N (rd I bits1 i) 0 1).bind fun r =>
        (br (!r.1.1)
          (k0 false)
          (spec_l6Bits_l0 N k0 k1 K vars1 bits1 (IntKind.i64.wrap (i + 1)))))))
      (k1 vars1 bits1))
noncomputable def spec_l6Bits_l0_again {R : Type} (N : Nat) (ks : (j : Nat) → ((spec_l6Bits_l0_ex.getD j (.ret, Sh.none)).2).T → Option R) (k : Nat) (x : spec_l6Bits_l0_sh.T) : Option R :=
  spec_l6Bits_l0 N (fun y0 => ks 0 ((y0, ()), ())) (fun y0 y1 => ks 1 ((y0, y1, ()), ())) k x.1.1 x.1.2.1 x.1.2.2.1
noncomputable def spec_l6Bits_l0_s (N : Nat) : LSum := ⟨spec_l6Bits_l0_sh, spec_l6Bits_l0_ex, fun x ks => spec_l6Bits_l0_again N ks N x⟩
theorem spec_l6Bits_l0_step (N : Nat) (R : Type) (k : Nat) (x : spec_l6Bits_l0_sh.T) (ks : (j : Nat) → ((spec_l6Bits_l0_ex.getD j (.ret, Sh.none)).2).T → Option R) : spec_l6Bits_l0_again N ks (k + 1) x = roundF (spec_l6Bits_G N) tab [] (loopAt spec_l6Bits_code 0) spec_l6Bits_l0_sh spec_l6Bits_l0_ex (fun y => spec_l6Bits_l0_again N ks k y) ks x := by kernel_rfl
theorem spec_l6Bits_l0_ok (N : Nat) : LoopOk Try.prog Try.f55.ntmps (spec_l6Bits_l0_s N) (loopAt spec_l6Bits_code 0) :=
  loop_ok (l := spec_l6Bits_l0_s N) progOk (spec_l6Bits_gok N) (draw_ok progOk (spec_l6Bits_gok N)) (fun R k x ks => spec_l6Bits_l0_again N ks k x) (fun _ _ _ => rfl) (fun R k x ks => spec_l6Bits_l0_step N R k x ks) (fun R x ks r h => ⟨N, h⟩) (lsOk_at (L := []) trivial) (by kernel_rfl) (by kernel_rfl)
noncomputable def spec_l6Bits (N : Nat) (vars : Int) (bits : (List Int)) : Option ((Bool × Unit) × (Unit)) :=
  spec_l6Bits_l0 N (fun x => some ((x, ()), ())) (fun vars1 bits1 => some (((ieq (tLen bits1) vars1), ()), ())) N vars bits 0
abbrev spec_l6Bits_ps : List (PV.Mode × Ty) := [(.ro, I), (.ro, LI)]
abbrev spec_l6Bits_rs : List (Bool × Ty) := [(true, .bool)]
noncomputable def spec_l6Bits_S (N : Nat) : FSum := ⟨spec_l6Bits_ps, spec_l6Bits_rs, fun x => spec_l6Bits N x.1 x.2.1⟩
theorem spec_l6Bits_eq (N : Nat) (x : argsT spec_l6Bits_ps) : spec_l6Bits N x.1 x.2.1 = funF (spec_l6Bits_G N) tab [spec_l6Bits_l0_s N] Try.f55 spec_l6Bits_ps spec_l6Bits_rs x := by kernel_rfl
theorem spec_l6Bits_pc (N : Nat) : PC Try.prog 55 (spec_l6Bits_S N) := by
  have e : spec_l6Bits_S N = ⟨spec_l6Bits_ps, spec_l6Bits_rs, funF (spec_l6Bits_G N) tab [spec_l6Bits_l0_s N] Try.f55 spec_l6Bits_ps spec_l6Bits_rs⟩ := congrArg (FSum.mk spec_l6Bits_ps spec_l6Bits_rs) (funext (spec_l6Bits_eq N))
  rw [e]
  exact fun_ok (c := spec_l6Bits_code) progOk (spec_l6Bits_gok N) (draw_ok progOk (spec_l6Bits_gok N)) Try.call55 Try.func55 (by kernel_rfl) (lsOk_at (L := [spec_l6Bits_l0_s N]) ⟨spec_l6Bits_l0_ok N, trivial⟩) (by kernel_rfl) (by kernel_rfl) (by kernel_rfl) (by kernel_rfl) (by kernel_rfl)

/-! ### spec_l6Apart -/
noncomputable def spec_l6Apart_G (N : Nat) : GTab := gOf []
theorem spec_l6Apart_gok (N : Nat) : GOk Try.prog (spec_l6Apart_G N) := gOf_ok trivial
noncomputable def spec_l6Apart_code : Code := (Try.f56.body).getD .skip
noncomputable def spec_l6Apart_l0_sh : Sh := ⟨[(0, .one (.ro LI)), (1, .one (.ro LI)), (5, .one (.ro I)), (6, .one (.ro I))], []⟩
noncomputable def spec_l6Apart_l0_ex : List (Ex × Sh) := [(.exit 0, ⟨[(5, .one (.ro I))], []⟩)]
noncomputable def spec_l6Apart_l0 {R : Type} (N : Nat) (k0 : Int → Option R) : Nat → (List Int) → (List Int) → Int → Int → Option R
  | 0, _, _, _, _ => none
  | K + 1, a1, b1, count, i =>
    (br (ilt i (tLen a1))
      ((chk (inb a1 i)
        (chk (inb b1 i)
        (br (ine (rd I a1 i) (rd I b1 i))
        (spec_l6Apart_l0 N k0 K a1 b1 (IntKind.i64.wrap (count + 1)) (IntKind.i64.wrap (i + 1)))
        (spec_l6Apart_l0 N k0 K a1 b1 count (IntKind.i64.wrap (i + 1)))))))
      (k0 count))
noncomputable def spec_l6Apart_l0_again {R : Type} (N : Nat) (ks : (j : Nat) → ((spec_l6Apart_l0_ex.getD j (.ret, Sh.none)).2).T → Option R) (k : Nat) (x : spec_l6Apart_l0_sh.T) : Option R :=
  spec_l6Apart_l0 N (fun y0 => ks 0 ((y0, ()), ())) k x.1.1 x.1.2.1 x.1.2.2.1 x.1.2.2.2.1
noncomputable def spec_l6Apart_l0_s (N : Nat) : LSum := ⟨spec_l6Apart_l0_sh, spec_l6Apart_l0_ex, fun x ks => spec_l6Apart_l0_again N ks N x⟩
theorem spec_l6Apart_l0_step (N : Nat) (R : Type) (k : Nat) (x : spec_l6Apart_l0_sh.T) (ks : (j : Nat) → ((spec_l6Apart_l0_ex.getD j (.ret, Sh.none)).2).T → Option R) : spec_l6Apart_l0_again N ks (k + 1) x = roundF (spec_l6Apart_G N) tab [] (loopAt spec_l6Apart_code 0) spec_l6Apart_l0_sh spec_l6Apart_l0_ex (fun y => spec_l6Apart_l0_again N ks k y) ks x := by kernel_rfl
theorem spec_l6Apart_l0_ok (N : Nat) : LoopOk Try.prog Try.f56.ntmps (spec_l6Apart_l0_s N) (loopAt spec_l6Apart_code 0) :=
  loop_ok (l := spec_l6Apart_l0_s N) progOk (spec_l6Apart_gok N) (draw_ok progOk (spec_l6Apart_gok N)) (fun R k x ks => spec_l6Apart_l0_again N ks k x) (fun _ _ _ => rfl) (fun R k x ks => spec_l6Apart_l0_step N R k x ks) (fun R x ks r h => ⟨N, h⟩) (lsOk_at (L := []) trivial) (by kernel_rfl) (by kernel_rfl)
noncomputable def spec_l6Apart (N : Nat) (a : (List Int)) (b : (List Int)) : Option ((Int × Unit) × (Unit)) :=
  spec_l6Apart_l0 N (fun count => some ((count, ()), ())) N a b 0 0
abbrev spec_l6Apart_ps : List (PV.Mode × Ty) := [(.ro, LI), (.ro, LI)]
abbrev spec_l6Apart_rs : List (Bool × Ty) := [(true, I)]
noncomputable def spec_l6Apart_S (N : Nat) : FSum := ⟨spec_l6Apart_ps, spec_l6Apart_rs, fun x => spec_l6Apart N x.1 x.2.1⟩
theorem spec_l6Apart_eq (N : Nat) (x : argsT spec_l6Apart_ps) : spec_l6Apart N x.1 x.2.1 = funF (spec_l6Apart_G N) tab [spec_l6Apart_l0_s N] Try.f56 spec_l6Apart_ps spec_l6Apart_rs x := by kernel_rfl
theorem spec_l6Apart_pc (N : Nat) : PC Try.prog 56 (spec_l6Apart_S N) := by
  have e : spec_l6Apart_S N = ⟨spec_l6Apart_ps, spec_l6Apart_rs, funF (spec_l6Apart_G N) tab [spec_l6Apart_l0_s N] Try.f56 spec_l6Apart_ps spec_l6Apart_rs⟩ := congrArg (FSum.mk spec_l6Apart_ps spec_l6Apart_rs) (funext (spec_l6Apart_eq N))
  rw [e]
  exact fun_ok (c := spec_l6Apart_code) progOk (spec_l6Apart_gok N) (draw_ok progOk (spec_l6Apart_gok N)) Try.call56 Try.func56 (by kernel_rfl) (lsOk_at (L := [spec_l6Apart_l0_s N]) ⟨spec_l6Apart_l0_ok N, trivial⟩) (by kernel_rfl) (by kernel_rfl) (by kernel_rfl) (by kernel_rfl) (by kernel_rfl)

/-! ### spec_HammingOf -/
noncomputable def spec_HammingOf_G (N : Nat) : GTab := gOf [(55, spec_l6Bits_S N), (56, spec_l6Apart_S N)]
theorem spec_HammingOf_gok (N : Nat) : GOk Try.prog (spec_HammingOf_G N) := gOf_ok ⟨spec_l6Bits_pc N, spec_l6Apart_pc N, trivial⟩
noncomputable def spec_HammingOf_code : Code := (Try.f15.body).getD .skip
noncomputable def spec_HammingOf (N : Nat) (a : (List Int)) (b : (List Int)) : Option ((Int × Bool × Unit) × (Unit)) :=
  (br (ilt 6 (tLen a))
    (some ((0, false, ()), ()))
    (((spec_l6Bits N (tLen a) a).bind fun r =>
      (br (!r.1.1)
        (some ((0, false, ()), ()))
        (((spec_l6Bits N (tLen a) b).bind fun r1 =>
          (br (!r1.1.1)
            (some ((0, false, ()), ()))
            (((spec_l6Apart N a b).bind fun r2 =>
              some ((r2.1.1, true, ()), ()))))))))))
abbrev spec_HammingOf_ps : List (PV.Mode × Ty) := [(.ro, LI), (.ro, LI)]
abbrev spec_HammingOf_rs : List (Bool × Ty) := [(true, I), (true, .bool)]
noncomputable def spec_HammingOf_S (N : Nat) : FSum := ⟨spec_HammingOf_ps, spec_HammingOf_rs, fun x => spec_HammingOf N x.1 x.2.1⟩
theorem spec_HammingOf_eq (N : Nat) (x : argsT spec_HammingOf_ps) : spec_HammingOf N x.1 x.2.1 = funF (spec_HammingOf_G N) tab [] Try.f15 spec_HammingOf_ps spec_HammingOf_rs x := by kernel_rfl
theorem spec_HammingOf_pc (N : Nat) : PC Try.prog 15 (spec_HammingOf_S N) := by
  have e : spec_HammingOf_S N = ⟨spec_HammingOf_ps, spec_HammingOf_rs, funF (spec_HammingOf_G N) tab [] Try.f15 spec_HammingOf_ps spec_HammingOf_rs⟩ := congrArg (FSum.mk spec_HammingOf_ps spec_HammingOf_rs) (funext (spec_HammingOf_eq N))
  rw [e]
  exact fun_ok (c := spec_HammingOf_code) progOk (spec_HammingOf_gok N) (draw_ok progOk (spec_HammingOf_gok N)) Try.call15 Try.func15 (by kernel_rfl) (lsOk_at (L := []) trivial) (by kernel_rfl) (by kernel_rfl) (by kernel_rfl) (by kernel_rfl) (by kernel_rfl)

/-! ### slices_IndexFunc_LI_int -/
noncomputable def slices_IndexFunc_LI_int_G (N : Nat) : GTab := gOf []
theorem slices_IndexFunc_LI_int_gok (N : Nat) : GOk Try.prog (slices_IndexFunc_LI_int_G N) := gOf_ok trivial
noncomputable def slices_IndexFunc_LI_int_code : Code := (Try.f119.body).getD .skip
noncomputable def slices_IndexFunc_LI_int_l0_sh : Sh := ⟨[(0, .one (.ro LI)), (1, .one (.ro FIBo)), (7, .one (.ro I)), (8, .one (.ro I))], []⟩
noncomputable def slices_IndexFunc_LI_int_l0_ex : List (Ex × Sh) := [(.ret, ⟨[(4, .one (.ro I))], []⟩), (.exit 0, ⟨[], []⟩)]
noncomputable def slices_IndexFunc_LI_int_l0 {R : Type} (N : Nat) (k0 : Int → Option R) (k1 : Unit → Option R) : Nat → (List Int) → (Int → Option Bool) → Int → Int → Option R
  | 0, _, _, _, _ => none
  | K + 1, s1, f1, x, x1 =>
    (br (ilt x1 x)
      ((chk (inb s1 x1)
        ((f1 (rd I s1 x1)).bind fun v =>
        (br v
        (k0 x1)
        (slices_IndexFunc_LI_int_l0 N k0 k1 K s1 f1 x (IntKind.i64.wrap (x1 + 1)))))))
      (k1 ()))
noncomputable def slices_IndexFunc_LI_int_l0_again {R : Type} (N : Nat) (ks : (j : Nat) → ((slices_IndexFunc_LI_int_l0_ex.getD j (.ret, Sh.none)).2).T → Option R) (k : Nat) (x : slices_IndexFunc_LI_int_l0_sh.T) : Option R :=
  slices_IndexFunc_LI_int_l0 N (fun y0 => ks 0 ((y0, ()), ())) (fun (_ : Unit) => ks 1 ((), ())) k x.1.1 x.1.2.1 x.1.2.2.1 x.1.2.2.2.1
noncomputable def slices_IndexFunc_LI_int_l0_s (N : Nat) : LSum := ⟨slices_IndexFunc_LI_int_l0_sh, slices_IndexFunc_LI_int_l0_ex, fun x ks => slices_IndexFunc_LI_int_l0_again N ks N x⟩
theorem slices_IndexFunc_LI_int_l0_step (N : Nat) (R : Type) (k : Nat) (x : slices_IndexFunc_LI_int_l0_sh.T) (ks : (j : Nat) → ((slices_IndexFunc_LI_int_l0_ex.getD j (.ret, Sh.none)).2).T → Option R) : slices_IndexFunc_LI_int_l0_again N ks (k + 1) x = roundF (slices_IndexFunc_LI_int_G N) tab [] (loopAt slices_IndexFunc_LI_int_code 0) slices_IndexFunc_LI_int_l0_sh slices_IndexFunc_LI_int_l0_ex (fun y => slices_IndexFunc_LI_int_l0_again N ks k y) ks x := by kernel_rfl
theorem slices_IndexFunc_LI_int_l0_ok (N : Nat) : LoopOk Try.prog Try.f119.ntmps (slices_IndexFunc_LI_int_l0_s N) (loopAt slices_IndexFunc_LI_int_code 0) :=
  loop_ok (l := slices_IndexFunc_LI_int_l0_s N) progOk (slices_IndexFunc_LI_int_gok N) (draw_ok progOk (slices_IndexFunc_LI_int_gok N)) (fun R k x ks => slices_IndexFunc_LI_int_l0_again N ks k x) (fun _ _ _ => rfl) (fun R k x ks => slices_IndexFunc_LI_int_l0_step N R k x ks) (fun R x ks r h => ⟨N, h⟩) (lsOk_at (L := []) trivial) (by kernel_rfl) (by kernel_rfl)
noncomputable def slices_IndexFunc_LI_int (N : Nat) (s : (List Int)) (f : (Int → Option Bool)) : Option ((Int × Unit) × (Unit)) :=
  slices_IndexFunc_LI_int_l0 N (fun x => some ((x, ()), ())) (fun (_ : Unit) => some (((-1), ()), ())) N s f (tLen s) 0
abbrev slices_IndexFunc_LI_int_ps : List (PV.Mode × Ty) := [(.ro, LI), (.ro, FIBo)]
abbrev slices_IndexFunc_LI_int_rs : List (Bool × Ty) := [(true, I)]
noncomputable def slices_IndexFunc_LI_int_S (N : Nat) : FSum := ⟨slices_IndexFunc_LI_int_ps, slices_IndexFunc_LI_int_rs, fun x => slices_IndexFunc_LI_int N x.1 x.2.1⟩
theorem slices_IndexFunc_LI_int_eq (N : Nat) (x : argsT slices_IndexFunc_LI_int_ps) : slices_IndexFunc_LI_int N x.1 x.2.1 = funF (slices_IndexFunc_LI_int_G N) tab [slices_IndexFunc_LI_int_l0_s N] Try.f119 slices_IndexFunc_LI_int_ps slices_IndexFunc_LI_int_rs x := by kernel_rfl
theorem slices_IndexFunc_LI_int_pc (N : Nat) : PC Try.prog 119 (slices_IndexFunc_LI_int_S N) := by
  have e : slices_IndexFunc_LI_int_S N = ⟨slices_IndexFunc_LI_int_ps, slices_IndexFunc_LI_int_rs, funF (slices_IndexFunc_LI_int_G N) tab [slices_IndexFunc_LI_int_l0_s N] Try.f119 slices_IndexFunc_LI_int_ps slices_IndexFunc_LI_int_rs⟩ := congrArg (FSum.mk slices_IndexFunc_LI_int_ps slices_IndexFunc_LI_int_rs) (funext (slices_IndexFunc_LI_int_eq N))
  rw [e]
  exact fun_ok (c := slices_IndexFunc_LI_int_code) progOk (slices_IndexFunc_LI_int_gok N) (draw_ok progOk (slices_IndexFunc_LI_int_gok N)) Try.call119 Try.func119 (by kernel_rfl) (lsOk_at (L := [slices_IndexFunc_LI_int_l0_s N]) ⟨slices_IndexFunc_LI_int_l0_ok N, trivial⟩) (by kernel_rfl) (by kernel_rfl) (by kernel_rfl) (by kernel_rfl) (by kernel_rfl)

/-! ### slices_ContainsFunc_LI_int -/
noncomputable def slices_ContainsFunc_LI_int_G (N : Nat) : GTab := gOf [(119, slices_IndexFunc_LI_int_S N)]
theorem slices_ContainsFunc_LI_int_gok (N : Nat) : GOk Try.prog (slices_ContainsFunc_LI_int_G N) := gOf_ok ⟨slices_IndexFunc_LI_int_pc N, trivial⟩
noncomputable def slices_ContainsFunc_LI_int_code : Code := (Try.f97.body).getD .skip
noncomputable def slices_ContainsFunc_LI_int (N : Nat) (s : (List Int)) (f : (Int → Option Bool)) : Option ((Bool × Unit) × (Unit)) :=
  ((slices_IndexFunc_LI_int N s f).bind fun r =>
    some (((ile 0 r.1.1), ()), ()))
abbrev slices_ContainsFunc_LI_int_ps : List (PV.Mode × Ty) := [(.ro, LI), (.ro, FIBo)]
abbrev slices_ContainsFunc_LI_int_rs : List (Bool × Ty) := [(true, .bool)]
noncomputable def slices_ContainsFunc_LI_int_S (N : Nat) : FSum := ⟨slices_ContainsFunc_LI_int_ps, slices_ContainsFunc_LI_int_rs, fun x => slices_ContainsFunc_LI_int N x.1 x.2.1⟩
theorem slices_ContainsFunc_LI_int_eq (N : Nat) (x : argsT slices_ContainsFunc_LI_int_ps) : slices_ContainsFunc_LI_int N x.1 x.2.1 = funF (slices_ContainsFunc_LI_int_G N) tab [] Try.f97 slices_ContainsFunc_LI_int_ps slices_ContainsFunc_LI_int_rs x := by kernel_rfl
theorem slices_ContainsFunc_LI_int_pc (N : Nat) : PC Try.prog 97 (slices_ContainsFunc_LI_int_S N) := by
  have e : slices_ContainsFunc_LI_int_S N = ⟨slices_ContainsFunc_LI_int_ps, slices_ContainsFunc_LI_int_rs, funF (slices_ContainsFunc_LI_int_G N) tab [] Try.f97 slices_ContainsFunc_LI_int_ps slices_ContainsFunc_LI_int_rs⟩ := congrArg (FSum.mk slices_ContainsFunc_LI_int_ps slices_ContainsFunc_LI_int_rs) (funext (slices_ContainsFunc_LI_int_eq N))
  rw [e]
  exact fun_ok (c := slices_ContainsFunc_LI_int_code) progOk (slices_ContainsFunc_LI_int_gok N) (draw_ok progOk (slices_ContainsFunc_LI_int_gok N)) Try.call97 Try.func97 (by kernel_rfl) (lsOk_at (L := []) trivial) (by kernel_rfl) (by kernel_rfl) (by kernel_rfl) (by kernel_rfl) (by kernel_rfl)

/-! ### impl_between -/
noncomputable def impl_between_G (N : Nat) : GTab := gOf []
theorem impl_between_gok (N : Nat) : GOk Try.prog (impl_between_G N) := gOf_ok trivial
noncomputable def impl_between_code : Code := (Try.f62.body).getD .skip
noncomputable def impl_between (N : Nat) (n : Int) (low : Int) (high : Int) : Option ((Bool × Unit) × (Unit)) :=
  (br (ile low n)
    (some (((ile n high), ()), ()))
    (some ((false, ()), ())))
abbrev impl_between_ps : List (PV.Mode × Ty) := [(.ro, I), (.ro, I), (.ro, I)]
abbrev impl_between_rs : List (Bool × Ty) := [(true, .bool)]
noncomputable def impl_between_S (N : Nat) : FSum := ⟨impl_between_ps, impl_between_rs, fun x => impl_between N x.1 x.2.1 x.2.2.1⟩
theorem impl_between_eq (N : Nat) (x : argsT impl_between_ps) : impl_between N x.1 x.2.1 x.2.2.1 = funF (impl_between_G N) tab [] Try.f62 impl_between_ps impl_between_rs x := by kernel_rfl
theorem impl_between_pc (N : Nat) : PC Try.prog 62 (impl_between_S N) := by
  have e : impl_between_S N = ⟨impl_between_ps, impl_between_rs, funF (impl_between_G N) tab [] Try.f62 impl_between_ps impl_between_rs⟩ := congrArg (FSum.mk impl_between_ps impl_between_rs) (funext (impl_between_eq N))
  rw [e]
  exact fun_ok (c := impl_between_code) progOk (impl_between_gok N) (draw_ok progOk (impl_between_gok N)) Try.call62 Try.func62 (by kernel_rfl) (lsOk_at (L := []) trivial) (by kernel_rfl) (by kernel_rfl) (by kernel_rfl) (by kernel_rfl) (by kernel_rfl)

/-! ### impl_isAssignment_c1 -/
noncomputable def impl_isAssignment_c1_G (N : Nat) : GTab := gOf [(62, impl_between_S N)]
theorem impl_isAssignment_c1_gok (N : Nat) : GOk Try.prog (impl_isAssignment_c1_G N) := gOf_ok ⟨impl_between_pc N, trivial⟩
noncomputable def impl_isAssignment_c1_code : Code := (Try.f98.body).getD .skip
noncomputable def impl_isAssignment_c1 (N : Nat) (n : Int) : Option ((Bool × Unit) × (Unit)) :=
  ((impl_between N n 0 1).bind fun r =>
    some (((!r.1.1), ()), ()))
abbrev impl_isAssignment_c1_ps : List (PV.Mode × Ty) := [(.ro, I)]
abbrev impl_isAssignment_c1_rs : List (Bool × Ty) := [(true, .bool)]
noncomputable def impl_isAssignment_c1_S (N : Nat) : FSum := ⟨impl_isAssignment_c1_ps, impl_isAssignment_c1_rs, fun x => impl_isAssignment_c1 N x.1⟩
theorem impl_isAssignment_c1_eq (N : Nat) (x : argsT impl_isAssignment_c1_ps) : impl_isAssignment_c1 N x.1 = funF (impl_isAssignment_c1_G N) tab [] Try.f98 impl_isAssignment_c1_ps impl_isAssignment_c1_rs x := by kernel_rfl
theorem impl_isAssignment_c1_pc (N : Nat) : PC Try.prog 98 (impl_isAssignment_c1_S N) := by
  have e : impl_isAssignment_c1_S N = ⟨impl_isAssignment_c1_ps, impl_isAssignment_c1_rs, funF (impl_isAssignment_c1_G N) tab [] Try.f98 impl_isAssignment_c1_ps impl_isAssignment_c1_rs⟩ := congrArg (FSum.mk impl_isAssignment_c1_ps impl_isAssignment_c1_rs) (funext (impl_isAssignment_c1_eq N))
  rw [e]
  exact fun_ok (c := impl_isAssignment_c1_code) progOk (impl_isAssignment_c1_gok N) (draw_ok progOk (impl_isAssignment_c1_gok N)) Try.call98 Try.func98 (by kernel_rfl) (lsOk_at (L := []) trivial) (by kernel_rfl) (by kernel_rfl) (by kernel_rfl) (by kernel_rfl) (by kernel_rfl)

/-! ### impl_isAssignment -/
noncomputable def impl_isAssignment_G (N : Nat) : GTab := gOf [(97, slices_ContainsFunc_LI_int_S N), (98, impl_isAssignment_c1_S N)]
theorem impl_isAssignment_gok (N : Nat) : GOk Try.prog (impl_isAssignment_G N) := gOf_ok ⟨slices_ContainsFunc_LI_int_pc N, impl_isAssignment_c1_pc N, trivial⟩
noncomputable def impl_isAssignment_code : Code := (Try.f57.body).getD .skip
noncomputable def impl_isAssignment (N : Nat) (vars : Int) (list : (List Int)) : Option ((Bool × Unit) × (Unit)) :=
  (br (ieq (tLen list) vars)
    (((slices_ContainsFunc_LI_int N list (fun y0 => (impl_isAssignment_c1 N y0).bind fun z => some z.1.1)).bind fun r =>
      some (((!r.1.1), ()), ())))
    (some ((false, ()), ())))
abbrev impl_isAssignment_ps : List (PV.Mode × Ty) := [(.ro, I), (.ro, LI)]
abbrev impl_isAssignment_rs : List (Bool × Ty) := [(true, .bool)]
noncomputable def impl_isAssignment_S (N : Nat) : FSum := ⟨impl_isAssignment_ps, impl_isAssignment_rs, fun x => impl_isAssignment N x.1 x.2.1⟩
theorem impl_isAssignment_eq (N : Nat) (x : argsT impl_isAssignment_ps) : impl_isAssignment N x.1 x.2.1 = funF (impl_isAssignment_G N) tab [] Try.f57 impl_isAssignment_ps impl_isAssignment_rs x := by kernel_rfl
theorem impl_isAssignment_pc (N : Nat) : PC Try.prog 57 (impl_isAssignment_S N) := by
  have e : impl_isAssignment_S N = ⟨impl_isAssignment_ps, impl_isAssignment_rs, funF (impl_isAssignment_G N) tab [] Try.f57 impl_isAssignment_ps impl_isAssignment_rs⟩ := congrArg (FSum.mk impl_isAssignment_ps impl_isAssignment_rs) (funext (impl_isAssignment_eq N))
  rw [e]
  exact fun_ok (c := impl_isAssignment_code) progOk (impl_isAssignment_gok N) (draw_ok progOk (impl_isAssignment_gok N)) Try.call57 Try.func57 (by kernel_rfl) (lsOk_at (L := []) trivial) (by kernel_rfl) (by kernel_rfl) (by kernel_rfl) (by kernel_rfl) (by kernel_rfl)

/-! ### impl_places -/
noncomputable def impl_places_G (N : Nat) : GTab := gOf []
theorem impl_places_gok (N : Nat) : GOk Try.prog (impl_places_G N) := gOf_ok trivial
noncomputable def impl_places_code : Code := (Try.f58.body).getD .skip
noncomputable def impl_places_l0_sh : Sh := ⟨[(1, .one (.ro LI)), (5, .one (.ref 0)), (9, .one (.ro LI)), (10, .one (.ro I)), (11, .one (.ro I))], [.sl 3 I .own]⟩
noncomputable def impl_places_l0_ex : List (Ex × Sh) := [(.exit 0, ⟨[(5, .one (.ref 0))], [.sl 3 I .own]⟩)]
noncomputable def impl_places_l0 {R : Type} (N : Nat) (k0 : (List Int) → Option R) : Nat → (List Int) → (List Int) → Int → Int → (List Int) → Option R
  | 0, _, _, _, _, _ => none
  | K + 1, b1, x, x1, x2, o =>
    (br (ilt x2 x1)
      ((chk (inb x x2)
        (chk (inb b1 x2)
        (br (ine (rd I b1 x2) (rd I x x2))
        ((chk (room o [x2])
          (impl_places_l0 N k0 K b1 x x1 (IntKind.i64.wrap (x2 + 1)) (tApp o [x2]))))
        (impl_places_l0 N k0 K b1 x x1 (IntKind.i64.wrap (x2 + 1)) o)))))
      (k0 o))
noncomputable def impl_places_l0_again {R : Type} (N : Nat) (ks : (j : Nat) → ((impl_places_l0_ex.getD j (.ret, Sh.none)).2).T → Option R) (k : Nat) (x : impl_places_l0_sh.T) : Option R :=
  impl_places_l0 N (fun y0 => ks 0 (((), ()), (y0, ()))) k x.1.1 x.1.2.2.1 x.1.2.2.2.1 x.1.2.2.2.2.1 x.2.1
noncomputable def impl_places_l0_s (N : Nat) : LSum := ⟨impl_places_l0_sh, impl_places_l0_ex, fun x ks => impl_places_l0_again N ks N x⟩
theorem impl_places_l0_step (N : Nat) (R : Type) (k : Nat) (x : impl_places_l0_sh.T) (ks : (j : Nat) → ((impl_places_l0_ex.getD j (.ret, Sh.none)).2).T → Option R) : impl_places_l0_again N ks (k + 1) x = roundF (impl_places_G N) tab [] (loopAt impl_places_code 0) impl_places_l0_sh impl_places_l0_ex (fun y => impl_places_l0_again N ks k y) ks x := by kernel_rfl
theorem impl_places_l0_ok (N : Nat) : LoopOk Try.prog Try.f58.ntmps (impl_places_l0_s N) (loopAt impl_places_code 0) :=
  loop_ok (l := impl_places_l0_s N) progOk (impl_places_gok N) (draw_ok progOk (impl_places_gok N)) (fun R k x ks => impl_places_l0_again N ks k x) (fun _ _ _ => rfl) (fun R k x ks => impl_places_l0_step N R k x ks) (fun R x ks r h => ⟨N, h⟩) (lsOk_at (L := []) trivial) (by kernel_rfl) (by kernel_rfl)
noncomputable def impl_places (N : Nat) (a : (List Int)) (b : (List Int)) : Option (((List Int) × Unit) × (Unit)) :=
  impl_places_l0 N (fun o => some ((o, ()), ())) N b a (tLen a) 0 []
abbrev impl_places_ps : List (PV.Mode × Ty) := [(.ro, LI), (.ro, LI)]
abbrev impl_places_rs : List (Bool × Ty) := [(true, LI)]
noncomputable def impl_places_S (N : Nat) : FSum := ⟨impl_places_ps, impl_places_rs, fun x => impl_places N x.1 x.2.1⟩
theorem impl_places_eq (N : Nat) (x : argsT impl_places_ps) : impl_places N x.1 x.2.1 = funF (impl_places_G N) tab [impl_places_l0_s N] Try.f58 impl_places_ps impl_places_rs x := by kernel_rfl
theorem impl_places_pc (N : Nat) : PC Try.prog 58 (impl_places_S N) := by
  have e : impl_places_S N = ⟨impl_places_ps, impl_places_rs, funF (impl_places_G N) tab [impl_places_l0_s N] Try.f58 impl_places_ps impl_places_rs⟩ := congrArg (FSum.mk impl_places_ps impl_places_rs) (funext (impl_places_eq N))
  rw [e]
  exact fun_ok (c := impl_places_code) progOk (impl_places_gok N) (draw_ok progOk (impl_places_gok N)) Try.call58 Try.func58 (by kernel_rfl) (lsOk_at (L := [impl_places_l0_s N]) ⟨impl_places_l0_ok N, trivial⟩) (by kernel_rfl) (by kernel_rfl) (by kernel_rfl) (by kernel_rfl) (by kernel_rfl)

/-! ### impl_HammingOf -/
noncomputable def impl_HammingOf_G (N : Nat) : GTab := gOf [(57, impl_isAssignment_S N), (58, impl_places_S N)]
theorem impl_HammingOf_gok (N : Nat) : GOk Try.prog (impl_HammingOf_G N) := gOf_ok ⟨impl_isAssignment_pc N, impl_places_pc N, trivial⟩
noncomputable def impl_HammingOf_code : Code := (Try.f17.body).getD .skip
noncomputable def impl_HammingOf (N : Nat) (a : (List Int)) (b : (List Int)) : Option ((Int × Bool × Unit) × (Unit)) :=
  (br (ilt 6 (tLen a))
    (some ((0, false, ()), ()))
    (((impl_isAssignment N (tLen a) a).bind fun r =>
      (br (!r.1.1)
        (some ((0, false, ()), ()))
        (((impl_isAssignment N (tLen a) b).bind fun r1 =>
          (br (!r1.1.1)
            (some ((0, false, ()), ()))
            (((impl_places N a b).bind fun r2 =>
              some (((tLen r2.1.1), true, ()), ()))))))))))
abbrev impl_HammingOf_ps : List (PV.Mode × Ty) := [(.ro, LI), (.ro, LI)]
abbrev impl_HammingOf_rs : List (Bool × Ty) := [(true, I), (true, .bool)]
noncomputable def impl_HammingOf_S (N : Nat) : FSum := ⟨impl_HammingOf_ps, impl_HammingOf_rs, fun x => impl_HammingOf N x.1 x.2.1⟩
theorem impl_HammingOf_eq (N : Nat) (x : argsT impl_HammingOf_ps) : impl_HammingOf N x.1 x.2.1 = funF (impl_HammingOf_G N) tab [] Try.f17 impl_HammingOf_ps impl_HammingOf_rs x := by kernel_rfl
theorem impl_HammingOf_pc (N : Nat) : PC Try.prog 17 (impl_HammingOf_S N) := by
  have e : impl_HammingOf_S N = ⟨impl_HammingOf_ps, impl_HammingOf_rs, funF (impl_HammingOf_G N) tab [] Try.f17 impl_HammingOf_ps impl_HammingOf_rs⟩ := congrArg (FSum.mk impl_HammingOf_ps impl_HammingOf_rs) (funext (impl_HammingOf_eq N))
  rw [e]
  exact fun_ok (c := impl_HammingOf_code) progOk (impl_HammingOf_gok N) (draw_ok progOk (impl_HammingOf_gok N)) Try.call17 Try.func17 (by kernel_rfl) (lsOk_at (L := []) trivial) (by kernel_rfl) (by kernel_rfl) (by kernel_rfl) (by kernel_rfl) (by kernel_rfl)

/-! ### laws_eqIntS -/
noncomputable def laws_eqIntS_G (N : Nat) : GTab := gOf []
theorem laws_eqIntS_gok (N : Nat) : GOk Try.prog (laws_eqIntS_G N) := gOf_ok trivial
noncomputable def laws_eqIntS_code : Code := (Try.f18.body).getD .skip
noncomputable def laws_eqIntS_l0_sh : Sh := ⟨[(0, .one (.ro LI)), (1, .one (.ro LI)), (5, .one (.ro I))], []⟩
noncomputable def laws_eqIntS_l0_ex : List (Ex × Sh) := [(.ret, ⟨[(4, .one (.ro .bool))], []⟩), (.exit 0, ⟨[], []⟩)]
noncomputable def laws_eqIntS_l0 {R : Type} (N : Nat) (k0 : Bool → Option R) (k1 : Unit → Option R) : Nat → (List Int) → (List Int) → Int → Option R
  | 0, _, _, _ => none
  | K + 1, a1, b1, i =>
    (br (ilt i (tLen a1))
      ((chk (inb a1 i)
        (chk (inb b1 i)
        (br (ine (rd I a1 i) (rd I b1 i))
        (k0 false)
        (laws_eqIntS_l0 N k0 k1 K a1 b1 (IntKind.i64.wrap (i + 1)))))))
      (k1 ()))
noncomputable def laws_eqIntS_l0_again {R : Type} (N : Nat) (ks : (j : Nat) → ((laws_eqIntS_l0_ex.getD j (.ret, Sh.none)).2).T → Option R) (k : Nat) (x : laws_eqIntS_l0_sh.T) : Option R :=
  laws_eqIntS_l0 N (fun y0 => ks 0 ((y0, ()), ())) (fun (_ : Unit) => ks 1 ((), ())) k x.1.1 x.1.2.1 x.1.2.2.1
noncomputable def laws_eqIntS_l0_s (N : Nat) : LSum := ⟨laws_eqIntS_l0_sh, laws_eqIntS_l0_ex, fun x ks => laws_eqIntS_l0_again N ks N x⟩
theorem laws_eqIntS_l0_step (N : Nat) (R : Type) (k : Nat) (x : laws_eqIntS_l0_sh.T) (ks : (j : Nat) → ((laws_eqIntS_l0_ex.getD j (.ret, Sh.none)).2).T → Option R) : laws_eqIntS_l0_again N ks (k + 1) x = roundF (laws_eqIntS_G N) tab [] (loopAt laws_eqIntS_code 0) laws_eqIntS_l0_sh laws_eqIntS_l0_ex (fun y => laws_eqIntS_l0_again N ks k y) ks x := by kernel_rfl
theorem laws_eqIntS_l0_ok (N : Nat) : LoopOk Try.prog Try.f18.ntmps (laws_eqIntS_l0_s N) (loopAt laws_eqIntS_code 0) :=
  loop_ok (l := laws_eqIntS_l0_s N) progOk (laws_eqIntS_gok N) (draw_ok progOk (laws_eqIntS_gok N)) (fun R k x ks => laws_eqIntS_l0_again N ks k x) (fun _ _ _ => rfl) (fun R k x ks => laws_eqIntS_l0_step N R k x ks) (fun R x ks r h => ⟨N, h⟩) (lsOk_at (L := []) trivial) (by kernel_rfl) (by kernel_rfl)
noncomputable def laws_eqIntS (N : Nat) (a : (List Int)) (b : (List Int)) : Option ((Bool × Unit) × (Unit)) :=
  (br (ine (tLen a) (tLen b))
    (some ((false, ()), ()))
    (laws_eqIntS_l0 N (fun x => some ((x, ()), ())) (fun (_ : Unit) => some ((true, ()), ())) N a b 0))
abbrev laws_eqIntS_ps : List (PV.Mode × Ty) := [(.ro, LI), (.ro, LI)]
abbrev laws_eqIntS_rs : List (Bool × Ty) := [(true, .bool)]
noncomputable def laws_eqIntS_S (N : Nat) : FSum := ⟨laws_eqIntS_ps, laws_eqIntS_rs, fun x => laws_eqIntS N x.1 x.2.1⟩
theorem laws_eqIntS_eq (N : Nat) (x : argsT laws_eqIntS_ps) : laws_eqIntS N x.1 x.2.1 = funF (laws_eqIntS_G N) tab [laws_eqIntS_l0_s N] Try.f18 laws_eqIntS_ps laws_eqIntS_rs x := by kernel_rfl
theorem laws_eqIntS_pc (N : Nat) : PC Try.prog 18 (laws_eqIntS_S N) := by
  have e : laws_eqIntS_S N = ⟨laws_eqIntS_ps, laws_eqIntS_rs, funF (laws_eqIntS_G N) tab [laws_eqIntS_l0_s N] Try.f18 laws_eqIntS_ps laws_eqIntS_rs⟩ := congrArg (FSum.mk laws_eqIntS_ps laws_eqIntS_rs) (funext (laws_eqIntS_eq N))
  rw [e]
  exact fun_ok (c := laws_eqIntS_code) progOk (laws_eqIntS_gok N) (draw_ok progOk (laws_eqIntS_gok N)) Try.call18 Try.func18 (by kernel_rfl) (lsOk_at (L := [laws_eqIntS_l0_s N]) ⟨laws_eqIntS_l0_ok N, trivial⟩) (by kernel_rfl) (by kernel_rfl) (by kernel_rfl) (by kernel_rfl) (by kernel_rfl)

/-! ### laws_FnExactHammingOf -/
noncomputable def laws_FnExactHammingOf_G (N : Nat) : GTab := gOf [(16, laws_toIntS_S N), (15, spec_HammingOf_S N), (17, impl_HammingOf_S N), (18, laws_eqIntS_S N)]
theorem laws_FnExactHammingOf_gok (N : Nat) : GOk Try.prog (laws_FnExactHammingOf_G N) := gOf_ok ⟨laws_toIntS_pc N, spec_HammingOf_pc N, impl_HammingOf_pc N, laws_eqIntS_pc N, trivial⟩
noncomputable def laws_FnExactHammingOf_code : Code := (Try.f3.body).getD .skip
noncomputable def laws_FnExactHammingOf (N : Nat) (aA : (List Int)) (aB : (List Int)) : Option ((Bool × Unit) × (Unit)) :=
  (br (ilt 1048576 (tLen aA))
    (some ((true, ()), ()))
    ((br (ilt 1048576 (tLen aB))
      (some ((true, ()), ()))
      (((laws_toIntS N aA).bind fun r =>
        ((laws_toIntS N aB).bind fun r1 =>
          ((spec_HammingOf N r.1.1 r1.1.1).bind fun r2 =>
            ((laws_toIntS N aA).bind fun r3 =>
              ((laws_toIntS N aB).bind fun r4 =>
                ((impl_HammingOf N r3.1.1 r4.1.1).bind fun r5 =>
                  (br (ine r5.1.1 r2.1.1)
                    (some ((false, ()), ()))
                    ((br (!(r5.1.2.1 == r2.1.2.1))
                      (some ((false, ()), ()))
                      (((laws_toIntS N aA).bind fun r6 =>
                        ((laws_eqIntS N r3.1.1 r6.1.1).bind fun r7 =>
                          (br (!r7.1.1)
                            (some ((false, ()), ()))
                            (((laws_toIntS N aB).bind fun r8 =>
                              ((laws_eqIntS N r4.1.1 r8.1.1).bind fun r9 =>
                                (br (!r9.1.1)
                                  (some ((false, ()), ()))
                                  (some ((true, ()), ())))))))))))))))))))))))
abbrev laws_FnExactHammingOf_ps : List (PV.Mode × Ty) := [(.ro, LI), (.ro, LI)]
abbrev laws_FnExactHammingOf_rs : List (Bool × Ty) := [(true, .bool)]
noncomputable def laws_FnExactHammingOf_S (N : Nat) : FSum := ⟨laws_FnExactHammingOf_ps, laws_FnExactHammingOf_rs, fun x => laws_FnExactHammingOf N x.1 x.2.1⟩
theorem laws_FnExactHammingOf_eq (N : Nat) (x : argsT laws_FnExactHammingOf_ps) : laws_FnExactHammingOf N x.1 x.2.1 = funF (laws_FnExactHammingOf_G N) tab [] Try.f3 laws_FnExactHammingOf_ps laws_FnExactHammingOf_rs x := by kernel_rfl
theorem laws_FnExactHammingOf_pc (N : Nat) : PC Try.prog 3 (laws_FnExactHammingOf_S N) := by
  have e : laws_FnExactHammingOf_S N = ⟨laws_FnExactHammingOf_ps, laws_FnExactHammingOf_rs, funF (laws_FnExactHammingOf_G N) tab [] Try.f3 laws_FnExactHammingOf_ps laws_FnExactHammingOf_rs⟩ := congrArg (FSum.mk laws_FnExactHammingOf_ps laws_FnExactHammingOf_rs) (funext (laws_FnExactHammingOf_eq N))
  rw [e]
  exact fun_ok (c := laws_FnExactHammingOf_code) progOk (laws_FnExactHammingOf_gok N) (draw_ok progOk (laws_FnExactHammingOf_gok N)) Try.call3 Try.func3 (by kernel_rfl) (lsOk_at (L := []) trivial) (by kernel_rfl) (by kernel_rfl) (by kernel_rfl) (by kernel_rfl) (by kernel_rfl)
end Go.Proofs.Ytbnebekejbhopaa
