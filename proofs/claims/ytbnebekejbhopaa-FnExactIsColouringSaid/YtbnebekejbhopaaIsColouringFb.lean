/- Functions of the program as functions on data. -/
import Derived.Test.YtbnebekejbhopaaIsColouringFa
set_option linter.all false
namespace Go.Proofs.Ytbnebekejbhopaa
open Go Go.PV
/-! ### slices_ContainsFunc_LP_P2 -/
noncomputable def slices_ContainsFunc_LP_P2_G (N : Nat) : GTab := gOf [(122, slices_IndexFunc_LP_P2_S N)]
theorem slices_ContainsFunc_LP_P2_gok (N : Nat) : GOk Try.prog (slices_ContainsFunc_LP_P2_G N) := gOf_ok ⟨slices_IndexFunc_LP_P2_pc N, trivial⟩
noncomputable def slices_ContainsFunc_LP_P2_code : Code := (Try.f111.body).getD .skip
noncomputable def slices_ContainsFunc_LP_P2 (N : Nat) (s : (List (Int × Int))) (f : ((Int × Int) → Option Bool)) : Option ((Bool × Unit) × (Unit)) :=
  ((slices_IndexFunc_LP_P2 N s f).bind fun r =>
    some (((ile 0 r.1.1), ()), ()))
abbrev slices_ContainsFunc_LP_P2_ps : List (PV.Mode × Ty) := [(.ro, LQII), (.ro, FQIIBo)]
abbrev slices_ContainsFunc_LP_P2_rs : List (Bool × Ty) := [(true, .bool)]
noncomputable def slices_ContainsFunc_LP_P2_S (N : Nat) : FSum := ⟨slices_ContainsFunc_LP_P2_ps, slices_ContainsFunc_LP_P2_rs, fun x => slices_ContainsFunc_LP_P2 N x.1 x.2.1⟩
theorem slices_ContainsFunc_LP_P2_run (N : Nat) (x : argsT slices_ContainsFunc_LP_P2_ps) : slices_ContainsFunc_LP_P2 N x.1 x.2.1 = funF (slices_ContainsFunc_LP_P2_G N) tab [] Try.f111 slices_ContainsFunc_LP_P2_ps slices_ContainsFunc_LP_P2_rs x := by kernel_rfl
theorem slices_ContainsFunc_LP_P2_pc (N : Nat) : PC Try.prog 111 (slices_ContainsFunc_LP_P2_S N) := by
  have e : slices_ContainsFunc_LP_P2_S N = ⟨slices_ContainsFunc_LP_P2_ps, slices_ContainsFunc_LP_P2_rs, funF (slices_ContainsFunc_LP_P2_G N) tab [] Try.f111 slices_ContainsFunc_LP_P2_ps slices_ContainsFunc_LP_P2_rs⟩ := congrArg (FSum.mk slices_ContainsFunc_LP_P2_ps slices_ContainsFunc_LP_P2_rs) (funext (slices_ContainsFunc_LP_P2_run N))
  rw [e]
  exact fun_ok (c := slices_ContainsFunc_LP_P2_code) progOk (slices_ContainsFunc_LP_P2_gok N) (draw_ok progOk (slices_ContainsFunc_LP_P2_gok N)) Try.call111 Try.func111 (by kernel_rfl) (lsOk_at (L := []) trivial) (by kernel_rfl) (by kernel_rfl) (by kernel_rfl) (by kernel_rfl) (by kernel_rfl)

/-! ### impl_Graph_isColouring_c2 -/
noncomputable def impl_Graph_isColouring_c2_G (N : Nat) : GTab := gOf []
theorem impl_Graph_isColouring_c2_gok (N : Nat) : GOk Try.prog (impl_Graph_isColouring_c2_G N) := gOf_ok trivial
noncomputable def impl_Graph_isColouring_c2_code : Code := (Try.f112.body).getD .skip
noncomputable def impl_Graph_isColouring_c2 (N : Nat) (e : (Int × Int)) (c : (List Int)) : Option ((Bool × Unit) × (Unit)) :=
  (chk (inb c e.1)
    (chk (inb c e.2)
    (some (((ieq (rdI c e.1) (rdI c e.2)), ()), ()))))
abbrev impl_Graph_isColouring_c2_ps : List (PV.Mode × Ty) := [(.ro, QII), (.ro, ALI)]
abbrev impl_Graph_isColouring_c2_rs : List (Bool × Ty) := [(true, .bool)]
noncomputable def impl_Graph_isColouring_c2_S (N : Nat) : FSum := ⟨impl_Graph_isColouring_c2_ps, impl_Graph_isColouring_c2_rs, fun x => impl_Graph_isColouring_c2 N x.1 x.2.1⟩
theorem impl_Graph_isColouring_c2_run (N : Nat) (x : argsT impl_Graph_isColouring_c2_ps) : impl_Graph_isColouring_c2 N x.1 x.2.1 = funF (impl_Graph_isColouring_c2_G N) tab [] Try.f112 impl_Graph_isColouring_c2_ps impl_Graph_isColouring_c2_rs x := by kernel_rfl
theorem impl_Graph_isColouring_c2_pc (N : Nat) : PC Try.prog 112 (impl_Graph_isColouring_c2_S N) := by
  have e : impl_Graph_isColouring_c2_S N = ⟨impl_Graph_isColouring_c2_ps, impl_Graph_isColouring_c2_rs, funF (impl_Graph_isColouring_c2_G N) tab [] Try.f112 impl_Graph_isColouring_c2_ps impl_Graph_isColouring_c2_rs⟩ := congrArg (FSum.mk impl_Graph_isColouring_c2_ps impl_Graph_isColouring_c2_rs) (funext (impl_Graph_isColouring_c2_run N))
  rw [e]
  exact fun_ok (c := impl_Graph_isColouring_c2_code) progOk (impl_Graph_isColouring_c2_gok N) (draw_ok progOk (impl_Graph_isColouring_c2_gok N)) Try.call112 Try.func112 (by kernel_rfl) (lsOk_at (L := []) trivial) (by kernel_rfl) (by kernel_rfl) (by kernel_rfl) (by kernel_rfl) (by kernel_rfl)

/-! ### impl_Graph_isColouring -/
noncomputable def impl_Graph_isColouring_G (N : Nat) : GTab := gOf [(97, slices_ContainsFunc_LI_int_S N), (110, impl_Graph_isColouring_c1_S N), (111, slices_ContainsFunc_LP_P2_S N), (112, impl_Graph_isColouring_c2_S N)]
theorem impl_Graph_isColouring_gok (N : Nat) : GOk Try.prog (impl_Graph_isColouring_G N) := gOf_ok ⟨slices_ContainsFunc_LI_int_pc N, impl_Graph_isColouring_c1_pc N, slices_ContainsFunc_LP_P2_pc N, impl_Graph_isColouring_c2_pc N, trivial⟩
noncomputable def impl_Graph_isColouring_code : Code := (Try.f77.body).getD .skip
noncomputable def impl_Graph_isColouring (N : Nat) (g : (Int × (List (Int × Int)))) (kv : Int) (colours : (List Int)) : Option ((Bool × Unit) × (Unit)) :=
  (br (ine (tLen colours) g.1)
    (some ((false, ()), ()))
    (((slices_ContainsFunc_LI_int N colours (fun y0 => (impl_Graph_isColouring_c1 N y0 kv).bind fun z => some z.1.1)).bind fun r =>
      (br r.1.1
        (some ((false, ()), ()))
        (((slices_ContainsFunc_LP_P2 N g.2 (fun y0 => (impl_Graph_isColouring_c2 N y0 colours).bind fun z => some z.1.1)).bind fun r1 =>
          some (((!r1.1.1), ()), ())))))))
abbrev impl_Graph_isColouring_ps : List (PV.Mode × Ty) := [(.ro, QILQII), (.ro, I), (.ro, LI)]
abbrev impl_Graph_isColouring_rs : List (Bool × Ty) := [(true, .bool)]
noncomputable def impl_Graph_isColouring_S (N : Nat) : FSum := ⟨impl_Graph_isColouring_ps, impl_Graph_isColouring_rs, fun x => impl_Graph_isColouring N x.1 x.2.1 x.2.2.1⟩
theorem impl_Graph_isColouring_run (N : Nat) (x : argsT impl_Graph_isColouring_ps) : impl_Graph_isColouring N x.1 x.2.1 x.2.2.1 = funF (impl_Graph_isColouring_G N) tab [] Try.f77 impl_Graph_isColouring_ps impl_Graph_isColouring_rs x := by kernel_rfl
theorem impl_Graph_isColouring_pc (N : Nat) : PC Try.prog 77 (impl_Graph_isColouring_S N) := by
  have e : impl_Graph_isColouring_S N = ⟨impl_Graph_isColouring_ps, impl_Graph_isColouring_rs, funF (impl_Graph_isColouring_G N) tab [] Try.f77 impl_Graph_isColouring_ps impl_Graph_isColouring_rs⟩ := congrArg (FSum.mk impl_Graph_isColouring_ps impl_Graph_isColouring_rs) (funext (impl_Graph_isColouring_run N))
  rw [e]
  exact fun_ok (c := impl_Graph_isColouring_code) progOk (impl_Graph_isColouring_gok N) (draw_ok progOk (impl_Graph_isColouring_gok N)) Try.call77 Try.func77 (by kernel_rfl) (lsOk_at (L := []) trivial) (by kernel_rfl) (by kernel_rfl) (by kernel_rfl) (by kernel_rfl) (by kernel_rfl)

/-! ### impl_IsColouring -/
noncomputable def impl_IsColouring_G (N : Nat) : GTab := gOf [(76, impl_isColourCase_S N), (77, impl_Graph_isColouring_S N)]
theorem impl_IsColouring_gok (N : Nat) : GOk Try.prog (impl_IsColouring_G N) := gOf_ok ⟨impl_isColourCase_pc N, impl_Graph_isColouring_pc N, trivial⟩
noncomputable def impl_IsColouring_code : Code := (Try.f36.body).getD .skip
noncomputable def impl_IsColouring (N : Nat) (g : (Int × (List (Int × Int)))) (kv : Int) (colours : (List Int)) : Option ((Bool × Bool × Unit) × (Unit)) :=
  ((impl_isColourCase N (g.1, g.2) kv).bind fun r =>
    (br (!r.1.1)
      (some ((false, false, ()), ()))
      (((impl_Graph_isColouring N (g.1, g.2) kv colours).bind fun r1 =>
        some ((r1.1.1, true, ()), ())))))
abbrev impl_IsColouring_ps : List (PV.Mode × Ty) := [(.ro, QILQII), (.ro, I), (.ro, LI)]
abbrev impl_IsColouring_rs : List (Bool × Ty) := [(true, .bool), (true, .bool)]
noncomputable def impl_IsColouring_S (N : Nat) : FSum := ⟨impl_IsColouring_ps, impl_IsColouring_rs, fun x => impl_IsColouring N x.1 x.2.1 x.2.2.1⟩
theorem impl_IsColouring_run (N : Nat) (x : argsT impl_IsColouring_ps) : impl_IsColouring N x.1 x.2.1 x.2.2.1 = funF (impl_IsColouring_G N) tab [] Try.f36 impl_IsColouring_ps impl_IsColouring_rs x := by kernel_rfl
theorem impl_IsColouring_pc (N : Nat) : PC Try.prog 36 (impl_IsColouring_S N) := by
  have e : impl_IsColouring_S N = ⟨impl_IsColouring_ps, impl_IsColouring_rs, funF (impl_IsColouring_G N) tab [] Try.f36 impl_IsColouring_ps impl_IsColouring_rs⟩ := congrArg (FSum.mk impl_IsColouring_ps impl_IsColouring_rs) (funext (impl_IsColouring_run N))
  rw [e]
  exact fun_ok (c := impl_IsColouring_code) progOk (impl_IsColouring_gok N) (draw_ok progOk (impl_IsColouring_gok N)) Try.call36 Try.func36 (by kernel_rfl) (lsOk_at (L := []) trivial) (by kernel_rfl) (by kernel_rfl) (by kernel_rfl) (by kernel_rfl) (by kernel_rfl)

/-! ### laws_eqIntA2 -/
noncomputable def laws_eqIntA2_G (N : Nat) : GTab := gOf []
theorem laws_eqIntA2_gok (N : Nat) : GOk Try.prog (laws_eqIntA2_G N) := gOf_ok trivial
noncomputable def laws_eqIntA2_code : Code := (Try.f113.body).getD .skip
noncomputable def laws_eqIntA2_l0_sh : Sh := ⟨[(2, .one (.adr 0 0)), (3, .one (.adr 1 0)), (5, .one (.num .i64 0))], [.box [.ro I, .ro I], .box [.ro I, .ro I]]⟩
noncomputable def laws_eqIntA2_l0_ex : List (Ex × Sh) := [(.ret, ⟨[(4, .one (.ro .bool))], []⟩), (.exit 0, ⟨[], []⟩)]
noncomputable def laws_eqIntA2_l0 {R : Type} (N : Nat) (k0 : Bool → Option R) (k1 : Unit → Option R) (_ : Nat) (o4 : Int) (o5 : Int) (o6 : Int) (o7 : Int) : Option R :=
  (br (ine o4 o6)
    (k0 false)
    ((br (ine o5 o7)
      (k0 false)
      (k1 ()))))
noncomputable def laws_eqIntA2_l0_again {R : Type} (N : Nat) (ks : (j : Nat) → ((laws_eqIntA2_l0_ex.getD j (.ret, Sh.none)).2).T → Option R) (x : laws_eqIntA2_l0_sh.T) : Option R :=
  laws_eqIntA2_l0 N (fun y0 => ks 0 ((y0, ()), ())) (fun (_ : Unit) => ks 1 ((), ())) N x.2.1.1 x.2.1.2.1 x.2.2.1.1 x.2.2.1.2.1
noncomputable def laws_eqIntA2_l0_s (N : Nat) : LSum := ⟨laws_eqIntA2_l0_sh, laws_eqIntA2_l0_ex, fun x ks => laws_eqIntA2_l0_again N ks x⟩
theorem laws_eqIntA2_l0_unr (N : Nat) (R : Type) (x : laws_eqIntA2_l0_sh.T) (ks : (j : Nat) → ((laws_eqIntA2_l0_ex.getD j (.ret, Sh.none)).2).T → Option R) : laws_eqIntA2_l0_again N ks x = unrF (laws_eqIntA2_G N) tab (loopAt laws_eqIntA2_code 0) laws_eqIntA2_l0_ex ks 3 (fill laws_eqIntA2_l0_sh x) := by kernel_rfl
theorem laws_eqIntA2_l0_ok (N : Nat) : LoopOk Try.prog Try.f113.ntmps (laws_eqIntA2_l0_s N) (loopAt laws_eqIntA2_code 0) :=
  unroll_ok (l := laws_eqIntA2_l0_s N) progOk (laws_eqIntA2_gok N) (draw_ok progOk (laws_eqIntA2_gok N)) (fun R x ks r h => ⟨3, (laws_eqIntA2_l0_unr N R x ks).symm.trans h⟩) (by kernel_rfl) (by kernel_rfl)
noncomputable def laws_eqIntA2 (N : Nat) (a : (Int × Int)) (b : (Int × Int)) : Option ((Bool × Unit) × (Unit)) :=
  laws_eqIntA2_l0 N (fun x => some ((x, ()), ())) (fun (_ : Unit) => some ((true, ()), ())) N a.1 a.2 b.1 b.2
abbrev laws_eqIntA2_ps : List (PV.Mode × Ty) := [(.ro, QII), (.ro, QII)]
abbrev laws_eqIntA2_rs : List (Bool × Ty) := [(true, .bool)]
noncomputable def laws_eqIntA2_S (N : Nat) : FSum := ⟨laws_eqIntA2_ps, laws_eqIntA2_rs, fun x => laws_eqIntA2 N x.1 x.2.1⟩
theorem laws_eqIntA2_run (N : Nat) (x : argsT laws_eqIntA2_ps) : laws_eqIntA2 N x.1 x.2.1 = funF (laws_eqIntA2_G N) tab [laws_eqIntA2_l0_s N] Try.f113 laws_eqIntA2_ps laws_eqIntA2_rs x := by kernel_rfl
theorem laws_eqIntA2_pc (N : Nat) : PC Try.prog 113 (laws_eqIntA2_S N) := by
  have e : laws_eqIntA2_S N = ⟨laws_eqIntA2_ps, laws_eqIntA2_rs, funF (laws_eqIntA2_G N) tab [laws_eqIntA2_l0_s N] Try.f113 laws_eqIntA2_ps laws_eqIntA2_rs⟩ := congrArg (FSum.mk laws_eqIntA2_ps laws_eqIntA2_rs) (funext (laws_eqIntA2_run N))
  rw [e]
  exact fun_ok (c := laws_eqIntA2_code) progOk (laws_eqIntA2_gok N) (draw_ok progOk (laws_eqIntA2_gok N)) Try.call113 Try.func113 (by kernel_rfl) (lsOk_at (L := [laws_eqIntA2_l0_s N]) ⟨laws_eqIntA2_l0_ok N, trivial⟩) (by kernel_rfl) (by kernel_rfl) (by kernel_rfl) (by kernel_rfl) (by kernel_rfl)

/-! ### laws_eqIntA2S -/
noncomputable def laws_eqIntA2S_G (N : Nat) : GTab := gOf [(113, laws_eqIntA2_S N)]
theorem laws_eqIntA2S_gok (N : Nat) : GOk Try.prog (laws_eqIntA2S_G N) := gOf_ok ⟨laws_eqIntA2_pc N, trivial⟩
noncomputable def laws_eqIntA2S_code : Code := (Try.f78.body).getD .skip
noncomputable def laws_eqIntA2S_l0_sh : Sh := ⟨[(0, .one (.ro LQII)), (1, .one (.ro LQII)), (5, .one (.ro I))], []⟩
noncomputable def laws_eqIntA2S_l0_ex : List (Ex × Sh) := [(.ret, ⟨[(4, .one (.ro .bool))], []⟩), (.exit 0, ⟨[], []⟩)]
noncomputable def laws_eqIntA2S_l0 {R : Type} (N : Nat) (k0 : Bool → Option R) (k1 : Unit → Option R) : Nat → (List (Int × Int)) → (List (Int × Int)) → Int → Option R
  | 0, _, _, _ => none
  | K + 1, a1, b1, i =>
    (br (ilt i (tLen a1))
      ((chk (inb a1 i)
        (chk (inb b1 i)
        ((laws_eqIntA2 N (rdP a1 i) (rdP b1 i)).bind fun r =>
        (br (!r.1.1)
          (k0 false)
          (laws_eqIntA2S_l0 N k0 k1 K a1 b1 (IntKind.i64.wrap (i + 1))))))))
      (k1 ()))
noncomputable def laws_eqIntA2S_l0_again {R : Type} (N : Nat) (ks : (j : Nat) → ((laws_eqIntA2S_l0_ex.getD j (.ret, Sh.none)).2).T → Option R) (k : Nat) (x : laws_eqIntA2S_l0_sh.T) : Option R :=
  laws_eqIntA2S_l0 N (fun y0 => ks 0 ((y0, ()), ())) (fun (_ : Unit) => ks 1 ((), ())) k x.1.1 x.1.2.1 x.1.2.2.1
noncomputable def laws_eqIntA2S_l0_s (N : Nat) : LSum := ⟨laws_eqIntA2S_l0_sh, laws_eqIntA2S_l0_ex, fun x ks => laws_eqIntA2S_l0_again N ks N x⟩
theorem laws_eqIntA2S_l0_step (N : Nat) (R : Type) (k : Nat) (x : laws_eqIntA2S_l0_sh.T) (ks : (j : Nat) → ((laws_eqIntA2S_l0_ex.getD j (.ret, Sh.none)).2).T → Option R) : laws_eqIntA2S_l0_again N ks (k + 1) x = roundF (laws_eqIntA2S_G N) tab [] (loopAt laws_eqIntA2S_code 0) laws_eqIntA2S_l0_sh laws_eqIntA2S_l0_ex (fun y => laws_eqIntA2S_l0_again N ks k y) ks x := by kernel_rfl
theorem laws_eqIntA2S_l0_ok (N : Nat) : LoopOk Try.prog Try.f78.ntmps (laws_eqIntA2S_l0_s N) (loopAt laws_eqIntA2S_code 0) :=
  loop_ok (l := laws_eqIntA2S_l0_s N) progOk (laws_eqIntA2S_gok N) (draw_ok progOk (laws_eqIntA2S_gok N)) (fun R k x ks => laws_eqIntA2S_l0_again N ks k x) (fun _ _ _ => rfl) (fun R k x ks => laws_eqIntA2S_l0_step N R k x ks) (fun R x ks r h => ⟨N, h⟩) (lsOk_at (L := []) trivial) (by kernel_rfl) (by kernel_rfl)
noncomputable def laws_eqIntA2S (N : Nat) (a : (List (Int × Int))) (b : (List (Int × Int))) : Option ((Bool × Unit) × (Unit)) :=
  (br (ine (tLen a) (tLen b))
    (some ((false, ()), ()))
    (laws_eqIntA2S_l0 N (fun x => some ((x, ()), ())) (fun (_ : Unit) => some ((true, ()), ())) N a b 0))
abbrev laws_eqIntA2S_ps : List (PV.Mode × Ty) := [(.ro, LQII), (.ro, LQII)]
abbrev laws_eqIntA2S_rs : List (Bool × Ty) := [(true, .bool)]
noncomputable def laws_eqIntA2S_S (N : Nat) : FSum := ⟨laws_eqIntA2S_ps, laws_eqIntA2S_rs, fun x => laws_eqIntA2S N x.1 x.2.1⟩
theorem laws_eqIntA2S_run (N : Nat) (x : argsT laws_eqIntA2S_ps) : laws_eqIntA2S N x.1 x.2.1 = funF (laws_eqIntA2S_G N) tab [laws_eqIntA2S_l0_s N] Try.f78 laws_eqIntA2S_ps laws_eqIntA2S_rs x := by kernel_rfl
theorem laws_eqIntA2S_pc (N : Nat) : PC Try.prog 78 (laws_eqIntA2S_S N) := by
  have e : laws_eqIntA2S_S N = ⟨laws_eqIntA2S_ps, laws_eqIntA2S_rs, funF (laws_eqIntA2S_G N) tab [laws_eqIntA2S_l0_s N] Try.f78 laws_eqIntA2S_ps laws_eqIntA2S_rs⟩ := congrArg (FSum.mk laws_eqIntA2S_ps laws_eqIntA2S_rs) (funext (laws_eqIntA2S_run N))
  rw [e]
  exact fun_ok (c := laws_eqIntA2S_code) progOk (laws_eqIntA2S_gok N) (draw_ok progOk (laws_eqIntA2S_gok N)) Try.call78 Try.func78 (by kernel_rfl) (lsOk_at (L := [laws_eqIntA2S_l0_s N]) ⟨laws_eqIntA2S_l0_ok N, trivial⟩) (by kernel_rfl) (by kernel_rfl) (by kernel_rfl) (by kernel_rfl) (by kernel_rfl)

/-! ### laws_eqGraph -/
noncomputable def laws_eqGraph_G (N : Nat) : GTab := gOf [(78, laws_eqIntA2S_S N)]
theorem laws_eqGraph_gok (N : Nat) : GOk Try.prog (laws_eqGraph_G N) := gOf_ok ⟨laws_eqIntA2S_pc N, trivial⟩
noncomputable def laws_eqGraph_code : Code := (Try.f37.body).getD .skip
noncomputable def laws_eqGraph (N : Nat) (a : (Int × (List (Int × Int)))) (b : (Int × (List (Int × Int)))) : Option ((Bool × Unit) × (Unit)) :=
  (br (ine a.1 b.1)
    (some ((false, ()), ()))
    (((laws_eqIntA2S N a.2 b.2).bind fun r =>
      (br (!r.1.1)
        (some ((false, ()), ()))
        (some ((true, ()), ()))))))
abbrev laws_eqGraph_ps : List (PV.Mode × Ty) := [(.ro, QILQII), (.ro, QILQII)]
abbrev laws_eqGraph_rs : List (Bool × Ty) := [(true, .bool)]
noncomputable def laws_eqGraph_S (N : Nat) : FSum := ⟨laws_eqGraph_ps, laws_eqGraph_rs, fun x => laws_eqGraph N x.1 x.2.1⟩
theorem laws_eqGraph_run (N : Nat) (x : argsT laws_eqGraph_ps) : laws_eqGraph N x.1 x.2.1 = funF (laws_eqGraph_G N) tab [] Try.f37 laws_eqGraph_ps laws_eqGraph_rs x := by kernel_rfl
theorem laws_eqGraph_pc (N : Nat) : PC Try.prog 37 (laws_eqGraph_S N) := by
  have e : laws_eqGraph_S N = ⟨laws_eqGraph_ps, laws_eqGraph_rs, funF (laws_eqGraph_G N) tab [] Try.f37 laws_eqGraph_ps laws_eqGraph_rs⟩ := congrArg (FSum.mk laws_eqGraph_ps laws_eqGraph_rs) (funext (laws_eqGraph_run N))
  rw [e]
  exact fun_ok (c := laws_eqGraph_code) progOk (laws_eqGraph_gok N) (draw_ok progOk (laws_eqGraph_gok N)) Try.call37 Try.func37 (by kernel_rfl) (lsOk_at (L := []) trivial) (by kernel_rfl) (by kernel_rfl) (by kernel_rfl) (by kernel_rfl) (by kernel_rfl)

/-! ### laws_eqIntS -/
noncomputable def laws_eqIntS_G (N : Nat) : GTab := gOf []
theorem laws_eqIntS_gok (N : Nat) : GOk Try.prog (laws_eqIntS_G N) := gOf_ok trivial
noncomputable def laws_eqIntS_code : Code := (Try.f18.body).getD .skip
noncomputable def laws_eqIntS_l0_sh : Sh := ⟨[(0, .one (.ro LI)), (1, .one (.ro LI)), (5, .one (.ro I))], []⟩
noncomputable def laws_eqIntS_l0_ex : List (Ex × Sh) := [(.ret, ⟨[(4, .one (.ro .bool))], []⟩), (.exit 0, ⟨[], []⟩)]
noncomputable def laws_eqIntS_l0 {R : Type} (N : Nat) (k0 : Bool → Option R) (k1 : Unit → Option R) : Nat → (List Int) → (List Int) → Int → Option R
  | 0, _, _, _ => none
  | K + 1, a1, b1, i =>
    (br (ilt i (tLen a1))
      ((chk (inb a1 i)
        (chk (inb b1 i)
        (br (ine (rdI a1 i) (rdI b1 i))
        (k0 false)
        (laws_eqIntS_l0 N k0 k1 K a1 b1 (IntKind.i64.wrap (i + 1)))))))
      (k1 ()))
noncomputable def laws_eqIntS_l0_again {R : Type} (N : Nat) (ks : (j : Nat) → ((laws_eqIntS_l0_ex.getD j (.ret, Sh.none)).2).T → Option R) (k : Nat) (x : laws_eqIntS_l0_sh.T) : Option R :=
  laws_eqIntS_l0 N (fun y0 => ks 0 ((y0, ()), ())) (fun (_ : Unit) => ks 1 ((), ())) k x.1.1 x.1.2.1 x.1.2.2.1
noncomputable def laws_eqIntS_l0_s (N : Nat) : LSum := ⟨laws_eqIntS_l0_sh, laws_eqIntS_l0_ex, fun x ks => laws_eqIntS_l0_again N ks N x⟩
theorem laws_eqIntS_l0_step (N : Nat) (R : Type) (k : Nat) (x : laws_eqIntS_l0_sh.T) (ks : (j : Nat) → ((laws_eqIntS_l0_ex.getD j (.ret, Sh.none)).2).T → Option R) : laws_eqIntS_l0_again N ks (k + 1) x = roundF (laws_eqIntS_G N) tab [] (loopAt laws_eqIntS_code 0) laws_eqIntS_l0_sh laws_eqIntS_l0_ex (fun y => laws_eqIntS_l0_again N ks k y) ks x := by kernel_rfl
theorem laws_eqIntS_l0_ok (N : Nat) : LoopOk Try.prog Try.f18.ntmps (laws_eqIntS_l0_s N) (loopAt laws_eqIntS_code 0) :=
  loop_ok (l := laws_eqIntS_l0_s N) progOk (laws_eqIntS_gok N) (draw_ok progOk (laws_eqIntS_gok N)) (fun R k x ks => laws_eqIntS_l0_again N ks k x) (fun _ _ _ => rfl) (fun R k x ks => laws_eqIntS_l0_step N R k x ks) (fun R x ks r h => ⟨N, h⟩) (lsOk_at (L := []) trivial) (by kernel_rfl) (by kernel_rfl)
noncomputable def laws_eqIntS (N : Nat) (a : (List Int)) (b : (List Int)) : Option ((Bool × Unit) × (Unit)) :=
  (br (ine (tLen a) (tLen b))
    (some ((false, ()), ()))
    (laws_eqIntS_l0 N (fun x => some ((x, ()), ())) (fun (_ : Unit) => some ((true, ()), ())) N a b 0))
abbrev laws_eqIntS_ps : List (PV.Mode × Ty) := [(.ro, LI), (.ro, LI)]
abbrev laws_eqIntS_rs : List (Bool × Ty) := [(true, .bool)]
noncomputable def laws_eqIntS_S (N : Nat) : FSum := ⟨laws_eqIntS_ps, laws_eqIntS_rs, fun x => laws_eqIntS N x.1 x.2.1⟩
theorem laws_eqIntS_run (N : Nat) (x : argsT laws_eqIntS_ps) : laws_eqIntS N x.1 x.2.1 = funF (laws_eqIntS_G N) tab [laws_eqIntS_l0_s N] Try.f18 laws_eqIntS_ps laws_eqIntS_rs x := by kernel_rfl
theorem laws_eqIntS_pc (N : Nat) : PC Try.prog 18 (laws_eqIntS_S N) := by
  have e : laws_eqIntS_S N = ⟨laws_eqIntS_ps, laws_eqIntS_rs, funF (laws_eqIntS_G N) tab [laws_eqIntS_l0_s N] Try.f18 laws_eqIntS_ps laws_eqIntS_rs⟩ := congrArg (FSum.mk laws_eqIntS_ps laws_eqIntS_rs) (funext (laws_eqIntS_run N))
  rw [e]
  exact fun_ok (c := laws_eqIntS_code) progOk (laws_eqIntS_gok N) (draw_ok progOk (laws_eqIntS_gok N)) Try.call18 Try.func18 (by kernel_rfl) (lsOk_at (L := [laws_eqIntS_l0_s N]) ⟨laws_eqIntS_l0_ok N, trivial⟩) (by kernel_rfl) (by kernel_rfl) (by kernel_rfl) (by kernel_rfl) (by kernel_rfl)

/-! ### laws_FnExactIsColouring -/
noncomputable def laws_FnExactIsColouring_G (N : Nat) : GTab := gOf [(33, laws_szGraph_S N), (35, laws_toGraph_S N), (16, laws_toIntS_S N), (34, spec_IsColouring_S N), (36, impl_IsColouring_S N), (37, laws_eqGraph_S N), (18, laws_eqIntS_S N)]
theorem laws_FnExactIsColouring_gok (N : Nat) : GOk Try.prog (laws_FnExactIsColouring_G N) := gOf_ok ⟨laws_szGraph_pc N, laws_toGraph_pc N, laws_toIntS_pc N, spec_IsColouring_pc N, impl_IsColouring_pc N, laws_eqGraph_pc N, laws_eqIntS_pc N, trivial⟩
noncomputable def laws_FnExactIsColouring_code : Code := (Try.f8.body).getD .skip
noncomputable def laws_FnExactIsColouring (N : Nat) (aG : (Int × (List (Int × Int)))) (aK : Int) (aColours : (List Int)) : Option ((Bool × Unit) × (Unit)) :=
  (br (ilt 1048576 (tLen aColours))
    (some ((true, ()), ()))
    (((laws_szGraph N (aG.1, aG.2) 1048576).bind fun r =>
      (br (ilt r.1.1 0)
        (some ((true, ()), ()))
        (((laws_toGraph N (aG.1, aG.2)).bind fun r1 =>
          ((laws_toIntS N aColours).bind fun r2 =>
            ((spec_IsColouring N (r1.1.1.1, r1.1.1.2) aK r2.1.1).bind fun r3 =>
              ((laws_toGraph N (aG.1, aG.2)).bind fun r4 =>
                ((laws_toIntS N aColours).bind fun r5 =>
                  ((impl_IsColouring N (r4.1.1.1, r4.1.1.2) aK r5.1.1).bind fun r6 =>
                    (br (!(r6.1.1 == r3.1.1))
                      (some ((false, ()), ()))
                      ((br (!(r6.1.2.1 == r3.1.2.1))
                        (some ((false, ()), ()))
                        (((laws_toGraph N (aG.1, aG.2)).bind fun r7 =>
                          ((laws_eqGraph N (r4.1.1.1, r4.1.1.2) (r7.1.1.1, r7.1.1.2)).bind fun r8 =>
                            (br (!r8.1.1)
                              (some ((false, ()), ()))
                              (((laws_toIntS N aColours).bind fun r9 =>
                                ((laws_eqIntS N r5.1.1 r9.1.1).bind fun r10 =>
                                  (br (!r10.1.1)
                                    (some ((false, ()), ()))
                                    (some ((true, ()), ()))))))))))))))))))))))))
abbrev laws_FnExactIsColouring_ps : List (PV.Mode × Ty) := [(.ro, QILQII), (.ro, I), (.ro, LI)]
abbrev laws_FnExactIsColouring_rs : List (Bool × Ty) := [(true, .bool)]
noncomputable def laws_FnExactIsColouring_S (N : Nat) : FSum := ⟨laws_FnExactIsColouring_ps, laws_FnExactIsColouring_rs, fun x => laws_FnExactIsColouring N x.1 x.2.1 x.2.2.1⟩
theorem laws_FnExactIsColouring_run (N : Nat) (x : argsT laws_FnExactIsColouring_ps) : laws_FnExactIsColouring N x.1 x.2.1 x.2.2.1 = funF (laws_FnExactIsColouring_G N) tab [] Try.f8 laws_FnExactIsColouring_ps laws_FnExactIsColouring_rs x := by kernel_rfl
theorem laws_FnExactIsColouring_pc (N : Nat) : PC Try.prog 8 (laws_FnExactIsColouring_S N) := by
  have e : laws_FnExactIsColouring_S N = ⟨laws_FnExactIsColouring_ps, laws_FnExactIsColouring_rs, funF (laws_FnExactIsColouring_G N) tab [] Try.f8 laws_FnExactIsColouring_ps laws_FnExactIsColouring_rs⟩ := congrArg (FSum.mk laws_FnExactIsColouring_ps laws_FnExactIsColouring_rs) (funext (laws_FnExactIsColouring_run N))
  rw [e]
  exact fun_ok (c := laws_FnExactIsColouring_code) progOk (laws_FnExactIsColouring_gok N) (draw_ok progOk (laws_FnExactIsColouring_gok N)) Try.call8 Try.func8 (by kernel_rfl) (lsOk_at (L := []) trivial) (by kernel_rfl) (by kernel_rfl) (by kernel_rfl) (by kernel_rfl) (by kernel_rfl)
end Go.Proofs.Ytbnebekejbhopaa
