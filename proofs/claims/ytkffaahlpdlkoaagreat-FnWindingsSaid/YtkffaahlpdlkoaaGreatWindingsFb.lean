/- Functions of the program as functions on data. -/
import Derived.Test.YtkffaahlpdlkoaaGreatWindingsFa
set_option linter.all false
namespace Go.Proofs.YtkffaahlpdlkoaaGreat
open Go Go.PV
/-! ### cmp_Or_int -/
abbrev cmp_Or_int_ps : List (PV.Mode × Ty) := [(.ro, LI)]
abbrev cmp_Or_int_rs : List (Bool × Ty) := [(true, I)]
noncomputable def cmp_Or_int_G (N : Nat) : GTab := gOf []
theorem cmp_Or_int_gok (N : Nat) : GOk Tryz.prog (cmp_Or_int_G N) := gOf_ok trivial
noncomputable def cmp_Or_int_code : Code := (Tryz.f168.body).getD .skip
noncomputable def cmp_Or_int_l0_sh : Sh := ⟨[(3, .one (.ro I)), (6, .one (.ro LI)), (7, .one (.ro I)), (8, .one (.ro I))], []⟩
noncomputable def cmp_Or_int_l0_ex : List (Ex × Sh) := [(.ret, ⟨[(2, .one (.ro I))], []⟩), (.exit 0, ⟨[(3, .one (.ro I))], []⟩)]
noncomputable def cmp_Or_int_l0 {R : Type} (N : Nat) (k0 : Int → Option R) (k1 : Int → Option R) : Nat → Int → (List Int) → Int → Int → Option R
  | 0, _, _, _, _ => none
  | K + 1, zero, x, x1, x2 =>
    (br (ilt x2 x1)
      ((chk (inb x x2)
        (br (ine (rdI x x2) zero)
        (k0 (rdI x x2))
        (cmp_Or_int_l0 N k0 k1 K zero x x1 (IntKind.i64.wrap (x2 + 1))))))
      (k1 zero))
noncomputable def cmp_Or_int_l0_again {R : Type} (N : Nat) (ks : (j : Nat) → ((cmp_Or_int_l0_ex.getD j (.ret, Sh.none)).2).T → Option R) (k : Nat) (x : cmp_Or_int_l0_sh.T) : Option R :=
  cmp_Or_int_l0 N (fun y0 => ks 0 ((y0, ()), ())) (fun y0 => ks 1 ((y0, ()), ())) k x.1.1 x.1.2.1 x.1.2.2.1 x.1.2.2.2.1
noncomputable def cmp_Or_int_l0_s (N : Nat) : LSum := ⟨cmp_Or_int_l0_sh, cmp_Or_int_l0_ex, fun x ks => cmp_Or_int_l0_again N ks N x⟩
theorem cmp_Or_int_l0_step (N : Nat) (R : Type) (k : Nat) (x : cmp_Or_int_l0_sh.T) (ks : (j : Nat) → ((cmp_Or_int_l0_ex.getD j (.ret, Sh.none)).2).T → Option R) : cmp_Or_int_l0_again N ks (k + 1) x = roundF (cmp_Or_int_G N) tab [] (loopAt cmp_Or_int_code 0) cmp_Or_int_l0_sh cmp_Or_int_l0_ex (fun y => cmp_Or_int_l0_again N ks k y) ks x := by kernel_rfl
theorem cmp_Or_int_l0_ok (N : Nat) : LoopOk Tryz.prog Tryz.f168.ntmps (cmp_Or_int_l0_s N) (loopAt cmp_Or_int_code 0) :=
  loop_ok (l := cmp_Or_int_l0_s N) progOk (cmp_Or_int_gok N) (draw_ok progOk (cmp_Or_int_gok N)) (fun R k x ks => cmp_Or_int_l0_again N ks k x) (fun _ _ _ => rfl) (fun R k x ks => cmp_Or_int_l0_step N R k x ks) (fun R x ks r h => ⟨N, h⟩) (lsOk_at (L := []) trivial) (by kernel_rfl) (by kernel_rfl)
noncomputable def cmp_Or_int (N : Nat) (vals : (List Int)) : Option ((Int × Unit) × (Unit)) :=
  cmp_Or_int_l0 N (fun x => some ((x, ()), ())) (fun zero => some ((zero, ()), ())) N 0 vals (tLen vals) 0
noncomputable def cmp_Or_int_S (N : Nat) : FSum := ⟨cmp_Or_int_ps, cmp_Or_int_rs, fun x => cmp_Or_int N x.1⟩
theorem cmp_Or_int_run (N : Nat) (x : argsT cmp_Or_int_ps) : cmp_Or_int N x.1 = funF (cmp_Or_int_G N) tab [cmp_Or_int_l0_s N] Tryz.f168 cmp_Or_int_ps cmp_Or_int_rs x := by kernel_rfl
theorem cmp_Or_int_pc (N : Nat) : PC Tryz.prog 168 (cmp_Or_int_S N) := by
  have e : cmp_Or_int_S N = ⟨cmp_Or_int_ps, cmp_Or_int_rs, funF (cmp_Or_int_G N) tab [cmp_Or_int_l0_s N] Tryz.f168 cmp_Or_int_ps cmp_Or_int_rs⟩ := congrArg (FSum.mk cmp_Or_int_ps cmp_Or_int_rs) (funext (cmp_Or_int_run N))
  rw [e]
  exact fun_ok (c := cmp_Or_int_code) progOk (cmp_Or_int_gok N) (draw_ok progOk (cmp_Or_int_gok N)) Tryz.call168 Tryz.func168 (by kernel_rfl) (lsOk_at (L := [cmp_Or_int_l0_s N]) ⟨cmp_Or_int_l0_ok N, trivial⟩) (by kernel_rfl) (by kernel_rfl) (by kernel_rfl) (by kernel_rfl) (by kernel_rfl)

/-! ### impl_comparePairs -/
abbrev impl_comparePairs_ps : List (PV.Mode × Ty) := [(.ro, QII), (.ro, QII)]
abbrev impl_comparePairs_rs : List (Bool × Ty) := [(true, I)]
noncomputable def impl_comparePairs_G (N : Nat) : GTab := gOf [(140, cmp_Compare_int_S N), (168, cmp_Or_int_S N)]
theorem impl_comparePairs_gok (N : Nat) : GOk Tryz.prog (impl_comparePairs_G N) := gOf_ok ⟨cmp_Compare_int_pc N, cmp_Or_int_pc N, trivial⟩
noncomputable def impl_comparePairs_code : Code := (Tryz.f142.body).getD .skip
noncomputable def impl_comparePairs (N : Nat) (a : (Int × Int)) (b : (Int × Int)) : Option ((Int × Unit) × (Unit)) :=
  ((cmp_Compare_int N a.1 b.1).bind fun r =>
    ((cmp_Compare_int N a.2 b.2).bind fun r1 =>
      ((cmp_Or_int N [r.1.1, r1.1.1]).bind fun r2 =>
        some ((r2.1.1, ()), ()))))
noncomputable def impl_comparePairs_S (N : Nat) : FSum := ⟨impl_comparePairs_ps, impl_comparePairs_rs, fun x => impl_comparePairs N x.1 x.2.1⟩
theorem impl_comparePairs_run (N : Nat) (x : argsT impl_comparePairs_ps) : impl_comparePairs N x.1 x.2.1 = funF (impl_comparePairs_G N) tab [] Tryz.f142 impl_comparePairs_ps impl_comparePairs_rs x := by kernel_rfl
theorem impl_comparePairs_pc (N : Nat) : PC Tryz.prog 142 (impl_comparePairs_S N) := by
  have e : impl_comparePairs_S N = ⟨impl_comparePairs_ps, impl_comparePairs_rs, funF (impl_comparePairs_G N) tab [] Tryz.f142 impl_comparePairs_ps impl_comparePairs_rs⟩ := congrArg (FSum.mk impl_comparePairs_ps impl_comparePairs_rs) (funext (impl_comparePairs_run N))
  rw [e]
  exact fun_ok (c := impl_comparePairs_code) progOk (impl_comparePairs_gok N) (draw_ok progOk (impl_comparePairs_gok N)) Tryz.call142 Tryz.func142 (by kernel_rfl) (lsOk_at (L := []) trivial) (by kernel_rfl) (by kernel_rfl) (by kernel_rfl) (by kernel_rfl) (by kernel_rfl)

/-! ### impl_isPairs -/
abbrev impl_isPairs_ps : List (PV.Mode × Ty) := [(.ro, LQII), (.ro, I)]
abbrev impl_isPairs_rs : List (Bool × Ty) := [(true, .bool)]
noncomputable def impl_isPairs_G (N : Nat) : GTab := gOf [(142, impl_comparePairs_S N)]
theorem impl_isPairs_gok (N : Nat) : GOk Tryz.prog (impl_isPairs_G N) := gOf_ok ⟨impl_comparePairs_pc N, trivial⟩
noncomputable def impl_isPairs_code : Code := (Tryz.f104.body).getD .skip
noncomputable def impl_isPairs_l0_sh : Sh := ⟨[(0, .one (.ro LQII)), (1, .one (.ro I)), (7, .one (.ro LQII)), (8, .one (.ro I)), (9, .one (.ro I))], []⟩
noncomputable def impl_isPairs_l0_ex : List (Ex × Sh) := [(.ret, ⟨[(4, .one (.ro .bool))], []⟩), (.exit 0, ⟨[], []⟩)]
noncomputable def impl_isPairs_l0 {R : Type} (N : Nat) (k0 : Bool → Option R) (k1 : Unit → Option R) : Nat → (List (Int × Int)) → Int → (List (Int × Int)) → Int → Int → Option R
  | 0, _, _, _, _, _ => none
  | K + 1, list1, below1, x, x1, x2 =>
    (br (ilt x2 x1)
      ((chk (inb x x2)
        (br (ilt ((rdP x x2).1) 0)
        (k0 false)
        ((br (ile ((rdP x x2).2) ((rdP x x2).1))
          (k0 false)
          ((br (ile below1 ((rdP x x2).2))
            (k0 false)
            ((br (ilt 0 x2)
              ((chk (inb list1 (IntKind.i64.wrap (x2 - 1)))
                ((impl_comparePairs N (rdP list1 (IntKind.i64.wrap (x2 - 1))) ((rdP x x2).1, (rdP x x2).2)).bind fun r =>
                (br (ile 0 r.1.1)
                  (k0 false)
                  (impl_isPairs_l0 N k0 k1 K list1 below1 x x1 (IntKind.i64.wrap (x2 + 1)))))))
              (impl_isPairs_l0 N k0 k1 K list1 below1 x x1 (IntKind.i64.wrap (x2 + 1))))))))))))
      (k1 ()))
noncomputable def impl_isPairs_l0_again {R : Type} (N : Nat) (ks : (j : Nat) → ((impl_isPairs_l0_ex.getD j (.ret, Sh.none)).2).T → Option R) (k : Nat) (x : impl_isPairs_l0_sh.T) : Option R :=
  impl_isPairs_l0 N (fun y0 => ks 0 ((y0, ()), ())) (fun (_ : Unit) => ks 1 ((), ())) k x.1.1 x.1.2.1 x.1.2.2.1 x.1.2.2.2.1 x.1.2.2.2.2.1
noncomputable def impl_isPairs_l0_s (N : Nat) : LSum := ⟨impl_isPairs_l0_sh, impl_isPairs_l0_ex, fun x ks => impl_isPairs_l0_again N ks N x⟩
theorem impl_isPairs_l0_step (N : Nat) (R : Type) (k : Nat) (x : impl_isPairs_l0_sh.T) (ks : (j : Nat) → ((impl_isPairs_l0_ex.getD j (.ret, Sh.none)).2).T → Option R) : impl_isPairs_l0_again N ks (k + 1) x = roundF (impl_isPairs_G N) tab [] (loopAt impl_isPairs_code 0) impl_isPairs_l0_sh impl_isPairs_l0_ex (fun y => impl_isPairs_l0_again N ks k y) ks x := by kernel_rfl
theorem impl_isPairs_l0_ok (N : Nat) : LoopOk Tryz.prog Tryz.f104.ntmps (impl_isPairs_l0_s N) (loopAt impl_isPairs_code 0) :=
  loop_ok (l := impl_isPairs_l0_s N) progOk (impl_isPairs_gok N) (draw_ok progOk (impl_isPairs_gok N)) (fun R k x ks => impl_isPairs_l0_again N ks k x) (fun _ _ _ => rfl) (fun R k x ks => impl_isPairs_l0_step N R k x ks) (fun R x ks r h => ⟨N, h⟩) (lsOk_at (L := []) trivial) (by kernel_rfl) (by kernel_rfl)
noncomputable def impl_isPairs (N : Nat) (list : (List (Int × Int))) (below : Int) : Option ((Bool × Unit) × (Unit)) :=
  impl_isPairs_l0 N (fun x => some ((x, ()), ())) (fun (_ : Unit) => some ((true, ()), ())) N list below list (tLen list) 0
noncomputable def impl_isPairs_S (N : Nat) : FSum := ⟨impl_isPairs_ps, impl_isPairs_rs, fun x => impl_isPairs N x.1 x.2.1⟩
theorem impl_isPairs_run (N : Nat) (x : argsT impl_isPairs_ps) : impl_isPairs N x.1 x.2.1 = funF (impl_isPairs_G N) tab [impl_isPairs_l0_s N] Tryz.f104 impl_isPairs_ps impl_isPairs_rs x := by kernel_rfl
theorem impl_isPairs_pc (N : Nat) : PC Tryz.prog 104 (impl_isPairs_S N) := by
  have e : impl_isPairs_S N = ⟨impl_isPairs_ps, impl_isPairs_rs, funF (impl_isPairs_G N) tab [impl_isPairs_l0_s N] Tryz.f104 impl_isPairs_ps impl_isPairs_rs⟩ := congrArg (FSum.mk impl_isPairs_ps impl_isPairs_rs) (funext (impl_isPairs_run N))
  rw [e]
  exact fun_ok (c := impl_isPairs_code) progOk (impl_isPairs_gok N) (draw_ok progOk (impl_isPairs_gok N)) Tryz.call104 Tryz.func104 (by kernel_rfl) (lsOk_at (L := [impl_isPairs_l0_s N]) ⟨impl_isPairs_l0_ok N, trivial⟩) (by kernel_rfl) (by kernel_rfl) (by kernel_rfl) (by kernel_rfl) (by kernel_rfl)

/-! ### impl_IsGraph -/
abbrev impl_IsGraph_ps : List (PV.Mode × Ty) := [(.ro, QILQII)]
abbrev impl_IsGraph_rs : List (Bool × Ty) := [(true, .bool)]
noncomputable def impl_IsGraph_G (N : Nat) : GTab := gOf [(97, impl_between_S N), (104, impl_isPairs_S N)]
theorem impl_IsGraph_gok (N : Nat) : GOk Tryz.prog (impl_IsGraph_G N) := gOf_ok ⟨impl_between_pc N, impl_isPairs_pc N, trivial⟩
noncomputable def impl_IsGraph_code : Code := (Tryz.f62.body).getD .skip
noncomputable def impl_IsGraph (N : Nat) (g : (Int × (List (Int × Int)))) : Option ((Bool × Unit) × (Unit)) :=
  ((impl_between N g.1 0 8).bind fun r =>
    (br r.1.1
      (((impl_isPairs N g.2 g.1).bind fun r1 =>
        some ((r1.1.1, ()), ())))
      (some ((false, ()), ()))))
noncomputable def impl_IsGraph_S (N : Nat) : FSum := ⟨impl_IsGraph_ps, impl_IsGraph_rs, fun x => impl_IsGraph N x.1⟩
theorem impl_IsGraph_run (N : Nat) (x : argsT impl_IsGraph_ps) : impl_IsGraph N x.1 = funF (impl_IsGraph_G N) tab [] Tryz.f62 impl_IsGraph_ps impl_IsGraph_rs x := by kernel_rfl
theorem impl_IsGraph_pc (N : Nat) : PC Tryz.prog 62 (impl_IsGraph_S N) := by
  have e : impl_IsGraph_S N = ⟨impl_IsGraph_ps, impl_IsGraph_rs, funF (impl_IsGraph_G N) tab [] Tryz.f62 impl_IsGraph_ps impl_IsGraph_rs⟩ := congrArg (FSum.mk impl_IsGraph_ps impl_IsGraph_rs) (funext (impl_IsGraph_run N))
  rw [e]
  exact fun_ok (c := impl_IsGraph_code) progOk (impl_IsGraph_gok N) (draw_ok progOk (impl_IsGraph_gok N)) Tryz.call62 Tryz.func62 (by kernel_rfl) (lsOk_at (L := []) trivial) (by kernel_rfl) (by kernel_rfl) (by kernel_rfl) (by kernel_rfl) (by kernel_rfl)

/-! ### impl_isColourCase -/
abbrev impl_isColourCase_ps : List (PV.Mode × Ty) := [(.ro, QILQII), (.ro, I)]
abbrev impl_isColourCase_rs : List (Bool × Ty) := [(true, .bool)]
noncomputable def impl_isColourCase_G (N : Nat) : GTab := gOf [(62, impl_IsGraph_S N), (97, impl_between_S N)]
theorem impl_isColourCase_gok (N : Nat) : GOk Tryz.prog (impl_isColourCase_G N) := gOf_ok ⟨impl_IsGraph_pc N, impl_between_pc N, trivial⟩
noncomputable def impl_isColourCase_code : Code := (Tryz.f86.body).getD .skip
noncomputable def impl_isColourCase (N : Nat) (g : (Int × (List (Int × Int)))) (kv : Int) : Option ((Bool × Unit) × (Unit)) :=
  ((impl_IsGraph N (g.1, g.2)).bind fun r =>
    (br r.1.1
      (((impl_between N kv 1 5).bind fun r1 =>
        some ((r1.1.1, ()), ())))
      (some ((false, ()), ()))))
noncomputable def impl_isColourCase_S (N : Nat) : FSum := ⟨impl_isColourCase_ps, impl_isColourCase_rs, fun x => impl_isColourCase N x.1 x.2.1⟩
theorem impl_isColourCase_run (N : Nat) (x : argsT impl_isColourCase_ps) : impl_isColourCase N x.1 x.2.1 = funF (impl_isColourCase_G N) tab [] Tryz.f86 impl_isColourCase_ps impl_isColourCase_rs x := by kernel_rfl
theorem impl_isColourCase_pc (N : Nat) : PC Tryz.prog 86 (impl_isColourCase_S N) := by
  have e : impl_isColourCase_S N = ⟨impl_isColourCase_ps, impl_isColourCase_rs, funF (impl_isColourCase_G N) tab [] Tryz.f86 impl_isColourCase_ps impl_isColourCase_rs⟩ := congrArg (FSum.mk impl_isColourCase_ps impl_isColourCase_rs) (funext (impl_isColourCase_run N))
  rw [e]
  exact fun_ok (c := impl_isColourCase_code) progOk (impl_isColourCase_gok N) (draw_ok progOk (impl_isColourCase_gok N)) Tryz.call86 Tryz.func86 (by kernel_rfl) (lsOk_at (L := []) trivial) (by kernel_rfl) (by kernel_rfl) (by kernel_rfl) (by kernel_rfl) (by kernel_rfl)

/-! ### slices_IndexFunc_LLI_LI -/
abbrev slices_IndexFunc_LLI_LI_ps : List (PV.Mode × Ty) := [(.ro, LLI), (.ro, FLIBo)]
abbrev slices_IndexFunc_LLI_LI_rs : List (Bool × Ty) := [(true, I)]
noncomputable def slices_IndexFunc_LLI_LI_G (N : Nat) : GTab := gOf []
theorem slices_IndexFunc_LLI_LI_gok (N : Nat) : GOk Tryz.prog (slices_IndexFunc_LLI_LI_G N) := gOf_ok trivial
noncomputable def slices_IndexFunc_LLI_LI_code : Code := (Tryz.f133.body).getD .skip
noncomputable def slices_IndexFunc_LLI_LI_l0_sh : Sh := ⟨[(0, .one (.ro LLI)), (1, .one (.ro FLIBo)), (7, .one (.ro I)), (8, .one (.ro I))], []⟩
noncomputable def slices_IndexFunc_LLI_LI_l0_ex : List (Ex × Sh) := [(.ret, ⟨[(4, .one (.ro I))], []⟩), (.exit 0, ⟨[], []⟩)]
noncomputable def slices_IndexFunc_LLI_LI_l0 {R : Type} (N : Nat) (k0 : Int → Option R) (k1 : Unit → Option R) : Nat → (List (List Int)) → ((List Int) → Option Bool) → Int → Int → Option R
  | 0, _, _, _, _ => none
  | K + 1, s1, f1, x, x1 =>
    (br (ilt x1 x)
      ((chk (inb s1 x1)
        ((f1 (rdL s1 x1)).bind fun v =>
        (br v
        (k0 x1)
        (slices_IndexFunc_LLI_LI_l0 N k0 k1 K s1 f1 x (IntKind.i64.wrap (x1 + 1)))))))
      (k1 ()))
noncomputable def slices_IndexFunc_LLI_LI_l0_again {R : Type} (N : Nat) (ks : (j : Nat) → ((slices_IndexFunc_LLI_LI_l0_ex.getD j (.ret, Sh.none)).2).T → Option R) (k : Nat) (x : slices_IndexFunc_LLI_LI_l0_sh.T) : Option R :=
  slices_IndexFunc_LLI_LI_l0 N (fun y0 => ks 0 ((y0, ()), ())) (fun (_ : Unit) => ks 1 ((), ())) k x.1.1 x.1.2.1 x.1.2.2.1 x.1.2.2.2.1
noncomputable def slices_IndexFunc_LLI_LI_l0_s (N : Nat) : LSum := ⟨slices_IndexFunc_LLI_LI_l0_sh, slices_IndexFunc_LLI_LI_l0_ex, fun x ks => slices_IndexFunc_LLI_LI_l0_again N ks N x⟩
theorem slices_IndexFunc_LLI_LI_l0_step (N : Nat) (R : Type) (k : Nat) (x : slices_IndexFunc_LLI_LI_l0_sh.T) (ks : (j : Nat) → ((slices_IndexFunc_LLI_LI_l0_ex.getD j (.ret, Sh.none)).2).T → Option R) : slices_IndexFunc_LLI_LI_l0_again N ks (k + 1) x = roundF (slices_IndexFunc_LLI_LI_G N) tab [] (loopAt slices_IndexFunc_LLI_LI_code 0) slices_IndexFunc_LLI_LI_l0_sh slices_IndexFunc_LLI_LI_l0_ex (fun y => slices_IndexFunc_LLI_LI_l0_again N ks k y) ks x := by kernel_rfl
theorem slices_IndexFunc_LLI_LI_l0_ok (N : Nat) : LoopOk Tryz.prog Tryz.f133.ntmps (slices_IndexFunc_LLI_LI_l0_s N) (loopAt slices_IndexFunc_LLI_LI_code 0) :=
  loop_ok (l := slices_IndexFunc_LLI_LI_l0_s N) progOk (slices_IndexFunc_LLI_LI_gok N) (draw_ok progOk (slices_IndexFunc_LLI_LI_gok N)) (fun R k x ks => slices_IndexFunc_LLI_LI_l0_again N ks k x) (fun _ _ _ => rfl) (fun R k x ks => slices_IndexFunc_LLI_LI_l0_step N R k x ks) (fun R x ks r h => ⟨N, h⟩) (lsOk_at (L := []) trivial) (by kernel_rfl) (by kernel_rfl)
noncomputable def slices_IndexFunc_LLI_LI (N : Nat) (s : (List (List Int))) (f : ((List Int) → Option Bool)) : Option ((Int × Unit) × (Unit)) :=
  slices_IndexFunc_LLI_LI_l0 N (fun x => some ((x, ()), ())) (fun (_ : Unit) => some (((-1), ()), ())) N s f (tLen s) 0
noncomputable def slices_IndexFunc_LLI_LI_S (N : Nat) : FSum := ⟨slices_IndexFunc_LLI_LI_ps, slices_IndexFunc_LLI_LI_rs, fun x => slices_IndexFunc_LLI_LI N x.1 x.2.1⟩
theorem slices_IndexFunc_LLI_LI_run (N : Nat) (x : argsT slices_IndexFunc_LLI_LI_ps) : slices_IndexFunc_LLI_LI N x.1 x.2.1 = funF (slices_IndexFunc_LLI_LI_G N) tab [slices_IndexFunc_LLI_LI_l0_s N] Tryz.f133 slices_IndexFunc_LLI_LI_ps slices_IndexFunc_LLI_LI_rs x := by kernel_rfl
theorem slices_IndexFunc_LLI_LI_pc (N : Nat) : PC Tryz.prog 133 (slices_IndexFunc_LLI_LI_S N) := by
  have e : slices_IndexFunc_LLI_LI_S N = ⟨slices_IndexFunc_LLI_LI_ps, slices_IndexFunc_LLI_LI_rs, funF (slices_IndexFunc_LLI_LI_G N) tab [slices_IndexFunc_LLI_LI_l0_s N] Tryz.f133 slices_IndexFunc_LLI_LI_ps slices_IndexFunc_LLI_LI_rs⟩ := congrArg (FSum.mk slices_IndexFunc_LLI_LI_ps slices_IndexFunc_LLI_LI_rs) (funext (slices_IndexFunc_LLI_LI_run N))
  rw [e]
  exact fun_ok (c := slices_IndexFunc_LLI_LI_code) progOk (slices_IndexFunc_LLI_LI_gok N) (draw_ok progOk (slices_IndexFunc_LLI_LI_gok N)) Tryz.call133 Tryz.func133 (by kernel_rfl) (lsOk_at (L := [slices_IndexFunc_LLI_LI_l0_s N]) ⟨slices_IndexFunc_LLI_LI_l0_ok N, trivial⟩) (by kernel_rfl) (by kernel_rfl) (by kernel_rfl) (by kernel_rfl) (by kernel_rfl)

/-! ### slices_ContainsFunc_LLI_LI -/
abbrev slices_ContainsFunc_LLI_LI_ps : List (PV.Mode × Ty) := [(.ro, LLI), (.ro, FLIBo)]
abbrev slices_ContainsFunc_LLI_LI_rs : List (Bool × Ty) := [(true, .bool)]
noncomputable def slices_ContainsFunc_LLI_LI_G (N : Nat) : GTab := gOf [(133, slices_IndexFunc_LLI_LI_S N)]
theorem slices_ContainsFunc_LLI_LI_gok (N : Nat) : GOk Tryz.prog (slices_ContainsFunc_LLI_LI_G N) := gOf_ok ⟨slices_IndexFunc_LLI_LI_pc N, trivial⟩
noncomputable def slices_ContainsFunc_LLI_LI_code : Code := (Tryz.f95.body).getD .skip
noncomputable def slices_ContainsFunc_LLI_LI (N : Nat) (s : (List (List Int))) (f : ((List Int) → Option Bool)) : Option ((Bool × Unit) × (Unit)) :=
  ((slices_IndexFunc_LLI_LI N s f).bind fun r =>
    some (((ile 0 r.1.1), ()), ()))
noncomputable def slices_ContainsFunc_LLI_LI_S (N : Nat) : FSum := ⟨slices_ContainsFunc_LLI_LI_ps, slices_ContainsFunc_LLI_LI_rs, fun x => slices_ContainsFunc_LLI_LI N x.1 x.2.1⟩
theorem slices_ContainsFunc_LLI_LI_run (N : Nat) (x : argsT slices_ContainsFunc_LLI_LI_ps) : slices_ContainsFunc_LLI_LI N x.1 x.2.1 = funF (slices_ContainsFunc_LLI_LI_G N) tab [] Tryz.f95 slices_ContainsFunc_LLI_LI_ps slices_ContainsFunc_LLI_LI_rs x := by kernel_rfl
theorem slices_ContainsFunc_LLI_LI_pc (N : Nat) : PC Tryz.prog 95 (slices_ContainsFunc_LLI_LI_S N) := by
  have e : slices_ContainsFunc_LLI_LI_S N = ⟨slices_ContainsFunc_LLI_LI_ps, slices_ContainsFunc_LLI_LI_rs, funF (slices_ContainsFunc_LLI_LI_G N) tab [] Tryz.f95 slices_ContainsFunc_LLI_LI_ps slices_ContainsFunc_LLI_LI_rs⟩ := congrArg (FSum.mk slices_ContainsFunc_LLI_LI_ps slices_ContainsFunc_LLI_LI_rs) (funext (slices_ContainsFunc_LLI_LI_run N))
  rw [e]
  exact fun_ok (c := slices_ContainsFunc_LLI_LI_code) progOk (slices_ContainsFunc_LLI_LI_gok N) (draw_ok progOk (slices_ContainsFunc_LLI_LI_gok N)) Tryz.call95 Tryz.func95 (by kernel_rfl) (lsOk_at (L := []) trivial) (by kernel_rfl) (by kernel_rfl) (by kernel_rfl) (by kernel_rfl) (by kernel_rfl)

/-! ### slices_IndexFunc_LI_int -/
abbrev slices_IndexFunc_LI_int_ps : List (PV.Mode × Ty) := [(.ro, LI), (.ro, FIBo)]
abbrev slices_IndexFunc_LI_int_rs : List (Bool × Ty) := [(true, I)]
noncomputable def slices_IndexFunc_LI_int_G (N : Nat) : GTab := gOf []
theorem slices_IndexFunc_LI_int_gok (N : Nat) : GOk Tryz.prog (slices_IndexFunc_LI_int_G N) := gOf_ok trivial
noncomputable def slices_IndexFunc_LI_int_code : Code := (Tryz.f116.body).getD .skip
noncomputable def slices_IndexFunc_LI_int_l0_sh : Sh := ⟨[(0, .one (.ro LI)), (1, .one (.ro FIBo)), (7, .one (.ro I)), (8, .one (.ro I))], []⟩
noncomputable def slices_IndexFunc_LI_int_l0_ex : List (Ex × Sh) := [(.ret, ⟨[(4, .one (.ro I))], []⟩), (.exit 0, ⟨[], []⟩)]
noncomputable def slices_IndexFunc_LI_int_l0 {R : Type} (N : Nat) (k0 : Int → Option R) (k1 : Unit → Option R) : Nat → (List Int) → (Int → Option Bool) → Int → Int → Option R
  | 0, _, _, _, _ => none
  | K + 1, s1, f1, x, x1 =>
    (br (ilt x1 x)
      ((chk (inb s1 x1)
        ((f1 (rdI s1 x1)).bind fun v =>
        (br v
        (k0 x1)
        (slices_IndexFunc_LI_int_l0 N k0 k1 K s1 f1 x (IntKind.i64.wrap (x1 + 1)))))))
      (k1 ()))
noncomputable def slices_IndexFunc_LI_int_l0_again {R : Type} (N : Nat) (ks : (j : Nat) → ((slices_IndexFunc_LI_int_l0_ex.getD j (.ret, Sh.none)).2).T → Option R) (k : Nat) (x : slices_IndexFunc_LI_int_l0_sh.T) : Option R :=
  slices_IndexFunc_LI_int_l0 N (fun y0 => ks 0 ((y0, ()), ())) (fun (_ : Unit) => ks 1 ((), ())) k x.1.1 x.1.2.1 x.1.2.2.1 x.1.2.2.2.1
noncomputable def slices_IndexFunc_LI_int_l0_s (N : Nat) : LSum := ⟨slices_IndexFunc_LI_int_l0_sh, slices_IndexFunc_LI_int_l0_ex, fun x ks => slices_IndexFunc_LI_int_l0_again N ks N x⟩
theorem slices_IndexFunc_LI_int_l0_step (N : Nat) (R : Type) (k : Nat) (x : slices_IndexFunc_LI_int_l0_sh.T) (ks : (j : Nat) → ((slices_IndexFunc_LI_int_l0_ex.getD j (.ret, Sh.none)).2).T → Option R) : slices_IndexFunc_LI_int_l0_again N ks (k + 1) x = roundF (slices_IndexFunc_LI_int_G N) tab [] (loopAt slices_IndexFunc_LI_int_code 0) slices_IndexFunc_LI_int_l0_sh slices_IndexFunc_LI_int_l0_ex (fun y => slices_IndexFunc_LI_int_l0_again N ks k y) ks x := by kernel_rfl
theorem slices_IndexFunc_LI_int_l0_ok (N : Nat) : LoopOk Tryz.prog Tryz.f116.ntmps (slices_IndexFunc_LI_int_l0_s N) (loopAt slices_IndexFunc_LI_int_code 0) :=
  loop_ok (l := slices_IndexFunc_LI_int_l0_s N) progOk (slices_IndexFunc_LI_int_gok N) (draw_ok progOk (slices_IndexFunc_LI_int_gok N)) (fun R k x ks => slices_IndexFunc_LI_int_l0_again N ks k x) (fun _ _ _ => rfl) (fun R k x ks => slices_IndexFunc_LI_int_l0_step N R k x ks) (fun R x ks r h => ⟨N, h⟩) (lsOk_at (L := []) trivial) (by kernel_rfl) (by kernel_rfl)
noncomputable def slices_IndexFunc_LI_int (N : Nat) (s : (List Int)) (f : (Int → Option Bool)) : Option ((Int × Unit) × (Unit)) :=
  slices_IndexFunc_LI_int_l0 N (fun x => some ((x, ()), ())) (fun (_ : Unit) => some (((-1), ()), ())) N s f (tLen s) 0
noncomputable def slices_IndexFunc_LI_int_S (N : Nat) : FSum := ⟨slices_IndexFunc_LI_int_ps, slices_IndexFunc_LI_int_rs, fun x => slices_IndexFunc_LI_int N x.1 x.2.1⟩
theorem slices_IndexFunc_LI_int_run (N : Nat) (x : argsT slices_IndexFunc_LI_int_ps) : slices_IndexFunc_LI_int N x.1 x.2.1 = funF (slices_IndexFunc_LI_int_G N) tab [slices_IndexFunc_LI_int_l0_s N] Tryz.f116 slices_IndexFunc_LI_int_ps slices_IndexFunc_LI_int_rs x := by kernel_rfl
theorem slices_IndexFunc_LI_int_pc (N : Nat) : PC Tryz.prog 116 (slices_IndexFunc_LI_int_S N) := by
  have e : slices_IndexFunc_LI_int_S N = ⟨slices_IndexFunc_LI_int_ps, slices_IndexFunc_LI_int_rs, funF (slices_IndexFunc_LI_int_G N) tab [slices_IndexFunc_LI_int_l0_s N] Tryz.f116 slices_IndexFunc_LI_int_ps slices_IndexFunc_LI_int_rs⟩ := congrArg (FSum.mk slices_IndexFunc_LI_int_ps slices_IndexFunc_LI_int_rs) (funext (slices_IndexFunc_LI_int_run N))
  rw [e]
  exact fun_ok (c := slices_IndexFunc_LI_int_code) progOk (slices_IndexFunc_LI_int_gok N) (draw_ok progOk (slices_IndexFunc_LI_int_gok N)) Tryz.call116 Tryz.func116 (by kernel_rfl) (lsOk_at (L := [slices_IndexFunc_LI_int_l0_s N]) ⟨slices_IndexFunc_LI_int_l0_ok N, trivial⟩) (by kernel_rfl) (by kernel_rfl) (by kernel_rfl) (by kernel_rfl) (by kernel_rfl)

/-! ### slices_ContainsFunc_LI_int -/
abbrev slices_ContainsFunc_LI_int_ps : List (PV.Mode × Ty) := [(.ro, LI), (.ro, FIBo)]
abbrev slices_ContainsFunc_LI_int_rs : List (Bool × Ty) := [(true, .bool)]
noncomputable def slices_ContainsFunc_LI_int_G (N : Nat) : GTab := gOf [(116, slices_IndexFunc_LI_int_S N)]
theorem slices_ContainsFunc_LI_int_gok (N : Nat) : GOk Tryz.prog (slices_ContainsFunc_LI_int_G N) := gOf_ok ⟨slices_IndexFunc_LI_int_pc N, trivial⟩
noncomputable def slices_ContainsFunc_LI_int_code : Code := (Tryz.f65.body).getD .skip
noncomputable def slices_ContainsFunc_LI_int (N : Nat) (s : (List Int)) (f : (Int → Option Bool)) : Option ((Bool × Unit) × (Unit)) :=
  ((slices_IndexFunc_LI_int N s f).bind fun r =>
    some (((ile 0 r.1.1), ()), ()))
noncomputable def slices_ContainsFunc_LI_int_S (N : Nat) : FSum := ⟨slices_ContainsFunc_LI_int_ps, slices_ContainsFunc_LI_int_rs, fun x => slices_ContainsFunc_LI_int N x.1 x.2.1⟩
theorem slices_ContainsFunc_LI_int_run (N : Nat) (x : argsT slices_ContainsFunc_LI_int_ps) : slices_ContainsFunc_LI_int N x.1 x.2.1 = funF (slices_ContainsFunc_LI_int_G N) tab [] Tryz.f65 slices_ContainsFunc_LI_int_ps slices_ContainsFunc_LI_int_rs x := by kernel_rfl
theorem slices_ContainsFunc_LI_int_pc (N : Nat) : PC Tryz.prog 65 (slices_ContainsFunc_LI_int_S N) := by
  have e : slices_ContainsFunc_LI_int_S N = ⟨slices_ContainsFunc_LI_int_ps, slices_ContainsFunc_LI_int_rs, funF (slices_ContainsFunc_LI_int_G N) tab [] Tryz.f65 slices_ContainsFunc_LI_int_ps slices_ContainsFunc_LI_int_rs⟩ := congrArg (FSum.mk slices_ContainsFunc_LI_int_ps slices_ContainsFunc_LI_int_rs) (funext (slices_ContainsFunc_LI_int_run N))
  rw [e]
  exact fun_ok (c := slices_ContainsFunc_LI_int_code) progOk (slices_ContainsFunc_LI_int_gok N) (draw_ok progOk (slices_ContainsFunc_LI_int_gok N)) Tryz.call65 Tryz.func65 (by kernel_rfl) (lsOk_at (L := []) trivial) (by kernel_rfl) (by kernel_rfl) (by kernel_rfl) (by kernel_rfl) (by kernel_rfl)

/-! ### impl_Graph_isColouring_c1 -/
abbrev impl_Graph_isColouring_c1_ps : List (PV.Mode × Ty) := [(.ro, I), (.ro, AI)]
abbrev impl_Graph_isColouring_c1_rs : List (Bool × Ty) := [(true, .bool)]
noncomputable def impl_Graph_isColouring_c1_G (N : Nat) : GTab := gOf [(97, impl_between_S N)]
theorem impl_Graph_isColouring_c1_gok (N : Nat) : GOk Tryz.prog (impl_Graph_isColouring_c1_G N) := gOf_ok ⟨impl_between_pc N, trivial⟩
noncomputable def impl_Graph_isColouring_c1_code : Code := (Tryz.f129.body).getD .skip
noncomputable def impl_Graph_isColouring_c1 (N : Nat) (c : Int) (c1 : Int) : Option ((Bool × Unit) × (Unit)) :=
  ((impl_between N c 0 (IntKind.i64.wrap (c1 - 1))).bind fun r =>
    some (((!r.1.1), ()), ()))
noncomputable def impl_Graph_isColouring_c1_S (N : Nat) : FSum := ⟨impl_Graph_isColouring_c1_ps, impl_Graph_isColouring_c1_rs, fun x => impl_Graph_isColouring_c1 N x.1 x.2.1⟩
theorem impl_Graph_isColouring_c1_run (N : Nat) (x : argsT impl_Graph_isColouring_c1_ps) : impl_Graph_isColouring_c1 N x.1 x.2.1 = funF (impl_Graph_isColouring_c1_G N) tab [] Tryz.f129 impl_Graph_isColouring_c1_ps impl_Graph_isColouring_c1_rs x := by kernel_rfl
theorem impl_Graph_isColouring_c1_pc (N : Nat) : PC Tryz.prog 129 (impl_Graph_isColouring_c1_S N) := by
  have e : impl_Graph_isColouring_c1_S N = ⟨impl_Graph_isColouring_c1_ps, impl_Graph_isColouring_c1_rs, funF (impl_Graph_isColouring_c1_G N) tab [] Tryz.f129 impl_Graph_isColouring_c1_ps impl_Graph_isColouring_c1_rs⟩ := congrArg (FSum.mk impl_Graph_isColouring_c1_ps impl_Graph_isColouring_c1_rs) (funext (impl_Graph_isColouring_c1_run N))
  rw [e]
  exact fun_ok (c := impl_Graph_isColouring_c1_code) progOk (impl_Graph_isColouring_c1_gok N) (draw_ok progOk (impl_Graph_isColouring_c1_gok N)) Tryz.call129 Tryz.func129 (by kernel_rfl) (lsOk_at (L := []) trivial) (by kernel_rfl) (by kernel_rfl) (by kernel_rfl) (by kernel_rfl) (by kernel_rfl)

/-! ### slices_IndexFunc_LP_P2 -/
abbrev slices_IndexFunc_LP_P2_ps : List (PV.Mode × Ty) := [(.ro, LQII), (.ro, FQIIBo)]
abbrev slices_IndexFunc_LP_P2_rs : List (Bool × Ty) := [(true, I)]
noncomputable def slices_IndexFunc_LP_P2_G (N : Nat) : GTab := gOf []
theorem slices_IndexFunc_LP_P2_gok (N : Nat) : GOk Tryz.prog (slices_IndexFunc_LP_P2_G N) := gOf_ok trivial
noncomputable def slices_IndexFunc_LP_P2_code : Code := (Tryz.f144.body).getD .skip
noncomputable def slices_IndexFunc_LP_P2_l0_sh : Sh := ⟨[(0, .one (.ro LQII)), (1, .one (.ro FQIIBo)), (7, .one (.ro I)), (8, .one (.ro I))], []⟩
noncomputable def slices_IndexFunc_LP_P2_l0_ex : List (Ex × Sh) := [(.ret, ⟨[(4, .one (.ro I))], []⟩), (.exit 0, ⟨[], []⟩)]
noncomputable def slices_IndexFunc_LP_P2_l0 {R : Type} (N : Nat) (k0 : Int → Option R) (k1 : Unit → Option R) : Nat → (List (Int × Int)) → ((Int × Int) → Option Bool) → Int → Int → Option R
  | 0, _, _, _, _ => none
  | K + 1, s1, f1, x, x1 =>
    (br (ilt x1 x)
      ((chk (inb s1 x1)
        ((f1 (rdP s1 x1)).bind fun v =>
        (br v
        (k0 x1)
        (slices_IndexFunc_LP_P2_l0 N k0 k1 K s1 f1 x (IntKind.i64.wrap (x1 + 1)))))))
      (k1 ()))
noncomputable def slices_IndexFunc_LP_P2_l0_again {R : Type} (N : Nat) (ks : (j : Nat) → ((slices_IndexFunc_LP_P2_l0_ex.getD j (.ret, Sh.none)).2).T → Option R) (k : Nat) (x : slices_IndexFunc_LP_P2_l0_sh.T) : Option R :=
  slices_IndexFunc_LP_P2_l0 N (fun y0 => ks 0 ((y0, ()), ())) (fun (_ : Unit) => ks 1 ((), ())) k x.1.1 x.1.2.1 x.1.2.2.1 x.1.2.2.2.1
noncomputable def slices_IndexFunc_LP_P2_l0_s (N : Nat) : LSum := ⟨slices_IndexFunc_LP_P2_l0_sh, slices_IndexFunc_LP_P2_l0_ex, fun x ks => slices_IndexFunc_LP_P2_l0_again N ks N x⟩
theorem slices_IndexFunc_LP_P2_l0_step (N : Nat) (R : Type) (k : Nat) (x : slices_IndexFunc_LP_P2_l0_sh.T) (ks : (j : Nat) → ((slices_IndexFunc_LP_P2_l0_ex.getD j (.ret, Sh.none)).2).T → Option R) : slices_IndexFunc_LP_P2_l0_again N ks (k + 1) x = roundF (slices_IndexFunc_LP_P2_G N) tab [] (loopAt slices_IndexFunc_LP_P2_code 0) slices_IndexFunc_LP_P2_l0_sh slices_IndexFunc_LP_P2_l0_ex (fun y => slices_IndexFunc_LP_P2_l0_again N ks k y) ks x := by kernel_rfl
theorem slices_IndexFunc_LP_P2_l0_ok (N : Nat) : LoopOk Tryz.prog Tryz.f144.ntmps (slices_IndexFunc_LP_P2_l0_s N) (loopAt slices_IndexFunc_LP_P2_code 0) :=
  loop_ok (l := slices_IndexFunc_LP_P2_l0_s N) progOk (slices_IndexFunc_LP_P2_gok N) (draw_ok progOk (slices_IndexFunc_LP_P2_gok N)) (fun R k x ks => slices_IndexFunc_LP_P2_l0_again N ks k x) (fun _ _ _ => rfl) (fun R k x ks => slices_IndexFunc_LP_P2_l0_step N R k x ks) (fun R x ks r h => ⟨N, h⟩) (lsOk_at (L := []) trivial) (by kernel_rfl) (by kernel_rfl)
noncomputable def slices_IndexFunc_LP_P2 (N : Nat) (s : (List (Int × Int))) (f : ((Int × Int) → Option Bool)) : Option ((Int × Unit) × (Unit)) :=
  slices_IndexFunc_LP_P2_l0 N (fun x => some ((x, ()), ())) (fun (_ : Unit) => some (((-1), ()), ())) N s f (tLen s) 0
noncomputable def slices_IndexFunc_LP_P2_S (N : Nat) : FSum := ⟨slices_IndexFunc_LP_P2_ps, slices_IndexFunc_LP_P2_rs, fun x => slices_IndexFunc_LP_P2 N x.1 x.2.1⟩
theorem slices_IndexFunc_LP_P2_run (N : Nat) (x : argsT slices_IndexFunc_LP_P2_ps) : slices_IndexFunc_LP_P2 N x.1 x.2.1 = funF (slices_IndexFunc_LP_P2_G N) tab [slices_IndexFunc_LP_P2_l0_s N] Tryz.f144 slices_IndexFunc_LP_P2_ps slices_IndexFunc_LP_P2_rs x := by kernel_rfl
theorem slices_IndexFunc_LP_P2_pc (N : Nat) : PC Tryz.prog 144 (slices_IndexFunc_LP_P2_S N) := by
  have e : slices_IndexFunc_LP_P2_S N = ⟨slices_IndexFunc_LP_P2_ps, slices_IndexFunc_LP_P2_rs, funF (slices_IndexFunc_LP_P2_G N) tab [slices_IndexFunc_LP_P2_l0_s N] Tryz.f144 slices_IndexFunc_LP_P2_ps slices_IndexFunc_LP_P2_rs⟩ := congrArg (FSum.mk slices_IndexFunc_LP_P2_ps slices_IndexFunc_LP_P2_rs) (funext (slices_IndexFunc_LP_P2_run N))
  rw [e]
  exact fun_ok (c := slices_IndexFunc_LP_P2_code) progOk (slices_IndexFunc_LP_P2_gok N) (draw_ok progOk (slices_IndexFunc_LP_P2_gok N)) Tryz.call144 Tryz.func144 (by kernel_rfl) (lsOk_at (L := [slices_IndexFunc_LP_P2_l0_s N]) ⟨slices_IndexFunc_LP_P2_l0_ok N, trivial⟩) (by kernel_rfl) (by kernel_rfl) (by kernel_rfl) (by kernel_rfl) (by kernel_rfl)

/-! ### slices_ContainsFunc_LP_P2 -/
abbrev slices_ContainsFunc_LP_P2_ps : List (PV.Mode × Ty) := [(.ro, LQII), (.ro, FQIIBo)]
abbrev slices_ContainsFunc_LP_P2_rs : List (Bool × Ty) := [(true, .bool)]
noncomputable def slices_ContainsFunc_LP_P2_G (N : Nat) : GTab := gOf [(144, slices_IndexFunc_LP_P2_S N)]
theorem slices_ContainsFunc_LP_P2_gok (N : Nat) : GOk Tryz.prog (slices_ContainsFunc_LP_P2_G N) := gOf_ok ⟨slices_IndexFunc_LP_P2_pc N, trivial⟩
noncomputable def slices_ContainsFunc_LP_P2_code : Code := (Tryz.f108.body).getD .skip
noncomputable def slices_ContainsFunc_LP_P2 (N : Nat) (s : (List (Int × Int))) (f : ((Int × Int) → Option Bool)) : Option ((Bool × Unit) × (Unit)) :=
  ((slices_IndexFunc_LP_P2 N s f).bind fun r =>
    some (((ile 0 r.1.1), ()), ()))
noncomputable def slices_ContainsFunc_LP_P2_S (N : Nat) : FSum := ⟨slices_ContainsFunc_LP_P2_ps, slices_ContainsFunc_LP_P2_rs, fun x => slices_ContainsFunc_LP_P2 N x.1 x.2.1⟩
theorem slices_ContainsFunc_LP_P2_run (N : Nat) (x : argsT slices_ContainsFunc_LP_P2_ps) : slices_ContainsFunc_LP_P2 N x.1 x.2.1 = funF (slices_ContainsFunc_LP_P2_G N) tab [] Tryz.f108 slices_ContainsFunc_LP_P2_ps slices_ContainsFunc_LP_P2_rs x := by kernel_rfl
theorem slices_ContainsFunc_LP_P2_pc (N : Nat) : PC Tryz.prog 108 (slices_ContainsFunc_LP_P2_S N) := by
  have e : slices_ContainsFunc_LP_P2_S N = ⟨slices_ContainsFunc_LP_P2_ps, slices_ContainsFunc_LP_P2_rs, funF (slices_ContainsFunc_LP_P2_G N) tab [] Tryz.f108 slices_ContainsFunc_LP_P2_ps slices_ContainsFunc_LP_P2_rs⟩ := congrArg (FSum.mk slices_ContainsFunc_LP_P2_ps slices_ContainsFunc_LP_P2_rs) (funext (slices_ContainsFunc_LP_P2_run N))
  rw [e]
  exact fun_ok (c := slices_ContainsFunc_LP_P2_code) progOk (slices_ContainsFunc_LP_P2_gok N) (draw_ok progOk (slices_ContainsFunc_LP_P2_gok N)) Tryz.call108 Tryz.func108 (by kernel_rfl) (lsOk_at (L := []) trivial) (by kernel_rfl) (by kernel_rfl) (by kernel_rfl) (by kernel_rfl) (by kernel_rfl)

/-! ### impl_Graph_isColouring_c2 -/
abbrev impl_Graph_isColouring_c2_ps : List (PV.Mode × Ty) := [(.ro, QII), (.ro, ALI)]
abbrev impl_Graph_isColouring_c2_rs : List (Bool × Ty) := [(true, .bool)]
noncomputable def impl_Graph_isColouring_c2_G (N : Nat) : GTab := gOf []
theorem impl_Graph_isColouring_c2_gok (N : Nat) : GOk Tryz.prog (impl_Graph_isColouring_c2_G N) := gOf_ok trivial
noncomputable def impl_Graph_isColouring_c2_code : Code := (Tryz.f130.body).getD .skip
noncomputable def impl_Graph_isColouring_c2 (N : Nat) (e : (Int × Int)) (c : (List Int)) : Option ((Bool × Unit) × (Unit)) :=
  (chk (inb c e.1)
    (chk (inb c e.2)
    (some (((ieq (rdI c e.1) (rdI c e.2)), ()), ()))))
noncomputable def impl_Graph_isColouring_c2_S (N : Nat) : FSum := ⟨impl_Graph_isColouring_c2_ps, impl_Graph_isColouring_c2_rs, fun x => impl_Graph_isColouring_c2 N x.1 x.2.1⟩
theorem impl_Graph_isColouring_c2_run (N : Nat) (x : argsT impl_Graph_isColouring_c2_ps) : impl_Graph_isColouring_c2 N x.1 x.2.1 = funF (impl_Graph_isColouring_c2_G N) tab [] Tryz.f130 impl_Graph_isColouring_c2_ps impl_Graph_isColouring_c2_rs x := by kernel_rfl
theorem impl_Graph_isColouring_c2_pc (N : Nat) : PC Tryz.prog 130 (impl_Graph_isColouring_c2_S N) := by
  have e : impl_Graph_isColouring_c2_S N = ⟨impl_Graph_isColouring_c2_ps, impl_Graph_isColouring_c2_rs, funF (impl_Graph_isColouring_c2_G N) tab [] Tryz.f130 impl_Graph_isColouring_c2_ps impl_Graph_isColouring_c2_rs⟩ := congrArg (FSum.mk impl_Graph_isColouring_c2_ps impl_Graph_isColouring_c2_rs) (funext (impl_Graph_isColouring_c2_run N))
  rw [e]
  exact fun_ok (c := impl_Graph_isColouring_c2_code) progOk (impl_Graph_isColouring_c2_gok N) (draw_ok progOk (impl_Graph_isColouring_c2_gok N)) Tryz.call130 Tryz.func130 (by kernel_rfl) (lsOk_at (L := []) trivial) (by kernel_rfl) (by kernel_rfl) (by kernel_rfl) (by kernel_rfl) (by kernel_rfl)

/-! ### impl_Graph_isColouring -/
abbrev impl_Graph_isColouring_ps : List (PV.Mode × Ty) := [(.ro, QILQII), (.ro, I), (.ro, LI)]
abbrev impl_Graph_isColouring_rs : List (Bool × Ty) := [(true, .bool)]
noncomputable def impl_Graph_isColouring_G (N : Nat) : GTab := gOf [(65, slices_ContainsFunc_LI_int_S N), (129, impl_Graph_isColouring_c1_S N), (108, slices_ContainsFunc_LP_P2_S N), (130, impl_Graph_isColouring_c2_S N)]
theorem impl_Graph_isColouring_gok (N : Nat) : GOk Tryz.prog (impl_Graph_isColouring_G N) := gOf_ok ⟨slices_ContainsFunc_LI_int_pc N, impl_Graph_isColouring_c1_pc N, slices_ContainsFunc_LP_P2_pc N, impl_Graph_isColouring_c2_pc N, trivial⟩
noncomputable def impl_Graph_isColouring_code : Code := (Tryz.f87.body).getD .skip
noncomputable def impl_Graph_isColouring (N : Nat) (g : (Int × (List (Int × Int)))) (kv : Int) (colours : (List Int)) : Option ((Bool × Unit) × (Unit)) :=
  (br (ine (tLen colours) g.1)
    (some ((false, ()), ()))
    (((slices_ContainsFunc_LI_int N colours (fun y0 => (impl_Graph_isColouring_c1 N y0 kv).bind fun z => some z.1.1)).bind fun r =>
      (br r.1.1
        (some ((false, ()), ()))
        (((slices_ContainsFunc_LP_P2 N g.2 (fun y0 => (impl_Graph_isColouring_c2 N y0 colours).bind fun z => some z.1.1)).bind fun r1 =>
          some (((!r1.1.1), ()), ())))))))
noncomputable def impl_Graph_isColouring_S (N : Nat) : FSum := ⟨impl_Graph_isColouring_ps, impl_Graph_isColouring_rs, fun x => impl_Graph_isColouring N x.1 x.2.1 x.2.2.1⟩
theorem impl_Graph_isColouring_run (N : Nat) (x : argsT impl_Graph_isColouring_ps) : impl_Graph_isColouring N x.1 x.2.1 x.2.2.1 = funF (impl_Graph_isColouring_G N) tab [] Tryz.f87 impl_Graph_isColouring_ps impl_Graph_isColouring_rs x := by kernel_rfl
theorem impl_Graph_isColouring_pc (N : Nat) : PC Tryz.prog 87 (impl_Graph_isColouring_S N) := by
  have e : impl_Graph_isColouring_S N = ⟨impl_Graph_isColouring_ps, impl_Graph_isColouring_rs, funF (impl_Graph_isColouring_G N) tab [] Tryz.f87 impl_Graph_isColouring_ps impl_Graph_isColouring_rs⟩ := congrArg (FSum.mk impl_Graph_isColouring_ps impl_Graph_isColouring_rs) (funext (impl_Graph_isColouring_run N))
  rw [e]
  exact fun_ok (c := impl_Graph_isColouring_code) progOk (impl_Graph_isColouring_gok N) (draw_ok progOk (impl_Graph_isColouring_gok N)) Tryz.call87 Tryz.func87 (by kernel_rfl) (lsOk_at (L := []) trivial) (by kernel_rfl) (by kernel_rfl) (by kernel_rfl) (by kernel_rfl) (by kernel_rfl)

/-! ### impl_isColoured_c1 -/
abbrev impl_isColoured_c1_ps : List (PV.Mode × Ty) := [(.ro, LI), (.ro, AQILQII), (.ro, AI)]
abbrev impl_isColoured_c1_rs : List (Bool × Ty) := [(true, .bool)]
noncomputable def impl_isColoured_c1_G (N : Nat) : GTab := gOf [(87, impl_Graph_isColouring_S N)]
theorem impl_isColoured_c1_gok (N : Nat) : GOk Tryz.prog (impl_isColoured_c1_G N) := gOf_ok ⟨impl_Graph_isColouring_pc N, trivial⟩
noncomputable def impl_isColoured_c1_code : Code := (Tryz.f96.body).getD .skip
noncomputable def impl_isColoured_c1 (N : Nat) (colours : (List Int)) (c : (Int × (List (Int × Int)))) (c1 : Int) : Option ((Bool × Unit) × (Unit)) :=
  ((impl_Graph_isColouring N c c1 colours).bind fun r =>
    some (((!r.1.1), ()), ()))
noncomputable def impl_isColoured_c1_S (N : Nat) : FSum := ⟨impl_isColoured_c1_ps, impl_isColoured_c1_rs, fun x => impl_isColoured_c1 N x.1 x.2.1 x.2.2.1⟩
theorem impl_isColoured_c1_run (N : Nat) (x : argsT impl_isColoured_c1_ps) : impl_isColoured_c1 N x.1 x.2.1 x.2.2.1 = funF (impl_isColoured_c1_G N) tab [] Tryz.f96 impl_isColoured_c1_ps impl_isColoured_c1_rs x := by kernel_rfl
theorem impl_isColoured_c1_pc (N : Nat) : PC Tryz.prog 96 (impl_isColoured_c1_S N) := by
  have e : impl_isColoured_c1_S N = ⟨impl_isColoured_c1_ps, impl_isColoured_c1_rs, funF (impl_isColoured_c1_G N) tab [] Tryz.f96 impl_isColoured_c1_ps impl_isColoured_c1_rs⟩ := congrArg (FSum.mk impl_isColoured_c1_ps impl_isColoured_c1_rs) (funext (impl_isColoured_c1_run N))
  rw [e]
  exact fun_ok (c := impl_isColoured_c1_code) progOk (impl_isColoured_c1_gok N) (draw_ok progOk (impl_isColoured_c1_gok N)) Tryz.call96 Tryz.func96 (by kernel_rfl) (lsOk_at (L := []) trivial) (by kernel_rfl) (by kernel_rfl) (by kernel_rfl) (by kernel_rfl) (by kernel_rfl)

/-! ### impl_isColoured -/
abbrev impl_isColoured_ps : List (PV.Mode × Ty) := [(.ro, QILQII), (.ro, I), (.ro, LLI)]
abbrev impl_isColoured_rs : List (Bool × Ty) := [(true, .bool)]
noncomputable def impl_isColoured_G (N : Nat) : GTab := gOf [(86, impl_isColourCase_S N), (95, slices_ContainsFunc_LLI_LI_S N), (96, impl_isColoured_c1_S N)]
theorem impl_isColoured_gok (N : Nat) : GOk Tryz.prog (impl_isColoured_G N) := gOf_ok ⟨impl_isColourCase_pc N, slices_ContainsFunc_LLI_LI_pc N, impl_isColoured_c1_pc N, trivial⟩
noncomputable def impl_isColoured_code : Code := (Tryz.f44.body).getD .skip
noncomputable def impl_isColoured (N : Nat) (g : (Int × (List (Int × Int)))) (kv : Int) (lists : (List (List Int))) : Option ((Bool × Unit) × (Unit)) :=
  ((impl_isColourCase N (g.1, g.2) kv).bind fun r =>
    (br r.1.1
      (((slices_ContainsFunc_LLI_LI N lists (fun y0 => (impl_isColoured_c1 N y0 (g.1, g.2) kv).bind fun z => some z.1.1)).bind fun r1 =>
        some (((!r1.1.1), ()), ())))
      (some ((false, ()), ()))))
noncomputable def impl_isColoured_S (N : Nat) : FSum := ⟨impl_isColoured_ps, impl_isColoured_rs, fun x => impl_isColoured N x.1 x.2.1 x.2.2.1⟩
theorem impl_isColoured_run (N : Nat) (x : argsT impl_isColoured_ps) : impl_isColoured N x.1 x.2.1 x.2.2.1 = funF (impl_isColoured_G N) tab [] Tryz.f44 impl_isColoured_ps impl_isColoured_rs x := by kernel_rfl
theorem impl_isColoured_pc (N : Nat) : PC Tryz.prog 44 (impl_isColoured_S N) := by
  have e : impl_isColoured_S N = ⟨impl_isColoured_ps, impl_isColoured_rs, funF (impl_isColoured_G N) tab [] Tryz.f44 impl_isColoured_ps impl_isColoured_rs⟩ := congrArg (FSum.mk impl_isColoured_ps impl_isColoured_rs) (funext (impl_isColoured_run N))
  rw [e]
  exact fun_ok (c := impl_isColoured_code) progOk (impl_isColoured_gok N) (draw_ok progOk (impl_isColoured_gok N)) Tryz.call44 Tryz.func44 (by kernel_rfl) (lsOk_at (L := []) trivial) (by kernel_rfl) (by kernel_rfl) (by kernel_rfl) (by kernel_rfl) (by kernel_rfl)

/-! ### impl_pair -/
abbrev impl_pair_ps : List (PV.Mode × Ty) := [(.ro, I), (.ro, I)]
abbrev impl_pair_rs : List (Bool × Ty) := [(true, QII)]
noncomputable def impl_pair_G (N : Nat) : GTab := gOf []
theorem impl_pair_gok (N : Nat) : GOk Tryz.prog (impl_pair_G N) := gOf_ok trivial
noncomputable def impl_pair_code : Code := (Tryz.f135.body).getD .skip
noncomputable def impl_pair (N : Nat) (a : Int) (b : Int) : Option (((Int × Int) × Unit) × (Unit)) :=
  some ((((if b < a then b else a), (if b > a then b else a)), ()), ())
noncomputable def impl_pair_S (N : Nat) : FSum := ⟨impl_pair_ps, impl_pair_rs, fun x => impl_pair N x.1 x.2.1⟩
theorem impl_pair_run (N : Nat) (x : argsT impl_pair_ps) : impl_pair N x.1 x.2.1 = funF (impl_pair_G N) tab [] Tryz.f135 impl_pair_ps impl_pair_rs x := by kernel_rfl
theorem impl_pair_pc (N : Nat) : PC Tryz.prog 135 (impl_pair_S N) := by
  have e : impl_pair_S N = ⟨impl_pair_ps, impl_pair_rs, funF (impl_pair_G N) tab [] Tryz.f135 impl_pair_ps impl_pair_rs⟩ := congrArg (FSum.mk impl_pair_ps impl_pair_rs) (funext (impl_pair_run N))
  rw [e]
  exact fun_ok (c := impl_pair_code) progOk (impl_pair_gok N) (draw_ok progOk (impl_pair_gok N)) Tryz.call135 Tryz.func135 (by kernel_rfl) (lsOk_at (L := []) trivial) (by kernel_rfl) (by kernel_rfl) (by kernel_rfl) (by kernel_rfl) (by kernel_rfl)

/-! ### slices_Index_LP_P2 -/
abbrev slices_Index_LP_P2_ps : List (PV.Mode × Ty) := [(.ro, LQII), (.ro, QII)]
abbrev slices_Index_LP_P2_rs : List (Bool × Ty) := [(true, I)]
noncomputable def slices_Index_LP_P2_G (N : Nat) : GTab := gOf []
theorem slices_Index_LP_P2_gok (N : Nat) : GOk Tryz.prog (slices_Index_LP_P2_G N) := gOf_ok trivial
noncomputable def slices_Index_LP_P2_code : Code := (Tryz.f156.body).getD .skip
noncomputable def slices_Index_LP_P2_l0_sh : Sh := ⟨[(0, .one (.ro LQII)), (3, .one (.adr 0 0)), (7, .one (.ro I)), (8, .one (.ro I))], [.box [.ro I, .ro I]]⟩
noncomputable def slices_Index_LP_P2_l0_ex : List (Ex × Sh) := [(.ret, ⟨[(4, .one (.ro I))], []⟩), (.exit 0, ⟨[], []⟩)]
noncomputable def slices_Index_LP_P2_l0 {R : Type} (N : Nat) (k0 : Int → Option R) (k1 : Unit → Option R) : Nat → (List (Int × Int)) → Int → Int → Int → Int → Option R
  | 0, _, _, _, _, _ => none
  | K + 1, s1, x, x1, o, o1 =>
    (br (ilt x1 x)
      ((chk (inb s1 x1)
        (br (ieq o ((rdP s1 x1).1) && ieq o1 ((rdP s1 x1).2))
        (k0 x1)
        (slices_Index_LP_P2_l0 N k0 k1 K s1 x (IntKind.i64.wrap (x1 + 1)) o o1))))
      (k1 ()))
noncomputable def slices_Index_LP_P2_l0_again {R : Type} (N : Nat) (ks : (j : Nat) → ((slices_Index_LP_P2_l0_ex.getD j (.ret, Sh.none)).2).T → Option R) (k : Nat) (x : slices_Index_LP_P2_l0_sh.T) : Option R :=
  slices_Index_LP_P2_l0 N (fun y0 => ks 0 ((y0, ()), ())) (fun (_ : Unit) => ks 1 ((), ())) k x.1.1 x.1.2.2.1 x.1.2.2.2.1 x.2.1.1 x.2.1.2.1
noncomputable def slices_Index_LP_P2_l0_s (N : Nat) : LSum := ⟨slices_Index_LP_P2_l0_sh, slices_Index_LP_P2_l0_ex, fun x ks => slices_Index_LP_P2_l0_again N ks N x⟩
theorem slices_Index_LP_P2_l0_step (N : Nat) (R : Type) (k : Nat) (x : slices_Index_LP_P2_l0_sh.T) (ks : (j : Nat) → ((slices_Index_LP_P2_l0_ex.getD j (.ret, Sh.none)).2).T → Option R) : slices_Index_LP_P2_l0_again N ks (k + 1) x = roundF (slices_Index_LP_P2_G N) tab [] (loopAt slices_Index_LP_P2_code 0) slices_Index_LP_P2_l0_sh slices_Index_LP_P2_l0_ex (fun y => slices_Index_LP_P2_l0_again N ks k y) ks x := by kernel_rfl
theorem slices_Index_LP_P2_l0_ok (N : Nat) : LoopOk Tryz.prog Tryz.f156.ntmps (slices_Index_LP_P2_l0_s N) (loopAt slices_Index_LP_P2_code 0) :=
  loop_ok (l := slices_Index_LP_P2_l0_s N) progOk (slices_Index_LP_P2_gok N) (draw_ok progOk (slices_Index_LP_P2_gok N)) (fun R k x ks => slices_Index_LP_P2_l0_again N ks k x) (fun _ _ _ => rfl) (fun R k x ks => slices_Index_LP_P2_l0_step N R k x ks) (fun R x ks r h => ⟨N, h⟩) (lsOk_at (L := []) trivial) (by kernel_rfl) (by kernel_rfl)
noncomputable def slices_Index_LP_P2 (N : Nat) (s : (List (Int × Int))) (v : (Int × Int)) : Option ((Int × Unit) × (Unit)) :=
  slices_Index_LP_P2_l0 N (fun x => some ((x, ()), ())) (fun (_ : Unit) => some (((-1), ()), ())) N s (tLen s) 0 v.1 v.2
noncomputable def slices_Index_LP_P2_S (N : Nat) : FSum := ⟨slices_Index_LP_P2_ps, slices_Index_LP_P2_rs, fun x => slices_Index_LP_P2 N x.1 x.2.1⟩
theorem slices_Index_LP_P2_run (N : Nat) (x : argsT slices_Index_LP_P2_ps) : slices_Index_LP_P2 N x.1 x.2.1 = funF (slices_Index_LP_P2_G N) tab [slices_Index_LP_P2_l0_s N] Tryz.f156 slices_Index_LP_P2_ps slices_Index_LP_P2_rs x := by kernel_rfl
theorem slices_Index_LP_P2_pc (N : Nat) : PC Tryz.prog 156 (slices_Index_LP_P2_S N) := by
  have e : slices_Index_LP_P2_S N = ⟨slices_Index_LP_P2_ps, slices_Index_LP_P2_rs, funF (slices_Index_LP_P2_G N) tab [slices_Index_LP_P2_l0_s N] Tryz.f156 slices_Index_LP_P2_ps slices_Index_LP_P2_rs⟩ := congrArg (FSum.mk slices_Index_LP_P2_ps slices_Index_LP_P2_rs) (funext (slices_Index_LP_P2_run N))
  rw [e]
  exact fun_ok (c := slices_Index_LP_P2_code) progOk (slices_Index_LP_P2_gok N) (draw_ok progOk (slices_Index_LP_P2_gok N)) Tryz.call156 Tryz.func156 (by kernel_rfl) (lsOk_at (L := [slices_Index_LP_P2_l0_s N]) ⟨slices_Index_LP_P2_l0_ok N, trivial⟩) (by kernel_rfl) (by kernel_rfl) (by kernel_rfl) (by kernel_rfl) (by kernel_rfl)

/-! ### slices_Contains_LP_P2 -/
abbrev slices_Contains_LP_P2_ps : List (PV.Mode × Ty) := [(.ro, LQII), (.ro, QII)]
abbrev slices_Contains_LP_P2_rs : List (Bool × Ty) := [(true, .bool)]
noncomputable def slices_Contains_LP_P2_G (N : Nat) : GTab := gOf [(156, slices_Index_LP_P2_S N)]
theorem slices_Contains_LP_P2_gok (N : Nat) : GOk Tryz.prog (slices_Contains_LP_P2_G N) := gOf_ok ⟨slices_Index_LP_P2_pc N, trivial⟩
noncomputable def slices_Contains_LP_P2_code : Code := (Tryz.f134.body).getD .skip
noncomputable def slices_Contains_LP_P2 (N : Nat) (s : (List (Int × Int))) (v : (Int × Int)) : Option ((Bool × Unit) × (Unit)) :=
  ((slices_Index_LP_P2 N s (v.1, v.2)).bind fun r =>
    some (((ile 0 r.1.1), ()), ()))
noncomputable def slices_Contains_LP_P2_S (N : Nat) : FSum := ⟨slices_Contains_LP_P2_ps, slices_Contains_LP_P2_rs, fun x => slices_Contains_LP_P2 N x.1 x.2.1⟩
theorem slices_Contains_LP_P2_run (N : Nat) (x : argsT slices_Contains_LP_P2_ps) : slices_Contains_LP_P2 N x.1 x.2.1 = funF (slices_Contains_LP_P2_G N) tab [] Tryz.f134 slices_Contains_LP_P2_ps slices_Contains_LP_P2_rs x := by kernel_rfl
theorem slices_Contains_LP_P2_pc (N : Nat) : PC Tryz.prog 134 (slices_Contains_LP_P2_S N) := by
  have e : slices_Contains_LP_P2_S N = ⟨slices_Contains_LP_P2_ps, slices_Contains_LP_P2_rs, funF (slices_Contains_LP_P2_G N) tab [] Tryz.f134 slices_Contains_LP_P2_ps slices_Contains_LP_P2_rs⟩ := congrArg (FSum.mk slices_Contains_LP_P2_ps slices_Contains_LP_P2_rs) (funext (slices_Contains_LP_P2_run N))
  rw [e]
  exact fun_ok (c := slices_Contains_LP_P2_code) progOk (slices_Contains_LP_P2_gok N) (draw_ok progOk (slices_Contains_LP_P2_gok N)) Tryz.call134 Tryz.func134 (by kernel_rfl) (lsOk_at (L := []) trivial) (by kernel_rfl) (by kernel_rfl) (by kernel_rfl) (by kernel_rfl) (by kernel_rfl)

/-! ### impl_Graph_has -/
abbrev impl_Graph_has_ps : List (PV.Mode × Ty) := [(.ro, QILQII), (.ro, I), (.ro, I)]
abbrev impl_Graph_has_rs : List (Bool × Ty) := [(true, .bool)]
noncomputable def impl_Graph_has_G (N : Nat) : GTab := gOf [(135, impl_pair_S N), (134, slices_Contains_LP_P2_S N)]
theorem impl_Graph_has_gok (N : Nat) : GOk Tryz.prog (impl_Graph_has_G N) := gOf_ok ⟨impl_pair_pc N, slices_Contains_LP_P2_pc N, trivial⟩
noncomputable def impl_Graph_has_code : Code := (Tryz.f98.body).getD .skip
noncomputable def impl_Graph_has (N : Nat) (g : (Int × (List (Int × Int)))) (a : Int) (b : Int) : Option ((Bool × Unit) × (Unit)) :=
  ((impl_pair N a b).bind fun r =>
    ((slices_Contains_LP_P2 N g.2 (r.1.1.1, r.1.1.2)).bind fun r1 =>
      some ((r1.1.1, ()), ())))
noncomputable def impl_Graph_has_S (N : Nat) : FSum := ⟨impl_Graph_has_ps, impl_Graph_has_rs, fun x => impl_Graph_has N x.1 x.2.1 x.2.2.1⟩
theorem impl_Graph_has_run (N : Nat) (x : argsT impl_Graph_has_ps) : impl_Graph_has N x.1 x.2.1 x.2.2.1 = funF (impl_Graph_has_G N) tab [] Tryz.f98 impl_Graph_has_ps impl_Graph_has_rs x := by kernel_rfl
theorem impl_Graph_has_pc (N : Nat) : PC Tryz.prog 98 (impl_Graph_has_S N) := by
  have e : impl_Graph_has_S N = ⟨impl_Graph_has_ps, impl_Graph_has_rs, funF (impl_Graph_has_G N) tab [] Tryz.f98 impl_Graph_has_ps impl_Graph_has_rs⟩ := congrArg (FSum.mk impl_Graph_has_ps impl_Graph_has_rs) (funext (impl_Graph_has_run N))
  rw [e]
  exact fun_ok (c := impl_Graph_has_code) progOk (impl_Graph_has_gok N) (draw_ok progOk (impl_Graph_has_gok N)) Tryz.call98 Tryz.func98 (by kernel_rfl) (lsOk_at (L := []) trivial) (by kernel_rfl) (by kernel_rfl) (by kernel_rfl) (by kernel_rfl) (by kernel_rfl)

/-! ### impl_Graph_isTrip -/
abbrev impl_Graph_isTrip_ps : List (PV.Mode × Ty) := [(.ro, QILQII), (.ro, LI)]
abbrev impl_Graph_isTrip_rs : List (Bool × Ty) := [(true, .bool)]
noncomputable def impl_Graph_isTrip_G (N : Nat) : GTab := gOf [(97, impl_between_S N), (98, impl_Graph_has_S N)]
theorem impl_Graph_isTrip_gok (N : Nat) : GOk Tryz.prog (impl_Graph_isTrip_G N) := gOf_ok ⟨impl_between_pc N, impl_Graph_has_pc N, trivial⟩
noncomputable def impl_Graph_isTrip_code : Code := (Tryz.f45.body).getD .skip
noncomputable def impl_Graph_isTrip_l0_sh : Sh := ⟨[(1, .one (.ro LI)), (2, .one (.adr 0 0)), (8, .one (.ro LI)), (9, .one (.ro I)), (10, .one (.ro I))], [.box [.ro I, .ro LQII]]⟩
noncomputable def impl_Graph_isTrip_l0_ex : List (Ex × Sh) := [(.ret, ⟨[(4, .one (.ro .bool))], []⟩), (.exit 0, ⟨[(1, .one (.ro LI))], []⟩)]
noncomputable def impl_Graph_isTrip_l0 {R : Type} (N : Nat) (k0 : Bool → Option R) (k1 : (List Int) → Option R) : Nat → (List Int) → (List Int) → Int → Int → Int → (List (Int × Int)) → Option R
  | 0, _, _, _, _, _, _ => none
  | K + 1, trip1, x, x1, x2, o, o1 =>
    (br (ilt x2 x1)
      ((chk (inb x x2)
        (chk (ine (tLen trip1) 0)
        (chk (inb trip1 ((IntKind.i64.wrap (x2 + 1)).tmod (tLen trip1)))
        ((impl_between N (rdI x x2) 0 (IntKind.i64.wrap (o - 1))).bind fun r =>
        (br (!r.1.1)
          (k0 false)
          (((impl_Graph_has N (o, o1) (rdI x x2) (rdI trip1 ((IntKind.i64.wrap (x2 + 1)).tmod (tLen trip1)))).bind fun r1 =>
            (br (!r1.1.1)
              (k0 false)
              (impl_Graph_isTrip_l0 N k0 k1 K trip1 x x1 (IntKind.i64.wrap (x2 + 1)) o o1))))))))))
      (k1 trip1))
noncomputable def impl_Graph_isTrip_l0_again {R : Type} (N : Nat) (ks : (j : Nat) → ((impl_Graph_isTrip_l0_ex.getD j (.ret, Sh.none)).2).T → Option R) (k : Nat) (x : impl_Graph_isTrip_l0_sh.T) : Option R :=
  impl_Graph_isTrip_l0 N (fun y0 => ks 0 ((y0, ()), ())) (fun y0 => ks 1 ((y0, ()), ())) k x.1.1 x.1.2.2.1 x.1.2.2.2.1 x.1.2.2.2.2.1 x.2.1.1 x.2.1.2.1
noncomputable def impl_Graph_isTrip_l0_s (N : Nat) : LSum := ⟨impl_Graph_isTrip_l0_sh, impl_Graph_isTrip_l0_ex, fun x ks => impl_Graph_isTrip_l0_again N ks N x⟩
theorem impl_Graph_isTrip_l0_step (N : Nat) (R : Type) (k : Nat) (x : impl_Graph_isTrip_l0_sh.T) (ks : (j : Nat) → ((impl_Graph_isTrip_l0_ex.getD j (.ret, Sh.none)).2).T → Option R) : impl_Graph_isTrip_l0_again N ks (k + 1) x = roundF (impl_Graph_isTrip_G N) tab [] (loopAt impl_Graph_isTrip_code 0) impl_Graph_isTrip_l0_sh impl_Graph_isTrip_l0_ex (fun y => impl_Graph_isTrip_l0_again N ks k y) ks x := by kernel_rfl
theorem impl_Graph_isTrip_l0_ok (N : Nat) : LoopOk Tryz.prog Tryz.f45.ntmps (impl_Graph_isTrip_l0_s N) (loopAt impl_Graph_isTrip_code 0) :=
  loop_ok (l := impl_Graph_isTrip_l0_s N) progOk (impl_Graph_isTrip_gok N) (draw_ok progOk (impl_Graph_isTrip_gok N)) (fun R k x ks => impl_Graph_isTrip_l0_again N ks k x) (fun _ _ _ => rfl) (fun R k x ks => impl_Graph_isTrip_l0_step N R k x ks) (fun R x ks r h => ⟨N, h⟩) (lsOk_at (L := []) trivial) (by kernel_rfl) (by kernel_rfl)
noncomputable def impl_Graph_isTrip (N : Nat) (g : (Int × (List (Int × Int)))) (trip : (List Int)) : Option ((Bool × Unit) × (Unit)) :=
  impl_Graph_isTrip_l0 N (fun x => some ((x, ()), ())) (fun trip1 => ((impl_between N (tLen trip1) 1 20).bind fun r =>
    some ((r.1.1, ()), ()))) N trip trip (tLen trip) 0 g.1 g.2
noncomputable def impl_Graph_isTrip_S (N : Nat) : FSum := ⟨impl_Graph_isTrip_ps, impl_Graph_isTrip_rs, fun x => impl_Graph_isTrip N x.1 x.2.1⟩
theorem impl_Graph_isTrip_run (N : Nat) (x : argsT impl_Graph_isTrip_ps) : impl_Graph_isTrip N x.1 x.2.1 = funF (impl_Graph_isTrip_G N) tab [impl_Graph_isTrip_l0_s N] Tryz.f45 impl_Graph_isTrip_ps impl_Graph_isTrip_rs x := by kernel_rfl
theorem impl_Graph_isTrip_pc (N : Nat) : PC Tryz.prog 45 (impl_Graph_isTrip_S N) := by
  have e : impl_Graph_isTrip_S N = ⟨impl_Graph_isTrip_ps, impl_Graph_isTrip_rs, funF (impl_Graph_isTrip_G N) tab [impl_Graph_isTrip_l0_s N] Tryz.f45 impl_Graph_isTrip_ps impl_Graph_isTrip_rs⟩ := congrArg (FSum.mk impl_Graph_isTrip_ps impl_Graph_isTrip_rs) (funext (impl_Graph_isTrip_run N))
  rw [e]
  exact fun_ok (c := impl_Graph_isTrip_code) progOk (impl_Graph_isTrip_gok N) (draw_ok progOk (impl_Graph_isTrip_gok N)) Tryz.call45 Tryz.func45 (by kernel_rfl) (lsOk_at (L := [impl_Graph_isTrip_l0_s N]) ⟨impl_Graph_isTrip_l0_ok N, trivial⟩) (by kernel_rfl) (by kernel_rfl) (by kernel_rfl) (by kernel_rfl) (by kernel_rfl)

/-! ### impl_WindingOf -/
abbrev impl_WindingOf_ps : List (PV.Mode × Ty) := [(.ro, QILQII), (.ro, LI), (.ro, LI)]
abbrev impl_WindingOf_rs : List (Bool × Ty) := [(true, I), (true, .bool)]
noncomputable def impl_WindingOf_G (N : Nat) : GTab := gOf [(44, impl_isColoured_S N), (45, impl_Graph_isTrip_S N)]
theorem impl_WindingOf_gok (N : Nat) : GOk Tryz.prog (impl_WindingOf_G N) := gOf_ok ⟨impl_isColoured_pc N, impl_Graph_isTrip_pc N, trivial⟩
noncomputable def impl_WindingOf_code : Code := (Tryz.f8.body).getD .skip
noncomputable def impl_WindingOf_l0_sh : Sh := ⟨[(1, .one (.ro LI)), (2, .one (.ro LI)), (8, .one (.ro I)), (23, .one (.ro LI)), (24, .one (.ro I)), (25, .one (.ro I))], []⟩
noncomputable def impl_WindingOf_l0_ex : List (Ex × Sh) := [(.exit 0, ⟨[(8, .one (.ro I))], []⟩)]
noncomputable def impl_WindingOf_l0 {R : Type} (N : Nat) (k0 : Int → Option R) : Nat → (List Int) → (List Int) → Int → (List Int) → Int → Int → Option R
  | 0, _, _, _, _, _, _ => none
  | K + 1, colours1, trip1, sum, x, x1, x2 =>
    (br (ilt x2 x1)
      ((chk (inb x x2)
        (chk (ine (tLen trip1) 0)
        (chk (inb trip1 ((IntKind.i64.wrap (x2 + 1)).tmod (tLen trip1)))
        (chk (inb colours1 (rdI trip1 ((IntKind.i64.wrap (x2 + 1)).tmod (tLen trip1))))
        (chk (inb colours1 (rdI x x2))
        (br (ieq (rdI colours1 (rdI trip1 ((IntKind.i64.wrap (x2 + 1)).tmod (tLen trip1)))) ((IntKind.i64.wrap ((rdI colours1 (rdI x x2)) + 1)).tmod 3))
        (impl_WindingOf_l0 N k0 K colours1 trip1 (IntKind.i64.wrap (sum + 1)) x x1 (IntKind.i64.wrap (x2 + 1)))
        (impl_WindingOf_l0 N k0 K colours1 trip1 (IntKind.i64.wrap (sum - 1)) x x1 (IntKind.i64.wrap (x2 + 1))))))))))
      (k0 sum))
noncomputable def impl_WindingOf_l0_again {R : Type} (N : Nat) (ks : (j : Nat) → ((impl_WindingOf_l0_ex.getD j (.ret, Sh.none)).2).T → Option R) (k : Nat) (x : impl_WindingOf_l0_sh.T) : Option R :=
  impl_WindingOf_l0 N (fun y0 => ks 0 ((y0, ()), ())) k x.1.1 x.1.2.1 x.1.2.2.1 x.1.2.2.2.1 x.1.2.2.2.2.1 x.1.2.2.2.2.2.1
noncomputable def impl_WindingOf_l0_s (N : Nat) : LSum := ⟨impl_WindingOf_l0_sh, impl_WindingOf_l0_ex, fun x ks => impl_WindingOf_l0_again N ks N x⟩
theorem impl_WindingOf_l0_step (N : Nat) (R : Type) (k : Nat) (x : impl_WindingOf_l0_sh.T) (ks : (j : Nat) → ((impl_WindingOf_l0_ex.getD j (.ret, Sh.none)).2).T → Option R) : impl_WindingOf_l0_again N ks (k + 1) x = roundF (impl_WindingOf_G N) tab [] (loopAt impl_WindingOf_code 0) impl_WindingOf_l0_sh impl_WindingOf_l0_ex (fun y => impl_WindingOf_l0_again N ks k y) ks x := by kernel_rfl
theorem impl_WindingOf_l0_ok (N : Nat) : LoopOk Tryz.prog Tryz.f8.ntmps (impl_WindingOf_l0_s N) (loopAt impl_WindingOf_code 0) :=
  loop_ok (l := impl_WindingOf_l0_s N) progOk (impl_WindingOf_gok N) (draw_ok progOk (impl_WindingOf_gok N)) (fun R k x ks => impl_WindingOf_l0_again N ks k x) (fun _ _ _ => rfl) (fun R k x ks => impl_WindingOf_l0_step N R k x ks) (fun R x ks r h => ⟨N, h⟩) (lsOk_at (L := []) trivial) (by kernel_rfl) (by kernel_rfl)
noncomputable def impl_WindingOf (N : Nat) (g : (Int × (List (Int × Int)))) (colours : (List Int)) (trip : (List Int)) : Option ((Int × Bool × Unit) × (Unit)) :=
  ((impl_isColoured N (g.1, g.2) 3 [colours]).bind fun r =>
    (br (!r.1.1)
      (some ((0, false, ()), ()))
      (((impl_Graph_isTrip N (g.1, g.2) trip).bind fun r1 =>
        (br (!r1.1.1)
          (some ((0, false, ()), ()))
          (impl_WindingOf_l0 N (fun sum => some (((IntKind.i64.wrap (sum.tdiv 3)), true, ()), ())) N colours trip 0 trip (tLen trip) 0))))))
noncomputable def impl_WindingOf_S (N : Nat) : FSum := ⟨impl_WindingOf_ps, impl_WindingOf_rs, fun x => impl_WindingOf N x.1 x.2.1 x.2.2.1⟩
theorem impl_WindingOf_run (N : Nat) (x : argsT impl_WindingOf_ps) : impl_WindingOf N x.1 x.2.1 x.2.2.1 = funF (impl_WindingOf_G N) tab [impl_WindingOf_l0_s N] Tryz.f8 impl_WindingOf_ps impl_WindingOf_rs x := by kernel_rfl
theorem impl_WindingOf_pc (N : Nat) : PC Tryz.prog 8 (impl_WindingOf_S N) := by
  have e : impl_WindingOf_S N = ⟨impl_WindingOf_ps, impl_WindingOf_rs, funF (impl_WindingOf_G N) tab [impl_WindingOf_l0_s N] Tryz.f8 impl_WindingOf_ps impl_WindingOf_rs⟩ := congrArg (FSum.mk impl_WindingOf_ps impl_WindingOf_rs) (funext (impl_WindingOf_run N))
  rw [e]
  exact fun_ok (c := impl_WindingOf_code) progOk (impl_WindingOf_gok N) (draw_ok progOk (impl_WindingOf_gok N)) Tryz.call8 Tryz.func8 (by kernel_rfl) (lsOk_at (L := [impl_WindingOf_l0_s N]) ⟨impl_WindingOf_l0_ok N, trivial⟩) (by kernel_rfl) (by kernel_rfl) (by kernel_rfl) (by kernel_rfl) (by kernel_rfl)

/-! ### spec_l5Proper -/
abbrev spec_l5Proper_ps : List (PV.Mode × Ty) := [(.ro, QILQII), (.ro, I), (.ro, LI)]
abbrev spec_l5Proper_rs : List (Bool × Ty) := [(true, .bool)]
noncomputable def spec_l5Proper_G (N : Nat) : GTab := gOf [(92, spec_l1In_S N)]
theorem spec_l5Proper_gok (N : Nat) : GOk Tryz.prog (spec_l5Proper_G N) := gOf_ok ⟨spec_l1In_pc N, trivial⟩
noncomputable def spec_l5Proper_code : Code := (Tryz.f85.body).getD .skip
noncomputable def spec_l5Proper_l0_sh : Sh := ⟨[(1, .one (.ro I)), (2, .one (.ro LI)), (3, .one (.adr 0 0)), (7, .one (.ro I))], [.box [.ro I, .ro LQII]]⟩
noncomputable def spec_l5Proper_l0_ex : List (Ex × Sh) := [(.ret, ⟨[(6, .one (.ro .bool))], []⟩), (.exit 0, ⟨[(2, .one (.ro LI)), (3, .one (.adr 0 0))], [.box [.ro I, .ro LQII]]⟩)]
noncomputable def spec_l5Proper_l0 {R : Type} (N : Nat) (k0 : Bool → Option R) (k1 : (List Int) → Int → (List (Int × Int)) → Option R) : Nat → Int → (List Int) → Int → Int → (List (Int × Int)) → Option R
  | 0, _, _, _, _, _ => none
  | K + 1, kv1, colours1, x, o, o1 =>
    (br (ilt x o)
      ((chk (inb colours1 x)
        ((spec_l1In N (rdI colours1 x) 0 (IntKind.i64.wrap (kv1 - 1))).bind fun r =>
        (br (!r.1.1)
          (k0 false)
          (spec_l5Proper_l0 N k0 k1 K kv1 colours1 (IntKind.i64.wrap (x + 1)) o o1)))))
      (k1 colours1 o o1))
noncomputable def spec_l5Proper_l0_again {R : Type} (N : Nat) (ks : (j : Nat) → ((spec_l5Proper_l0_ex.getD j (.ret, Sh.none)).2).T → Option R) (k : Nat) (x : spec_l5Proper_l0_sh.T) : Option R :=
  spec_l5Proper_l0 N (fun y0 => ks 0 ((y0, ()), ())) (fun y0 y1 y2 => ks 1 ((y0, (), ()), ((y1, y2, ()), ()))) k x.1.1 x.1.2.1 x.1.2.2.2.1 x.2.1.1 x.2.1.2.1
noncomputable def spec_l5Proper_l0_s (N : Nat) : LSum := ⟨spec_l5Proper_l0_sh, spec_l5Proper_l0_ex, fun x ks => spec_l5Proper_l0_again N ks N x⟩
theorem spec_l5Proper_l0_step (N : Nat) (R : Type) (k : Nat) (x : spec_l5Proper_l0_sh.T) (ks : (j : Nat) → ((spec_l5Proper_l0_ex.getD j (.ret, Sh.none)).2).T → Option R) : spec_l5Proper_l0_again N ks (k + 1) x = roundF (spec_l5Proper_G N) tab [] (loopAt spec_l5Proper_code 0) spec_l5Proper_l0_sh spec_l5Proper_l0_ex (fun y => spec_l5Proper_l0_again N ks k y) ks x := by kernel_rfl
theorem spec_l5Proper_l0_ok (N : Nat) : LoopOk Tryz.prog Tryz.f85.ntmps (spec_l5Proper_l0_s N) (loopAt spec_l5Proper_code 0) :=
  loop_ok (l := spec_l5Proper_l0_s N) progOk (spec_l5Proper_gok N) (draw_ok progOk (spec_l5Proper_gok N)) (fun R k x ks => spec_l5Proper_l0_again N ks k x) (fun _ _ _ => rfl) (fun R k x ks => spec_l5Proper_l0_step N R k x ks) (fun R x ks r h => ⟨N, h⟩) (lsOk_at (L := []) trivial) (by kernel_rfl) (by kernel_rfl)
noncomputable def spec_l5Proper_l1_sh : Sh := ⟨[(2, .one (.ro LI)), (3, .one (.adr 0 0)), (8, .one (.ro I))], [.box [.ro I, .ro LQII]]⟩
noncomputable def spec_l5Proper_l1_ex : List (Ex × Sh) := [(.ret, ⟨[(6, .one (.ro .bool))], []⟩), (.exit 2, ⟨[], []⟩)]
noncomputable def spec_l5Proper_l1 {R : Type} (N : Nat) (k0 : Bool → Option R) (k1 : Unit → Option R) : Nat → (List Int) → Int → Int → (List (Int × Int)) → Option R
  | 0, _, _, _, _ => none
  | K + 1, colours2, i, o2, o3 =>
    (br (ilt i (tLen o3))
      ((chk (inb o3 i)
        (chk (inb colours2 ((rdP o3 i).1))
        (chk (inb o3 i)
        (chk (inb colours2 ((rdP o3 i).2))
        (br (ieq (rdI colours2 ((rdP o3 i).1)) (rdI colours2 ((rdP o3 i).2)))
        (k0 false)
        (spec_l5Proper_l1 N k0 k1 K colours2 (IntKind.i64.wrap (i + 1)) o2 o3)))))))
      (k1 ()))
noncomputable def spec_l5Proper_l1_again {R : Type} (N : Nat) (ks : (j : Nat) → ((spec_l5Proper_l1_ex.getD j (.ret, Sh.none)).2).T → Option R) (k : Nat) (x : spec_l5Proper_l1_sh.T) : Option R :=
  spec_l5Proper_l1 N (fun y0 => ks 0 ((y0, ()), ())) (fun (_ : Unit) => ks 1 ((), ())) k x.1.1 x.1.2.2.1 x.2.1.1 x.2.1.2.1
noncomputable def spec_l5Proper_l1_s (N : Nat) : LSum := ⟨spec_l5Proper_l1_sh, spec_l5Proper_l1_ex, fun x ks => spec_l5Proper_l1_again N ks N x⟩
theorem spec_l5Proper_l1_step (N : Nat) (R : Type) (k : Nat) (x : spec_l5Proper_l1_sh.T) (ks : (j : Nat) → ((spec_l5Proper_l1_ex.getD j (.ret, Sh.none)).2).T → Option R) : spec_l5Proper_l1_again N ks (k + 1) x = roundF (spec_l5Proper_G N) tab [] (loopAt spec_l5Proper_code 1) spec_l5Proper_l1_sh spec_l5Proper_l1_ex (fun y => spec_l5Proper_l1_again N ks k y) ks x := by kernel_rfl
theorem spec_l5Proper_l1_ok (N : Nat) : LoopOk Tryz.prog Tryz.f85.ntmps (spec_l5Proper_l1_s N) (loopAt spec_l5Proper_code 1) :=
  loop_ok (l := spec_l5Proper_l1_s N) progOk (spec_l5Proper_gok N) (draw_ok progOk (spec_l5Proper_gok N)) (fun R k x ks => spec_l5Proper_l1_again N ks k x) (fun _ _ _ => rfl) (fun R k x ks => spec_l5Proper_l1_step N R k x ks) (fun R x ks r h => ⟨N, h⟩) (lsOk_at (L := []) trivial) (by kernel_rfl) (by kernel_rfl)
noncomputable def spec_l5Proper (N : Nat) (g : (Int × (List (Int × Int)))) (kv : Int) (colours : (List Int)) : Option ((Bool × Unit) × (Unit)) :=
  (br (ine (tLen colours) g.1)
    (some ((false, ()), ()))
    (spec_l5Proper_l0 N (fun x => some ((x, ()), ())) (fun colours1 o o1 => spec_l5Proper_l1 N (fun x1 => some ((x1, ()), ())) (fun (_ : Unit) => some ((true, ()), ())) N colours1 0 o o1) N kv colours 0 g.1 g.2))
noncomputable def spec_l5Proper_S (N : Nat) : FSum := ⟨spec_l5Proper_ps, spec_l5Proper_rs, fun x => spec_l5Proper N x.1 x.2.1 x.2.2.1⟩
theorem spec_l5Proper_run (N : Nat) (x : argsT spec_l5Proper_ps) : spec_l5Proper N x.1 x.2.1 x.2.2.1 = funF (spec_l5Proper_G N) tab [spec_l5Proper_l0_s N, spec_l5Proper_l1_s N] Tryz.f85 spec_l5Proper_ps spec_l5Proper_rs x := by kernel_rfl
theorem spec_l5Proper_pc (N : Nat) : PC Tryz.prog 85 (spec_l5Proper_S N) := by
  have e : spec_l5Proper_S N = ⟨spec_l5Proper_ps, spec_l5Proper_rs, funF (spec_l5Proper_G N) tab [spec_l5Proper_l0_s N, spec_l5Proper_l1_s N] Tryz.f85 spec_l5Proper_ps spec_l5Proper_rs⟩ := congrArg (FSum.mk spec_l5Proper_ps spec_l5Proper_rs) (funext (spec_l5Proper_run N))
  rw [e]
  exact fun_ok (c := spec_l5Proper_code) progOk (spec_l5Proper_gok N) (draw_ok progOk (spec_l5Proper_gok N)) Tryz.call85 Tryz.func85 (by kernel_rfl) (lsOk_at (L := [spec_l5Proper_l0_s N, spec_l5Proper_l1_s N]) ⟨spec_l5Proper_l0_ok N, spec_l5Proper_l1_ok N, trivial⟩) (by kernel_rfl) (by kernel_rfl) (by kernel_rfl) (by kernel_rfl) (by kernel_rfl)

/-! ### spec_l5Given -/
abbrev spec_l5Given_ps : List (PV.Mode × Ty) := [(.ro, QILQII), (.ro, I), (.ro, LI)]
abbrev spec_l5Given_rs : List (Bool × Ty) := [(true, .bool)]
noncomputable def spec_l5Given_G (N : Nat) : GTab := gOf [(99, spec_l5Ask_S N), (85, spec_l5Proper_S N)]
theorem spec_l5Given_gok (N : Nat) : GOk Tryz.prog (spec_l5Given_G N) := gOf_ok ⟨spec_l5Ask_pc N, spec_l5Proper_pc N, trivial⟩
noncomputable def spec_l5Given_code : Code := (Tryz.f46.body).getD .skip
noncomputable def spec_l5Given (N : Nat) (g : (Int × (List (Int × Int)))) (kv : Int) (colours : (List Int)) : Option ((Bool × Unit) × (Unit)) :=
  ((spec_l5Ask N (g.1, g.2) kv).bind fun r =>
    (br r.1.1
      (((spec_l5Proper N (g.1, g.2) kv colours).bind fun r1 =>
        some ((r1.1.1, ()), ())))
      (some ((false, ()), ()))))
noncomputable def spec_l5Given_S (N : Nat) : FSum := ⟨spec_l5Given_ps, spec_l5Given_rs, fun x => spec_l5Given N x.1 x.2.1 x.2.2.1⟩
theorem spec_l5Given_run (N : Nat) (x : argsT spec_l5Given_ps) : spec_l5Given N x.1 x.2.1 x.2.2.1 = funF (spec_l5Given_G N) tab [] Tryz.f46 spec_l5Given_ps spec_l5Given_rs x := by kernel_rfl
theorem spec_l5Given_pc (N : Nat) : PC Tryz.prog 46 (spec_l5Given_S N) := by
  have e : spec_l5Given_S N = ⟨spec_l5Given_ps, spec_l5Given_rs, funF (spec_l5Given_G N) tab [] Tryz.f46 spec_l5Given_ps spec_l5Given_rs⟩ := congrArg (FSum.mk spec_l5Given_ps spec_l5Given_rs) (funext (spec_l5Given_run N))
  rw [e]
  exact fun_ok (c := spec_l5Given_code) progOk (spec_l5Given_gok N) (draw_ok progOk (spec_l5Given_gok N)) Tryz.call46 Tryz.func46 (by kernel_rfl) (lsOk_at (L := []) trivial) (by kernel_rfl) (by kernel_rfl) (by kernel_rfl) (by kernel_rfl) (by kernel_rfl)

/-! ### spec_l5Trip -/
abbrev spec_l5Trip_ps : List (PV.Mode × Ty) := [(.ro, QILQII), (.ro, LI)]
abbrev spec_l5Trip_rs : List (Bool × Ty) := [(true, .bool)]
noncomputable def spec_l5Trip_G (N : Nat) : GTab := gOf [(69, spec_l2Near_S N), (92, spec_l1In_S N)]
theorem spec_l5Trip_gok (N : Nat) : GOk Tryz.prog (spec_l5Trip_G N) := gOf_ok ⟨spec_l2Near_pc N, spec_l1In_pc N, trivial⟩
noncomputable def spec_l5Trip_code : Code := (Tryz.f47.body).getD .skip
noncomputable def spec_l5Trip_l0_sh : Sh := ⟨[(1, .one (.ro LI)), (2, .one (.adr 0 0)), (5, .one (.ro I))], [.box [.ro I, .ro LQII]]⟩
noncomputable def spec_l5Trip_l0_ex : List (Ex × Sh) := [(.ret, ⟨[(4, .one (.ro .bool))], []⟩), (.exit 0, ⟨[(1, .one (.ro LI))], []⟩)]
noncomputable def spec_l5Trip_l0 {R : Type} (N : Nat) (k0 : Bool → Option R) (k1 : (List Int) → Option R) : Nat → (List Int) → Int → Int → (List (Int × Int)) → Option R
  | 0, _, _, _, _ => none
  | K + 1, trip1, i, o, o1 =>
    (br (ilt i (tLen trip1))
      ((chk (inb trip1 i)
        (chk (ine (tLen trip1) 0)
        (chk (inb trip1 ((IntKind.i64.wrap (i + 1)).tmod (tLen trip1)))
        ((spec_l2Near N (o, o1) (rdI trip1 i) (rdI trip1 ((IntKind.i64.wrap (i + 1)).tmod (tLen trip1)))).bind fun r =>
        (br (!r.1.1)
          (k0 false)
          (spec_l5Trip_l0 N k0 k1 K trip1 (IntKind.i64.wrap (i + 1)) o o1)))))))
      (k1 trip1))
noncomputable def spec_l5Trip_l0_again {R : Type} (N : Nat) (ks : (j : Nat) → ((spec_l5Trip_l0_ex.getD j (.ret, Sh.none)).2).T → Option R) (k : Nat) (x : spec_l5Trip_l0_sh.T) : Option R :=
  spec_l5Trip_l0 N (fun y0 => ks 0 ((y0, ()), ())) (fun y0 => ks 1 ((y0, ()), ())) k x.1.1 x.1.2.2.1 x.2.1.1 x.2.1.2.1
noncomputable def spec_l5Trip_l0_s (N : Nat) : LSum := ⟨spec_l5Trip_l0_sh, spec_l5Trip_l0_ex, fun x ks => spec_l5Trip_l0_again N ks N x⟩
theorem spec_l5Trip_l0_step (N : Nat) (R : Type) (k : Nat) (x : spec_l5Trip_l0_sh.T) (ks : (j : Nat) → ((spec_l5Trip_l0_ex.getD j (.ret, Sh.none)).2).T → Option R) : spec_l5Trip_l0_again N ks (k + 1) x = roundF (spec_l5Trip_G N) tab [] (loopAt spec_l5Trip_code 0) spec_l5Trip_l0_sh spec_l5Trip_l0_ex (fun y => spec_l5Trip_l0_again N ks k y) ks x := by kernel_rfl
theorem spec_l5Trip_l0_ok (N : Nat) : LoopOk Tryz.prog Tryz.f47.ntmps (spec_l5Trip_l0_s N) (loopAt spec_l5Trip_code 0) :=
  loop_ok (l := spec_l5Trip_l0_s N) progOk (spec_l5Trip_gok N) (draw_ok progOk (spec_l5Trip_gok N)) (fun R k x ks => spec_l5Trip_l0_again N ks k x) (fun _ _ _ => rfl) (fun R k x ks => spec_l5Trip_l0_step N R k x ks) (fun R x ks r h => ⟨N, h⟩) (lsOk_at (L := []) trivial) (by kernel_rfl) (by kernel_rfl)
noncomputable def spec_l5Trip (N : Nat) (g : (Int × (List (Int × Int)))) (trip : (List Int)) : Option ((Bool × Unit) × (Unit)) :=
  spec_l5Trip_l0 N (fun x => some ((x, ()), ())) (fun trip1 => ((spec_l1In N (tLen trip1) 1 20).bind fun r =>
    some ((r.1.1, ()), ()))) N trip 0 g.1 g.2
noncomputable def spec_l5Trip_S (N : Nat) : FSum := ⟨spec_l5Trip_ps, spec_l5Trip_rs, fun x => spec_l5Trip N x.1 x.2.1⟩
theorem spec_l5Trip_run (N : Nat) (x : argsT spec_l5Trip_ps) : spec_l5Trip N x.1 x.2.1 = funF (spec_l5Trip_G N) tab [spec_l5Trip_l0_s N] Tryz.f47 spec_l5Trip_ps spec_l5Trip_rs x := by kernel_rfl
theorem spec_l5Trip_pc (N : Nat) : PC Tryz.prog 47 (spec_l5Trip_S N) := by
  have e : spec_l5Trip_S N = ⟨spec_l5Trip_ps, spec_l5Trip_rs, funF (spec_l5Trip_G N) tab [spec_l5Trip_l0_s N] Tryz.f47 spec_l5Trip_ps spec_l5Trip_rs⟩ := congrArg (FSum.mk spec_l5Trip_ps spec_l5Trip_rs) (funext (spec_l5Trip_run N))
  rw [e]
  exact fun_ok (c := spec_l5Trip_code) progOk (spec_l5Trip_gok N) (draw_ok progOk (spec_l5Trip_gok N)) Tryz.call47 Tryz.func47 (by kernel_rfl) (lsOk_at (L := [spec_l5Trip_l0_s N]) ⟨spec_l5Trip_l0_ok N, trivial⟩) (by kernel_rfl) (by kernel_rfl) (by kernel_rfl) (by kernel_rfl) (by kernel_rfl)
end Go.Proofs.YtkffaahlpdlkoaaGreat
