/- Functions of the program as functions on data. -/
import Derived.Test.YtgelipdkheahdaaThresholdSpaceFa
set_option linter.all false
namespace Go.Proofs.Ytgelipdkheahdaa
open Go Go.PV
/-! ### spec_l2Index -/
abbrev spec_l2Index_ps : List (PV.Mode × Ty) := [(.ro, QLLILQII), (.ro, LI)]
abbrev spec_l2Index_rs : List (Bool × Ty) := [(true, I)]
noncomputable def spec_l2Index_G (N : Nat) : GTab := gOf [(123, spec_l1Same_S N)]
theorem spec_l2Index_gok (N : Nat) : GOk Try.prog (spec_l2Index_G N) := gOf_ok ⟨spec_l1Same_pc N, trivial⟩
noncomputable def spec_l2Index_code : Code := (Try.f91.body).getD .skip
noncomputable def spec_l2Index_l0_sh : Sh := ⟨[(1, .one (.ro LI)), (2, .one (.adr 0 0)), (5, .one (.ro I))], [.box [.ro LLI, .ro LQII]]⟩
noncomputable def spec_l2Index_l0_ex : List (Ex × Sh) := [(.ret, ⟨[(4, .one (.ro I))], []⟩), (.exit 0, ⟨[], []⟩)]
noncomputable def spec_l2Index_l0 {R : Type} (N : Nat) (k0 : Int → Option R) (k1 : Unit → Option R) : Nat → (List Int) → Int → (List (List Int)) → (List (Int × Int)) → Option R
  | 0, _, _, _, _ => none
  | K + 1, state1, i, o, o1 =>
    (br (ilt i (tLen o))
      ((chk (inb o i)
        ((spec_l1Same N (rdL o i) state1).bind fun r =>
        (br r.1.1
          (k0 i)
          (spec_l2Index_l0 N k0 k1 K state1 (IntKind.i64.wrap (i + 1)) o o1)))))
      (k1 ()))
noncomputable def spec_l2Index_l0_again {R : Type} (N : Nat) (ks : (j : Nat) → ((spec_l2Index_l0_ex.getD j (.ret, Sh.none)).2).T → Option R) (k : Nat) (x : spec_l2Index_l0_sh.T) : Option R :=
  spec_l2Index_l0 N (fun y0 => ks 0 ((y0, ()), ())) (fun (_ : Unit) => ks 1 ((), ())) k x.1.1 x.1.2.2.1 x.2.1.1 x.2.1.2.1
noncomputable def spec_l2Index_l0_s (N : Nat) : LSum := ⟨spec_l2Index_l0_sh, spec_l2Index_l0_ex, fun x ks => spec_l2Index_l0_again N ks N x⟩
theorem spec_l2Index_l0_step (N : Nat) (R : Type) (k : Nat) (x : spec_l2Index_l0_sh.T) (ks : (j : Nat) → ((spec_l2Index_l0_ex.getD j (.ret, Sh.none)).2).T → Option R) : spec_l2Index_l0_again N ks (k + 1) x = roundF (spec_l2Index_G N) tab [] (loopAt spec_l2Index_code 0) spec_l2Index_l0_sh spec_l2Index_l0_ex (fun y => spec_l2Index_l0_again N ks k y) ks x := by kernel_rfl
theorem spec_l2Index_l0_ok (N : Nat) : LoopOk Try.prog Try.f91.ntmps (spec_l2Index_l0_s N) (loopAt spec_l2Index_code 0) :=
  loop_ok (l := spec_l2Index_l0_s N) progOk (spec_l2Index_gok N) (draw_ok progOk (spec_l2Index_gok N)) (fun R k x ks => spec_l2Index_l0_again N ks k x) (fun _ _ _ => rfl) (fun R k x ks => spec_l2Index_l0_step N R k x ks) (fun R x ks r h => ⟨N, h⟩) (lsOk_at (L := []) trivial) (by kernel_rfl) (by kernel_rfl)
noncomputable def spec_l2Index (N : Nat) (x : ((List (List Int)) × (List (Int × Int)))) (state : (List Int)) : Option ((Int × Unit) × (Unit)) :=
  spec_l2Index_l0 N (fun x1 => some ((x1, ()), ())) (fun (_ : Unit) => some (((-1), ()), ())) N state 0 x.1 x.2
noncomputable def spec_l2Index_S (N : Nat) : FSum := ⟨spec_l2Index_ps, spec_l2Index_rs, fun x => spec_l2Index N x.1 x.2.1⟩
theorem spec_l2Index_run (N : Nat) (x : argsT spec_l2Index_ps) : spec_l2Index N x.1 x.2.1 = funF (spec_l2Index_G N) tab [spec_l2Index_l0_s N] Try.f91 spec_l2Index_ps spec_l2Index_rs x := by kernel_rfl
theorem spec_l2Index_pc (N : Nat) : PC Try.prog 91 (spec_l2Index_S N) := by
  have e : spec_l2Index_S N = ⟨spec_l2Index_ps, spec_l2Index_rs, funF (spec_l2Index_G N) tab [spec_l2Index_l0_s N] Try.f91 spec_l2Index_ps spec_l2Index_rs⟩ := congrArg (FSum.mk spec_l2Index_ps spec_l2Index_rs) (funext (spec_l2Index_run N))
  rw [e]
  exact fun_ok (c := spec_l2Index_code) progOk (spec_l2Index_gok N) (draw_ok progOk (spec_l2Index_gok N)) Try.call91 Try.func91 (by kernel_rfl) (lsOk_at (L := [spec_l2Index_l0_s N]) ⟨spec_l2Index_l0_ok N, trivial⟩) (by kernel_rfl) (by kernel_rfl) (by kernel_rfl) (by kernel_rfl) (by kernel_rfl)

/-! ### spec_l2PutPair -/
abbrev spec_l2PutPair_ps : List (PV.Mode × Ty) := [(.own, LQII), (.ro, QII)]
abbrev spec_l2PutPair_rs : List (Bool × Ty) := [(true, LQII)]
noncomputable def spec_l2PutPair_G (N : Nat) : GTab := gOf [(136, spec_l2Edge_S N)]
theorem spec_l2PutPair_gok (N : Nat) : GOk Try.prog (spec_l2PutPair_G N) := gOf_ok ⟨spec_l2Edge_pc N, trivial⟩
noncomputable def spec_l2PutPair_code : Code := (Try.f93.body).getD .skip
noncomputable def spec_l2PutPair_l0_sh : Sh := ⟨[(0, .one (.ref 0)), (3, .one (.adr 1 0)), (5, .one (.ro I))], [.sl 80 QII .own, .box [.ro I, .ro I]]⟩
noncomputable def spec_l2PutPair_l0_ex : List (Ex × Sh) := [(.exit 0, ⟨[(0, .one (.ref 0)), (3, .one (.adr 1 0)), (5, .one (.ro I))], [.sl 80 QII .own, .box [.ro I, .ro I]]⟩)]
noncomputable def spec_l2PutPair_l0 {R : Type} (N : Nat) (k0 : Int → (List (Int × Int)) → Int → Int → Option R) : Nat → Int → (List (Int × Int)) → Int → Int → Option R
  | 0, _, _, _, _ => none
  | K + 1, kv, o, o1, o2 =>
    (br (ilt 0 kv)
      ((chk (inb o (IntKind.i64.wrap (kv - 1)))
        ((spec_l2Edge N (o1, o2) (rdP o (IntKind.i64.wrap (kv - 1)))).bind fun r =>
        (br r.1.1
          (spec_l2PutPair_l0 N k0 K (IntKind.i64.wrap (kv - 1)) o o1 o2)
          (k0 kv o o1 o2)))))
      (k0 kv o o1 o2))
noncomputable def spec_l2PutPair_l0_again {R : Type} (N : Nat) (ks : (j : Nat) → ((spec_l2PutPair_l0_ex.getD j (.ret, Sh.none)).2).T → Option R) (k : Nat) (x : spec_l2PutPair_l0_sh.T) : Option R :=
  spec_l2PutPair_l0 N (fun y0 y1 y2 y3 => ks 0 (((), (), y0, ()), (y1, (y2, y3, ()), ()))) k x.1.2.2.1 x.2.1 x.2.2.1.1 x.2.2.1.2.1
noncomputable def spec_l2PutPair_l0_s (N : Nat) : LSum := ⟨spec_l2PutPair_l0_sh, spec_l2PutPair_l0_ex, fun x ks => spec_l2PutPair_l0_again N ks N x⟩
theorem spec_l2PutPair_l0_step (N : Nat) (R : Type) (k : Nat) (x : spec_l2PutPair_l0_sh.T) (ks : (j : Nat) → ((spec_l2PutPair_l0_ex.getD j (.ret, Sh.none)).2).T → Option R) : spec_l2PutPair_l0_again N ks (k + 1) x = roundF (spec_l2PutPair_G N) tab [] (loopAt spec_l2PutPair_code 0) spec_l2PutPair_l0_sh spec_l2PutPair_l0_ex (fun y => spec_l2PutPair_l0_again N ks k y) ks x := by kernel_rfl
theorem spec_l2PutPair_l0_ok (N : Nat) : LoopOk Try.prog Try.f93.ntmps (spec_l2PutPair_l0_s N) (loopAt spec_l2PutPair_code 0) :=
  loop_ok (l := spec_l2PutPair_l0_s N) progOk (spec_l2PutPair_gok N) (draw_ok progOk (spec_l2PutPair_gok N)) (fun R k x ks => spec_l2PutPair_l0_again N ks k x) (fun _ _ _ => rfl) (fun R k x ks => spec_l2PutPair_l0_step N R k x ks) (fun R x ks r h => ⟨N, h⟩) (lsOk_at (L := []) trivial) (by kernel_rfl) (by kernel_rfl)
noncomputable def spec_l2PutPair (N : Nat) (list : (List (Int × Int))) (e : (Int × Int)) : Option (((List (Int × Int)) × Unit) × (Unit)) :=
  spec_l2PutPair_l0 N (fun kv o o1 o2 => (br (ilt 0 kv)
    ((chk (inb o (IntKind.i64.wrap (kv - 1)))
      (br (ieq ((rdP o (IntKind.i64.wrap (kv - 1))).1) o1 && ieq ((rdP o (IntKind.i64.wrap (kv - 1))).2) o2)
      (some ((o, ()), ()))
      ((chk (ile 0 0 && ile 0 kv && ile kv (tLen o))
        (chk (room (α := (Int × Int)) (β := (Int × Int)) [] (tCut o 0 kv))
        (chk (room (tApp [] (tCut o 0 kv)) [(o1, o2)])
        (chk (ile 0 kv && ile kv (tLen o) && ile (tLen o) (tLen o))
        (chk (room (tApp (tApp [] (tCut o 0 kv)) [(o1, o2)]) (tCut o kv (tLen o)))
        (some (((tApp (tApp (tApp [] (tCut o 0 kv)) [(o1, o2)]) (tCut o kv (tLen o))), ()), ())))))))))))
    ((chk (ile 0 0 && ile 0 kv && ile kv (tLen o))
      (chk (room (α := (Int × Int)) (β := (Int × Int)) [] (tCut o 0 kv))
      (chk (room (tApp [] (tCut o 0 kv)) [(o1, o2)])
      (chk (ile 0 kv && ile kv (tLen o) && ile (tLen o) (tLen o))
      (chk (room (tApp (tApp [] (tCut o 0 kv)) [(o1, o2)]) (tCut o kv (tLen o)))
      (some (((tApp (tApp (tApp [] (tCut o 0 kv)) [(o1, o2)]) (tCut o kv (tLen o))), ()), ())))))))))) N (tLen list) list e.1 e.2
noncomputable def spec_l2PutPair_S (N : Nat) : FSum := ⟨spec_l2PutPair_ps, spec_l2PutPair_rs, fun x => spec_l2PutPair N x.1 x.2.1⟩
theorem spec_l2PutPair_run (N : Nat) (x : argsT spec_l2PutPair_ps) : spec_l2PutPair N x.1 x.2.1 = funF (spec_l2PutPair_G N) tab [spec_l2PutPair_l0_s N] Try.f93 spec_l2PutPair_ps spec_l2PutPair_rs x := by kernel_rfl
theorem spec_l2PutPair_pc (N : Nat) : PC Try.prog 93 (spec_l2PutPair_S N) := by
  have e : spec_l2PutPair_S N = ⟨spec_l2PutPair_ps, spec_l2PutPair_rs, funF (spec_l2PutPair_G N) tab [spec_l2PutPair_l0_s N] Try.f93 spec_l2PutPair_ps spec_l2PutPair_rs⟩ := congrArg (FSum.mk spec_l2PutPair_ps spec_l2PutPair_rs) (funext (spec_l2PutPair_run N))
  rw [e]
  exact fun_ok (c := spec_l2PutPair_code) progOk (spec_l2PutPair_gok N) (draw_ok progOk (spec_l2PutPair_gok N)) Try.call93 Try.func93 (by kernel_rfl) (lsOk_at (L := [spec_l2PutPair_l0_s N]) ⟨spec_l2PutPair_l0_ok N, trivial⟩) (by kernel_rfl) (by kernel_rfl) (by kernel_rfl) (by kernel_rfl) (by kernel_rfl)

/-! ### spec_l4Threshold -/
abbrev spec_l4Threshold_ps : List (PV.Mode × Ty) := [(.ro, QILQII), (.ro, I), (.ro, I)]
abbrev spec_l4Threshold_rs : List (Bool × Ty) := [(false, QLLILQII)]
noncomputable def spec_l4Threshold_G (N : Nat) : GTab := gOf [(76, spec_l4Sets_S N), (90, spec_l4Fits_S N), (77, spec_l2Sorted_S N), (92, spec_l4Turned_S N), (91, spec_l2Index_S N), (93, spec_l2PutPair_S N)]
theorem spec_l4Threshold_gok (N : Nat) : GOk Try.prog (spec_l4Threshold_G N) := gOf_ok ⟨spec_l4Sets_pc N, spec_l4Fits_pc N, spec_l2Sorted_pc N, spec_l4Turned_pc N, spec_l2Index_pc N, spec_l2PutPair_pc N, trivial⟩
noncomputable def spec_l4Threshold_code : Code := (Try.f55.body).getD .skip
noncomputable def spec_l4Threshold_l0_sh : Sh := ⟨[(1, .one (.ro I)), (2, .one (.ro I)), (3, .one (.adr 0 0)), (6, .one (.adr 1 0)), (7, .one (.ro LLI)), (8, .one (.ref 2)), (9, .one (.ro I))], [.box [.ro I, .ro LQII], .box [.nilsl, .nilsl], .sl 43 LI .own]⟩
noncomputable def spec_l4Threshold_l0_ex : List (Ex × Sh) := [(.exit 0, ⟨[(3, .one (.adr 0 0)), (6, .one (.adr 1 0)), (8, .one (.ref 2))], [.box [.ro I, .ro LQII], .box [.nilsl, .nilsl], .sl 43 LI .own]⟩)]
noncomputable def spec_l4Threshold_l0 {R : Type} (N : Nat) (k0 : Int → (List (Int × Int)) → (List (List Int)) → Option R) : Nat → Int → Int → (List (List Int)) → Int → Int → (List (Int × Int)) → (List (List Int)) → Option R
  | 0, _, _, _, _, _, _, _ => none
  | K + 1, x4, x5, x6, x7, o3, o4, o5 =>
    (br (ilt x7 (tLen x6))
      ((chk (inb x6 x7)
        ((spec_l4Fits N x4 (tLen (rdL x6 x7)) x5).bind fun r2 =>
        (br r2.1.1
          ((chk (inb x6 x7)
            (chk (room o5 [(rdL x6 x7)])
            (spec_l4Threshold_l0 N k0 K x4 x5 x6 (IntKind.i64.wrap (x7 + 1)) o3 o4 (tApp o5 [(rdL x6 x7)])))))
          (spec_l4Threshold_l0 N k0 K x4 x5 x6 (IntKind.i64.wrap (x7 + 1)) o3 o4 o5)))))
      (k0 o3 o4 o5))
noncomputable def spec_l4Threshold_l0_again {R : Type} (N : Nat) (ks : (j : Nat) → ((spec_l4Threshold_l0_ex.getD j (.ret, Sh.none)).2).T → Option R) (k : Nat) (x : spec_l4Threshold_l0_sh.T) : Option R :=
  spec_l4Threshold_l0 N (fun y0 y1 y2 => ks 0 (((), (), (), ()), ((y0, y1, ()), ((), (), ()), y2, ()))) k x.1.1 x.1.2.1 x.1.2.2.2.2.1 x.1.2.2.2.2.2.2.1 x.2.1.1 x.2.1.2.1 x.2.2.2.1
noncomputable def spec_l4Threshold_l0_s (N : Nat) : LSum := ⟨spec_l4Threshold_l0_sh, spec_l4Threshold_l0_ex, fun x ks => spec_l4Threshold_l0_again N ks N x⟩
theorem spec_l4Threshold_l0_step (N : Nat) (R : Type) (k : Nat) (x : spec_l4Threshold_l0_sh.T) (ks : (j : Nat) → ((spec_l4Threshold_l0_ex.getD j (.ret, Sh.none)).2).T → Option R) : spec_l4Threshold_l0_again N ks (k + 1) x = roundF (spec_l4Threshold_G N) tab [] (loopAt spec_l4Threshold_code 0) spec_l4Threshold_l0_sh spec_l4Threshold_l0_ex (fun y => spec_l4Threshold_l0_again N ks k y) ks x := by kernel_rfl
theorem spec_l4Threshold_l0_ok (N : Nat) : LoopOk Try.prog Try.f55.ntmps (spec_l4Threshold_l0_s N) (loopAt spec_l4Threshold_code 0) :=
  loop_ok (l := spec_l4Threshold_l0_s N) progOk (spec_l4Threshold_gok N) (draw_ok progOk (spec_l4Threshold_gok N)) (fun R k x ks => spec_l4Threshold_l0_again N ks k x) (fun _ _ _ => rfl) (fun R k x ks => spec_l4Threshold_l0_step N R k x ks) (fun R x ks r h => ⟨N, h⟩) (lsOk_at (L := []) trivial) (by kernel_rfl) (by kernel_rfl)
noncomputable def spec_l4Threshold_l1_0_sh : Sh := ⟨[(3, .one (.adr 0 0)), (6, .one (.adr 1 0)), (10, .one (.adr 2 0)), (11, .one (.ro I)), (12, .one (.ro I))], [.box [.ro I, .ro LQII], .box [.nilsl, .nilsl], .box [.ro LLI, .ref 3], .sl 80 QII .own]⟩
noncomputable def spec_l4Threshold_l1_0_ex : List (Ex × Sh) := [(.exit 4, ⟨[(3, .one (.adr 0 0)), (6, .one (.adr 1 0)), (10, .one (.adr 2 0)), (11, .one (.ro I))], [.box [.ro I, .ro LQII], .box [.nilsl, .nilsl], .box [.ro LLI, .ref 3], .sl 80 QII .own]⟩)]
noncomputable def spec_l4Threshold_l1_0 {R : Type} (N : Nat) (k0 : Int → Int → (List (Int × Int)) → (List (List Int)) → (List (Int × Int)) → Option R) : Nat → Int → Int → Int → (List (Int × Int)) → (List (List Int)) → (List (Int × Int)) → Option R
  | 0, _, _, _, _, _, _ => none
  | K + 1, x5, x6, o10, o11, o12, o13 =>
    (br (ilt x6 o10)
      ((chk (inb o12 x5)
        ((spec_l4Turned N (rdL o12 x5) x6).bind fun r3 =>
        ((spec_l2Index N (o12, o13) r3.1.1).bind fun r4 =>
          (br (ilt x5 r4.1.1)
            (((spec_l2PutPair N o13 (x5, r4.1.1)).bind fun r5 =>
              spec_l4Threshold_l1_0 N k0 K x5 (IntKind.i64.wrap (x6 + 1)) o10 o11 o12 r5.1.1))
            (spec_l4Threshold_l1_0 N k0 K x5 (IntKind.i64.wrap (x6 + 1)) o10 o11 o12 o13))))))
      (k0 x5 o10 o11 o12 o13))
noncomputable def spec_l4Threshold_l1_0_again {R : Type} (N : Nat) (ks : (j : Nat) → ((spec_l4Threshold_l1_0_ex.getD j (.ret, Sh.none)).2).T → Option R) (k : Nat) (x : spec_l4Threshold_l1_0_sh.T) : Option R :=
  spec_l4Threshold_l1_0 N (fun y0 y1 y2 y3 y4 => ks 0 (((), (), (), y0, ()), ((y1, y2, ()), ((), (), ()), (y3, (), ()), y4, ()))) k x.1.2.2.2.1 x.1.2.2.2.2.1 x.2.1.1 x.2.1.2.1 x.2.2.2.1.1 x.2.2.2.2.1
noncomputable def spec_l4Threshold_l1_0_s (N : Nat) : LSum := ⟨spec_l4Threshold_l1_0_sh, spec_l4Threshold_l1_0_ex, fun x ks => spec_l4Threshold_l1_0_again N ks N x⟩
theorem spec_l4Threshold_l1_0_step (N : Nat) (R : Type) (k : Nat) (x : spec_l4Threshold_l1_0_sh.T) (ks : (j : Nat) → ((spec_l4Threshold_l1_0_ex.getD j (.ret, Sh.none)).2).T → Option R) : spec_l4Threshold_l1_0_again N ks (k + 1) x = roundF (spec_l4Threshold_G N) tab [] (loopAt (loopAt spec_l4Threshold_code 1) 0) spec_l4Threshold_l1_0_sh spec_l4Threshold_l1_0_ex (fun y => spec_l4Threshold_l1_0_again N ks k y) ks x := by kernel_rfl
theorem spec_l4Threshold_l1_0_ok (N : Nat) : LoopOk Try.prog Try.f55.ntmps (spec_l4Threshold_l1_0_s N) (loopAt (loopAt spec_l4Threshold_code 1) 0) :=
  loop_ok (l := spec_l4Threshold_l1_0_s N) progOk (spec_l4Threshold_gok N) (draw_ok progOk (spec_l4Threshold_gok N)) (fun R k x ks => spec_l4Threshold_l1_0_again N ks k x) (fun _ _ _ => rfl) (fun R k x ks => spec_l4Threshold_l1_0_step N R k x ks) (fun R x ks r h => ⟨N, h⟩) (lsOk_at (L := []) trivial) (by kernel_rfl) (by kernel_rfl)
noncomputable def spec_l4Threshold_l1_sh : Sh := ⟨[(3, .one (.adr 0 0)), (6, .one (.adr 1 0)), (10, .one (.adr 2 0)), (11, .one (.ro I))], [.box [.ro I, .ro LQII], .box [.nilsl, .nilsl], .box [.ro LLI, .ref 3], .sl 80 QII .own]⟩
noncomputable def spec_l4Threshold_l1_ex : List (Ex × Sh) := [(.exit 2, ⟨[(6, .one (.adr 0 0)), (10, .one (.adr 1 0))], [.box [.nilsl, .nilsl], .box [.ro LLI, .ref 2], .sl 80 QII .own]⟩)]
noncomputable def spec_l4Threshold_l1 {R : Type} (N : Nat) (k0 : (List (List Int)) → (List (Int × Int)) → Option R) : Nat → Int → Int → (List (Int × Int)) → (List (List Int)) → (List (Int × Int)) → Option R
  | 0, _, _, _, _, _ => none
  | K + 1, x4, o6, o7, o8, o9 =>
    (br (ilt x4 (tLen o8))
      (spec_l4Threshold_l1_0 N (fun x5 o10 o11 o12 o13 => spec_l4Threshold_l1 N k0 K (IntKind.i64.wrap (x5 + 1)) o10 o11 o12 o13) N x4 0 o6 o7 o8 o9)
      (k0 o8 o9))
noncomputable def spec_l4Threshold_l1_again {R : Type} (N : Nat) (ks : (j : Nat) → ((spec_l4Threshold_l1_ex.getD j (.ret, Sh.none)).2).T → Option R) (k : Nat) (x : spec_l4Threshold_l1_sh.T) : Option R :=
  spec_l4Threshold_l1 N (fun y0 y1 => ks 0 (((), (), ()), (((), (), ()), (y0, (), ()), y1, ()))) k x.1.2.2.2.1 x.2.1.1 x.2.1.2.1 x.2.2.2.1.1 x.2.2.2.2.1
noncomputable def spec_l4Threshold_l1_s (N : Nat) : LSum := ⟨spec_l4Threshold_l1_sh, spec_l4Threshold_l1_ex, fun x ks => spec_l4Threshold_l1_again N ks N x⟩
theorem spec_l4Threshold_l1_step (N : Nat) (R : Type) (k : Nat) (x : spec_l4Threshold_l1_sh.T) (ks : (j : Nat) → ((spec_l4Threshold_l1_ex.getD j (.ret, Sh.none)).2).T → Option R) : spec_l4Threshold_l1_again N ks (k + 1) x = roundF (spec_l4Threshold_G N) tab [spec_l4Threshold_l1_0_s N] (loopAt spec_l4Threshold_code 1) spec_l4Threshold_l1_sh spec_l4Threshold_l1_ex (fun y => spec_l4Threshold_l1_again N ks k y) ks x := by kernel_rfl
theorem spec_l4Threshold_l1_ok (N : Nat) : LoopOk Try.prog Try.f55.ntmps (spec_l4Threshold_l1_s N) (loopAt spec_l4Threshold_code 1) :=
  loop_ok (l := spec_l4Threshold_l1_s N) progOk (spec_l4Threshold_gok N) (draw_ok progOk (spec_l4Threshold_gok N)) (fun R k x ks => spec_l4Threshold_l1_again N ks k x) (fun _ _ _ => rfl) (fun R k x ks => spec_l4Threshold_l1_step N R k x ks) (fun R x ks r h => ⟨N, h⟩) (lsOk_at (L := [spec_l4Threshold_l1_0_s N]) ⟨spec_l4Threshold_l1_0_ok N, trivial⟩) (by kernel_rfl) (by kernel_rfl)
noncomputable def spec_l4Threshold (N : Nat) (c : (Int × (List (Int × Int)))) (c1 : Int) (c2 : Int) : Option ((((List (List Int)) × (List (Int × Int))) × Unit) × (Unit)) :=
  ((spec_l4Sets N (c.1, c.2) c1).bind fun r =>
    spec_l4Threshold_l0 N (fun o3 o4 o5 => ((spec_l2Sorted N o5).bind fun r2 =>
      spec_l4Threshold_l1 N (fun o6 o7 => some (((o6, o7), ()), ())) N 0 o3 o4 r2.1.1 [])) N c1 c2 r.1.1 0 c.1 c.2 [])
noncomputable def spec_l4Threshold_S (N : Nat) : FSum := ⟨spec_l4Threshold_ps, spec_l4Threshold_rs, fun x => spec_l4Threshold N x.1 x.2.1 x.2.2.1⟩
theorem spec_l4Threshold_run (N : Nat) (x : argsT spec_l4Threshold_ps) : spec_l4Threshold N x.1 x.2.1 x.2.2.1 = funF (spec_l4Threshold_G N) tab [spec_l4Threshold_l0_s N, spec_l4Threshold_l1_s N] Try.f55 spec_l4Threshold_ps spec_l4Threshold_rs x := by kernel_rfl
theorem spec_l4Threshold_pc (N : Nat) : PC Try.prog 55 (spec_l4Threshold_S N) := by
  have e : spec_l4Threshold_S N = ⟨spec_l4Threshold_ps, spec_l4Threshold_rs, funF (spec_l4Threshold_G N) tab [spec_l4Threshold_l0_s N, spec_l4Threshold_l1_s N] Try.f55 spec_l4Threshold_ps spec_l4Threshold_rs⟩ := congrArg (FSum.mk spec_l4Threshold_ps spec_l4Threshold_rs) (funext (spec_l4Threshold_run N))
  rw [e]
  exact fun_ok (c := spec_l4Threshold_code) progOk (spec_l4Threshold_gok N) (draw_ok progOk (spec_l4Threshold_gok N)) Try.call55 Try.func55 (by kernel_rfl) (lsOk_at (L := [spec_l4Threshold_l0_s N, spec_l4Threshold_l1_s N]) ⟨spec_l4Threshold_l0_ok N, spec_l4Threshold_l1_ok N, trivial⟩) (by kernel_rfl) (by kernel_rfl) (by kernel_rfl) (by kernel_rfl) (by kernel_rfl)

/-! ### spec_ThresholdSpace -/
abbrev spec_ThresholdSpace_ps : List (PV.Mode × Ty) := [(.ro, QILQII), (.ro, I), (.ro, I)]
abbrev spec_ThresholdSpace_rs : List (Bool × Ty) := [(false, QLLILQII), (true, .bool)]
noncomputable def spec_ThresholdSpace_G (N : Nat) : GTab := gOf [(43, spec_l4K_S N), (55, spec_l4Threshold_S N)]
theorem spec_ThresholdSpace_gok (N : Nat) : GOk Try.prog (spec_ThresholdSpace_G N) := gOf_ok ⟨spec_l4K_pc N, spec_l4Threshold_pc N, trivial⟩
noncomputable def spec_ThresholdSpace_code : Code := (Try.f22.body).getD .skip
noncomputable def spec_ThresholdSpace (N : Nat) (g : (Int × (List (Int × Int)))) (kind : Int) (kv : Int) : Option ((((List (List Int)) × (List (Int × Int))) × Bool × Unit) × (Unit)) :=
  ((spec_l4K N (g.1, g.2) kind kv).bind fun r =>
    (br (!r.1.1)
      (some ((([], []), false, ()), ()))
      (((spec_l4Threshold N (g.1, g.2) kind kv).bind fun r1 =>
        some (((r1.1.1.1, r1.1.1.2), true, ()), ())))))
noncomputable def spec_ThresholdSpace_S (N : Nat) : FSum := ⟨spec_ThresholdSpace_ps, spec_ThresholdSpace_rs, fun x => spec_ThresholdSpace N x.1 x.2.1 x.2.2.1⟩
theorem spec_ThresholdSpace_run (N : Nat) (x : argsT spec_ThresholdSpace_ps) : spec_ThresholdSpace N x.1 x.2.1 x.2.2.1 = funF (spec_ThresholdSpace_G N) tab [] Try.f22 spec_ThresholdSpace_ps spec_ThresholdSpace_rs x := by kernel_rfl
theorem spec_ThresholdSpace_pc (N : Nat) : PC Try.prog 22 (spec_ThresholdSpace_S N) := by
  have e : spec_ThresholdSpace_S N = ⟨spec_ThresholdSpace_ps, spec_ThresholdSpace_rs, funF (spec_ThresholdSpace_G N) tab [] Try.f22 spec_ThresholdSpace_ps spec_ThresholdSpace_rs⟩ := congrArg (FSum.mk spec_ThresholdSpace_ps spec_ThresholdSpace_rs) (funext (spec_ThresholdSpace_run N))
  rw [e]
  exact fun_ok (c := spec_ThresholdSpace_code) progOk (spec_ThresholdSpace_gok N) (draw_ok progOk (spec_ThresholdSpace_gok N)) Try.call22 Try.func22 (by kernel_rfl) (lsOk_at (L := []) trivial) (by kernel_rfl) (by kernel_rfl) (by kernel_rfl) (by kernel_rfl) (by kernel_rfl)

/-! ### impl_between -/
abbrev impl_between_ps : List (PV.Mode × Ty) := [(.ro, I), (.ro, I), (.ro, I)]
abbrev impl_between_rs : List (Bool × Ty) := [(true, .bool)]
noncomputable def impl_between_G (N : Nat) : GTab := gOf []
theorem impl_between_gok (N : Nat) : GOk Try.prog (impl_between_G N) := gOf_ok trivial
noncomputable def impl_between_code : Code := (Try.f69.body).getD .skip
noncomputable def impl_between (N : Nat) (n : Int) (low : Int) (high : Int) : Option ((Bool × Unit) × (Unit)) :=
  (br (ile low n)
    (some (((ile n high), ()), ()))
    (some ((false, ()), ())))
noncomputable def impl_between_S (N : Nat) : FSum := ⟨impl_between_ps, impl_between_rs, fun x => impl_between N x.1 x.2.1 x.2.2.1⟩
theorem impl_between_run (N : Nat) (x : argsT impl_between_ps) : impl_between N x.1 x.2.1 x.2.2.1 = funF (impl_between_G N) tab [] Try.f69 impl_between_ps impl_between_rs x := by kernel_rfl
theorem impl_between_pc (N : Nat) : PC Try.prog 69 (impl_between_S N) := by
  have e : impl_between_S N = ⟨impl_between_ps, impl_between_rs, funF (impl_between_G N) tab [] Try.f69 impl_between_ps impl_between_rs⟩ := congrArg (FSum.mk impl_between_ps impl_between_rs) (funext (impl_between_run N))
  rw [e]
  exact fun_ok (c := impl_between_code) progOk (impl_between_gok N) (draw_ok progOk (impl_between_gok N)) Try.call69 Try.func69 (by kernel_rfl) (lsOk_at (L := []) trivial) (by kernel_rfl) (by kernel_rfl) (by kernel_rfl) (by kernel_rfl) (by kernel_rfl)

/-! ### cmp_isNaN_int -/
abbrev cmp_isNaN_int_ps : List (PV.Mode × Ty) := [(.ro, I)]
abbrev cmp_isNaN_int_rs : List (Bool × Ty) := [(true, .bool)]
noncomputable def cmp_isNaN_int_G (N : Nat) : GTab := gOf []
theorem cmp_isNaN_int_gok (N : Nat) : GOk Try.prog (cmp_isNaN_int_G N) := gOf_ok trivial
noncomputable def cmp_isNaN_int_code : Code := (Try.f164.body).getD .skip
noncomputable def cmp_isNaN_int (N : Nat) (x : Int) : Option ((Bool × Unit) × (Unit)) :=
  some (((ine x x), ()), ())
noncomputable def cmp_isNaN_int_S (N : Nat) : FSum := ⟨cmp_isNaN_int_ps, cmp_isNaN_int_rs, fun x => cmp_isNaN_int N x.1⟩
theorem cmp_isNaN_int_run (N : Nat) (x : argsT cmp_isNaN_int_ps) : cmp_isNaN_int N x.1 = funF (cmp_isNaN_int_G N) tab [] Try.f164 cmp_isNaN_int_ps cmp_isNaN_int_rs x := by kernel_rfl
theorem cmp_isNaN_int_pc (N : Nat) : PC Try.prog 164 (cmp_isNaN_int_S N) := by
  have e : cmp_isNaN_int_S N = ⟨cmp_isNaN_int_ps, cmp_isNaN_int_rs, funF (cmp_isNaN_int_G N) tab [] Try.f164 cmp_isNaN_int_ps cmp_isNaN_int_rs⟩ := congrArg (FSum.mk cmp_isNaN_int_ps cmp_isNaN_int_rs) (funext (cmp_isNaN_int_run N))
  rw [e]
  exact fun_ok (c := cmp_isNaN_int_code) progOk (cmp_isNaN_int_gok N) (draw_ok progOk (cmp_isNaN_int_gok N)) Try.call164 Try.func164 (by kernel_rfl) (lsOk_at (L := []) trivial) (by kernel_rfl) (by kernel_rfl) (by kernel_rfl) (by kernel_rfl) (by kernel_rfl)

/-! ### cmp_Compare_int -/
abbrev cmp_Compare_int_ps : List (PV.Mode × Ty) := [(.ro, I), (.ro, I)]
abbrev cmp_Compare_int_rs : List (Bool × Ty) := [(true, I)]
noncomputable def cmp_Compare_int_G (N : Nat) : GTab := gOf [(164, cmp_isNaN_int_S N)]
theorem cmp_Compare_int_gok (N : Nat) : GOk Try.prog (cmp_Compare_int_G N) := gOf_ok ⟨cmp_isNaN_int_pc N, trivial⟩
noncomputable def cmp_Compare_int_code : Code := (Try.f128.body).getD .skip
noncomputable def cmp_Compare_int (N : Nat) (x : Int) (y : Int) : Option ((Int × Unit) × (Unit)) :=
  ((cmp_isNaN_int N x).bind fun r =>
    ((cmp_isNaN_int N y).bind fun r1 =>
      (br r.1.1
        ((br r1.1.1
          (some ((0, ()), ()))
          (some (((-1), ()), ()))))
        ((br r1.1.1
          (some ((1, ()), ()))
          ((br (ilt x y)
            (some (((-1), ()), ()))
            ((br (ilt y x)
              (some ((1, ()), ()))
              (some ((0, ()), ())))))))))))
noncomputable def cmp_Compare_int_S (N : Nat) : FSum := ⟨cmp_Compare_int_ps, cmp_Compare_int_rs, fun x => cmp_Compare_int N x.1 x.2.1⟩
theorem cmp_Compare_int_run (N : Nat) (x : argsT cmp_Compare_int_ps) : cmp_Compare_int N x.1 x.2.1 = funF (cmp_Compare_int_G N) tab [] Try.f128 cmp_Compare_int_ps cmp_Compare_int_rs x := by kernel_rfl
theorem cmp_Compare_int_pc (N : Nat) : PC Try.prog 128 (cmp_Compare_int_S N) := by
  have e : cmp_Compare_int_S N = ⟨cmp_Compare_int_ps, cmp_Compare_int_rs, funF (cmp_Compare_int_G N) tab [] Try.f128 cmp_Compare_int_ps cmp_Compare_int_rs⟩ := congrArg (FSum.mk cmp_Compare_int_ps cmp_Compare_int_rs) (funext (cmp_Compare_int_run N))
  rw [e]
  exact fun_ok (c := cmp_Compare_int_code) progOk (cmp_Compare_int_gok N) (draw_ok progOk (cmp_Compare_int_gok N)) Try.call128 Try.func128 (by kernel_rfl) (lsOk_at (L := []) trivial) (by kernel_rfl) (by kernel_rfl) (by kernel_rfl) (by kernel_rfl) (by kernel_rfl)

/-! ### cmp_Or_int -/
abbrev cmp_Or_int_ps : List (PV.Mode × Ty) := [(.ro, LI)]
abbrev cmp_Or_int_rs : List (Bool × Ty) := [(true, I)]
noncomputable def cmp_Or_int_G (N : Nat) : GTab := gOf []
theorem cmp_Or_int_gok (N : Nat) : GOk Try.prog (cmp_Or_int_G N) := gOf_ok trivial
noncomputable def cmp_Or_int_code : Code := (Try.f153.body).getD .skip
noncomputable def cmp_Or_int_l0_sh : Sh := ⟨[(3, .one (.ro I)), (6, .one (.ro LI)), (7, .one (.ro I)), (8, .one (.ro I))], []⟩
noncomputable def cmp_Or_int_l0_ex : List (Ex × Sh) := [(.ret, ⟨[(2, .one (.ro I))], []⟩), (.exit 0, ⟨[(3, .one (.ro I))], []⟩)]
noncomputable def cmp_Or_int_l0 {R : Type} (N : Nat) (k0 : Int → Option R) (k1 : Int → Option R) : Nat → Int → (List Int) → Int → Int → Option R
  | 0, _, _, _, _ => none
  | K + 1, zero, x, x1, x2 =>
    (br (ilt x2 x1)
      ((chk (inb x x2)
        (br (ine (rdI x x2) zero)
        (k0 (rdI x x2))
        (cmp_Or_int_l0 N k0 k1 K zero x x1 (IntKind.i64.wrap (x2 + 1))))))
      (k1 zero))
noncomputable def cmp_Or_int_l0_again {R : Type} (N : Nat) (ks : (j : Nat) → ((cmp_Or_int_l0_ex.getD j (.ret, Sh.none)).2).T → Option R) (k : Nat) (x : cmp_Or_int_l0_sh.T) : Option R :=
  cmp_Or_int_l0 N (fun y0 => ks 0 ((y0, ()), ())) (fun y0 => ks 1 ((y0, ()), ())) k x.1.1 x.1.2.1 x.1.2.2.1 x.1.2.2.2.1
noncomputable def cmp_Or_int_l0_s (N : Nat) : LSum := ⟨cmp_Or_int_l0_sh, cmp_Or_int_l0_ex, fun x ks => cmp_Or_int_l0_again N ks N x⟩
theorem cmp_Or_int_l0_step (N : Nat) (R : Type) (k : Nat) (x : cmp_Or_int_l0_sh.T) (ks : (j : Nat) → ((cmp_Or_int_l0_ex.getD j (.ret, Sh.none)).2).T → Option R) : cmp_Or_int_l0_again N ks (k + 1) x = roundF (cmp_Or_int_G N) tab [] (loopAt cmp_Or_int_code 0) cmp_Or_int_l0_sh cmp_Or_int_l0_ex (fun y => cmp_Or_int_l0_again N ks k y) ks x := by kernel_rfl
theorem cmp_Or_int_l0_ok (N : Nat) : LoopOk Try.prog Try.f153.ntmps (cmp_Or_int_l0_s N) (loopAt cmp_Or_int_code 0) :=
  loop_ok (l := cmp_Or_int_l0_s N) progOk (cmp_Or_int_gok N) (draw_ok progOk (cmp_Or_int_gok N)) (fun R k x ks => cmp_Or_int_l0_again N ks k x) (fun _ _ _ => rfl) (fun R k x ks => cmp_Or_int_l0_step N R k x ks) (fun R x ks r h => ⟨N, h⟩) (lsOk_at (L := []) trivial) (by kernel_rfl) (by kernel_rfl)
noncomputable def cmp_Or_int (N : Nat) (vals : (List Int)) : Option ((Int × Unit) × (Unit)) :=
  cmp_Or_int_l0 N (fun x => some ((x, ()), ())) (fun zero => some ((zero, ()), ())) N 0 vals (tLen vals) 0
noncomputable def cmp_Or_int_S (N : Nat) : FSum := ⟨cmp_Or_int_ps, cmp_Or_int_rs, fun x => cmp_Or_int N x.1⟩
theorem cmp_Or_int_run (N : Nat) (x : argsT cmp_Or_int_ps) : cmp_Or_int N x.1 = funF (cmp_Or_int_G N) tab [cmp_Or_int_l0_s N] Try.f153 cmp_Or_int_ps cmp_Or_int_rs x := by kernel_rfl
theorem cmp_Or_int_pc (N : Nat) : PC Try.prog 153 (cmp_Or_int_S N) := by
  have e : cmp_Or_int_S N = ⟨cmp_Or_int_ps, cmp_Or_int_rs, funF (cmp_Or_int_G N) tab [cmp_Or_int_l0_s N] Try.f153 cmp_Or_int_ps cmp_Or_int_rs⟩ := congrArg (FSum.mk cmp_Or_int_ps cmp_Or_int_rs) (funext (cmp_Or_int_run N))
  rw [e]
  exact fun_ok (c := cmp_Or_int_code) progOk (cmp_Or_int_gok N) (draw_ok progOk (cmp_Or_int_gok N)) Try.call153 Try.func153 (by kernel_rfl) (lsOk_at (L := [cmp_Or_int_l0_s N]) ⟨cmp_Or_int_l0_ok N, trivial⟩) (by kernel_rfl) (by kernel_rfl) (by kernel_rfl) (by kernel_rfl) (by kernel_rfl)

/-! ### impl_comparePairs -/
abbrev impl_comparePairs_ps : List (PV.Mode × Ty) := [(.ro, QII), (.ro, QII)]
abbrev impl_comparePairs_rs : List (Bool × Ty) := [(true, I)]
noncomputable def impl_comparePairs_G (N : Nat) : GTab := gOf [(128, cmp_Compare_int_S N), (153, cmp_Or_int_S N)]
theorem impl_comparePairs_gok (N : Nat) : GOk Try.prog (impl_comparePairs_G N) := gOf_ok ⟨cmp_Compare_int_pc N, cmp_Or_int_pc N, trivial⟩
noncomputable def impl_comparePairs_code : Code := (Try.f117.body).getD .skip
noncomputable def impl_comparePairs (N : Nat) (a : (Int × Int)) (b : (Int × Int)) : Option ((Int × Unit) × (Unit)) :=
  ((cmp_Compare_int N a.1 b.1).bind fun r =>
    ((cmp_Compare_int N a.2 b.2).bind fun r1 =>
      ((cmp_Or_int N [r.1.1, r1.1.1]).bind fun r2 =>
        some ((r2.1.1, ()), ()))))
noncomputable def impl_comparePairs_S (N : Nat) : FSum := ⟨impl_comparePairs_ps, impl_comparePairs_rs, fun x => impl_comparePairs N x.1 x.2.1⟩
theorem impl_comparePairs_run (N : Nat) (x : argsT impl_comparePairs_ps) : impl_comparePairs N x.1 x.2.1 = funF (impl_comparePairs_G N) tab [] Try.f117 impl_comparePairs_ps impl_comparePairs_rs x := by kernel_rfl
theorem impl_comparePairs_pc (N : Nat) : PC Try.prog 117 (impl_comparePairs_S N) := by
  have e : impl_comparePairs_S N = ⟨impl_comparePairs_ps, impl_comparePairs_rs, funF (impl_comparePairs_G N) tab [] Try.f117 impl_comparePairs_ps impl_comparePairs_rs⟩ := congrArg (FSum.mk impl_comparePairs_ps impl_comparePairs_rs) (funext (impl_comparePairs_run N))
  rw [e]
  exact fun_ok (c := impl_comparePairs_code) progOk (impl_comparePairs_gok N) (draw_ok progOk (impl_comparePairs_gok N)) Try.call117 Try.func117 (by kernel_rfl) (lsOk_at (L := []) trivial) (by kernel_rfl) (by kernel_rfl) (by kernel_rfl) (by kernel_rfl) (by kernel_rfl)

/-! ### impl_isPairs -/
abbrev impl_isPairs_ps : List (PV.Mode × Ty) := [(.ro, LQII), (.ro, I)]
abbrev impl_isPairs_rs : List (Bool × Ty) := [(true, .bool)]
noncomputable def impl_isPairs_G (N : Nat) : GTab := gOf [(117, impl_comparePairs_S N)]
theorem impl_isPairs_gok (N : Nat) : GOk Try.prog (impl_isPairs_G N) := gOf_ok ⟨impl_comparePairs_pc N, trivial⟩
noncomputable def impl_isPairs_code : Code := (Try.f70.body).getD .skip
noncomputable def impl_isPairs_l0_sh : Sh := ⟨[(0, .one (.ro LQII)), (1, .one (.ro I)), (7, .one (.ro LQII)), (8, .one (.ro I)), (9, .one (.ro I))], []⟩
noncomputable def impl_isPairs_l0_ex : List (Ex × Sh) := [(.ret, ⟨[(4, .one (.ro .bool))], []⟩), (.exit 0, ⟨[], []⟩)]
noncomputable def impl_isPairs_l0 {R : Type} (N : Nat) (k0 : Bool → Option R) (k1 : Unit → Option R) : Nat → (List (Int × Int)) → Int → (List (Int × Int)) → Int → Int → Option R
  | 0, _, _, _, _, _ => none
  | K + 1, list1, below1, x, x1, x2 =>
    (br (ilt x2 x1)
      ((chk (inb x x2)
        (br (ilt ((rdP x x2).1) 0)
        (k0 false)
        ((br (ile ((rdP x x2).2) ((rdP x x2).1))
          (k0 false)
          ((br (ile below1 ((rdP x x2).2))
            (k0 false)
            ((br (ilt 0 x2)
              ((chk (inb list1 (IntKind.i64.wrap (x2 - 1)))
                ((impl_comparePairs N (rdP list1 (IntKind.i64.wrap (x2 - 1))) ((rdP x x2).1, (rdP x x2).2)).bind fun r =>
                (br (ile 0 r.1.1)
                  (k0 false)
                  (impl_isPairs_l0 N k0 k1 K list1 below1 x x1 (IntKind.i64.wrap (x2 + 1)))))))
              (impl_isPairs_l0 N k0 k1 K list1 below1 x x1 (IntKind.i64.wrap (x2 + 1))))))))))))
      (k1 ()))
noncomputable def impl_isPairs_l0_again {R : Type} (N : Nat) (ks : (j : Nat) → ((impl_isPairs_l0_ex.getD j (.ret, Sh.none)).2).T → Option R) (k : Nat) (x : impl_isPairs_l0_sh.T) : Option R :=
  impl_isPairs_l0 N (fun y0 => ks 0 ((y0, ()), ())) (fun (_ : Unit) => ks 1 ((), ())) k x.1.1 x.1.2.1 x.1.2.2.1 x.1.2.2.2.1 x.1.2.2.2.2.1
noncomputable def impl_isPairs_l0_s (N : Nat) : LSum := ⟨impl_isPairs_l0_sh, impl_isPairs_l0_ex, fun x ks => impl_isPairs_l0_again N ks N x⟩
theorem impl_isPairs_l0_step (N : Nat) (R : Type) (k : Nat) (x : impl_isPairs_l0_sh.T) (ks : (j : Nat) → ((impl_isPairs_l0_ex.getD j (.ret, Sh.none)).2).T → Option R) : impl_isPairs_l0_again N ks (k + 1) x = roundF (impl_isPairs_G N) tab [] (loopAt impl_isPairs_code 0) impl_isPairs_l0_sh impl_isPairs_l0_ex (fun y => impl_isPairs_l0_again N ks k y) ks x := by kernel_rfl
theorem impl_isPairs_l0_ok (N : Nat) : LoopOk Try.prog Try.f70.ntmps (impl_isPairs_l0_s N) (loopAt impl_isPairs_code 0) :=
  loop_ok (l := impl_isPairs_l0_s N) progOk (impl_isPairs_gok N) (draw_ok progOk (impl_isPairs_gok N)) (fun R k x ks => impl_isPairs_l0_again N ks k x) (fun _ _ _ => rfl) (fun R k x ks => impl_isPairs_l0_step N R k x ks) (fun R x ks r h => ⟨N, h⟩) (lsOk_at (L := []) trivial) (by kernel_rfl) (by kernel_rfl)
noncomputable def impl_isPairs (N : Nat) (list : (List (Int × Int))) (below : Int) : Option ((Bool × Unit) × (Unit)) :=
  impl_isPairs_l0 N (fun x => some ((x, ()), ())) (fun (_ : Unit) => some ((true, ()), ())) N list below list (tLen list) 0
noncomputable def impl_isPairs_S (N : Nat) : FSum := ⟨impl_isPairs_ps, impl_isPairs_rs, fun x => impl_isPairs N x.1 x.2.1⟩
theorem impl_isPairs_run (N : Nat) (x : argsT impl_isPairs_ps) : impl_isPairs N x.1 x.2.1 = funF (impl_isPairs_G N) tab [impl_isPairs_l0_s N] Try.f70 impl_isPairs_ps impl_isPairs_rs x := by kernel_rfl
theorem impl_isPairs_pc (N : Nat) : PC Try.prog 70 (impl_isPairs_S N) := by
  have e : impl_isPairs_S N = ⟨impl_isPairs_ps, impl_isPairs_rs, funF (impl_isPairs_G N) tab [impl_isPairs_l0_s N] Try.f70 impl_isPairs_ps impl_isPairs_rs⟩ := congrArg (FSum.mk impl_isPairs_ps impl_isPairs_rs) (funext (impl_isPairs_run N))
  rw [e]
  exact fun_ok (c := impl_isPairs_code) progOk (impl_isPairs_gok N) (draw_ok progOk (impl_isPairs_gok N)) Try.call70 Try.func70 (by kernel_rfl) (lsOk_at (L := [impl_isPairs_l0_s N]) ⟨impl_isPairs_l0_ok N, trivial⟩) (by kernel_rfl) (by kernel_rfl) (by kernel_rfl) (by kernel_rfl) (by kernel_rfl)

/-! ### impl_IsGraph -/
abbrev impl_IsGraph_ps : List (PV.Mode × Ty) := [(.ro, QILQII)]
abbrev impl_IsGraph_rs : List (Bool × Ty) := [(true, .bool)]
noncomputable def impl_IsGraph_G (N : Nat) : GTab := gOf [(69, impl_between_S N), (70, impl_isPairs_S N)]
theorem impl_IsGraph_gok (N : Nat) : GOk Try.prog (impl_IsGraph_G N) := gOf_ok ⟨impl_between_pc N, impl_isPairs_pc N, trivial⟩
noncomputable def impl_IsGraph_code : Code := (Try.f39.body).getD .skip
noncomputable def impl_IsGraph (N : Nat) (g : (Int × (List (Int × Int)))) : Option ((Bool × Unit) × (Unit)) :=
  ((impl_between N g.1 0 8).bind fun r =>
    (br r.1.1
      (((impl_isPairs N g.2 g.1).bind fun r1 =>
        some ((r1.1.1, ()), ())))
      (some ((false, ()), ()))))
noncomputable def impl_IsGraph_S (N : Nat) : FSum := ⟨impl_IsGraph_ps, impl_IsGraph_rs, fun x => impl_IsGraph N x.1⟩
theorem impl_IsGraph_run (N : Nat) (x : argsT impl_IsGraph_ps) : impl_IsGraph N x.1 = funF (impl_IsGraph_G N) tab [] Try.f39 impl_IsGraph_ps impl_IsGraph_rs x := by kernel_rfl
theorem impl_IsGraph_pc (N : Nat) : PC Try.prog 39 (impl_IsGraph_S N) := by
  have e : impl_IsGraph_S N = ⟨impl_IsGraph_ps, impl_IsGraph_rs, funF (impl_IsGraph_G N) tab [] Try.f39 impl_IsGraph_ps impl_IsGraph_rs⟩ := congrArg (FSum.mk impl_IsGraph_ps impl_IsGraph_rs) (funext (impl_IsGraph_run N))
  rw [e]
  exact fun_ok (c := impl_IsGraph_code) progOk (impl_IsGraph_gok N) (draw_ok progOk (impl_IsGraph_gok N)) Try.call39 Try.func39 (by kernel_rfl) (lsOk_at (L := []) trivial) (by kernel_rfl) (by kernel_rfl) (by kernel_rfl) (by kernel_rfl) (by kernel_rfl)

/-! ### impl_isKind -/
abbrev impl_isKind_ps : List (PV.Mode × Ty) := [(.ro, I)]
abbrev impl_isKind_rs : List (Bool × Ty) := [(true, .bool)]
noncomputable def impl_isKind_G (N : Nat) : GTab := gOf [(69, impl_between_S N)]
theorem impl_isKind_gok (N : Nat) : GOk Try.prog (impl_isKind_G N) := gOf_ok ⟨impl_between_pc N, trivial⟩
noncomputable def impl_isKind_code : Code := (Try.f79.body).getD .skip
noncomputable def impl_isKind (N : Nat) (kind : Int) : Option ((Bool × Unit) × (Unit)) :=
  ((impl_between N kind 1 3).bind fun r =>
    some ((r.1.1, ()), ()))
noncomputable def impl_isKind_S (N : Nat) : FSum := ⟨impl_isKind_ps, impl_isKind_rs, fun x => impl_isKind N x.1⟩
theorem impl_isKind_run (N : Nat) (x : argsT impl_isKind_ps) : impl_isKind N x.1 = funF (impl_isKind_G N) tab [] Try.f79 impl_isKind_ps impl_isKind_rs x := by kernel_rfl
theorem impl_isKind_pc (N : Nat) : PC Try.prog 79 (impl_isKind_S N) := by
  have e : impl_isKind_S N = ⟨impl_isKind_ps, impl_isKind_rs, funF (impl_isKind_G N) tab [] Try.f79 impl_isKind_ps impl_isKind_rs⟩ := congrArg (FSum.mk impl_isKind_ps impl_isKind_rs) (funext (impl_isKind_run N))
  rw [e]
  exact fun_ok (c := impl_isKind_code) progOk (impl_isKind_gok N) (draw_ok progOk (impl_isKind_gok N)) Try.call79 Try.func79 (by kernel_rfl) (lsOk_at (L := []) trivial) (by kernel_rfl) (by kernel_rfl) (by kernel_rfl) (by kernel_rfl) (by kernel_rfl)

/-! ### impl_isThreshold -/
abbrev impl_isThreshold_ps : List (PV.Mode × Ty) := [(.ro, QILQII), (.ro, I), (.ro, I)]
abbrev impl_isThreshold_rs : List (Bool × Ty) := [(true, .bool)]
noncomputable def impl_isThreshold_G (N : Nat) : GTab := gOf [(39, impl_IsGraph_S N), (79, impl_isKind_S N), (69, impl_between_S N)]
theorem impl_isThreshold_gok (N : Nat) : GOk Try.prog (impl_isThreshold_G N) := gOf_ok ⟨impl_IsGraph_pc N, impl_isKind_pc N, impl_between_pc N, trivial⟩
noncomputable def impl_isThreshold_code : Code := (Try.f45.body).getD .skip
noncomputable def impl_isThreshold (N : Nat) (g : (Int × (List (Int × Int)))) (kind : Int) (kv : Int) : Option ((Bool × Unit) × (Unit)) :=
  ((impl_IsGraph N (g.1, g.2)).bind fun r =>
    (br r.1.1
      (((impl_isKind N kind).bind fun r1 =>
        (br r1.1.1
          (((impl_between N kv 0 g.1).bind fun r2 =>
            some ((r2.1.1, ()), ())))
          (some ((false, ()), ())))))
      (some ((false, ()), ()))))
noncomputable def impl_isThreshold_S (N : Nat) : FSum := ⟨impl_isThreshold_ps, impl_isThreshold_rs, fun x => impl_isThreshold N x.1 x.2.1 x.2.2.1⟩
theorem impl_isThreshold_run (N : Nat) (x : argsT impl_isThreshold_ps) : impl_isThreshold N x.1 x.2.1 x.2.2.1 = funF (impl_isThreshold_G N) tab [] Try.f45 impl_isThreshold_ps impl_isThreshold_rs x := by kernel_rfl
theorem impl_isThreshold_pc (N : Nat) : PC Try.prog 45 (impl_isThreshold_S N) := by
  have e : impl_isThreshold_S N = ⟨impl_isThreshold_ps, impl_isThreshold_rs, funF (impl_isThreshold_G N) tab [] Try.f45 impl_isThreshold_ps impl_isThreshold_rs⟩ := congrArg (FSum.mk impl_isThreshold_ps impl_isThreshold_rs) (funext (impl_isThreshold_run N))
  rw [e]
  exact fun_ok (c := impl_isThreshold_code) progOk (impl_isThreshold_gok N) (draw_ok progOk (impl_isThreshold_gok N)) Try.call45 Try.func45 (by kernel_rfl) (lsOk_at (L := []) trivial) (by kernel_rfl) (by kernel_rfl) (by kernel_rfl) (by kernel_rfl) (by kernel_rfl)

/-! ### impl_Graph_all -/
abbrev impl_Graph_all_ps : List (PV.Mode × Ty) := [(.ro, QILQII)]
abbrev impl_Graph_all_rs : List (Bool × Ty) := [(true, U64)]
noncomputable def impl_Graph_all_G (N : Nat) : GTab := gOf []
theorem impl_Graph_all_gok (N : Nat) : GOk Try.prog (impl_Graph_all_G N) := gOf_ok trivial
noncomputable def impl_Graph_all_code : Code := (Try.f129.body).getD .skip
noncomputable def impl_Graph_all (N : Nat) (g : (Int × (List (Int × Int)))) : Option ((Int × Unit) × (Unit)) :=
  (chk (ile 0 g.1)
    (some (((IntKind.u64.wrap ((shlI .u64 1 g.1) - 1)), ()), ())))
noncomputable def impl_Graph_all_S (N : Nat) : FSum := ⟨impl_Graph_all_ps, impl_Graph_all_rs, fun x => impl_Graph_all N x.1⟩
theorem impl_Graph_all_run (N : Nat) (x : argsT impl_Graph_all_ps) : impl_Graph_all N x.1 = funF (impl_Graph_all_G N) tab [] Try.f129 impl_Graph_all_ps impl_Graph_all_rs x := by kernel_rfl
theorem impl_Graph_all_pc (N : Nat) : PC Try.prog 129 (impl_Graph_all_S N) := by
  have e : impl_Graph_all_S N = ⟨impl_Graph_all_ps, impl_Graph_all_rs, funF (impl_Graph_all_G N) tab [] Try.f129 impl_Graph_all_ps impl_Graph_all_rs⟩ := congrArg (FSum.mk impl_Graph_all_ps impl_Graph_all_rs) (funext (impl_Graph_all_run N))
  rw [e]
  exact fun_ok (c := impl_Graph_all_code) progOk (impl_Graph_all_gok N) (draw_ok progOk (impl_Graph_all_gok N)) Try.call129 Try.func129 (by kernel_rfl) (lsOk_at (L := []) trivial) (by kernel_rfl) (by kernel_rfl) (by kernel_rfl) (by kernel_rfl) (by kernel_rfl)

/-! ### impl_bag_list -/
abbrev impl_bag_list_ps : List (PV.Mode × Ty) := [(.ro, U64)]
abbrev impl_bag_list_rs : List (Bool × Ty) := [(true, LI)]
noncomputable def impl_bag_list_G (N : Nat) : GTab := gOf []
theorem impl_bag_list_gok (N : Nat) : GOk Try.prog (impl_bag_list_G N) := gOf_ok trivial
noncomputable def impl_bag_list_code : Code := (Try.f89.body).getD .skip
noncomputable def impl_bag_list_l0_sh : Sh := ⟨[(0, .one (.ro U64)), (3, .one (.ref 0)), (6, .one (.ro I))], [.sl 3 I .own]⟩
noncomputable def impl_bag_list_l0_ex : List (Ex × Sh) := [(.exit 0, ⟨[(3, .one (.ref 0))], [.sl 3 I .own]⟩)]
noncomputable def impl_bag_list_l0 {R : Type} (N : Nat) (k0 : (List Int) → Option R) : Nat → Int → Int → (List Int) → Option R
  | 0, _, _, _ => none
  | K + 1, b1, x, o =>
    (br (ilt x 8)
      ((chk (ile 0 x)
        (br (ieq (bitop .and .u64 (shrI .u64 b1 x) 1) 1)
        ((chk (room o [x])
          (impl_bag_list_l0 N k0 K b1 (IntKind.i64.wrap (x + 1)) (tApp o [x]))))
        (impl_bag_list_l0 N k0 K b1 (IntKind.i64.wrap (x + 1)) o))))
      (k0 o))
noncomputable def impl_bag_list_l0_again {R : Type} (N : Nat) (ks : (j : Nat) → ((impl_bag_list_l0_ex.getD j (.ret, Sh.none)).2).T → Option R) (k : Nat) (x : impl_bag_list_l0_sh.T) : Option R :=
  impl_bag_list_l0 N (fun y0 => ks 0 (((), ()), (y0, ()))) k x.1.1 x.1.2.2.1 x.2.1
noncomputable def impl_bag_list_l0_s (N : Nat) : LSum := ⟨impl_bag_list_l0_sh, impl_bag_list_l0_ex, fun x ks => impl_bag_list_l0_again N ks N x⟩
theorem impl_bag_list_l0_step (N : Nat) (R : Type) (k : Nat) (x : impl_bag_list_l0_sh.T) (ks : (j : Nat) → ((impl_bag_list_l0_ex.getD j (.ret, Sh.none)).2).T → Option R) : impl_bag_list_l0_again N ks (k + 1) x = roundF (impl_bag_list_G N) tab [] (loopAt impl_bag_list_code 0) impl_bag_list_l0_sh impl_bag_list_l0_ex (fun y => impl_bag_list_l0_again N ks k y) ks x := by kernel_rfl
theorem impl_bag_list_l0_ok (N : Nat) : LoopOk Try.prog Try.f89.ntmps (impl_bag_list_l0_s N) (loopAt impl_bag_list_code 0) :=
  loop_ok (l := impl_bag_list_l0_s N) progOk (impl_bag_list_gok N) (draw_ok progOk (impl_bag_list_gok N)) (fun R k x ks => impl_bag_list_l0_again N ks k x) (fun _ _ _ => rfl) (fun R k x ks => impl_bag_list_l0_step N R k x ks) (fun R x ks r h => ⟨N, h⟩) (lsOk_at (L := []) trivial) (by kernel_rfl) (by kernel_rfl)
noncomputable def impl_bag_list (N : Nat) (b : Int) : Option (((List Int) × Unit) × (Unit)) :=
  impl_bag_list_l0 N (fun o => some ((o, ()), ())) N b 0 []
noncomputable def impl_bag_list_S (N : Nat) : FSum := ⟨impl_bag_list_ps, impl_bag_list_rs, fun x => impl_bag_list N x.1⟩
theorem impl_bag_list_run (N : Nat) (x : argsT impl_bag_list_ps) : impl_bag_list N x.1 = funF (impl_bag_list_G N) tab [impl_bag_list_l0_s N] Try.f89 impl_bag_list_ps impl_bag_list_rs x := by kernel_rfl
theorem impl_bag_list_pc (N : Nat) : PC Try.prog 89 (impl_bag_list_S N) := by
  have e : impl_bag_list_S N = ⟨impl_bag_list_ps, impl_bag_list_rs, funF (impl_bag_list_G N) tab [impl_bag_list_l0_s N] Try.f89 impl_bag_list_ps impl_bag_list_rs⟩ := congrArg (FSum.mk impl_bag_list_ps impl_bag_list_rs) (funext (impl_bag_list_run N))
  rw [e]
  exact fun_ok (c := impl_bag_list_code) progOk (impl_bag_list_gok N) (draw_ok progOk (impl_bag_list_gok N)) Try.call89 Try.func89 (by kernel_rfl) (lsOk_at (L := [impl_bag_list_l0_s N]) ⟨impl_bag_list_l0_ok N, trivial⟩) (by kernel_rfl) (by kernel_rfl) (by kernel_rfl) (by kernel_rfl) (by kernel_rfl)

/-! ### slices_Compare_LI_int -/
abbrev slices_Compare_LI_int_ps : List (PV.Mode × Ty) := [(.ro, LI), (.ro, LI)]
abbrev slices_Compare_LI_int_rs : List (Bool × Ty) := [(true, I)]
noncomputable def slices_Compare_LI_int_G (N : Nat) : GTab := gOf [(128, cmp_Compare_int_S N)]
theorem slices_Compare_LI_int_gok (N : Nat) : GOk Try.prog (slices_Compare_LI_int_G N) := gOf_ok ⟨cmp_Compare_int_pc N, trivial⟩
noncomputable def slices_Compare_LI_int_code : Code := (Try.f81.body).getD .skip
noncomputable def slices_Compare_LI_int_l0_sh : Sh := ⟨[(0, .one (.ro LI)), (1, .one (.ro LI)), (9, .one (.ro LI)), (10, .one (.ro I)), (11, .one (.ro I))], []⟩
noncomputable def slices_Compare_LI_int_l0_ex : List (Ex × Sh) := [(.ret, ⟨[(4, .one (.ro I))], []⟩), (.exit 0, ⟨[(0, .one (.ro LI)), (1, .one (.ro LI))], []⟩)]
noncomputable def slices_Compare_LI_int_l0 {R : Type} (N : Nat) (k0 : Int → Option R) (k1 : (List Int) → (List Int) → Option R) : Nat → (List Int) → (List Int) → (List Int) → Int → Int → Option R
  | 0, _, _, _, _, _ => none
  | K + 1, s11, s21, x, x1, x2 =>
    (br (ilt x2 x1)
      ((chk (inb x x2)
        (br (ile (tLen s21) x2)
        (k0 1)
        ((chk (inb s21 x2)
          ((cmp_Compare_int N (rdI x x2) (rdI s21 x2)).bind fun r =>
          (br (ine r.1.1 0)
            (k0 r.1.1)
            (slices_Compare_LI_int_l0 N k0 k1 K s11 s21 x x1 (IntKind.i64.wrap (x2 + 1))))))))))
      (k1 s11 s21))
noncomputable def slices_Compare_LI_int_l0_again {R : Type} (N : Nat) (ks : (j : Nat) → ((slices_Compare_LI_int_l0_ex.getD j (.ret, Sh.none)).2).T → Option R) (k : Nat) (x : slices_Compare_LI_int_l0_sh.T) : Option R :=
  slices_Compare_LI_int_l0 N (fun y0 => ks 0 ((y0, ()), ())) (fun y0 y1 => ks 1 ((y0, y1, ()), ())) k x.1.1 x.1.2.1 x.1.2.2.1 x.1.2.2.2.1 x.1.2.2.2.2.1
noncomputable def slices_Compare_LI_int_l0_s (N : Nat) : LSum := ⟨slices_Compare_LI_int_l0_sh, slices_Compare_LI_int_l0_ex, fun x ks => slices_Compare_LI_int_l0_again N ks N x⟩
theorem slices_Compare_LI_int_l0_step (N : Nat) (R : Type) (k : Nat) (x : slices_Compare_LI_int_l0_sh.T) (ks : (j : Nat) → ((slices_Compare_LI_int_l0_ex.getD j (.ret, Sh.none)).2).T → Option R) : slices_Compare_LI_int_l0_again N ks (k + 1) x = roundF (slices_Compare_LI_int_G N) tab [] (loopAt slices_Compare_LI_int_code 0) slices_Compare_LI_int_l0_sh slices_Compare_LI_int_l0_ex (fun y => slices_Compare_LI_int_l0_again N ks k y) ks x := by kernel_rfl
theorem slices_Compare_LI_int_l0_ok (N : Nat) : LoopOk Try.prog Try.f81.ntmps (slices_Compare_LI_int_l0_s N) (loopAt slices_Compare_LI_int_code 0) :=
  loop_ok (l := slices_Compare_LI_int_l0_s N) progOk (slices_Compare_LI_int_gok N) (draw_ok progOk (slices_Compare_LI_int_gok N)) (fun R k x ks => slices_Compare_LI_int_l0_again N ks k x) (fun _ _ _ => rfl) (fun R k x ks => slices_Compare_LI_int_l0_step N R k x ks) (fun R x ks r h => ⟨N, h⟩) (lsOk_at (L := []) trivial) (by kernel_rfl) (by kernel_rfl)
noncomputable def slices_Compare_LI_int (N : Nat) (s1 : (List Int)) (s2 : (List Int)) : Option ((Int × Unit) × (Unit)) :=
  slices_Compare_LI_int_l0 N (fun x => some ((x, ()), ())) (fun s11 s21 => (br (ilt (tLen s11) (tLen s21))
    (some (((-1), ()), ()))
    (some ((0, ()), ())))) N s1 s2 s1 (tLen s1) 0
noncomputable def slices_Compare_LI_int_S (N : Nat) : FSum := ⟨slices_Compare_LI_int_ps, slices_Compare_LI_int_rs, fun x => slices_Compare_LI_int N x.1 x.2.1⟩
theorem slices_Compare_LI_int_run (N : Nat) (x : argsT slices_Compare_LI_int_ps) : slices_Compare_LI_int N x.1 x.2.1 = funF (slices_Compare_LI_int_G N) tab [slices_Compare_LI_int_l0_s N] Try.f81 slices_Compare_LI_int_ps slices_Compare_LI_int_rs x := by kernel_rfl
theorem slices_Compare_LI_int_pc (N : Nat) : PC Try.prog 81 (slices_Compare_LI_int_S N) := by
  have e : slices_Compare_LI_int_S N = ⟨slices_Compare_LI_int_ps, slices_Compare_LI_int_rs, funF (slices_Compare_LI_int_G N) tab [slices_Compare_LI_int_l0_s N] Try.f81 slices_Compare_LI_int_ps slices_Compare_LI_int_rs⟩ := congrArg (FSum.mk slices_Compare_LI_int_ps slices_Compare_LI_int_rs) (funext (slices_Compare_LI_int_run N))
  rw [e]
  exact fun_ok (c := slices_Compare_LI_int_code) progOk (slices_Compare_LI_int_gok N) (draw_ok progOk (slices_Compare_LI_int_gok N)) Try.call81 Try.func81 (by kernel_rfl) (lsOk_at (L := [slices_Compare_LI_int_l0_s N]) ⟨slices_Compare_LI_int_l0_ok N, trivial⟩) (by kernel_rfl) (by kernel_rfl) (by kernel_rfl) (by kernel_rfl) (by kernel_rfl)

/-! ### slices_SortFunc_LLI_LI_kslices_Compare_LI_int -/
abbrev slices_SortFunc_LLI_LI_kslices_Compare_LI_int_ps : List (PV.Mode × Ty) := [(.mut, LLI), (.own, K81Un)]
abbrev slices_SortFunc_LLI_LI_kslices_Compare_LI_int_rs : List (Bool × Ty) := []
noncomputable def slices_SortFunc_LLI_LI_kslices_Compare_LI_int (N : Nat) (x : List (List Int)) (_ : Unit) : Option (Unit × (List (List Int) × Unit)) := sortF (fun a b => (slices_Compare_LI_int N a b).map fun z => z.1.1) x
noncomputable def slices_SortFunc_LLI_LI_kslices_Compare_LI_int_S (N : Nat) : FSum := ⟨slices_SortFunc_LLI_LI_kslices_Compare_LI_int_ps, slices_SortFunc_LLI_LI_kslices_Compare_LI_int_rs, fun x => slices_SortFunc_LLI_LI_kslices_Compare_LI_int N x.1 x.2.1⟩
theorem slices_SortFunc_LLI_LI_kslices_Compare_LI_int_pc (N : Nat) : PC Try.prog 80 (slices_SortFunc_LLI_LI_kslices_Compare_LI_int_S N) := sortRows_pc (fc := fun a b => slices_Compare_LI_int N a b) (sortsAt Try.sortL) (sortsNone Try.sortL) Try.call80 (slices_Compare_LI_int_pc N)

/-! ### impl_Graph_sets -/
abbrev impl_Graph_sets_ps : List (PV.Mode × Ty) := [(.ro, QILQII), (.ro, FU64Bo)]
abbrev impl_Graph_sets_rs : List (Bool × Ty) := [(true, LLI)]
noncomputable def impl_Graph_sets_G (N : Nat) : GTab := gOf [(129, impl_Graph_all_S N), (89, impl_bag_list_S N), (80, slices_SortFunc_LLI_LI_kslices_Compare_LI_int_S N)]
theorem impl_Graph_sets_gok (N : Nat) : GOk Try.prog (impl_Graph_sets_G N) := gOf_ok ⟨impl_Graph_all_pc N, impl_bag_list_pc N, slices_SortFunc_LLI_LI_kslices_Compare_LI_int_pc N, trivial⟩
noncomputable def impl_Graph_sets_code : Code := (Try.f82.body).getD .skip
noncomputable def impl_Graph_sets_l0_sh : Sh := ⟨[(1, .one (.ro FU64Bo)), (2, .one (.adr 0 0)), (5, .one (.ref 1)), (6, .one (.ro U64))], [.box [.ro I, .ro LQII], .sl 43 LI .deep]⟩
noncomputable def impl_Graph_sets_l0_ex : List (Ex × Sh) := [(.exit 0, ⟨[(5, .one (.ref 0))], [.sl 43 LI .deep]⟩)]
noncomputable def impl_Graph_sets_l0 {R : Type} (N : Nat) (k0 : (List (List Int)) → Option R) : Nat → (Int → Option Bool) → Int → Int → (List (Int × Int)) → (List (List Int)) → Option R
  | 0, _, _, _, _, _ => none
  | K + 1, is1, b, o, o1, o2 =>
    ((impl_Graph_all N (o, o1)).bind fun r =>
      (br (ile b r.1.1)
        (((is1 b).bind fun v =>
          (br v
          (((impl_bag_list N b).bind fun r1 =>
            (chk (room o2 [r1.1.1])
              (impl_Graph_sets_l0 N k0 K is1 (IntKind.u64.wrap (b + 1)) o o1 (tApp o2 [r1.1.1])))))
          (impl_Graph_sets_l0 N k0 K is1 (IntKind.u64.wrap (b + 1)) o o1 o2))))
        (k0 o2)))
noncomputable def impl_Graph_sets_l0_again {R : Type} (N : Nat) (ks : (j : Nat) → ((impl_Graph_sets_l0_ex.getD j (.ret, Sh.none)).2).T → Option R) (k : Nat) (x : impl_Graph_sets_l0_sh.T) : Option R :=
  impl_Graph_sets_l0 N (fun y0 => ks 0 (((), ()), (y0, ()))) k x.1.1 x.1.2.2.2.1 x.2.1.1 x.2.1.2.1 x.2.2.1
noncomputable def impl_Graph_sets_l0_s (N : Nat) : LSum := ⟨impl_Graph_sets_l0_sh, impl_Graph_sets_l0_ex, fun x ks => impl_Graph_sets_l0_again N ks N x⟩
theorem impl_Graph_sets_l0_step (N : Nat) (R : Type) (k : Nat) (x : impl_Graph_sets_l0_sh.T) (ks : (j : Nat) → ((impl_Graph_sets_l0_ex.getD j (.ret, Sh.none)).2).T → Option R) : impl_Graph_sets_l0_again N ks (k + 1) x = roundF (impl_Graph_sets_G N) tab [] (loopAt impl_Graph_sets_code 0) impl_Graph_sets_l0_sh impl_Graph_sets_l0_ex (fun y => impl_Graph_sets_l0_again N ks k y) ks x := by kernel_rfl
theorem impl_Graph_sets_l0_ok (N : Nat) : LoopOk Try.prog Try.f82.ntmps (impl_Graph_sets_l0_s N) (loopAt impl_Graph_sets_code 0) :=
  loop_ok (l := impl_Graph_sets_l0_s N) progOk (impl_Graph_sets_gok N) (draw_ok progOk (impl_Graph_sets_gok N)) (fun R k x ks => impl_Graph_sets_l0_again N ks k x) (fun _ _ _ => rfl) (fun R k x ks => impl_Graph_sets_l0_step N R k x ks) (fun R x ks r h => ⟨N, h⟩) (lsOk_at (L := []) trivial) (by kernel_rfl) (by kernel_rfl)
noncomputable def impl_Graph_sets (N : Nat) (g : (Int × (List (Int × Int)))) (is : (Int → Option Bool)) : Option (((List (List Int)) × Unit) × (Unit)) :=
  impl_Graph_sets_l0 N (fun o => ((slices_SortFunc_LLI_LI_kslices_Compare_LI_int N o ()).bind fun r =>
    some ((r.2.1, ()), ()))) N is 0 g.1 g.2 []
noncomputable def impl_Graph_sets_S (N : Nat) : FSum := ⟨impl_Graph_sets_ps, impl_Graph_sets_rs, fun x => impl_Graph_sets N x.1 x.2.1⟩
theorem impl_Graph_sets_run (N : Nat) (x : argsT impl_Graph_sets_ps) : impl_Graph_sets N x.1 x.2.1 = funF (impl_Graph_sets_G N) tab [impl_Graph_sets_l0_s N] Try.f82 impl_Graph_sets_ps impl_Graph_sets_rs x := by kernel_rfl
theorem impl_Graph_sets_pc (N : Nat) : PC Try.prog 82 (impl_Graph_sets_S N) := by
  have e : impl_Graph_sets_S N = ⟨impl_Graph_sets_ps, impl_Graph_sets_rs, funF (impl_Graph_sets_G N) tab [impl_Graph_sets_l0_s N] Try.f82 impl_Graph_sets_ps impl_Graph_sets_rs⟩ := congrArg (FSum.mk impl_Graph_sets_ps impl_Graph_sets_rs) (funext (impl_Graph_sets_run N))
  rw [e]
  exact fun_ok (c := impl_Graph_sets_code) progOk (impl_Graph_sets_gok N) (draw_ok progOk (impl_Graph_sets_gok N)) Try.call82 Try.func82 (by kernel_rfl) (lsOk_at (L := [impl_Graph_sets_l0_s N]) ⟨impl_Graph_sets_l0_ok N, trivial⟩) (by kernel_rfl) (by kernel_rfl) (by kernel_rfl) (by kernel_rfl) (by kernel_rfl)

/-! ### math_bits_OnesCount64 -/
abbrev math_bits_OnesCount64_ps : List (PV.Mode × Ty) := [(.ro, U64)]
abbrev math_bits_OnesCount64_rs : List (Bool × Ty) := [(true, I)]
noncomputable def math_bits_OnesCount64_G (N : Nat) : GTab := gOf []
theorem math_bits_OnesCount64_gok (N : Nat) : GOk Try.prog (math_bits_OnesCount64_G N) := gOf_ok trivial
noncomputable def math_bits_OnesCount64_code : Code := (Try.f166.body).getD .skip
noncomputable def math_bits_OnesCount64 (N : Nat) (x : Int) : Option ((Int × Unit) × (Unit)) :=
  some (((bitop .and .i64 (IntKind.i64.wrap ((IntKind.u64.wrap ((IntKind.u64.wrap ((IntKind.u64.wrap ((bitop .and .u64 (IntKind.u64.wrap ((shrI .u64 (IntKind.u64.wrap ((bitop .and .u64 (shrI .u64 (IntKind.u64.wrap ((bitop .and .u64 (shrI .u64 x 1) 6148914691236517205) + (bitop .and .u64 x 6148914691236517205))) 2) 3689348814741910323) + (bitop .and .u64 (IntKind.u64.wrap ((bitop .and .u64 (shrI .u64 x 1) 6148914691236517205) + (bitop .and .u64 x 6148914691236517205))) 3689348814741910323))) 4) + (IntKind.u64.wrap ((bitop .and .u64 (shrI .u64 (IntKind.u64.wrap ((bitop .and .u64 (shrI .u64 x 1) 6148914691236517205) + (bitop .and .u64 x 6148914691236517205))) 2) 3689348814741910323) + (bitop .and .u64 (IntKind.u64.wrap ((bitop .and .u64 (shrI .u64 x 1) 6148914691236517205) + (bitop .and .u64 x 6148914691236517205))) 3689348814741910323))))) 1085102592571150095) + (shrI .u64 (bitop .and .u64 (IntKind.u64.wrap ((shrI .u64 (IntKind.u64.wrap ((bitop .and .u64 (shrI .u64 (IntKind.u64.wrap ((bitop .and .u64 (shrI .u64 x 1) 6148914691236517205) + (bitop .and .u64 x 6148914691236517205))) 2) 3689348814741910323) + (bitop .and .u64 (IntKind.u64.wrap ((bitop .and .u64 (shrI .u64 x 1) 6148914691236517205) + (bitop .and .u64 x 6148914691236517205))) 3689348814741910323))) 4) + (IntKind.u64.wrap ((bitop .and .u64 (shrI .u64 (IntKind.u64.wrap ((bitop .and .u64 (shrI .u64 x 1) 6148914691236517205) + (bitop .and .u64 x 6148914691236517205))) 2) 3689348814741910323) + (bitop .and .u64 (IntKind.u64.wrap ((bitop .and .u64 (shrI .u64 x 1) 6148914691236517205) + (bitop .and .u64 x 6148914691236517205))) 3689348814741910323))))) 1085102592571150095) 8))) + (shrI .u64 (IntKind.u64.wrap ((bitop .and .u64 (IntKind.u64.wrap ((shrI .u64 (IntKind.u64.wrap ((bitop .and .u64 (shrI .u64 (IntKind.u64.wrap ((bitop .and .u64 (shrI .u64 x 1) 6148914691236517205) + (bitop .and .u64 x 6148914691236517205))) 2) 3689348814741910323) + (bitop .and .u64 (IntKind.u64.wrap ((bitop .and .u64 (shrI .u64 x 1) 6148914691236517205) + (bitop .and .u64 x 6148914691236517205))) 3689348814741910323))) 4) + (IntKind.u64.wrap ((bitop .and .u64 (shrI .u64 (IntKind.u64.wrap ((bitop .and .u64 (shrI .u64 x 1) 6148914691236517205) + (bitop .and .u64 x 6148914691236517205))) 2) 3689348814741910323) + (bitop .and .u64 (IntKind.u64.wrap ((bitop .and .u64 (shrI .u64 x 1) 6148914691236517205) + (bitop .and .u64 x 6148914691236517205))) 3689348814741910323))))) 1085102592571150095) + (shrI .u64 (bitop .and .u64 (IntKind.u64.wrap ((shrI .u64 (IntKind.u64.wrap ((bitop .and .u64 (shrI .u64 (IntKind.u64.wrap ((bitop .and .u64 (shrI .u64 x 1) 6148914691236517205) + (bitop .and .u64 x 6148914691236517205))) 2) 3689348814741910323) + (bitop .and .u64 (IntKind.u64.wrap ((bitop .and .u64 (shrI .u64 x 1) 6148914691236517205) + (bitop .and .u64 x 6148914691236517205))) 3689348814741910323))) 4) + (IntKind.u64.wrap ((bitop .and .u64 (shrI .u64 (IntKind.u64.wrap ((bitop .and .u64 (shrI .u64 x 1) 6148914691236517205) + (bitop .and .u64 x 6148914691236517205))) 2) 3689348814741910323) + (bitop .and .u64 (IntKind.u64.wrap ((bitop .and .u64 (shrI .u64 x 1) 6148914691236517205) + (bitop .and .u64 x 6148914691236517205))) 3689348814741910323))))) 1085102592571150095) 8))) 16))) + (shrI .u64 (IntKind.u64.wrap ((IntKind.u64.wrap ((bitop .and .u64 (IntKind.u64.wrap ((shrI .u64 (IntKind.u64.wrap ((bitop .and .u64 (shrI .u64 (IntKind.u64.wrap ((bitop .and .u64 (shrI .u64 x 1) 6148914691236517205) + (bitop .and .u64 x 6148914691236517205))) 2) 3689348814741910323) + (bitop .and .u64 (IntKind.u64.wrap ((bitop .and .u64 (shrI .u64 x 1) 6148914691236517205) + (bitop .and .u64 x 6148914691236517205))) 3689348814741910323))) 4) + (IntKind.u64.wrap ((bitop .and .u64 (shrI .u64 (IntKind.u64.wrap ((bitop .and .u64 (shrI .u64 x 1) 6148914691236517205) + (bitop .and .u64 x 6148914691236517205))) 2) 3689348814741910323) + (bitop .and .u64 (IntKind.u64.wrap ((bitop .and .u64 (shrI .u64 x 1) 6148914691236517205) + (bitop .and .u64 x 6148914691236517205))) 3689348814741910323))))) 1085102592571150095) + (shrI .u64 (bitop .and .u64 (IntKind.u64.wrap ((shrI .u64 (IntKind.u64.wrap ((bitop .and .u64 (shrI .u64 (IntKind.u64.wrap ((bitop .and .u64 (shrI .u64 x 1) 6148914691236517205) + (bitop .and .u64 x 6148914691236517205))) 2) 3689348814741910323) + (bitop .and .u64 (IntKind.u64.wrap ((bitop .and .u64 (shrI .u64 x 1) 6148914691236517205) + (bitop .and .u64 x 6148914691236517205))) 3689348814741910323))) 4) + (IntKind.u64.wrap ((bitop .and .u64 (shrI .u64 (IntKind.u64.wrap ((bitop .and .u64 (shrI .u64 x 1) 6148914691236517205) + (bitop .and .u64 x 6148914691236517205))) 2) 3689348814741910323) + (bitop .and .u64 (IntKind.u64.wrap ((bitop .and .u64 (shrI .u64 x 1) 6148914691236517205) + (bitop .and .u64 x 6148914691236517205))) 3689348814741910323))))) 1085102592571150095) 8))) + (shrI .u64 (IntKind.u64.wrap ((bitop .and .u64 (IntKind.u64.wrap ((shrI .u64 (IntKind.u64.wrap ((bitop .and .u64 (shrI .u64 (IntKind.u64.wrap ((bitop .and .u64 (shrI .u64 x 1) 6148914691236517205) + (bitop .and .u64 x 6148914691236517205))) 2) 3689348814741910323) + (bitop .and .u64 (IntKind.u64.wrap ((bitop .and .u64 (shrI .u64 x 1) 6148914691236517205) + (bitop .and .u64 x 6148914691236517205))) 3689348814741910323))) 4) + (IntKind.u64.wrap ((bitop .and .u64 (shrI .u64 (IntKind.u64.wrap ((bitop .and .u64 (shrI .u64 x 1) 6148914691236517205) + (bitop .and .u64 x 6148914691236517205))) 2) 3689348814741910323) + (bitop .and .u64 (IntKind.u64.wrap ((bitop .and .u64 (shrI .u64 x 1) 6148914691236517205) + (bitop .and .u64 x 6148914691236517205))) 3689348814741910323))))) 1085102592571150095) + (shrI .u64 (bitop .and .u64 (IntKind.u64.wrap ((shrI .u64 (IntKind.u64.wrap ((bitop .and .u64 (shrI .u64 (IntKind.u64.wrap ((bitop .and .u64 (shrI .u64 x 1) 6148914691236517205) + (bitop .and .u64 x 6148914691236517205))) 2) 3689348814741910323) + (bitop .and .u64 (IntKind.u64.wrap ((bitop .and .u64 (shrI .u64 x 1) 6148914691236517205) + (bitop .and .u64 x 6148914691236517205))) 3689348814741910323))) 4) + (IntKind.u64.wrap ((bitop .and .u64 (shrI .u64 (IntKind.u64.wrap ((bitop .and .u64 (shrI .u64 x 1) 6148914691236517205) + (bitop .and .u64 x 6148914691236517205))) 2) 3689348814741910323) + (bitop .and .u64 (IntKind.u64.wrap ((bitop .and .u64 (shrI .u64 x 1) 6148914691236517205) + (bitop .and .u64 x 6148914691236517205))) 3689348814741910323))))) 1085102592571150095) 8))) 16))) 32))))) 127), ()), ())
noncomputable def math_bits_OnesCount64_S (N : Nat) : FSum := ⟨math_bits_OnesCount64_ps, math_bits_OnesCount64_rs, fun x => math_bits_OnesCount64 N x.1⟩
theorem math_bits_OnesCount64_run (N : Nat) (x : argsT math_bits_OnesCount64_ps) : math_bits_OnesCount64 N x.1 = funF (math_bits_OnesCount64_G N) tab [] Try.f166 math_bits_OnesCount64_ps math_bits_OnesCount64_rs x := by kernel_rfl
theorem math_bits_OnesCount64_pc (N : Nat) : PC Try.prog 166 (math_bits_OnesCount64_S N) := by
  have e : math_bits_OnesCount64_S N = ⟨math_bits_OnesCount64_ps, math_bits_OnesCount64_rs, funF (math_bits_OnesCount64_G N) tab [] Try.f166 math_bits_OnesCount64_ps math_bits_OnesCount64_rs⟩ := congrArg (FSum.mk math_bits_OnesCount64_ps math_bits_OnesCount64_rs) (funext (math_bits_OnesCount64_run N))
  rw [e]
  exact fun_ok (c := math_bits_OnesCount64_code) progOk (math_bits_OnesCount64_gok N) (draw_ok progOk (math_bits_OnesCount64_gok N)) Try.call166 Try.func166 (by kernel_rfl) (lsOk_at (L := []) trivial) (by kernel_rfl) (by kernel_rfl) (by kernel_rfl) (by kernel_rfl) (by kernel_rfl)

/-! ### math_bits_OnesCount -/
abbrev math_bits_OnesCount_ps : List (PV.Mode × Ty) := [(.ro, U64)]
abbrev math_bits_OnesCount_rs : List (Bool × Ty) := [(true, I)]
noncomputable def math_bits_OnesCount_G (N : Nat) : GTab := gOf [(166, math_bits_OnesCount64_S N)]
theorem math_bits_OnesCount_gok (N : Nat) : GOk Try.prog (math_bits_OnesCount_G N) := gOf_ok ⟨math_bits_OnesCount64_pc N, trivial⟩
noncomputable def math_bits_OnesCount_code : Code := (Try.f130.body).getD .skip
noncomputable def math_bits_OnesCount (N : Nat) (x : Int) : Option ((Int × Unit) × (Unit)) :=
  ((math_bits_OnesCount64 N x).bind fun r =>
    some ((r.1.1, ()), ()))
noncomputable def math_bits_OnesCount_S (N : Nat) : FSum := ⟨math_bits_OnesCount_ps, math_bits_OnesCount_rs, fun x => math_bits_OnesCount N x.1⟩
theorem math_bits_OnesCount_run (N : Nat) (x : argsT math_bits_OnesCount_ps) : math_bits_OnesCount N x.1 = funF (math_bits_OnesCount_G N) tab [] Try.f130 math_bits_OnesCount_ps math_bits_OnesCount_rs x := by kernel_rfl
theorem math_bits_OnesCount_pc (N : Nat) : PC Try.prog 130 (math_bits_OnesCount_S N) := by
  have e : math_bits_OnesCount_S N = ⟨math_bits_OnesCount_ps, math_bits_OnesCount_rs, funF (math_bits_OnesCount_G N) tab [] Try.f130 math_bits_OnesCount_ps math_bits_OnesCount_rs⟩ := congrArg (FSum.mk math_bits_OnesCount_ps math_bits_OnesCount_rs) (funext (math_bits_OnesCount_run N))
  rw [e]
  exact fun_ok (c := math_bits_OnesCount_code) progOk (math_bits_OnesCount_gok N) (draw_ok progOk (math_bits_OnesCount_gok N)) Try.call130 Try.func130 (by kernel_rfl) (lsOk_at (L := []) trivial) (by kernel_rfl) (by kernel_rfl) (by kernel_rfl) (by kernel_rfl) (by kernel_rfl)

/-! ### impl_bag_size -/
abbrev impl_bag_size_ps : List (PV.Mode × Ty) := [(.ro, U64)]
abbrev impl_bag_size_rs : List (Bool × Ty) := [(true, I)]
noncomputable def impl_bag_size_G (N : Nat) : GTab := gOf [(130, math_bits_OnesCount_S N)]
theorem impl_bag_size_gok (N : Nat) : GOk Try.prog (impl_bag_size_G N) := gOf_ok ⟨math_bits_OnesCount_pc N, trivial⟩
noncomputable def impl_bag_size_code : Code := (Try.f84.body).getD .skip
noncomputable def impl_bag_size (N : Nat) (b : Int) : Option ((Int × Unit) × (Unit)) :=
  ((math_bits_OnesCount N b).bind fun r =>
    some ((r.1.1, ()), ()))
noncomputable def impl_bag_size_S (N : Nat) : FSum := ⟨impl_bag_size_ps, impl_bag_size_rs, fun x => impl_bag_size N x.1⟩
theorem impl_bag_size_run (N : Nat) (x : argsT impl_bag_size_ps) : impl_bag_size N x.1 = funF (impl_bag_size_G N) tab [] Try.f84 impl_bag_size_ps impl_bag_size_rs x := by kernel_rfl
theorem impl_bag_size_pc (N : Nat) : PC Try.prog 84 (impl_bag_size_S N) := by
  have e : impl_bag_size_S N = ⟨impl_bag_size_ps, impl_bag_size_rs, funF (impl_bag_size_G N) tab [] Try.f84 impl_bag_size_ps impl_bag_size_rs⟩ := congrArg (FSum.mk impl_bag_size_ps impl_bag_size_rs) (funext (impl_bag_size_run N))
  rw [e]
  exact fun_ok (c := impl_bag_size_code) progOk (impl_bag_size_gok N) (draw_ok progOk (impl_bag_size_gok N)) Try.call84 Try.func84 (by kernel_rfl) (lsOk_at (L := []) trivial) (by kernel_rfl) (by kernel_rfl) (by kernel_rfl) (by kernel_rfl) (by kernel_rfl)

/-! ### slices_IndexFunc_LP_P2 -/
abbrev slices_IndexFunc_LP_P2_ps : List (PV.Mode × Ty) := [(.ro, LQII), (.ro, FQIIBo)]
abbrev slices_IndexFunc_LP_P2_rs : List (Bool × Ty) := [(true, I)]
noncomputable def slices_IndexFunc_LP_P2_G (N : Nat) : GTab := gOf []
theorem slices_IndexFunc_LP_P2_gok (N : Nat) : GOk Try.prog (slices_IndexFunc_LP_P2_G N) := gOf_ok trivial
noncomputable def slices_IndexFunc_LP_P2_code : Code := (Try.f193.body).getD .skip
noncomputable def slices_IndexFunc_LP_P2_l0_sh : Sh := ⟨[(0, .one (.ro LQII)), (1, .one (.ro FQIIBo)), (7, .one (.ro I)), (8, .one (.ro I))], []⟩
noncomputable def slices_IndexFunc_LP_P2_l0_ex : List (Ex × Sh) := [(.ret, ⟨[(4, .one (.ro I))], []⟩), (.exit 0, ⟨[], []⟩)]
noncomputable def slices_IndexFunc_LP_P2_l0 {R : Type} (N : Nat) (k0 : Int → Option R) (k1 : Unit → Option R) : Nat → (List (Int × Int)) → ((Int × Int) → Option Bool) → Int → Int → Option R
  | 0, _, _, _, _ => none
  | K + 1, s1, f1, x, x1 =>
    (br (ilt x1 x)
      ((chk (inb s1 x1)
        ((f1 (rdP s1 x1)).bind fun v =>
        (br v
        (k0 x1)
        (slices_IndexFunc_LP_P2_l0 N k0 k1 K s1 f1 x (IntKind.i64.wrap (x1 + 1)))))))
      (k1 ()))
noncomputable def slices_IndexFunc_LP_P2_l0_again {R : Type} (N : Nat) (ks : (j : Nat) → ((slices_IndexFunc_LP_P2_l0_ex.getD j (.ret, Sh.none)).2).T → Option R) (k : Nat) (x : slices_IndexFunc_LP_P2_l0_sh.T) : Option R :=
  slices_IndexFunc_LP_P2_l0 N (fun y0 => ks 0 ((y0, ()), ())) (fun (_ : Unit) => ks 1 ((), ())) k x.1.1 x.1.2.1 x.1.2.2.1 x.1.2.2.2.1
noncomputable def slices_IndexFunc_LP_P2_l0_s (N : Nat) : LSum := ⟨slices_IndexFunc_LP_P2_l0_sh, slices_IndexFunc_LP_P2_l0_ex, fun x ks => slices_IndexFunc_LP_P2_l0_again N ks N x⟩
theorem slices_IndexFunc_LP_P2_l0_step (N : Nat) (R : Type) (k : Nat) (x : slices_IndexFunc_LP_P2_l0_sh.T) (ks : (j : Nat) → ((slices_IndexFunc_LP_P2_l0_ex.getD j (.ret, Sh.none)).2).T → Option R) : slices_IndexFunc_LP_P2_l0_again N ks (k + 1) x = roundF (slices_IndexFunc_LP_P2_G N) tab [] (loopAt slices_IndexFunc_LP_P2_code 0) slices_IndexFunc_LP_P2_l0_sh slices_IndexFunc_LP_P2_l0_ex (fun y => slices_IndexFunc_LP_P2_l0_again N ks k y) ks x := by kernel_rfl
theorem slices_IndexFunc_LP_P2_l0_ok (N : Nat) : LoopOk Try.prog Try.f193.ntmps (slices_IndexFunc_LP_P2_l0_s N) (loopAt slices_IndexFunc_LP_P2_code 0) :=
  loop_ok (l := slices_IndexFunc_LP_P2_l0_s N) progOk (slices_IndexFunc_LP_P2_gok N) (draw_ok progOk (slices_IndexFunc_LP_P2_gok N)) (fun R k x ks => slices_IndexFunc_LP_P2_l0_again N ks k x) (fun _ _ _ => rfl) (fun R k x ks => slices_IndexFunc_LP_P2_l0_step N R k x ks) (fun R x ks r h => ⟨N, h⟩) (lsOk_at (L := []) trivial) (by kernel_rfl) (by kernel_rfl)
noncomputable def slices_IndexFunc_LP_P2 (N : Nat) (s : (List (Int × Int))) (f : ((Int × Int) → Option Bool)) : Option ((Int × Unit) × (Unit)) :=
  slices_IndexFunc_LP_P2_l0 N (fun x => some ((x, ()), ())) (fun (_ : Unit) => some (((-1), ()), ())) N s f (tLen s) 0
noncomputable def slices_IndexFunc_LP_P2_S (N : Nat) : FSum := ⟨slices_IndexFunc_LP_P2_ps, slices_IndexFunc_LP_P2_rs, fun x => slices_IndexFunc_LP_P2 N x.1 x.2.1⟩
theorem slices_IndexFunc_LP_P2_run (N : Nat) (x : argsT slices_IndexFunc_LP_P2_ps) : slices_IndexFunc_LP_P2 N x.1 x.2.1 = funF (slices_IndexFunc_LP_P2_G N) tab [slices_IndexFunc_LP_P2_l0_s N] Try.f193 slices_IndexFunc_LP_P2_ps slices_IndexFunc_LP_P2_rs x := by kernel_rfl
theorem slices_IndexFunc_LP_P2_pc (N : Nat) : PC Try.prog 193 (slices_IndexFunc_LP_P2_S N) := by
  have e : slices_IndexFunc_LP_P2_S N = ⟨slices_IndexFunc_LP_P2_ps, slices_IndexFunc_LP_P2_rs, funF (slices_IndexFunc_LP_P2_G N) tab [slices_IndexFunc_LP_P2_l0_s N] Try.f193 slices_IndexFunc_LP_P2_ps slices_IndexFunc_LP_P2_rs⟩ := congrArg (FSum.mk slices_IndexFunc_LP_P2_ps slices_IndexFunc_LP_P2_rs) (funext (slices_IndexFunc_LP_P2_run N))
  rw [e]
  exact fun_ok (c := slices_IndexFunc_LP_P2_code) progOk (slices_IndexFunc_LP_P2_gok N) (draw_ok progOk (slices_IndexFunc_LP_P2_gok N)) Try.call193 Try.func193 (by kernel_rfl) (lsOk_at (L := [slices_IndexFunc_LP_P2_l0_s N]) ⟨slices_IndexFunc_LP_P2_l0_ok N, trivial⟩) (by kernel_rfl) (by kernel_rfl) (by kernel_rfl) (by kernel_rfl) (by kernel_rfl)

/-! ### slices_ContainsFunc_LP_P2 -/
abbrev slices_ContainsFunc_LP_P2_ps : List (PV.Mode × Ty) := [(.ro, LQII), (.ro, FQIIBo)]
abbrev slices_ContainsFunc_LP_P2_rs : List (Bool × Ty) := [(true, .bool)]
noncomputable def slices_ContainsFunc_LP_P2_G (N : Nat) : GTab := gOf [(193, slices_IndexFunc_LP_P2_S N)]
theorem slices_ContainsFunc_LP_P2_gok (N : Nat) : GOk Try.prog (slices_ContainsFunc_LP_P2_G N) := gOf_ok ⟨slices_IndexFunc_LP_P2_pc N, trivial⟩
noncomputable def slices_ContainsFunc_LP_P2_code : Code := (Try.f167.body).getD .skip
noncomputable def slices_ContainsFunc_LP_P2 (N : Nat) (s : (List (Int × Int))) (f : ((Int × Int) → Option Bool)) : Option ((Bool × Unit) × (Unit)) :=
  ((slices_IndexFunc_LP_P2 N s f).bind fun r =>
    some (((ile 0 r.1.1), ()), ()))
noncomputable def slices_ContainsFunc_LP_P2_S (N : Nat) : FSum := ⟨slices_ContainsFunc_LP_P2_ps, slices_ContainsFunc_LP_P2_rs, fun x => slices_ContainsFunc_LP_P2 N x.1 x.2.1⟩
theorem slices_ContainsFunc_LP_P2_run (N : Nat) (x : argsT slices_ContainsFunc_LP_P2_ps) : slices_ContainsFunc_LP_P2 N x.1 x.2.1 = funF (slices_ContainsFunc_LP_P2_G N) tab [] Try.f167 slices_ContainsFunc_LP_P2_ps slices_ContainsFunc_LP_P2_rs x := by kernel_rfl
theorem slices_ContainsFunc_LP_P2_pc (N : Nat) : PC Try.prog 167 (slices_ContainsFunc_LP_P2_S N) := by
  have e : slices_ContainsFunc_LP_P2_S N = ⟨slices_ContainsFunc_LP_P2_ps, slices_ContainsFunc_LP_P2_rs, funF (slices_ContainsFunc_LP_P2_G N) tab [] Try.f167 slices_ContainsFunc_LP_P2_ps slices_ContainsFunc_LP_P2_rs⟩ := congrArg (FSum.mk slices_ContainsFunc_LP_P2_ps slices_ContainsFunc_LP_P2_rs) (funext (slices_ContainsFunc_LP_P2_run N))
  rw [e]
  exact fun_ok (c := slices_ContainsFunc_LP_P2_code) progOk (slices_ContainsFunc_LP_P2_gok N) (draw_ok progOk (slices_ContainsFunc_LP_P2_gok N)) Try.call167 Try.func167 (by kernel_rfl) (lsOk_at (L := []) trivial) (by kernel_rfl) (by kernel_rfl) (by kernel_rfl) (by kernel_rfl) (by kernel_rfl)

/-! ### impl_bag_has -/
abbrev impl_bag_has_ps : List (PV.Mode × Ty) := [(.ro, U64), (.ro, I)]
abbrev impl_bag_has_rs : List (Bool × Ty) := [(true, .bool)]
noncomputable def impl_bag_has_G (N : Nat) : GTab := gOf []
theorem impl_bag_has_gok (N : Nat) : GOk Try.prog (impl_bag_has_G N) := gOf_ok trivial
noncomputable def impl_bag_has_code : Code := (Try.f132.body).getD .skip
noncomputable def impl_bag_has (N : Nat) (b : Int) (x : Int) : Option ((Bool × Unit) × (Unit)) :=
  (chk (ile 0 x)
    (some (((ieq (bitop .and .u64 (shrI .u64 b x) 1) 1), ()), ())))
noncomputable def impl_bag_has_S (N : Nat) : FSum := ⟨impl_bag_has_ps, impl_bag_has_rs, fun x => impl_bag_has N x.1 x.2.1⟩
theorem impl_bag_has_run (N : Nat) (x : argsT impl_bag_has_ps) : impl_bag_has N x.1 x.2.1 = funF (impl_bag_has_G N) tab [] Try.f132 impl_bag_has_ps impl_bag_has_rs x := by kernel_rfl
theorem impl_bag_has_pc (N : Nat) : PC Try.prog 132 (impl_bag_has_S N) := by
  have e : impl_bag_has_S N = ⟨impl_bag_has_ps, impl_bag_has_rs, funF (impl_bag_has_G N) tab [] Try.f132 impl_bag_has_ps impl_bag_has_rs⟩ := congrArg (FSum.mk impl_bag_has_ps impl_bag_has_rs) (funext (impl_bag_has_run N))
  rw [e]
  exact fun_ok (c := impl_bag_has_code) progOk (impl_bag_has_gok N) (draw_ok progOk (impl_bag_has_gok N)) Try.call132 Try.func132 (by kernel_rfl) (lsOk_at (L := []) trivial) (by kernel_rfl) (by kernel_rfl) (by kernel_rfl) (by kernel_rfl) (by kernel_rfl)

/-! ### impl_Graph_isFree_c1 -/
abbrev impl_Graph_isFree_c1_ps : List (PV.Mode × Ty) := [(.ro, QII), (.ro, AU64)]
abbrev impl_Graph_isFree_c1_rs : List (Bool × Ty) := [(true, .bool)]
noncomputable def impl_Graph_isFree_c1_G (N : Nat) : GTab := gOf [(132, impl_bag_has_S N)]
theorem impl_Graph_isFree_c1_gok (N : Nat) : GOk Try.prog (impl_Graph_isFree_c1_G N) := gOf_ok ⟨impl_bag_has_pc N, trivial⟩
noncomputable def impl_Graph_isFree_c1_code : Code := (Try.f168.body).getD .skip
noncomputable def impl_Graph_isFree_c1 (N : Nat) (e : (Int × Int)) (c : Int) : Option ((Bool × Unit) × (Unit)) :=
  ((impl_bag_has N c e.1).bind fun r =>
    (br r.1.1
      (((impl_bag_has N c e.2).bind fun r1 =>
        some ((r1.1.1, ()), ())))
      (some ((false, ()), ()))))
noncomputable def impl_Graph_isFree_c1_S (N : Nat) : FSum := ⟨impl_Graph_isFree_c1_ps, impl_Graph_isFree_c1_rs, fun x => impl_Graph_isFree_c1 N x.1 x.2.1⟩
theorem impl_Graph_isFree_c1_run (N : Nat) (x : argsT impl_Graph_isFree_c1_ps) : impl_Graph_isFree_c1 N x.1 x.2.1 = funF (impl_Graph_isFree_c1_G N) tab [] Try.f168 impl_Graph_isFree_c1_ps impl_Graph_isFree_c1_rs x := by kernel_rfl
theorem impl_Graph_isFree_c1_pc (N : Nat) : PC Try.prog 168 (impl_Graph_isFree_c1_S N) := by
  have e : impl_Graph_isFree_c1_S N = ⟨impl_Graph_isFree_c1_ps, impl_Graph_isFree_c1_rs, funF (impl_Graph_isFree_c1_G N) tab [] Try.f168 impl_Graph_isFree_c1_ps impl_Graph_isFree_c1_rs⟩ := congrArg (FSum.mk impl_Graph_isFree_c1_ps impl_Graph_isFree_c1_rs) (funext (impl_Graph_isFree_c1_run N))
  rw [e]
  exact fun_ok (c := impl_Graph_isFree_c1_code) progOk (impl_Graph_isFree_c1_gok N) (draw_ok progOk (impl_Graph_isFree_c1_gok N)) Try.call168 Try.func168 (by kernel_rfl) (lsOk_at (L := []) trivial) (by kernel_rfl) (by kernel_rfl) (by kernel_rfl) (by kernel_rfl) (by kernel_rfl)
end Go.Proofs.Ytgelipdkheahdaa
