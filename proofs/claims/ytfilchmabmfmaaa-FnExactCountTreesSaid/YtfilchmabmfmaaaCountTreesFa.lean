/- Functions of the program as functions on data. -/
import Derived.Test.YtfilchmabmfmaaaCountTreesTa
set_option linter.all false
namespace Go.Proofs.Ytfilchmabmfmaaa
open Go Go.PV
abbrev Zq16_ps : List (PV.Mode × Ty) := [(.ro, LQII), (.ro, I)]
abbrev Zq16_rs : List (Bool × Ty) := [(true, I)]
noncomputable def Zq16_G (N : Nat) : GTab := gOf []
theorem Zq16_gok (N : Nat) : GOk Try.prog (Zq16_G N) := gOf_ok trivial
noncomputable def Zq16_code : Code := (Try.f15.body).getD .skip
noncomputable def Zq16 (N : Nat) (a : (List (Int × Int))) (left : Int) : Option ((Int × Unit) × (Unit)) :=
 (br (ilt (IntKind.i64.wrap (left - (tLen a))) 0)
 (some (((-1), ()), ()))
 (some (((IntKind.i64.wrap (left - (tLen a))), ()), ())))
noncomputable def Zq16_S (N : Nat) : FSum := ⟨Zq16_ps, Zq16_rs, fun x => Zq16 N x.1 x.2.1⟩
theorem Zq16_pc (N : Nat) : PC Try.prog 15 (Zq16_S N) := pcQ (L := []) (Zq16_gok N) Try.call15 Try.func15 (fun x => by kernel_rfl) trivial (by kernel_rfl)

abbrev Zq15_ps : List (PV.Mode × Ty) := [(.ro, QILQII), (.ro, I)]
abbrev Zq15_rs : List (Bool × Ty) := [(true, I)]
noncomputable def Zq15_G (N : Nat) : GTab := gOf [(15, Zq16_S N)]
theorem Zq15_gok (N : Nat) : GOk Try.prog (Zq15_G N) := gOf_ok ⟨Zq16_pc N, trivial⟩
noncomputable def Zq15_code : Code := (Try.f5.body).getD .skip
noncomputable def Zq15 (N : Nat) (a : (Int × (List (Int × Int)))) (left : Int) : Option ((Int × Unit) × (Unit)) :=
 ((Zq16 N a.2 left).bind fun r =>
 (br (ilt r.1.1 0)
 (some (((-1), ()), ()))
 (some ((r.1.1, ()), ()))))
noncomputable def Zq15_S (N : Nat) : FSum := ⟨Zq15_ps, Zq15_rs, fun x => Zq15 N x.1 x.2.1⟩
theorem Zq15_pc (N : Nat) : PC Try.prog 5 (Zq15_S N) := pcQ (L := []) (Zq15_gok N) Try.call5 Try.func5 (fun x => by kernel_rfl) trivial (by kernel_rfl)

abbrev Zq18_ps : List (PV.Mode × Ty) := [(.ro, QII)]
abbrev Zq18_rs : List (Bool × Ty) := [(true, QII)]
noncomputable def Zq18_G (N : Nat) : GTab := gOf []
theorem Zq18_gok (N : Nat) : GOk Try.prog (Zq18_G N) := gOf_ok trivial
noncomputable def Zq18_code : Code := (Try.f38.body).getD .skip
noncomputable def Zq18_l0_sh : Sh := ⟨[(1, .one (.adr 0 0)), (2, .one (.adr 1 0)), (3, .one (.adr 2 0)), (4, .one (.num .i64 0))], [.box [.ro I, .ro I], .box [.ro I, .ro I], .box [.ro I, .ro I]]⟩
noncomputable def Zq18_l0_ex : List (Ex × Sh) := [(.exit 0, ⟨[(2, .one (.adr 0 0)), (3, .one (.adr 1 0))], [.box [.ro I, .ro I], .box [.ro I, .ro I]]⟩)]
noncomputable def Zq18_l0 {R : Type} (N : Nat) (k0 : Int → Int → Int → Int → Option R) (_ : Nat) (o6 : Int) (o7 : Int) (o8 : Int) (o9 : Int) (o10 : Int) (o11 : Int) : Option R :=
 k0 o8 o9 o6 o7
noncomputable def Zq18_l0_again {R : Type} (N : Nat) (ks : KS Zq18_l0_ex R) (x : Zq18_l0_sh.T) : Option R :=
 Zq18_l0 N (fun y0 y1 y2 y3 => ks 0 (((), (), ()), ((y0, y1, ()), (y2, y3, ()), ()))) N x.2.1.1 x.2.1.2.1 x.2.2.1.1 x.2.2.1.2.1 x.2.2.2.1.1 x.2.2.2.1.2.1
noncomputable def Zq18_l0_s (N : Nat) : LSum := ⟨Zq18_l0_sh, Zq18_l0_ex, fun x ks => Zq18_l0_again N ks x⟩
theorem Zq18_l0_unr (N : Nat) (R : Type) (x : Zq18_l0_sh.T) (ks : KS Zq18_l0_ex R) : Zq18_l0_again N ks x = unrF (Zq18_G N) tab (loopAt Zq18_code 0) Zq18_l0_ex ks 3 (fill Zq18_l0_sh x) := by kernel_rfl
theorem Zq18_l0_ok (N : Nat) : LoopOk Try.prog Try.f38.ntmps (Zq18_l0_s N) (loopAt Zq18_code 0) :=
  unroll_ok (l := Zq18_l0_s N) progOk (Zq18_gok N) (draw_ok progOk (Zq18_gok N)) (fun R x ks r h => ⟨3, (Zq18_l0_unr N R x ks).symm.trans h⟩) (by kernel_rfl) (by kernel_rfl)
noncomputable def Zq18 (N : Nat) (a : (Int × Int)) : Option (((Int × Int) × Unit) × (Unit)) :=
 Zq18_l0 N (fun o6 o7 o8 o9 => some (((o8, o9), ()), ())) N a.1 a.2 0 0 0 0
noncomputable def Zq18_S (N : Nat) : FSum := ⟨Zq18_ps, Zq18_rs, fun x => Zq18 N x.1⟩
theorem Zq18_pc (N : Nat) : PC Try.prog 38 (Zq18_S N) := pcQ (L := [Zq18_l0_s N]) (Zq18_gok N) Try.call38 Try.func38 (fun x => by kernel_rfl) ⟨Zq18_l0_ok N, trivial⟩ (by kernel_rfl)

abbrev Zq19_ps : List (PV.Mode × Ty) := [(.ro, LQII)]
abbrev Zq19_rs : List (Bool × Ty) := [(true, LQII)]
noncomputable def Zq19_G (N : Nat) : GTab := gOf [(38, Zq18_S N)]
theorem Zq19_gok (N : Nat) : GOk Try.prog (Zq19_G N) := gOf_ok ⟨Zq18_pc N, trivial⟩
noncomputable def Zq19_code : Code := (Try.f20.body).getD .skip
noncomputable def Zq19_l0_sh : Sh := ⟨[(0, .one (.ro LQII)), (3, .one (.ref 0)), (4, .one (.ro I))], [.sl 67 QII .own]⟩
noncomputable def Zq19_l0_ex : List (Ex × Sh) := [(.exit 0, ⟨[(3, .one (.ref 0))], [.sl 67 QII .own]⟩)]
noncomputable def Zq19_l0 {R : Type} (N : Nat) (k0 : (List (Int × Int)) → Option R) : Nat → (List (Int × Int)) → Int → (List (Int × Int)) → Option R
 | 0, _, _, _ => none
 | K + 1, a1, i, o =>
 (br (ilt i (tLen a1))
 ((chk (inb a1 i)
 ((Zq18 N (rdP a1 i)).bind fun r =>
 (chk (inb o i)
 (Zq19_l0 N k0 K a1 (IntKind.i64.wrap (i + 1)) (tSet o i (r.1.1.1, r.1.1.2)))))))
 (k0 o))
noncomputable def Zq19_l0_again {R : Type} (N : Nat) (ks : KS Zq19_l0_ex R) (k : Nat) (x : Zq19_l0_sh.T) : Option R :=
 Zq19_l0 N (fun y0 => ks 0 (((), ()), (y0, ()))) k x.1.1 x.1.2.2.1 x.2.1
noncomputable def Zq19_l0_s (N : Nat) : LSum := ⟨Zq19_l0_sh, Zq19_l0_ex, fun x ks => Zq19_l0_again N ks N x⟩
theorem Zq19_l0_ok (N : Nat) : LoopOk Try.prog Try.f20.ntmps (Zq19_l0_s N) (loopAt Zq19_code 0) := loopQ (sh := Zq19_l0_sh) (ex := Zq19_l0_ex) (N := N) (L := []) (fun R k x ks => Zq19_l0_again N ks k x) (Zq19_gok N) (fun _ _ _ => rfl) (fun R k x ks => by kernel_rfl) trivial (by kernel_rfl)
noncomputable def Zq19 (N : Nat) (a : (List (Int × Int))) : Option (((List (Int × Int)) × Unit) × (Unit)) :=
 (chk (ile 0 (tLen a) && ile (tLen a) (tLen a) && fits (tLen a))
 (Zq19_l0 N (fun o => some ((o, ()), ())) N a 0 (tRep (tLen a) (0, 0))))
noncomputable def Zq19_S (N : Nat) : FSum := ⟨Zq19_ps, Zq19_rs, fun x => Zq19 N x.1⟩
theorem Zq19_pc (N : Nat) : PC Try.prog 20 (Zq19_S N) := pcQ (L := [Zq19_l0_s N]) (Zq19_gok N) Try.call20 Try.func20 (fun x => by kernel_rfl) ⟨Zq19_l0_ok N, trivial⟩ (by kernel_rfl)

abbrev Zq17_ps : List (PV.Mode × Ty) := [(.ro, QILQII)]
abbrev Zq17_rs : List (Bool × Ty) := [(true, QILQII)]
noncomputable def Zq17_G (N : Nat) : GTab := gOf [(20, Zq19_S N)]
theorem Zq17_gok (N : Nat) : GOk Try.prog (Zq17_G N) := gOf_ok ⟨Zq19_pc N, trivial⟩
noncomputable def Zq17_code : Code := (Try.f7.body).getD .skip
noncomputable def Zq17 (N : Nat) (a : (Int × (List (Int × Int)))) : Option (((Int × (List (Int × Int))) × Unit) × (Unit)) :=
 ((Zq19 N a.2).bind fun r =>
 some (((a.1, r.1.1), ()), ()))
noncomputable def Zq17_S (N : Nat) : FSum := ⟨Zq17_ps, Zq17_rs, fun x => Zq17 N x.1⟩
theorem Zq17_pc (N : Nat) : PC Try.prog 7 (Zq17_S N) := pcQ (L := []) (Zq17_gok N) Try.call7 Try.func7 (fun x => by kernel_rfl) trivial (by kernel_rfl)

abbrev Zq23_ps : List (PV.Mode × Ty) := [(.ro, I), (.ro, I), (.ro, I)]
abbrev Zq23_rs : List (Bool × Ty) := [(true, .bool)]
noncomputable def Zq23_G (N : Nat) : GTab := gOf []
theorem Zq23_gok (N : Nat) : GOk Try.prog (Zq23_G N) := gOf_ok trivial
noncomputable def Zq23_code : Code := (Try.f27.body).getD .skip
noncomputable def Zq23 (N : Nat) (x : Int) (a : Int) (b : Int) : Option ((Bool × Unit) × (Unit)) :=
 (br (ile a x)
 (some (((ile x b), ()), ()))
 (some ((false, ()), ())))
noncomputable def Zq23_S (N : Nat) : FSum := ⟨Zq23_ps, Zq23_rs, fun x => Zq23 N x.1 x.2.1 x.2.2.1⟩
theorem Zq23_pc (N : Nat) : PC Try.prog 27 (Zq23_S N) := pcQ (L := []) (Zq23_gok N) Try.call27 Try.func27 (fun x => by kernel_rfl) trivial (by kernel_rfl)

abbrev Zq24_ps : List (PV.Mode × Ty) := [(.ro, QII), (.ro, QII)]
abbrev Zq24_rs : List (Bool × Ty) := [(true, .bool)]
noncomputable def Zq24_G (N : Nat) : GTab := gOf []
theorem Zq24_gok (N : Nat) : GOk Try.prog (Zq24_G N) := gOf_ok trivial
noncomputable def Zq24_code : Code := (Try.f60.body).getD .skip
noncomputable def Zq24 (N : Nat) (a : (Int × Int)) (b : (Int × Int)) : Option ((Bool × Unit) × (Unit)) :=
 (br (ilt a.1 b.1)
 (some ((true, ()), ()))
 ((br (ieq a.1 b.1)
 (some (((ilt a.2 b.2), ()), ()))
 (some ((false, ()), ())))))
noncomputable def Zq24_S (N : Nat) : FSum := ⟨Zq24_ps, Zq24_rs, fun x => Zq24 N x.1 x.2.1⟩
theorem Zq24_pc (N : Nat) : PC Try.prog 60 (Zq24_S N) := pcQ (L := []) (Zq24_gok N) Try.call60 Try.func60 (fun x => by kernel_rfl) trivial (by kernel_rfl)

abbrev Zq28_ps : List (PV.Mode × Ty) := [(.ro, LQII), (.ro, I)]
abbrev Zq28_rs : List (Bool × Ty) := [(true, .bool)]
noncomputable def Zq28_G (N : Nat) : GTab := gOf [(27, Zq23_S N), (60, Zq24_S N)]
theorem Zq28_gok (N : Nat) : GOk Try.prog (Zq28_G N) := gOf_ok ⟨Zq23_pc N, Zq24_pc N, trivial⟩
noncomputable def Zq28_code : Code := (Try.f52.body).getD .skip
noncomputable def Zq28_l0_sh : Sh := ⟨[(0, .one (.ro LQII)), (1, .one (.ro I)), (5, .one (.ro I))], []⟩
noncomputable def Zq28_l0_ex : List (Ex × Sh) := [(.ret, ⟨[(4, .one (.ro .bool))], []⟩), (.exit 0, ⟨[], []⟩)]
noncomputable def Zq28_l0 {R : Type} (N : Nat) (k0 : Bool → Option R) (k1 : Unit → Option R) : Nat → (List (Int × Int)) → Int → Int → Option R
 | 0, _, _, _ => none
 | K + 1, pairs1, n1, i =>
 (br (ilt i (tLen pairs1))
 ((chk (inb pairs1 i)
 ((Zq23 N ((rdP pairs1 i).1) 0 (IntKind.i64.wrap (n1 - 1))).bind fun r =>
 (br (!r.1.1)
 (k0 false)
 (((Zq23 N ((rdP pairs1 i).2) 0 (IntKind.i64.wrap (n1 - 1))).bind fun r1 =>
 (br (!r1.1.1)
 (k0 false)
 ((br (ile ((rdP pairs1 i).2) ((rdP pairs1 i).1))
 (k0 false)
 ((br (ilt 0 i)
 ((chk (inb pairs1 (IntKind.i64.wrap (i - 1)))
 ((Zq24 N (rdP pairs1 (IntKind.i64.wrap (i - 1))) ((rdP pairs1 i).1, (rdP pairs1 i).2)).bind fun r2 =>
 (br (!r2.1.1)
 (k0 false)
 (Zq28_l0 N k0 k1 K pairs1 n1 (IntKind.i64.wrap (i + 1)))))))
 (Zq28_l0 N k0 k1 K pairs1 n1 (IntKind.i64.wrap (i + 1))))))))))))))
 (k1 ()))
noncomputable def Zq28_l0_again {R : Type} (N : Nat) (ks : KS Zq28_l0_ex R) (k : Nat) (x : Zq28_l0_sh.T) : Option R :=
 Zq28_l0 N (fun y0 => ks 0 ((y0, ()), ())) (fun (_ : Unit) => ks 1 ((), ())) k x.1.1 x.1.2.1 x.1.2.2.1
noncomputable def Zq28_l0_s (N : Nat) : LSum := ⟨Zq28_l0_sh, Zq28_l0_ex, fun x ks => Zq28_l0_again N ks N x⟩
theorem Zq28_l0_ok (N : Nat) : LoopOk Try.prog Try.f52.ntmps (Zq28_l0_s N) (loopAt Zq28_code 0) := loopQ (sh := Zq28_l0_sh) (ex := Zq28_l0_ex) (N := N) (L := []) (fun R k x ks => Zq28_l0_again N ks k x) (Zq28_gok N) (fun _ _ _ => rfl) (fun R k x ks => by kernel_rfl) trivial (by kernel_rfl)
noncomputable def Zq28 (N : Nat) (pairs : (List (Int × Int))) (n : Int) : Option ((Bool × Unit) × (Unit)) :=
 Zq28_l0 N (fun x => some ((x, ()), ())) (fun (_ : Unit) => some ((true, ()), ())) N pairs n 0
noncomputable def Zq28_S (N : Nat) : FSum := ⟨Zq28_ps, Zq28_rs, fun x => Zq28 N x.1 x.2.1⟩
theorem Zq28_pc (N : Nat) : PC Try.prog 52 (Zq28_S N) := pcQ (L := [Zq28_l0_s N]) (Zq28_gok N) Try.call52 Try.func52 (fun x => by kernel_rfl) ⟨Zq28_l0_ok N, trivial⟩ (by kernel_rfl)

abbrev Zq25_ps : List (PV.Mode × Ty) := [(.ro, QILQII)]
abbrev Zq25_rs : List (Bool × Ty) := [(true, .bool)]
noncomputable def Zq25_G (N : Nat) : GTab := gOf [(27, Zq23_S N), (52, Zq28_S N)]
theorem Zq25_gok (N : Nat) : GOk Try.prog (Zq25_G N) := gOf_ok ⟨Zq23_pc N, Zq28_pc N, trivial⟩
noncomputable def Zq25_code : Code := (Try.f37.body).getD .skip
noncomputable def Zq25 (N : Nat) (g : (Int × (List (Int × Int)))) : Option ((Bool × Unit) × (Unit)) :=
 ((Zq23 N g.1 0 8).bind fun r =>
 (br r.1.1
 (((Zq28 N g.2 g.1).bind fun r1 =>
 some ((r1.1.1, ()), ())))
 (some ((false, ()), ()))))
noncomputable def Zq25_S (N : Nat) : FSum := ⟨Zq25_ps, Zq25_rs, fun x => Zq25 N x.1⟩
theorem Zq25_pc (N : Nat) : PC Try.prog 37 (Zq25_S N) := pcQ (L := []) (Zq25_gok N) Try.call37 Try.func37 (fun x => by kernel_rfl) trivial (by kernel_rfl)

abbrev Zq30_ps : List (PV.Mode × Ty) := [(.ro, QILQII)]
abbrev Zq30_rs : List (Bool × Ty) := [(true, .bool)]
noncomputable def Zq30_G (N : Nat) : GTab := gOf [(37, Zq25_S N)]
theorem Zq30_gok (N : Nat) : GOk Try.prog (Zq30_G N) := gOf_ok ⟨Zq25_pc N, trivial⟩
noncomputable def Zq30_code : Code := (Try.f16.body).getD .skip
noncomputable def Zq30 (N : Nat) (g : (Int × (List (Int × Int)))) : Option ((Bool × Unit) × (Unit)) :=
 ((Zq25 N (g.1, g.2)).bind fun r =>
 (br r.1.1
 (some (((ilt 0 g.1), ()), ()))
 (some ((false, ()), ()))))
noncomputable def Zq30_S (N : Nat) : FSum := ⟨Zq30_ps, Zq30_rs, fun x => Zq30 N x.1⟩
theorem Zq30_pc (N : Nat) : PC Try.prog 16 (Zq30_S N) := pcQ (L := []) (Zq30_gok N) Try.call16 Try.func16 (fun x => by kernel_rfl) trivial (by kernel_rfl)

abbrev Zq26_ps : List (PV.Mode × Ty) := [(.ro, QILQII), (.ro, I), (.ro, I)]
abbrev Zq26_rs : List (Bool × Ty) := [(true, .bool)]
noncomputable def Zq26_G (N : Nat) : GTab := gOf []
theorem Zq26_gok (N : Nat) : GOk Try.prog (Zq26_G N) := gOf_ok trivial
noncomputable def Zq26_code : Code := (Try.f17.body).getD .skip
noncomputable def Zq26_l0_sh : Sh := ⟨[(1, .one (.ro I)), (2, .one (.ro I)), (3, .one (.adr 0 0)), (7, .one (.ro I))], [.box [.ro I, .ro LQII]]⟩
noncomputable def Zq26_l0_ex : List (Ex × Sh) := [(.ret, ⟨[(6, .one (.ro .bool))], []⟩), (.exit 0, ⟨[], []⟩)]
noncomputable def Zq26_l0 {R : Type} (N : Nat) (k0 : Bool → Option R) (k1 : Unit → Option R) : Nat → Int → Int → Int → Int → (List (Int × Int)) → Option R
 | 0, _, _, _, _, _ => none
 | K + 1, a1, b1, i, o, o1 =>
 (br (ilt i (tLen o1))
 ((chk (inb o1 i)
 (br (ieq ((rdP o1 i).1) a1)
 ((br (ieq ((rdP o1 i).2) b1)
 (k0 true)
 ((br (ieq ((rdP o1 i).1) b1)
 ((br (ieq ((rdP o1 i).2) a1)
 (k0 true)
 (Zq26_l0 N k0 k1 K a1 b1 (IntKind.i64.wrap (i + 1)) o o1)))
 (Zq26_l0 N k0 k1 K a1 b1 (IntKind.i64.wrap (i + 1)) o o1)))))
 ((br (ieq ((rdP o1 i).1) b1)
 ((br (ieq ((rdP o1 i).2) a1)
 (k0 true)
 (Zq26_l0 N k0 k1 K a1 b1 (IntKind.i64.wrap (i + 1)) o o1)))
 (Zq26_l0 N k0 k1 K a1 b1 (IntKind.i64.wrap (i + 1)) o o1))))))
 (k1 ()))
noncomputable def Zq26_l0_again {R : Type} (N : Nat) (ks : KS Zq26_l0_ex R) (k : Nat) (x : Zq26_l0_sh.T) : Option R :=
 Zq26_l0 N (fun y0 => ks 0 ((y0, ()), ())) (fun (_ : Unit) => ks 1 ((), ())) k x.1.1 x.1.2.1 x.1.2.2.2.1 x.2.1.1 x.2.1.2.1
noncomputable def Zq26_l0_s (N : Nat) : LSum := ⟨Zq26_l0_sh, Zq26_l0_ex, fun x ks => Zq26_l0_again N ks N x⟩
theorem Zq26_l0_ok (N : Nat) : LoopOk Try.prog Try.f17.ntmps (Zq26_l0_s N) (loopAt Zq26_code 0) := loopQ (sh := Zq26_l0_sh) (ex := Zq26_l0_ex) (N := N) (L := []) (fun R k x ks => Zq26_l0_again N ks k x) (Zq26_gok N) (fun _ _ _ => rfl) (fun R k x ks => by kernel_rfl) trivial (by kernel_rfl)
noncomputable def Zq26 (N : Nat) (g : (Int × (List (Int × Int)))) (a : Int) (b : Int) : Option ((Bool × Unit) × (Unit)) :=
 Zq26_l0 N (fun x => some ((x, ()), ())) (fun (_ : Unit) => some ((false, ()), ())) N a b 0 g.1 g.2
noncomputable def Zq26_S (N : Nat) : FSum := ⟨Zq26_ps, Zq26_rs, fun x => Zq26 N x.1 x.2.1 x.2.2.1⟩
theorem Zq26_pc (N : Nat) : PC Try.prog 17 (Zq26_S N) := pcQ (L := [Zq26_l0_s N]) (Zq26_gok N) Try.call17 Try.func17 (fun x => by kernel_rfl) ⟨Zq26_l0_ok N, trivial⟩ (by kernel_rfl)

abbrev Zq27_ps : List (PV.Mode × Ty) := [(.ro, QILQII), (.ro, I)]
abbrev Zq27_rs : List (Bool × Ty) := [(true, LI)]
noncomputable def Zq27_G (N : Nat) : GTab := gOf [(17, Zq26_S N)]
theorem Zq27_gok (N : Nat) : GOk Try.prog (Zq27_G N) := gOf_ok ⟨Zq26_pc N, trivial⟩
noncomputable def Zq27_code : Code := (Try.f18.body).getD .skip
noncomputable def Zq27_l0_sh : Sh := ⟨[(1, .one (.ro I)), (2, .one (.adr 0 0)), (5, .one (.ref 1)), (6, .one (.ro I))], [.box [.ro I, .ro LQII], .sl 3 I .own]⟩
noncomputable def Zq27_l0_ex : List (Ex × Sh) := [(.exit 0, ⟨[(5, .one (.ref 0))], [.sl 3 I .own]⟩)]
noncomputable def Zq27_l0 {R : Type} (N : Nat) (k0 : (List Int) → Option R) : Nat → Int → Int → Int → (List (Int × Int)) → (List Int) → Option R
 | 0, _, _, _, _, _ => none
 | K + 1, x1, y, o, o1, o2 =>
 (br (ilt y o)
 (((Zq26 N (o, o1) x1 y).bind fun r =>
 (br r.1.1
 ((chk (room o2 [y])
 (Zq27_l0 N k0 K x1 (IntKind.i64.wrap (y + 1)) o o1 (tApp o2 [y]))))
 (Zq27_l0 N k0 K x1 (IntKind.i64.wrap (y + 1)) o o1 o2))))
 (k0 o2))
noncomputable def Zq27_l0_again {R : Type} (N : Nat) (ks : KS Zq27_l0_ex R) (k : Nat) (x : Zq27_l0_sh.T) : Option R :=
 Zq27_l0 N (fun y0 => ks 0 (((), ()), (y0, ()))) k x.1.1 x.1.2.2.2.1 x.2.1.1 x.2.1.2.1 x.2.2.1
noncomputable def Zq27_l0_s (N : Nat) : LSum := ⟨Zq27_l0_sh, Zq27_l0_ex, fun x ks => Zq27_l0_again N ks N x⟩
theorem Zq27_l0_ok (N : Nat) : LoopOk Try.prog Try.f18.ntmps (Zq27_l0_s N) (loopAt Zq27_code 0) := loopQ (sh := Zq27_l0_sh) (ex := Zq27_l0_ex) (N := N) (L := []) (fun R k x ks => Zq27_l0_again N ks k x) (Zq27_gok N) (fun _ _ _ => rfl) (fun R k x ks => by kernel_rfl) trivial (by kernel_rfl)
noncomputable def Zq27 (N : Nat) (g : (Int × (List (Int × Int)))) (x : Int) : Option (((List Int) × Unit) × (Unit)) :=
 Zq27_l0 N (fun o => some ((o, ()), ())) N x 0 g.1 g.2 []
noncomputable def Zq27_S (N : Nat) : FSum := ⟨Zq27_ps, Zq27_rs, fun x => Zq27 N x.1 x.2.1⟩
theorem Zq27_pc (N : Nat) : PC Try.prog 18 (Zq27_S N) := pcQ (L := [Zq27_l0_s N]) (Zq27_gok N) Try.call18 Try.func18 (fun x => by kernel_rfl) ⟨Zq27_l0_ok N, trivial⟩ (by kernel_rfl)

abbrev Zq29_ps : List (PV.Mode × Ty) := [(.own, LLI)]
abbrev Zq29_rs : List (Bool × Ty) := [(true, I)]
noncomputable def Zq29_G (N : Nat) : GTab := gOf []
theorem Zq29_gok (N : Nat) : GOk Try.prog (Zq29_G N) := gOf_ok trivial
noncomputable def Zq29_code : Code := (Try.f19.body).getD .skip
noncomputable def Zq29_l0_0_sh : Sh := ⟨[(0, .one (.ref 0)), (3, .one (.ro I)), (4, .one (.ro I)), (5, .one (.ro I)), (6, .one (.ro I))], [.sl 44 LI .deep]⟩
noncomputable def Zq29_l0_0_ex : List (Ex × Sh) := [(.exit 2, ⟨[(0, .one (.ref 0)), (3, .one (.ro I)), (4, .one (.ro I)), (5, .one (.ro I)), (6, .one (.ro I))], [.sl 44 LI .deep]⟩)]
noncomputable def Zq29_l0_0 {R : Type} (N : Nat) (k0 : Int → Int → Int → Int → (List (List Int)) → Option R) : Nat → Int → Int → Int → Int → (List (List Int)) → Option R
 | 0, _, _, _, _, _ => none
 | K + 1, x3, x4, x5, x6, o1 =>
 (br (ilt x6 (tLen o1))
 ((chk (inb o1 x6)
 (chk (inb (rdL o1 x6) x5)
 (br (ieq (rdI (rdL o1 x6) x5) 0)
 (Zq29_l0_0 N k0 K x3 x4 x5 (IntKind.i64.wrap (x6 + 1)) o1)
 (k0 x3 x4 x5 x6 o1)))))
 (k0 x3 x4 x5 x6 o1))
noncomputable def Zq29_l0_0_again {R : Type} (N : Nat) (ks : KS Zq29_l0_0_ex R) (k : Nat) (x : Zq29_l0_0_sh.T) : Option R :=
 Zq29_l0_0 N (fun y0 y1 y2 y3 y4 => ks 0 (((), y0, y1, y2, y3, ()), (y4, ()))) k x.1.2.1 x.1.2.2.1 x.1.2.2.2.1 x.1.2.2.2.2.1 x.2.1
noncomputable def Zq29_l0_0_s (N : Nat) : LSum := ⟨Zq29_l0_0_sh, Zq29_l0_0_ex, fun x ks => Zq29_l0_0_again N ks N x⟩
theorem Zq29_l0_0_ok (N : Nat) : LoopOk Try.prog Try.f19.ntmps (Zq29_l0_0_s N) (loopAt (loopAt Zq29_code 0) 0) := loopQ (sh := Zq29_l0_0_sh) (ex := Zq29_l0_0_ex) (N := N) (L := []) (fun R k x ks => Zq29_l0_0_again N ks k x) (Zq29_gok N) (fun _ _ _ => rfl) (fun R k x ks => by kernel_rfl) trivial (by kernel_rfl)
noncomputable def Zq29_l0_1_0_sh : Sh := ⟨[(0, .one (.ref 0)), (3, .one (.ro I)), (4, .one (.ro I)), (5, .one (.ro I)), (8, .one (.ro I)), (9, .one (.ro I))], [.sl 44 LI .deep]⟩
noncomputable def Zq29_l0_1_0_ex : List (Ex × Sh) := [(.exit 6, ⟨[(0, .one (.ref 0)), (3, .one (.ro I)), (4, .one (.ro I)), (5, .one (.ro I)), (8, .one (.ro I))], [.sl 44 LI .deep]⟩)]
noncomputable def Zq29_l0_1_0 {R : Type} (N : Nat) (k0 : Int → Int → Int → Int → (List (List Int)) → Option R) : Nat → Int → Int → Int → Int → Int → (List (List Int)) → Option R
 | 0, _, _, _, _, _, _ => none
 | K + 1, x11, x12, x13, x14, x15, o3 =>
 (br (ilt x15 (tLen o3))
 ((chk (inb o3 x14)
 (chk (inb o3 x14)
 (chk (inb (rdL o3 x14) x15)
 (chk (inb o3 x13)
 (chk (inb (rdL o3 x13) x13)
 (chk (inb o3 x14)
 (chk (inb (rdL o3 x14) x13)
 (chk (inb o3 x13)
 (chk (inb (rdL o3 x13) x15)
 (chk (ine x12 0)
 (chk (inb (rdL o3 x14) x15)
 (Zq29_l0_1_0 N k0 K x11 x12 x13 x14 (IntKind.i64.wrap (x15 + 1)) (tSet o3 x14 (tSet (rdL o3 x14) x15 (IntKind.i64.wrap ((IntKind.i64.wrap ((IntKind.i64.wrap ((rdI (rdL o3 x14) x15) * (rdI (rdL o3 x13) x13))) - (IntKind.i64.wrap ((rdI (rdL o3 x14) x13) * (rdI (rdL o3 x13) x15))))).tdiv x12)))))))))))))))))
 (k0 x11 x12 x13 x14 o3))
noncomputable def Zq29_l0_1_0_again {R : Type} (N : Nat) (ks : KS Zq29_l0_1_0_ex R) (k : Nat) (x : Zq29_l0_1_0_sh.T) : Option R :=
 Zq29_l0_1_0 N (fun y0 y1 y2 y3 y4 => ks 0 (((), y0, y1, y2, y3, ()), (y4, ()))) k x.1.2.1 x.1.2.2.1 x.1.2.2.2.1 x.1.2.2.2.2.1 x.1.2.2.2.2.2.1 x.2.1
noncomputable def Zq29_l0_1_0_s (N : Nat) : LSum := ⟨Zq29_l0_1_0_sh, Zq29_l0_1_0_ex, fun x ks => Zq29_l0_1_0_again N ks N x⟩
theorem Zq29_l0_1_0_ok (N : Nat) : LoopOk Try.prog Try.f19.ntmps (Zq29_l0_1_0_s N) (loopAt (loopAt (loopAt Zq29_code 0) 1) 0) := loopQ (sh := Zq29_l0_1_0_sh) (ex := Zq29_l0_1_0_ex) (N := N) (L := []) (fun R k x ks => Zq29_l0_1_0_again N ks k x) (Zq29_gok N) (fun _ _ _ => rfl) (fun R k x ks => by kernel_rfl) trivial (by kernel_rfl)
noncomputable def Zq29_l0_1_sh : Sh := ⟨[(0, .one (.ref 0)), (3, .one (.ro I)), (4, .one (.ro I)), (5, .one (.ro I)), (8, .one (.ro I))], [.sl 44 LI .deep]⟩
noncomputable def Zq29_l0_1_ex : List (Ex × Sh) := [(.exit 4, ⟨[(0, .one (.ref 0)), (3, .one (.ro I)), (5, .one (.ro I))], [.sl 44 LI .deep]⟩)]
noncomputable def Zq29_l0_1 {R : Type} (N : Nat) (k0 : Int → Int → (List (List Int)) → Option R) : Nat → Int → Int → Int → Int → (List (List Int)) → Option R
 | 0, _, _, _, _, _ => none
 | K + 1, x7, x8, x9, x10, o2 =>
 (br (ilt x10 (tLen o2))
 (Zq29_l0_1_0 N (fun x11 x12 x13 x14 o3 => Zq29_l0_1 N k0 K x11 x12 x13 (IntKind.i64.wrap (x14 + 1)) o3) N x7 x8 x9 x10 (IntKind.i64.wrap (x9 + 1)) o2)
 (k0 x7 x9 o2))
noncomputable def Zq29_l0_1_again {R : Type} (N : Nat) (ks : KS Zq29_l0_1_ex R) (k : Nat) (x : Zq29_l0_1_sh.T) : Option R :=
 Zq29_l0_1 N (fun y0 y1 y2 => ks 0 (((), y0, y1, ()), (y2, ()))) k x.1.2.1 x.1.2.2.1 x.1.2.2.2.1 x.1.2.2.2.2.1 x.2.1
noncomputable def Zq29_l0_1_s (N : Nat) : LSum := ⟨Zq29_l0_1_sh, Zq29_l0_1_ex, fun x ks => Zq29_l0_1_again N ks N x⟩
theorem Zq29_l0_1_ok (N : Nat) : LoopOk Try.prog Try.f19.ntmps (Zq29_l0_1_s N) (loopAt (loopAt Zq29_code 0) 1) := loopQ (sh := Zq29_l0_1_sh) (ex := Zq29_l0_1_ex) (N := N) (L := [Zq29_l0_1_0_s N]) (fun R k x ks => Zq29_l0_1_again N ks k x) (Zq29_gok N) (fun _ _ _ => rfl) (fun R k x ks => by kernel_rfl) ⟨Zq29_l0_1_0_ok N, trivial⟩ (by kernel_rfl)
noncomputable def Zq29_l0_sh : Sh := ⟨[(0, .one (.ref 0)), (3, .one (.ro I)), (4, .one (.ro I)), (5, .one (.ro I))], [.sl 44 LI .deep]⟩
noncomputable def Zq29_l0_ex : List (Ex × Sh) := [(.ret, ⟨[(2, .one (.ro I))], []⟩), (.exit 0, ⟨[(3, .one (.ro I)), (4, .one (.ro I))], []⟩)]
noncomputable def Zq29_l0 {R : Type} (N : Nat) (k0 : Int → Option R) (k1 : Int → Int → Option R) : Nat → Int → Int → Int → (List (List Int)) → Option R
 | 0, _, _, _, _ => none
 | K + 1, x, x1, x2, o =>
 (br (ilt x2 (tLen o))
 (Zq29_l0_0 N (fun x3 x4 x5 x6 o1 => (br (ieq x6 (tLen o1))
 (k0 0)
 ((br (ilt x5 x6)
 ((chk (inb o1 x6)
 (chk (inb o1 x5)
 (chk (inb o1 x6)
 none))))
 (Zq29_l0_1 N (fun x7 x8 o2 => (chk (inb o2 x8)
 (chk (inb (rdL o2 x8) x8)
 (Zq29_l0 N k0 k1 K x7 (rdI (rdL o2 x8) x8) (IntKind.i64.wrap (x8 + 1)) o2)))) N x3 x4 x5 (IntKind.i64.wrap (x5 + 1)) o1))))) N x x1 x2 x2 o)
 (k1 x x1))
noncomputable def Zq29_l0_again {R : Type} (N : Nat) (ks : KS Zq29_l0_ex R) (k : Nat) (x : Zq29_l0_sh.T) : Option R :=
 Zq29_l0 N (fun y0 => ks 0 ((y0, ()), ())) (fun y0 y1 => ks 1 ((y0, y1, ()), ())) k x.1.2.1 x.1.2.2.1 x.1.2.2.2.1 x.2.1
noncomputable def Zq29_l0_s (N : Nat) : LSum := ⟨Zq29_l0_sh, Zq29_l0_ex, fun x ks => Zq29_l0_again N ks N x⟩
theorem Zq29_l0_ok (N : Nat) : LoopOk Try.prog Try.f19.ntmps (Zq29_l0_s N) (loopAt Zq29_code 0) := loopQ (sh := Zq29_l0_sh) (ex := Zq29_l0_ex) (N := N) (L := [Zq29_l0_0_s N, Zq29_l0_1_s N]) (fun R k x ks => Zq29_l0_again N ks k x) (Zq29_gok N) (fun _ _ _ => rfl) (fun R k x ks => by kernel_rfl) ⟨Zq29_l0_0_ok N, Zq29_l0_1_ok N, trivial⟩ (by kernel_rfl)
noncomputable def Zq29 (N : Nat) (c : (List (List Int))) : Option ((Int × Unit) × (Unit)) :=
 Zq29_l0 N (fun x => some ((x, ()), ())) (fun x1 x2 => some (((IntKind.i64.wrap (x1 * x2)), ()), ())) N 1 1 0 c
noncomputable def Zq29_S (N : Nat) : FSum := ⟨Zq29_ps, Zq29_rs, fun x => Zq29 N x.1⟩
theorem Zq29_pc (N : Nat) : PC Try.prog 19 (Zq29_S N) := pcQ (L := [Zq29_l0_s N]) (Zq29_gok N) Try.call19 Try.func19 (fun x => by kernel_rfl) ⟨Zq29_l0_ok N, trivial⟩ (by kernel_rfl)

abbrev Zq22_ps : List (PV.Mode × Ty) := [(.ro, QILQII)]
abbrev Zq22_rs : List (Bool × Ty) := [(true, I), (true, .bool)]
noncomputable def Zq22_G (N : Nat) : GTab := gOf [(16, Zq30_S N), (17, Zq26_S N), (18, Zq27_S N), (19, Zq29_S N)]
theorem Zq22_gok (N : Nat) : GOk Try.prog (Zq22_G N) := gOf_ok ⟨Zq30_pc N, Zq26_pc N, Zq27_pc N, Zq29_pc N, trivial⟩
noncomputable def Zq22_code : Code := (Try.f6.body).getD .skip
noncomputable def Zq22_l0_0_sh : Sh := ⟨[(1, .one (.adr 0 0)), (4, .one (.ref 1)), (5, .one (.ro I)), (6, .one (.ref 2)), (7, .one (.ro I))], [.box [.ro I, .ro LQII], .sl 44 LI .deep, .sl 3 I .own]⟩
noncomputable def Zq22_l0_0_ex : List (Ex × Sh) := [(.exit 2, ⟨[(1, .one (.adr 0 0)), (4, .one (.ref 1)), (5, .one (.ro I)), (6, .one (.ref 2))], [.box [.ro I, .ro LQII], .sl 44 LI .deep, .sl 3 I .own]⟩)]
noncomputable def Zq22_l0_0 {R : Type} (N : Nat) (k0 : Int → Int → (List (Int × Int)) → (List (List Int)) → (List Int) → Option R) : Nat → Int → Int → Int → (List (Int × Int)) → (List (List Int)) → (List Int) → Option R
 | 0, _, _, _, _, _, _ => none
 | K + 1, x1, y, o3, o4, o5, o6 =>
 (br (ilt (IntKind.i64.wrap (y + 1)) o3)
 (((Zq26 N (o3, o4) x1 y).bind fun r1 =>
 (br r1.1.1
 ((chk (inb o6 y)
 (Zq22_l0_0 N k0 K x1 (IntKind.i64.wrap (y + 1)) o3 o4 o5 (tSet o6 y (-1)))))
 (Zq22_l0_0 N k0 K x1 (IntKind.i64.wrap (y + 1)) o3 o4 o5 o6))))
 (k0 x1 o3 o4 o5 o6))
noncomputable def Zq22_l0_0_again {R : Type} (N : Nat) (ks : KS Zq22_l0_0_ex R) (k : Nat) (x : Zq22_l0_0_sh.T) : Option R :=
 Zq22_l0_0 N (fun y0 y1 y2 y3 y4 => ks 0 (((), (), y0, (), ()), ((y1, y2, ()), y3, y4, ()))) k x.1.2.2.1 x.1.2.2.2.2.1 x.2.1.1 x.2.1.2.1 x.2.2.1 x.2.2.2.1
noncomputable def Zq22_l0_0_s (N : Nat) : LSum := ⟨Zq22_l0_0_sh, Zq22_l0_0_ex, fun x ks => Zq22_l0_0_again N ks N x⟩
theorem Zq22_l0_0_ok (N : Nat) : LoopOk Try.prog Try.f6.ntmps (Zq22_l0_0_s N) (loopAt (loopAt Zq22_code 0) 0) := loopQ (sh := Zq22_l0_0_sh) (ex := Zq22_l0_0_ex) (N := N) (L := []) (fun R k x ks => Zq22_l0_0_again N ks k x) (Zq22_gok N) (fun _ _ _ => rfl) (fun R k x ks => by kernel_rfl) trivial (by kernel_rfl)
noncomputable def Zq22_l0_sh : Sh := ⟨[(1, .one (.adr 0 0)), (4, .one (.ref 1)), (5, .one (.ro I))], [.box [.ro I, .ro LQII], .sl 44 LI .deep]⟩
noncomputable def Zq22_l0_ex : List (Ex × Sh) := [(.exit 0, ⟨[(4, .one (.ref 0))], [.sl 44 LI .deep]⟩)]
noncomputable def Zq22_l0 {R : Type} (N : Nat) (k0 : (List (List Int)) → Option R) : Nat → Int → Int → (List (Int × Int)) → (List (List Int)) → Option R
 | 0, _, _, _, _ => none
 | K + 1, x, o, o1, o2 =>
 (br (ilt (IntKind.i64.wrap (x + 1)) o)
 ((chk (ile 0 (IntKind.i64.wrap (o - 1)) && ile (IntKind.i64.wrap (o - 1)) (IntKind.i64.wrap (o - 1)) && fits (IntKind.i64.wrap (o - 1)))
 (Zq22_l0_0 N (fun x1 o3 o4 o5 o6 => ((Zq27 N (o3, o4) x1).bind fun r1 =>
 (chk (inb o6 x1)
 (chk (room o5 [(tSet o6 x1 (tLen r1.1.1))])
 (Zq22_l0 N k0 K (IntKind.i64.wrap (x1 + 1)) o3 o4 (tApp o5 [(tSet o6 x1 (tLen r1.1.1))])))))) N x 0 o o1 o2 (tRep (IntKind.i64.wrap (o - 1)) (0 : Int)))))
 (k0 o2))
noncomputable def Zq22_l0_again {R : Type} (N : Nat) (ks : KS Zq22_l0_ex R) (k : Nat) (x : Zq22_l0_sh.T) : Option R :=
 Zq22_l0 N (fun y0 => ks 0 (((), ()), (y0, ()))) k x.1.2.2.1 x.2.1.1 x.2.1.2.1 x.2.2.1
noncomputable def Zq22_l0_s (N : Nat) : LSum := ⟨Zq22_l0_sh, Zq22_l0_ex, fun x ks => Zq22_l0_again N ks N x⟩
theorem Zq22_l0_ok (N : Nat) : LoopOk Try.prog Try.f6.ntmps (Zq22_l0_s N) (loopAt Zq22_code 0) := loopQ (sh := Zq22_l0_sh) (ex := Zq22_l0_ex) (N := N) (L := [Zq22_l0_0_s N]) (fun R k x ks => Zq22_l0_again N ks k x) (Zq22_gok N) (fun _ _ _ => rfl) (fun R k x ks => by kernel_rfl) ⟨Zq22_l0_0_ok N, trivial⟩ (by kernel_rfl)
noncomputable def Zq22 (N : Nat) (g : (Int × (List (Int × Int)))) : Option ((Int × Bool × Unit) × (Unit)) :=
 ((Zq30 N (g.1, g.2)).bind fun r =>
 (br (!r.1.1)
 (some ((0, false, ()), ()))
 (Zq22_l0 N (fun o => ((Zq29 N o).bind fun r1 =>
 some ((r1.1.1, true, ()), ()))) N 0 g.1 g.2 [])))
noncomputable def Zq22_S (N : Nat) : FSum := ⟨Zq22_ps, Zq22_rs, fun x => Zq22 N x.1⟩
theorem Zq22_pc (N : Nat) : PC Try.prog 6 (Zq22_S N) := pcQ (L := [Zq22_l0_s N]) (Zq22_gok N) Try.call6 Try.func6 (fun x => by kernel_rfl) ⟨Zq22_l0_ok N, trivial⟩ (by kernel_rfl)

abbrev Zq7_ps : List (PV.Mode × Ty) := [(.ro, I), (.ro, I), (.ro, I)]
abbrev Zq7_rs : List (Bool × Ty) := [(true, .bool)]
noncomputable def Zq7_G (N : Nat) : GTab := gOf []
theorem Zq7_gok (N : Nat) : GOk Try.prog (Zq7_G N) := gOf_ok trivial
noncomputable def Zq7_code : Code := (Try.f33.body).getD .skip
noncomputable def Zq7 (N : Nat) (n : Int) (low : Int) (high : Int) : Option ((Bool × Unit) × (Unit)) :=
 (br (ile low n)
 (some (((ile n high), ()), ()))
 (some ((false, ()), ())))
noncomputable def Zq7_S (N : Nat) : FSum := ⟨Zq7_ps, Zq7_rs, fun x => Zq7 N x.1 x.2.1 x.2.2.1⟩
theorem Zq7_pc (N : Nat) : PC Try.prog 33 (Zq7_S N) := pcQ (L := []) (Zq7_gok N) Try.call33 Try.func33 (fun x => by kernel_rfl) trivial (by kernel_rfl)

abbrev Zq2_ps : List (PV.Mode × Ty) := [(.ro, I)]
abbrev Zq2_rs : List (Bool × Ty) := [(true, .bool)]
noncomputable def Zq2_G (N : Nat) : GTab := gOf []
theorem Zq2_gok (N : Nat) : GOk Try.prog (Zq2_G N) := gOf_ok trivial
noncomputable def Zq2_code : Code := (Try.f65.body).getD .skip
noncomputable def Zq2 (N : Nat) (x : Int) : Option ((Bool × Unit) × (Unit)) :=
 some (((ine x x), ()), ())
noncomputable def Zq2_S (N : Nat) : FSum := ⟨Zq2_ps, Zq2_rs, fun x => Zq2 N x.1⟩
theorem Zq2_pc (N : Nat) : PC Try.prog 65 (Zq2_S N) := pcQ (L := []) (Zq2_gok N) Try.call65 Try.func65 (fun x => by kernel_rfl) trivial (by kernel_rfl)

abbrev Zq0_ps : List (PV.Mode × Ty) := [(.ro, I), (.ro, I)]
abbrev Zq0_rs : List (Bool × Ty) := [(true, I)]
noncomputable def Zq0_G (N : Nat) : GTab := gOf [(65, Zq2_S N)]
theorem Zq0_gok (N : Nat) : GOk Try.prog (Zq0_G N) := gOf_ok ⟨Zq2_pc N, trivial⟩
noncomputable def Zq0_code : Code := (Try.f62.body).getD .skip
noncomputable def Zq0 (N : Nat) (x : Int) (y : Int) : Option ((Int × Unit) × (Unit)) :=
 ((Zq2 N x).bind fun r =>
 ((Zq2 N y).bind fun r1 =>
 (br r.1.1
 ((br r1.1.1
 (some ((0, ()), ()))
 (some (((-1), ()), ()))))
 ((br r1.1.1
 (some ((1, ()), ()))
 ((br (ilt x y)
 (some (((-1), ()), ()))
 ((br (ilt y x)
 (some ((1, ()), ()))
 (some ((0, ()), ())))))))))))
noncomputable def Zq0_S (N : Nat) : FSum := ⟨Zq0_ps, Zq0_rs, fun x => Zq0 N x.1 x.2.1⟩
theorem Zq0_pc (N : Nat) : PC Try.prog 62 (Zq0_S N) := pcQ (L := []) (Zq0_gok N) Try.call62 Try.func62 (fun x => by kernel_rfl) trivial (by kernel_rfl)

abbrev Zq1_ps : List (PV.Mode × Ty) := [(.ro, LI)]
abbrev Zq1_rs : List (Bool × Ty) := [(true, I)]
noncomputable def Zq1_G (N : Nat) : GTab := gOf []
theorem Zq1_gok (N : Nat) : GOk Try.prog (Zq1_G N) := gOf_ok trivial
noncomputable def Zq1_code : Code := (Try.f61.body).getD .skip
noncomputable def Zq1_l0_sh : Sh := ⟨[(3, .one (.ro I)), (6, .one (.ro LI)), (7, .one (.ro I)), (8, .one (.ro I))], []⟩
noncomputable def Zq1_l0_ex : List (Ex × Sh) := [(.ret, ⟨[(2, .one (.ro I))], []⟩), (.exit 0, ⟨[(3, .one (.ro I))], []⟩)]
noncomputable def Zq1_l0 {R : Type} (N : Nat) (k0 : Int → Option R) (k1 : Int → Option R) : Nat → Int → (List Int) → Int → Int → Option R
 | 0, _, _, _, _ => none
 | K + 1, zero, x, x1, x2 =>
 (br (ilt x2 x1)
 ((chk (inb x x2)
 (br (ine (rdI x x2) zero)
 (k0 (rdI x x2))
 (Zq1_l0 N k0 k1 K zero x x1 (IntKind.i64.wrap (x2 + 1))))))
 (k1 zero))
noncomputable def Zq1_l0_again {R : Type} (N : Nat) (ks : KS Zq1_l0_ex R) (k : Nat) (x : Zq1_l0_sh.T) : Option R :=
 Zq1_l0 N (fun y0 => ks 0 ((y0, ()), ())) (fun y0 => ks 1 ((y0, ()), ())) k x.1.1 x.1.2.1 x.1.2.2.1 x.1.2.2.2.1
noncomputable def Zq1_l0_s (N : Nat) : LSum := ⟨Zq1_l0_sh, Zq1_l0_ex, fun x ks => Zq1_l0_again N ks N x⟩
theorem Zq1_l0_ok (N : Nat) : LoopOk Try.prog Try.f61.ntmps (Zq1_l0_s N) (loopAt Zq1_code 0) := loopQ (sh := Zq1_l0_sh) (ex := Zq1_l0_ex) (N := N) (L := []) (fun R k x ks => Zq1_l0_again N ks k x) (Zq1_gok N) (fun _ _ _ => rfl) (fun R k x ks => by kernel_rfl) trivial (by kernel_rfl)
noncomputable def Zq1 (N : Nat) (vals : (List Int)) : Option ((Int × Unit) × (Unit)) :=
 Zq1_l0 N (fun x => some ((x, ()), ())) (fun zero => some ((zero, ()), ())) N 0 vals (tLen vals) 0
noncomputable def Zq1_S (N : Nat) : FSum := ⟨Zq1_ps, Zq1_rs, fun x => Zq1 N x.1⟩
theorem Zq1_pc (N : Nat) : PC Try.prog 61 (Zq1_S N) := pcQ (L := [Zq1_l0_s N]) (Zq1_gok N) Try.call61 Try.func61 (fun x => by kernel_rfl) ⟨Zq1_l0_ok N, trivial⟩ (by kernel_rfl)

abbrev Zq8_ps : List (PV.Mode × Ty) := [(.ro, QII), (.ro, QII)]
abbrev Zq8_rs : List (Bool × Ty) := [(true, I)]
noncomputable def Zq8_G (N : Nat) : GTab := gOf [(62, Zq0_S N), (61, Zq1_S N)]
theorem Zq8_gok (N : Nat) : GOk Try.prog (Zq8_G N) := gOf_ok ⟨Zq0_pc N, Zq1_pc N, trivial⟩
noncomputable def Zq8_code : Code := (Try.f53.body).getD .skip
noncomputable def Zq8 (N : Nat) (a : (Int × Int)) (b : (Int × Int)) : Option ((Int × Unit) × (Unit)) :=
 ((Zq0 N a.1 b.1).bind fun r =>
 ((Zq0 N a.2 b.2).bind fun r1 =>
 ((Zq1 N [r.1.1, r1.1.1]).bind fun r2 =>
 some ((r2.1.1, ()), ()))))
noncomputable def Zq8_S (N : Nat) : FSum := ⟨Zq8_ps, Zq8_rs, fun x => Zq8 N x.1 x.2.1⟩
theorem Zq8_pc (N : Nat) : PC Try.prog 53 (Zq8_S N) := pcQ (L := []) (Zq8_gok N) Try.call53 Try.func53 (fun x => by kernel_rfl) trivial (by kernel_rfl)

abbrev Zq9_ps : List (PV.Mode × Ty) := [(.ro, LQII), (.ro, I)]
abbrev Zq9_rs : List (Bool × Ty) := [(true, .bool)]
noncomputable def Zq9_G (N : Nat) : GTab := gOf [(53, Zq8_S N)]
theorem Zq9_gok (N : Nat) : GOk Try.prog (Zq9_G N) := gOf_ok ⟨Zq8_pc N, trivial⟩
noncomputable def Zq9_code : Code := (Try.f39.body).getD .skip
noncomputable def Zq9_l0_sh : Sh := ⟨[(0, .one (.ro LQII)), (1, .one (.ro I)), (7, .one (.ro LQII)), (8, .one (.ro I)), (9, .one (.ro I))], []⟩
noncomputable def Zq9_l0_ex : List (Ex × Sh) := [(.ret, ⟨[(4, .one (.ro .bool))], []⟩), (.exit 0, ⟨[], []⟩)]
noncomputable def Zq9_l0 {R : Type} (N : Nat) (k0 : Bool → Option R) (k1 : Unit → Option R) : Nat → (List (Int × Int)) → Int → (List (Int × Int)) → Int → Int → Option R
 | 0, _, _, _, _, _ => none
 | K + 1, list1, below1, x, x1, x2 =>
 (br (ilt x2 x1)
 ((chk (inb x x2)
 (br (ilt ((rdP x x2).1) 0)
 (k0 false)
 ((br (ile ((rdP x x2).2) ((rdP x x2).1))
 (k0 false)
 ((br (ile below1 ((rdP x x2).2))
 (k0 false)
 ((br (ilt 0 x2)
 ((chk (inb list1 (IntKind.i64.wrap (x2 - 1)))
 ((Zq8 N (rdP list1 (IntKind.i64.wrap (x2 - 1))) ((rdP x x2).1, (rdP x x2).2)).bind fun r =>
 (br (ile 0 r.1.1)
 (k0 false)
 (Zq9_l0 N k0 k1 K list1 below1 x x1 (IntKind.i64.wrap (x2 + 1)))))))
 (Zq9_l0 N k0 k1 K list1 below1 x x1 (IntKind.i64.wrap (x2 + 1))))))))))))
 (k1 ()))
noncomputable def Zq9_l0_again {R : Type} (N : Nat) (ks : KS Zq9_l0_ex R) (k : Nat) (x : Zq9_l0_sh.T) : Option R :=
 Zq9_l0 N (fun y0 => ks 0 ((y0, ()), ())) (fun (_ : Unit) => ks 1 ((), ())) k x.1.1 x.1.2.1 x.1.2.2.1 x.1.2.2.2.1 x.1.2.2.2.2.1
noncomputable def Zq9_l0_s (N : Nat) : LSum := ⟨Zq9_l0_sh, Zq9_l0_ex, fun x ks => Zq9_l0_again N ks N x⟩
theorem Zq9_l0_ok (N : Nat) : LoopOk Try.prog Try.f39.ntmps (Zq9_l0_s N) (loopAt Zq9_code 0) := loopQ (sh := Zq9_l0_sh) (ex := Zq9_l0_ex) (N := N) (L := []) (fun R k x ks => Zq9_l0_again N ks k x) (Zq9_gok N) (fun _ _ _ => rfl) (fun R k x ks => by kernel_rfl) trivial (by kernel_rfl)
noncomputable def Zq9 (N : Nat) (list : (List (Int × Int))) (below : Int) : Option ((Bool × Unit) × (Unit)) :=
 Zq9_l0 N (fun x => some ((x, ()), ())) (fun (_ : Unit) => some ((true, ()), ())) N list below list (tLen list) 0
noncomputable def Zq9_S (N : Nat) : FSum := ⟨Zq9_ps, Zq9_rs, fun x => Zq9 N x.1 x.2.1⟩
theorem Zq9_pc (N : Nat) : PC Try.prog 39 (Zq9_S N) := pcQ (L := [Zq9_l0_s N]) (Zq9_gok N) Try.call39 Try.func39 (fun x => by kernel_rfl) ⟨Zq9_l0_ok N, trivial⟩ (by kernel_rfl)

abbrev Zq6_ps : List (PV.Mode × Ty) := [(.ro, QILQII)]
abbrev Zq6_rs : List (Bool × Ty) := [(true, .bool)]
noncomputable def Zq6_G (N : Nat) : GTab := gOf [(33, Zq7_S N), (39, Zq9_S N)]
theorem Zq6_gok (N : Nat) : GOk Try.prog (Zq6_G N) := gOf_ok ⟨Zq7_pc N, Zq9_pc N, trivial⟩
noncomputable def Zq6_code : Code := (Try.f21.body).getD .skip
noncomputable def Zq6 (N : Nat) (g : (Int × (List (Int × Int)))) : Option ((Bool × Unit) × (Unit)) :=
 ((Zq7 N g.1 0 8).bind fun r =>
 (br r.1.1
 (((Zq9 N g.2 g.1).bind fun r1 =>
 some ((r1.1.1, ()), ())))
 (some ((false, ()), ()))))
noncomputable def Zq6_S (N : Nat) : FSum := ⟨Zq6_ps, Zq6_rs, fun x => Zq6 N x.1⟩
theorem Zq6_pc (N : Nat) : PC Try.prog 21 (Zq6_S N) := pcQ (L := []) (Zq6_gok N) Try.call21 Try.func21 (fun x => by kernel_rfl) trivial (by kernel_rfl)

abbrev Zq10_ps : List (PV.Mode × Ty) := [(.ro, I), (.ro, I)]
abbrev Zq10_rs : List (Bool × Ty) := [(true, QII)]
noncomputable def Zq10_G (N : Nat) : GTab := gOf []
theorem Zq10_gok (N : Nat) : GOk Try.prog (Zq10_G N) := gOf_ok trivial
noncomputable def Zq10_code : Code := (Try.f41.body).getD .skip
noncomputable def Zq10 (N : Nat) (a : Int) (b : Int) : Option (((Int × Int) × Unit) × (Unit)) :=
 some ((((if b < a then b else a), (if b > a then b else a)), ()), ())
noncomputable def Zq10_S (N : Nat) : FSum := ⟨Zq10_ps, Zq10_rs, fun x => Zq10 N x.1 x.2.1⟩
theorem Zq10_pc (N : Nat) : PC Try.prog 41 (Zq10_S N) := pcQ (L := []) (Zq10_gok N) Try.call41 Try.func41 (fun x => by kernel_rfl) trivial (by kernel_rfl)

abbrev Zq21_ps : List (PV.Mode × Ty) := [(.ro, LQII), (.ro, QII)]
abbrev Zq21_rs : List (Bool × Ty) := [(true, I)]
noncomputable def Zq21_G (N : Nat) : GTab := gOf []
theorem Zq21_gok (N : Nat) : GOk Try.prog (Zq21_G N) := gOf_ok trivial
noncomputable def Zq21_code : Code := (Try.f54.body).getD .skip
noncomputable def Zq21_l0_sh : Sh := ⟨[(0, .one (.ro LQII)), (3, .one (.adr 0 0)), (7, .one (.ro I)), (8, .one (.ro I))], [.box [.ro I, .ro I]]⟩
noncomputable def Zq21_l0_ex : List (Ex × Sh) := [(.ret, ⟨[(4, .one (.ro I))], []⟩), (.exit 0, ⟨[], []⟩)]
noncomputable def Zq21_l0 {R : Type} (N : Nat) (k0 : Int → Option R) (k1 : Unit → Option R) : Nat → (List (Int × Int)) → Int → Int → Int → Int → Option R
 | 0, _, _, _, _, _ => none
 | K + 1, s1, x, x1, o, o1 =>
 (br (ilt x1 x)
 ((chk (inb s1 x1)
 (br (ieq o ((rdP s1 x1).1) && ieq o1 ((rdP s1 x1).2))
 (k0 x1)
 (Zq21_l0 N k0 k1 K s1 x (IntKind.i64.wrap (x1 + 1)) o o1))))
 (k1 ()))
noncomputable def Zq21_l0_again {R : Type} (N : Nat) (ks : KS Zq21_l0_ex R) (k : Nat) (x : Zq21_l0_sh.T) : Option R :=
 Zq21_l0 N (fun y0 => ks 0 ((y0, ()), ())) (fun (_ : Unit) => ks 1 ((), ())) k x.1.1 x.1.2.2.1 x.1.2.2.2.1 x.2.1.1 x.2.1.2.1
noncomputable def Zq21_l0_s (N : Nat) : LSum := ⟨Zq21_l0_sh, Zq21_l0_ex, fun x ks => Zq21_l0_again N ks N x⟩
theorem Zq21_l0_ok (N : Nat) : LoopOk Try.prog Try.f54.ntmps (Zq21_l0_s N) (loopAt Zq21_code 0) := loopQ (sh := Zq21_l0_sh) (ex := Zq21_l0_ex) (N := N) (L := []) (fun R k x ks => Zq21_l0_again N ks k x) (Zq21_gok N) (fun _ _ _ => rfl) (fun R k x ks => by kernel_rfl) trivial (by kernel_rfl)
noncomputable def Zq21 (N : Nat) (s : (List (Int × Int))) (v : (Int × Int)) : Option ((Int × Unit) × (Unit)) :=
 Zq21_l0 N (fun x => some ((x, ()), ())) (fun (_ : Unit) => some (((-1), ()), ())) N s (tLen s) 0 v.1 v.2
noncomputable def Zq21_S (N : Nat) : FSum := ⟨Zq21_ps, Zq21_rs, fun x => Zq21 N x.1 x.2.1⟩
theorem Zq21_pc (N : Nat) : PC Try.prog 54 (Zq21_S N) := pcQ (L := [Zq21_l0_s N]) (Zq21_gok N) Try.call54 Try.func54 (fun x => by kernel_rfl) ⟨Zq21_l0_ok N, trivial⟩ (by kernel_rfl)

abbrev Zq20_ps : List (PV.Mode × Ty) := [(.ro, LQII), (.ro, QII)]
abbrev Zq20_rs : List (Bool × Ty) := [(true, .bool)]
noncomputable def Zq20_G (N : Nat) : GTab := gOf [(54, Zq21_S N)]
theorem Zq20_gok (N : Nat) : GOk Try.prog (Zq20_G N) := gOf_ok ⟨Zq21_pc N, trivial⟩
noncomputable def Zq20_code : Code := (Try.f40.body).getD .skip
noncomputable def Zq20 (N : Nat) (s : (List (Int × Int))) (v : (Int × Int)) : Option ((Bool × Unit) × (Unit)) :=
 ((Zq21 N s (v.1, v.2)).bind fun r =>
 some (((ile 0 r.1.1), ()), ()))
noncomputable def Zq20_S (N : Nat) : FSum := ⟨Zq20_ps, Zq20_rs, fun x => Zq20 N x.1 x.2.1⟩
theorem Zq20_pc (N : Nat) : PC Try.prog 40 (Zq20_S N) := pcQ (L := []) (Zq20_gok N) Try.call40 Try.func40 (fun x => by kernel_rfl) trivial (by kernel_rfl)

abbrev Zq4_ps : List (PV.Mode × Ty) := [(.ro, QILQII), (.ro, I), (.ro, I)]
abbrev Zq4_rs : List (Bool × Ty) := [(true, .bool)]
noncomputable def Zq4_G (N : Nat) : GTab := gOf [(41, Zq10_S N), (40, Zq20_S N)]
theorem Zq4_gok (N : Nat) : GOk Try.prog (Zq4_G N) := gOf_ok ⟨Zq10_pc N, Zq20_pc N, trivial⟩
noncomputable def Zq4_code : Code := (Try.f23.body).getD .skip
noncomputable def Zq4 (N : Nat) (g : (Int × (List (Int × Int)))) (a : Int) (b : Int) : Option ((Bool × Unit) × (Unit)) :=
 ((Zq10 N a b).bind fun r =>
 ((Zq20 N g.2 (r.1.1.1, r.1.1.2)).bind fun r1 =>
 some ((r1.1.1, ()), ())))
noncomputable def Zq4_S (N : Nat) : FSum := ⟨Zq4_ps, Zq4_rs, fun x => Zq4 N x.1 x.2.1 x.2.2.1⟩
theorem Zq4_pc (N : Nat) : PC Try.prog 23 (Zq4_S N) := pcQ (L := []) (Zq4_gok N) Try.call23 Try.func23 (fun x => by kernel_rfl) trivial (by kernel_rfl)
end Go.Proofs.Ytfilchmabmfmaaa
