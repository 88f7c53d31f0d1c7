/- Functions of the program as functions on data. -/
import Derived.Test.YtahehkidnfmfnaaGreatExchangesFa
set_option linter.all false
namespace Go.Proofs.YtahehkidnfmfnaaGreat
open Go Go.PV
abbrev Zq126_ps : List (PV.Mode × Ty) := [(.ro, QILQII), (.ro, I)]
abbrev Zq126_rs : List (Bool × Ty) := [(false, LLI)]
noncomputable def Zq126_G (N : Nat) : GTab := gOf [(111, Zq105_S N), (112, Zq120_S N), (70, Zq114_S N)]
theorem Zq126_gok (N : Nat) : GOk Tryz.prog (Zq126_G N) := gOf_ok ⟨Zq105_pc N, Zq120_pc N, Zq114_pc N, trivial⟩
noncomputable def Zq126_code : Code := (Tryz.f66.body).getD .skip
noncomputable def Zq126_l0_0_sh : Sh := ⟨[(1, .one (.ro I)), (2, .one (.adr 0 0)), (5, .one (.ref 1)), (6, .one (.ro I)), (7, .one (.ref 2)), (8, .one (.ro I))], [.box [.ro I, .ro LQII], .sl 27 LI .own, .sl 27 LI .deep]⟩
noncomputable def Zq126_l0_0_ex : List (Ex × Sh) := [(.exit 2, ⟨[(1, .one (.ro I)), (2, .one (.adr 0 0)), (5, .one (.ref 1)), (6, .one (.ro I)), (7, .one (.ref 2))], [.box [.ro I, .ro LQII], .sl 27 LI .own, .sl 27 LI .deep]⟩)]
noncomputable def Zq126_l0_0 {R : Type} (N : Nat) (k0 : Int → Int → Int → (List (Int × Int)) → (List (List Int)) → (List (List Int)) → Option R) : Nat → Int → Int → Int → Int → (List (Int × Int)) → (List (List Int)) → (List (List Int)) → Option R
 | 0, _, _, _, _, _, _, _ => none
 | K + 1, kind4, size3, code, o10, o11, o12, o13 =>
 (chk (ile 0 o10)
 (br (ilt code (shlI .i64 1 o10))
 (((Zq105 N o10 code).bind fun r1 =>
 (br (ieq (tLen r1.1.1) size3)
 (((Zq120 N (o10, o11) kind4 r1.1.1).bind fun r2 =>
 (br r2.1.1
 ((chk (room o13 [r1.1.1])
 (Zq126_l0_0 N k0 K kind4 size3 (IntKind.i64.wrap (code + 1)) o10 o11 o12 (tApp o13 [r1.1.1]))))
 (Zq126_l0_0 N k0 K kind4 size3 (IntKind.i64.wrap (code + 1)) o10 o11 o12 o13))))
 (Zq126_l0_0 N k0 K kind4 size3 (IntKind.i64.wrap (code + 1)) o10 o11 o12 o13))))
 (k0 kind4 size3 o10 o11 o12 o13)))
noncomputable def Zq126_l0_0_again {R : Type} (N : Nat) (ks : KS Zq126_l0_0_ex R) (k : Nat) (x : Zq126_l0_0_sh.T) : Option R :=
 Zq126_l0_0 N (fun y0 y1 y2 y3 y4 y5 => ks 0 ((y0, (), (), y1, (), ()), ((y2, y3, ()), y4, y5, ()))) k x.1.1 x.1.2.2.2.1 x.1.2.2.2.2.2.1 x.2.1.1 x.2.1.2.1 x.2.2.1 x.2.2.2.1
noncomputable def Zq126_l0_0_s (N : Nat) : LSum := ⟨Zq126_l0_0_sh, Zq126_l0_0_ex, fun x ks => Zq126_l0_0_again N ks N x⟩
theorem Zq126_l0_0_ok (N : Nat) : LoopOk Tryz.prog Tryz.f66.ntmps (Zq126_l0_0_s N) (loopAt (loopAt Zq126_code 0) 0) := loopQ (sh := Zq126_l0_0_sh) (ex := Zq126_l0_0_ex) (N := N) (L := []) (fun R k x ks => Zq126_l0_0_again N ks k x) (Zq126_gok N) (fun _ _ _ => rfl) (fun R k x ks => by kernel_rfl) trivial (by kernel_rfl)
noncomputable def Zq126_l0_sh : Sh := ⟨[(1, .one (.ro I)), (2, .one (.adr 0 0)), (5, .one (.ref 1)), (6, .one (.ro I))], [.box [.ro I, .ro LQII], .sl 27 LI .own]⟩
noncomputable def Zq126_l0_ex : List (Ex × Sh) := [(.exit 0, ⟨[(5, .one (.ref 0))], [.sl 27 LI .own]⟩)]
noncomputable def Zq126_l0 {R : Type} (N : Nat) (k0 : (List (List Int)) → Option R) : Nat → Int → Int → Int → (List (Int × Int)) → (List (List Int)) → Option R
 | 0, _, _, _, _, _ => none
 | K + 1, kind3, size2, o7, o8, o9 =>
 (br (ile size2 o7)
 (Zq126_l0_0 N (fun kind4 size3 o10 o11 o12 o13 => ((Zq114 N o13).bind fun r1 =>
 (chk (room o12 r1.1.1)
 (Zq126_l0 N k0 K kind4 (IntKind.i64.wrap (size3 + 1)) o10 o11 (tApp o12 r1.1.1))))) N kind3 size2 0 o7 o8 o9 [])
 (k0 o9))
noncomputable def Zq126_l0_again {R : Type} (N : Nat) (ks : KS Zq126_l0_ex R) (k : Nat) (x : Zq126_l0_sh.T) : Option R :=
 Zq126_l0 N (fun y0 => ks 0 (((), ()), (y0, ()))) k x.1.1 x.1.2.2.2.1 x.2.1.1 x.2.1.2.1 x.2.2.1
noncomputable def Zq126_l0_s (N : Nat) : LSum := ⟨Zq126_l0_sh, Zq126_l0_ex, fun x ks => Zq126_l0_again N ks N x⟩
theorem Zq126_l0_ok (N : Nat) : LoopOk Tryz.prog Tryz.f66.ntmps (Zq126_l0_s N) (loopAt Zq126_code 0) := loopQ (sh := Zq126_l0_sh) (ex := Zq126_l0_ex) (N := N) (L := [Zq126_l0_0_s N]) (fun R k x ks => Zq126_l0_again N ks k x) (Zq126_gok N) (fun _ _ _ => rfl) (fun R k x ks => by kernel_rfl) ⟨Zq126_l0_0_ok N, trivial⟩ (by kernel_rfl)
noncomputable def Zq126 (N : Nat) (g : (Int × (List (Int × Int)))) (kind : Int) : Option (((List (List Int)) × Unit) × (Unit)) :=
 Zq126_l0 N (fun o7 => some ((o7, ()), ())) N kind 0 g.1 g.2 []
noncomputable def Zq126_S (N : Nat) : FSum := ⟨Zq126_ps, Zq126_rs, fun x => Zq126 N x.1 x.2.1⟩
theorem Zq126_pc (N : Nat) : PC Tryz.prog 66 (Zq126_S N) := pcQ (L := [Zq126_l0_s N]) (Zq126_gok N) Tryz.call66 Tryz.func66 (fun x => by kernel_rfl) ⟨Zq126_l0_ok N, trivial⟩ (by kernel_rfl)

abbrev Zq99_ps : List (PV.Mode × Ty) := [(.ro, LI)]
abbrev Zq99_rs : List (Bool × Ty) := [(true, LI)]
noncomputable def Zq99_G (N : Nat) : GTab := gOf []
theorem Zq99_gok (N : Nat) : GOk Tryz.prog (Zq99_G N) := gOf_ok trivial
noncomputable def Zq99_code : Code := (Tryz.f67.body).getD .skip
noncomputable def Zq99 (N : Nat) (l : (List Int)) : Option (((List Int) × Unit) × (Unit)) :=
 (chk (room (α := Int) (β := Int) [] l)
 (some (((tApp [] l), ()), ())))
noncomputable def Zq99_S (N : Nat) : FSum := ⟨Zq99_ps, Zq99_rs, fun x => Zq99 N x.1⟩
theorem Zq99_pc (N : Nat) : PC Tryz.prog 67 (Zq99_S N) := pcQ (L := []) (Zq99_gok N) Tryz.call67 Tryz.func67 (fun x => by kernel_rfl) trivial (by kernel_rfl)

abbrev Zq91_ps : List (PV.Mode × Ty) := [(.mut, BQOU8QIU64), (.ro, QILQII), (.ro, I)]
abbrev Zq91_rs : List (Bool × Ty) := [(true, LI)]
noncomputable def Zq91_G (N : Nat) : GTab := gOf [(64, Zq119_S N), (65, Zq90_S N), (26, Zq92_S N), (66, Zq126_S N), (61, Zq93_S N), (67, Zq99_S N)]
theorem Zq91_gok (N : Nat) : GOk Tryz.prog (Zq91_G N) := gOf_ok ⟨Zq119_pc N, Zq90_pc N, Zq92_pc N, Zq126_pc N, Zq93_pc N, Zq99_pc N, trivial⟩
noncomputable def Zq91_code : Code := (Tryz.f25.body).getD .skip
noncomputable def Zq91 (N : Nat) (c : ((List Int) × (Int × Int))) (g : (Int × (List (Int × Int)))) (kind : Int) : Option (((List Int) × Unit) × (((List Int) × (Int × Int)) × Unit)) :=
 ((Zq119 N (g.1, g.2) kind).bind fun r =>
 (br (!r.1.1)
 (((Zq90 N c (g.1, g.2)).bind fun r1 =>
 some ((r1.1.1, ()), (r1.2.1, ()))))
 (((Zq92 N c 8).bind fun r2 =>
 (br r2.1.1
 (((Zq90 N r2.2.1 (g.1, g.2)).bind fun r3 =>
 some ((r3.1.1, ()), (r3.2.1, ()))))
 (((Zq126 N (g.1, g.2) kind).bind fun r4 =>
 ((Zq93 N r2.2.1 (tLen r4.1.1)).bind fun r5 =>
 (chk (inb r4.1.1 r5.1.1)
 ((Zq99 N (rdL r4.1.1 r5.1.1)).bind fun r6 =>
 some ((r6.1.1, ()), (r5.2.1, ()))))))))))))
noncomputable def Zq91_S (N : Nat) : FSum := ⟨Zq91_ps, Zq91_rs, fun x => Zq91 N x.1 x.2.1 x.2.2.1⟩
theorem Zq91_pc (N : Nat) : PC Tryz.prog 25 (Zq91_S N) := pcQ (L := []) (Zq91_gok N) Tryz.call25 Tryz.func25 (fun x => by kernel_rfl) trivial (by kernel_rfl)

abbrev Zq78_ps : List (PV.Mode × Ty) := [(.ro, LU8)]
abbrev Zq78_rs : List (Bool × Ty) := [(false, QILQII), (false, I), (false, LI), (false, LI)]
noncomputable def Zq78_G (N : Nat) : GTab := gOf [(23, Zq94_S N), (24, Zq87_S N), (25, Zq91_S N), (26, Zq92_S N)]
theorem Zq78_gok (N : Nat) : GOk Tryz.prog (Zq78_G N) := gOf_ok ⟨Zq94_pc N, Zq87_pc N, Zq91_pc N, Zq92_pc N, trivial⟩
noncomputable def Zq78_code : Code := (Tryz.f5.body).getD .skip
noncomputable def Zq78_l0_sh : Sh := ⟨[(2, .one (.adr 0 0)), (6, .one (.adr 1 0)), (7, .one (.adr 2 0)), (8, .one (.ro I)), (9, .one (.ref 3)), (10, .one (.ref 4)), (11, .one (.ro I))], [.box [.ro I, .nilsl], .mbox QOU8QIU64, .box [.ro I, .ro LQII], .sl 3 I .own, .sl 3 I .own]⟩
noncomputable def Zq78_l0_ex : List (Ex × Sh) := [(.exit 0, ⟨[(2, .one (.adr 0 0)), (7, .one (.adr 1 0)), (8, .one (.ro I)), (9, .one (.ref 2)), (10, .one (.ref 3))], [.box [.ro I, .nilsl], .box [.ro I, .ro LQII], .sl 3 I .own, .sl 3 I .own]⟩)]
noncomputable def Zq78_l0 {R : Type} (N : Nat) (k0 : Int → Int → Int → (List (Int × Int)) → (List Int) → (List Int) → Option R) : Nat → Int → Int → Int → ((List Int) × (Int × Int)) → Int → (List (Int × Int)) → (List Int) → (List Int) → Option R
 | 0, _, _, _, _, _, _, _, _ => none
 | K + 1, kind, n, o, o1, o2, o3, o4, o5 =>
 (br (ilt n 8)
 ((br (ine (tLen o4) (tLen o5))
 (((Zq92 N o1 12).bind fun r4 =>
 (br (!r4.1.1)
 (((Zq91 N r4.2.1 (o2, o3) kind).bind fun r5 =>
 Zq78_l0 N k0 K kind (IntKind.i64.wrap (n + 1)) o r5.2.1 o2 o3 o4 r5.1.1))
 (k0 kind o o2 o3 o4 o5))))
 (k0 kind o o2 o3 o4 o5)))
 (k0 kind o o2 o3 o4 o5))
noncomputable def Zq78_l0_again {R : Type} (N : Nat) (ks : KS Zq78_l0_ex R) (k : Nat) (x : Zq78_l0_sh.T) : Option R :=
 Zq78_l0 N (fun y0 y1 y2 y3 y4 y5 => ks 0 (((), (), y0, (), (), ()), ((y1, (), ()), (y2, y3, ()), y4, y5, ()))) k x.1.2.2.2.1 x.1.2.2.2.2.2.2.1 x.2.1.1 x.2.2.1 x.2.2.2.1.1 x.2.2.2.1.2.1 x.2.2.2.2.1 x.2.2.2.2.2.1
noncomputable def Zq78_l0_s (N : Nat) : LSum := ⟨Zq78_l0_sh, Zq78_l0_ex, fun x ks => Zq78_l0_again N ks N x⟩
theorem Zq78_l0_ok (N : Nat) : LoopOk Tryz.prog Tryz.f5.ntmps (Zq78_l0_s N) (loopAt Zq78_code 0) := loopQ (sh := Zq78_l0_sh) (ex := Zq78_l0_ex) (N := N) (L := []) (fun R k x ks => Zq78_l0_again N ks k x) (Zq78_gok N) (fun _ _ _ => rfl) (fun R k x ks => by kernel_rfl) trivial (by kernel_rfl)
noncomputable def Zq78 (N : Nat) (code : (List Int)) : Option (((Int × (List (Int × Int))) × Int × (List Int) × (List Int) × Unit) × (Unit)) :=
 ((Zq94 N (code, (0, 0)) 6).bind fun r =>
 ((Zq87 N r.2.1).bind fun r1 =>
 ((Zq91 N r1.2.1 (r.1.1.1, r.1.1.2) r1.1.1).bind fun r2 =>
 ((Zq91 N r2.2.1 (r.1.1.1, r.1.1.2) r1.1.1).bind fun r3 =>
 Zq78_l0 N (fun kind o o1 o2 o3 o4 => some (((o1, o2), kind, o3, o4, ()), ())) N r1.1.1 0 0 r3.2.1 r.1.1.1 r.1.1.2 r2.1.1 r3.1.1))))
noncomputable def Zq78_S (N : Nat) : FSum := ⟨Zq78_ps, Zq78_rs, fun x => Zq78 N x.1⟩
theorem Zq78_pc (N : Nat) : PC Tryz.prog 5 (Zq78_S N) := pcQ (L := [Zq78_l0_s N]) (Zq78_gok N) Tryz.call5 Tryz.func5 (fun x => by kernel_rfl) ⟨Zq78_l0_ok N, trivial⟩ (by kernel_rfl)

abbrev Zq34_ps : List (PV.Mode × Ty) := [(.ro, I), (.ro, I), (.ro, I)]
abbrev Zq34_rs : List (Bool × Ty) := [(true, .bool)]
noncomputable def Zq34_G (N : Nat) : GTab := gOf []
theorem Zq34_gok (N : Nat) : GOk Tryz.prog (Zq34_G N) := gOf_ok trivial
noncomputable def Zq34_code : Code := (Tryz.f78.body).getD .skip
noncomputable def Zq34 (N : Nat) (n : Int) (low : Int) (high : Int) : Option ((Bool × Unit) × (Unit)) :=
 (br (ile low n)
 (some (((ile n high), ()), ()))
 (some ((false, ()), ())))
noncomputable def Zq34_S (N : Nat) : FSum := ⟨Zq34_ps, Zq34_rs, fun x => Zq34 N x.1 x.2.1 x.2.2.1⟩
theorem Zq34_pc (N : Nat) : PC Tryz.prog 78 (Zq34_S N) := pcQ (L := []) (Zq34_gok N) Tryz.call78 Tryz.func78 (fun x => by kernel_rfl) trivial (by kernel_rfl)

abbrev Zq2_ps : List (PV.Mode × Ty) := [(.ro, I)]
abbrev Zq2_rs : List (Bool × Ty) := [(true, .bool)]
noncomputable def Zq2_G (N : Nat) : GTab := gOf []
theorem Zq2_gok (N : Nat) : GOk Tryz.prog (Zq2_G N) := gOf_ok trivial
noncomputable def Zq2_code : Code := (Tryz.f130.body).getD .skip
noncomputable def Zq2 (N : Nat) (x : Int) : Option ((Bool × Unit) × (Unit)) :=
 some (((ine x x), ()), ())
noncomputable def Zq2_S (N : Nat) : FSum := ⟨Zq2_ps, Zq2_rs, fun x => Zq2 N x.1⟩
theorem Zq2_pc (N : Nat) : PC Tryz.prog 130 (Zq2_S N) := pcQ (L := []) (Zq2_gok N) Tryz.call130 Tryz.func130 (fun x => by kernel_rfl) trivial (by kernel_rfl)

abbrev Zq0_ps : List (PV.Mode × Ty) := [(.ro, I), (.ro, I)]
abbrev Zq0_rs : List (Bool × Ty) := [(true, I)]
noncomputable def Zq0_G (N : Nat) : GTab := gOf [(130, Zq2_S N)]
theorem Zq0_gok (N : Nat) : GOk Tryz.prog (Zq0_G N) := gOf_ok ⟨Zq2_pc N, trivial⟩
noncomputable def Zq0_code : Code := (Tryz.f90.body).getD .skip
noncomputable def Zq0 (N : Nat) (x : Int) (y : Int) : Option ((Int × Unit) × (Unit)) :=
 ((Zq2 N x).bind fun r =>
 ((Zq2 N y).bind fun r1 =>
 (br r.1.1
 ((br r1.1.1
 (some ((0, ()), ()))
 (some (((-1), ()), ()))))
 ((br r1.1.1
 (some ((1, ()), ()))
 ((br (ilt x y)
 (some (((-1), ()), ()))
 ((br (ilt y x)
 (some ((1, ()), ()))
 (some ((0, ()), ())))))))))))
noncomputable def Zq0_S (N : Nat) : FSum := ⟨Zq0_ps, Zq0_rs, fun x => Zq0 N x.1 x.2.1⟩
theorem Zq0_pc (N : Nat) : PC Tryz.prog 90 (Zq0_S N) := pcQ (L := []) (Zq0_gok N) Tryz.call90 Tryz.func90 (fun x => by kernel_rfl) trivial (by kernel_rfl)

abbrev Zq1_ps : List (PV.Mode × Ty) := [(.ro, LI)]
abbrev Zq1_rs : List (Bool × Ty) := [(true, I)]
noncomputable def Zq1_G (N : Nat) : GTab := gOf []
theorem Zq1_gok (N : Nat) : GOk Tryz.prog (Zq1_G N) := gOf_ok trivial
noncomputable def Zq1_code : Code := (Tryz.f93.body).getD .skip
noncomputable def Zq1_l0_sh : Sh := ⟨[(3, .one (.ro I)), (6, .one (.ro LI)), (7, .one (.ro I)), (8, .one (.ro I))], []⟩
noncomputable def Zq1_l0_ex : List (Ex × Sh) := [(.ret, ⟨[(2, .one (.ro I))], []⟩), (.exit 0, ⟨[(3, .one (.ro I))], []⟩)]
noncomputable def Zq1_l0 {R : Type} (N : Nat) (k0 : Int → Option R) (k1 : Int → Option R) : Nat → Int → (List Int) → Int → Int → Option R
 | 0, _, _, _, _ => none
 | K + 1, zero, x, x1, x2 =>
 (br (ilt x2 x1)
 ((chk (inb x x2)
 (br (ine (rdI x x2) zero)
 (k0 (rdI x x2))
 (Zq1_l0 N k0 k1 K zero x x1 (IntKind.i64.wrap (x2 + 1))))))
 (k1 zero))
noncomputable def Zq1_l0_again {R : Type} (N : Nat) (ks : KS Zq1_l0_ex R) (k : Nat) (x : Zq1_l0_sh.T) : Option R :=
 Zq1_l0 N (fun y0 => ks 0 ((y0, ()), ())) (fun y0 => ks 1 ((y0, ()), ())) k x.1.1 x.1.2.1 x.1.2.2.1 x.1.2.2.2.1
noncomputable def Zq1_l0_s (N : Nat) : LSum := ⟨Zq1_l0_sh, Zq1_l0_ex, fun x ks => Zq1_l0_again N ks N x⟩
theorem Zq1_l0_ok (N : Nat) : LoopOk Tryz.prog Tryz.f93.ntmps (Zq1_l0_s N) (loopAt Zq1_code 0) := loopQ (sh := Zq1_l0_sh) (ex := Zq1_l0_ex) (N := N) (L := []) (fun R k x ks => Zq1_l0_again N ks k x) (Zq1_gok N) (fun _ _ _ => rfl) (fun R k x ks => by kernel_rfl) trivial (by kernel_rfl)
noncomputable def Zq1 (N : Nat) (vals : (List Int)) : Option ((Int × Unit) × (Unit)) :=
 Zq1_l0 N (fun x => some ((x, ()), ())) (fun zero => some ((zero, ()), ())) N 0 vals (tLen vals) 0
noncomputable def Zq1_S (N : Nat) : FSum := ⟨Zq1_ps, Zq1_rs, fun x => Zq1 N x.1⟩
theorem Zq1_pc (N : Nat) : PC Tryz.prog 93 (Zq1_S N) := pcQ (L := [Zq1_l0_s N]) (Zq1_gok N) Tryz.call93 Tryz.func93 (fun x => by kernel_rfl) ⟨Zq1_l0_ok N, trivial⟩ (by kernel_rfl)

abbrev Zq35_ps : List (PV.Mode × Ty) := [(.ro, QII), (.ro, QII)]
abbrev Zq35_rs : List (Bool × Ty) := [(true, I)]
noncomputable def Zq35_G (N : Nat) : GTab := gOf [(90, Zq0_S N), (93, Zq1_S N)]
theorem Zq35_gok (N : Nat) : GOk Tryz.prog (Zq35_G N) := gOf_ok ⟨Zq0_pc N, Zq1_pc N, trivial⟩
noncomputable def Zq35_code : Code := (Tryz.f50.body).getD .skip
noncomputable def Zq35 (N : Nat) (a : (Int × Int)) (b : (Int × Int)) : Option ((Int × Unit) × (Unit)) :=
 ((Zq0 N a.1 b.1).bind fun r =>
 ((Zq0 N a.2 b.2).bind fun r1 =>
 ((Zq1 N [r.1.1, r1.1.1]).bind fun r2 =>
 some ((r2.1.1, ()), ()))))
noncomputable def Zq35_S (N : Nat) : FSum := ⟨Zq35_ps, Zq35_rs, fun x => Zq35 N x.1 x.2.1⟩
theorem Zq35_pc (N : Nat) : PC Tryz.prog 50 (Zq35_S N) := pcQ (L := []) (Zq35_gok N) Tryz.call50 Tryz.func50 (fun x => by kernel_rfl) trivial (by kernel_rfl)

abbrev Zq41_ps : List (PV.Mode × Ty) := [(.ro, LQII), (.ro, I)]
abbrev Zq41_rs : List (Bool × Ty) := [(true, .bool)]
noncomputable def Zq41_G (N : Nat) : GTab := gOf [(50, Zq35_S N)]
theorem Zq41_gok (N : Nat) : GOk Tryz.prog (Zq41_G N) := gOf_ok ⟨Zq35_pc N, trivial⟩
noncomputable def Zq41_code : Code := (Tryz.f87.body).getD .skip
noncomputable def Zq41_l0_sh : Sh := ⟨[(0, .one (.ro LQII)), (1, .one (.ro I)), (7, .one (.ro LQII)), (8, .one (.ro I)), (9, .one (.ro I))], []⟩
noncomputable def Zq41_l0_ex : List (Ex × Sh) := [(.ret, ⟨[(4, .one (.ro .bool))], []⟩), (.exit 0, ⟨[], []⟩)]
noncomputable def Zq41_l0 {R : Type} (N : Nat) (k0 : Bool → Option R) (k1 : Unit → Option R) : Nat → (List (Int × Int)) → Int → (List (Int × Int)) → Int → Int → Option R
 | 0, _, _, _, _, _ => none
 | K + 1, list1, below1, x, x1, x2 =>
 (br (ilt x2 x1)
 ((chk (inb x x2)
 (br (ilt ((rdP x x2).1) 0)
 (k0 false)
 ((br (ile ((rdP x x2).2) ((rdP x x2).1))
 (k0 false)
 ((br (ile below1 ((rdP x x2).2))
 (k0 false)
 ((br (ilt 0 x2)
 ((chk (inb list1 (IntKind.i64.wrap (x2 - 1)))
 ((Zq35 N (rdP list1 (IntKind.i64.wrap (x2 - 1))) ((rdP x x2).1, (rdP x x2).2)).bind fun r =>
 (br (ile 0 r.1.1)
 (k0 false)
 (Zq41_l0 N k0 k1 K list1 below1 x x1 (IntKind.i64.wrap (x2 + 1)))))))
 (Zq41_l0 N k0 k1 K list1 below1 x x1 (IntKind.i64.wrap (x2 + 1))))))))))))
 (k1 ()))
noncomputable def Zq41_l0_again {R : Type} (N : Nat) (ks : KS Zq41_l0_ex R) (k : Nat) (x : Zq41_l0_sh.T) : Option R :=
 Zq41_l0 N (fun y0 => ks 0 ((y0, ()), ())) (fun (_ : Unit) => ks 1 ((), ())) k x.1.1 x.1.2.1 x.1.2.2.1 x.1.2.2.2.1 x.1.2.2.2.2.1
noncomputable def Zq41_l0_s (N : Nat) : LSum := ⟨Zq41_l0_sh, Zq41_l0_ex, fun x ks => Zq41_l0_again N ks N x⟩
theorem Zq41_l0_ok (N : Nat) : LoopOk Tryz.prog Tryz.f87.ntmps (Zq41_l0_s N) (loopAt Zq41_code 0) := loopQ (sh := Zq41_l0_sh) (ex := Zq41_l0_ex) (N := N) (L := []) (fun R k x ks => Zq41_l0_again N ks k x) (Zq41_gok N) (fun _ _ _ => rfl) (fun R k x ks => by kernel_rfl) trivial (by kernel_rfl)
noncomputable def Zq41 (N : Nat) (list : (List (Int × Int))) (below : Int) : Option ((Bool × Unit) × (Unit)) :=
 Zq41_l0 N (fun x => some ((x, ()), ())) (fun (_ : Unit) => some ((true, ()), ())) N list below list (tLen list) 0
noncomputable def Zq41_S (N : Nat) : FSum := ⟨Zq41_ps, Zq41_rs, fun x => Zq41 N x.1 x.2.1⟩
theorem Zq41_pc (N : Nat) : PC Tryz.prog 87 (Zq41_S N) := pcQ (L := [Zq41_l0_s N]) (Zq41_gok N) Tryz.call87 Tryz.func87 (fun x => by kernel_rfl) ⟨Zq41_l0_ok N, trivial⟩ (by kernel_rfl)

abbrev Zq19_ps : List (PV.Mode × Ty) := [(.ro, QILQII)]
abbrev Zq19_rs : List (Bool × Ty) := [(true, .bool)]
noncomputable def Zq19_G (N : Nat) : GTab := gOf [(78, Zq34_S N), (87, Zq41_S N)]
theorem Zq19_gok (N : Nat) : GOk Tryz.prog (Zq19_G N) := gOf_ok ⟨Zq34_pc N, Zq41_pc N, trivial⟩
noncomputable def Zq19_code : Code := (Tryz.f76.body).getD .skip
noncomputable def Zq19 (N : Nat) (g : (Int × (List (Int × Int)))) : Option ((Bool × Unit) × (Unit)) :=
 ((Zq34 N g.1 0 8).bind fun r =>
 (br r.1.1
 (((Zq41 N g.2 g.1).bind fun r1 =>
 some ((r1.1.1, ()), ())))
 (some ((false, ()), ()))))
noncomputable def Zq19_S (N : Nat) : FSum := ⟨Zq19_ps, Zq19_rs, fun x => Zq19 N x.1⟩
theorem Zq19_pc (N : Nat) : PC Tryz.prog 76 (Zq19_S N) := pcQ (L := []) (Zq19_gok N) Tryz.call76 Tryz.func76 (fun x => by kernel_rfl) trivial (by kernel_rfl)

abbrev Zq39_ps : List (PV.Mode × Ty) := [(.ro, I)]
abbrev Zq39_rs : List (Bool × Ty) := [(true, .bool)]
noncomputable def Zq39_G (N : Nat) : GTab := gOf [(78, Zq34_S N)]
theorem Zq39_gok (N : Nat) : GOk Tryz.prog (Zq39_G N) := gOf_ok ⟨Zq34_pc N, trivial⟩
noncomputable def Zq39_code : Code := (Tryz.f77.body).getD .skip
noncomputable def Zq39 (N : Nat) (kind : Int) : Option ((Bool × Unit) × (Unit)) :=
 ((Zq34 N kind 1 3).bind fun r =>
 some ((r.1.1, ()), ()))
noncomputable def Zq39_S (N : Nat) : FSum := ⟨Zq39_ps, Zq39_rs, fun x => Zq39 N x.1⟩
theorem Zq39_pc (N : Nat) : PC Tryz.prog 77 (Zq39_S N) := pcQ (L := []) (Zq39_gok N) Tryz.call77 Tryz.func77 (fun x => by kernel_rfl) trivial (by kernel_rfl)

abbrev Zq42_ps : List (PV.Mode × Ty) := [(.ro, LI), (.ro, I)]
abbrev Zq42_rs : List (Bool × Ty) := [(true, .bool)]
noncomputable def Zq42_G (N : Nat) : GTab := gOf [(78, Zq34_S N)]
theorem Zq42_gok (N : Nat) : GOk Tryz.prog (Zq42_G N) := gOf_ok ⟨Zq34_pc N, trivial⟩
noncomputable def Zq42_code : Code := (Tryz.f100.body).getD .skip
noncomputable def Zq42_l0_sh : Sh := ⟨[(0, .one (.ro LI)), (1, .one (.ro I)), (7, .one (.ro LI)), (8, .one (.ro I)), (9, .one (.ro I))], []⟩
noncomputable def Zq42_l0_ex : List (Ex × Sh) := [(.ret, ⟨[(4, .one (.ro .bool))], []⟩), (.exit 0, ⟨[], []⟩)]
noncomputable def Zq42_l0 {R : Type} (N : Nat) (k0 : Bool → Option R) (k1 : Unit → Option R) : Nat → (List Int) → Int → (List Int) → Int → Int → Option R
 | 0, _, _, _, _, _ => none
 | K + 1, list1, below1, x, x1, x2 =>
 (br (ilt x2 x1)
 ((chk (inb x x2)
 ((Zq34 N (rdI x x2) 0 (IntKind.i64.wrap (below1 - 1))).bind fun r =>
 (br (!r.1.1)
 (k0 false)
 ((br (ilt 0 x2)
 ((chk (inb list1 (IntKind.i64.wrap (x2 - 1)))
 (br (ile (rdI x x2) (rdI list1 (IntKind.i64.wrap (x2 - 1))))
 (k0 false)
 (Zq42_l0 N k0 k1 K list1 below1 x x1 (IntKind.i64.wrap (x2 + 1))))))
 (Zq42_l0 N k0 k1 K list1 below1 x x1 (IntKind.i64.wrap (x2 + 1)))))))))
 (k1 ()))
noncomputable def Zq42_l0_again {R : Type} (N : Nat) (ks : KS Zq42_l0_ex R) (k : Nat) (x : Zq42_l0_sh.T) : Option R :=
 Zq42_l0 N (fun y0 => ks 0 ((y0, ()), ())) (fun (_ : Unit) => ks 1 ((), ())) k x.1.1 x.1.2.1 x.1.2.2.1 x.1.2.2.2.1 x.1.2.2.2.2.1
noncomputable def Zq42_l0_s (N : Nat) : LSum := ⟨Zq42_l0_sh, Zq42_l0_ex, fun x ks => Zq42_l0_again N ks N x⟩
theorem Zq42_l0_ok (N : Nat) : LoopOk Tryz.prog Tryz.f100.ntmps (Zq42_l0_s N) (loopAt Zq42_code 0) := loopQ (sh := Zq42_l0_sh) (ex := Zq42_l0_ex) (N := N) (L := []) (fun R k x ks => Zq42_l0_again N ks k x) (Zq42_gok N) (fun _ _ _ => rfl) (fun R k x ks => by kernel_rfl) trivial (by kernel_rfl)
noncomputable def Zq42 (N : Nat) (list : (List Int)) (below : Int) : Option ((Bool × Unit) × (Unit)) :=
 Zq42_l0 N (fun x => some ((x, ()), ())) (fun (_ : Unit) => some ((true, ()), ())) N list below list (tLen list) 0
noncomputable def Zq42_S (N : Nat) : FSum := ⟨Zq42_ps, Zq42_rs, fun x => Zq42 N x.1 x.2.1⟩
theorem Zq42_pc (N : Nat) : PC Tryz.prog 100 (Zq42_S N) := pcQ (L := [Zq42_l0_s N]) (Zq42_gok N) Tryz.call100 Tryz.func100 (fun x => by kernel_rfl) ⟨Zq42_l0_ok N, trivial⟩ (by kernel_rfl)

abbrev Zq43_ps : List (PV.Mode × Ty) := [(.ro, QILQII), (.ro, I), (.ro, LI)]
abbrev Zq43_rs : List (Bool × Ty) := [(true, .bool)]
noncomputable def Zq43_G (N : Nat) : GTab := gOf [(76, Zq19_S N), (77, Zq39_S N), (100, Zq42_S N)]
theorem Zq43_gok (N : Nat) : GOk Tryz.prog (Zq43_G N) := gOf_ok ⟨Zq19_pc N, Zq39_pc N, Zq42_pc N, trivial⟩
noncomputable def Zq43_code : Code := (Tryz.f55.body).getD .skip
noncomputable def Zq43 (N : Nat) (g : (Int × (List (Int × Int)))) (kind : Int) (setv : (List Int)) : Option ((Bool × Unit) × (Unit)) :=
 ((Zq19 N (g.1, g.2)).bind fun r =>
 (br r.1.1
 (((Zq39 N kind).bind fun r1 =>
 (br r1.1.1
 (((Zq42 N setv g.1).bind fun r2 =>
 some ((r2.1.1, ()), ())))
 (some ((false, ()), ())))))
 (some ((false, ()), ()))))
noncomputable def Zq43_S (N : Nat) : FSum := ⟨Zq43_ps, Zq43_rs, fun x => Zq43 N x.1 x.2.1 x.2.2.1⟩
theorem Zq43_pc (N : Nat) : PC Tryz.prog 55 (Zq43_S N) := pcQ (L := []) (Zq43_gok N) Tryz.call55 Tryz.func55 (fun x => by kernel_rfl) trivial (by kernel_rfl)

abbrev Zq30_ps : List (PV.Mode × Ty) := [(.ro, LI)]
abbrev Zq30_rs : List (Bool × Ty) := [(true, U64)]
noncomputable def Zq30_G (N : Nat) : GTab := gOf []
theorem Zq30_gok (N : Nat) : GOk Tryz.prog (Zq30_G N) := gOf_ok trivial
noncomputable def Zq30_code : Code := (Tryz.f57.body).getD .skip
noncomputable def Zq30_l0_sh : Sh := ⟨[(3, .one (.ro U64)), (6, .one (.ro LI)), (7, .one (.ro I)), (8, .one (.ro I))], []⟩
noncomputable def Zq30_l0_ex : List (Ex × Sh) := [(.exit 0, ⟨[(3, .one (.ro U64))], []⟩)]
noncomputable def Zq30_l0 {R : Type} (N : Nat) (k0 : Int → Option R) : Nat → Int → (List Int) → Int → Int → Option R
 | 0, _, _, _, _ => none
 | K + 1, out, x, x1, x2 =>
 (br (ilt x2 x1)
 ((chk (inb x x2)
 (chk (ile 0 (rdI x x2))
 (Zq30_l0 N k0 K (bitop .or .u64 out (shlI .u64 1 (rdI x x2))) x x1 (IntKind.i64.wrap (x2 + 1))))))
 (k0 out))
noncomputable def Zq30_l0_again {R : Type} (N : Nat) (ks : KS Zq30_l0_ex R) (k : Nat) (x : Zq30_l0_sh.T) : Option R :=
 Zq30_l0 N (fun y0 => ks 0 ((y0, ()), ())) k x.1.1 x.1.2.1 x.1.2.2.1 x.1.2.2.2.1
noncomputable def Zq30_l0_s (N : Nat) : LSum := ⟨Zq30_l0_sh, Zq30_l0_ex, fun x ks => Zq30_l0_again N ks N x⟩
theorem Zq30_l0_ok (N : Nat) : LoopOk Tryz.prog Tryz.f57.ntmps (Zq30_l0_s N) (loopAt Zq30_code 0) := loopQ (sh := Zq30_l0_sh) (ex := Zq30_l0_ex) (N := N) (L := []) (fun R k x ks => Zq30_l0_again N ks k x) (Zq30_gok N) (fun _ _ _ => rfl) (fun R k x ks => by kernel_rfl) trivial (by kernel_rfl)
noncomputable def Zq30 (N : Nat) (list : (List Int)) : Option ((Int × Unit) × (Unit)) :=
 Zq30_l0 N (fun out => some ((out, ()), ())) N 0 list (tLen list) 0
noncomputable def Zq30_S (N : Nat) : FSum := ⟨Zq30_ps, Zq30_rs, fun x => Zq30 N x.1⟩
theorem Zq30_pc (N : Nat) : PC Tryz.prog 57 (Zq30_S N) := pcQ (L := [Zq30_l0_s N]) (Zq30_gok N) Tryz.call57 Tryz.func57 (fun x => by kernel_rfl) ⟨Zq30_l0_ok N, trivial⟩ (by kernel_rfl)

abbrev Zq6_ps : List (PV.Mode × Ty) := [(.ro, QILQII)]
abbrev Zq6_rs : List (Bool × Ty) := [(true, U64)]
noncomputable def Zq6_G (N : Nat) : GTab := gOf []
theorem Zq6_gok (N : Nat) : GOk Tryz.prog (Zq6_G N) := gOf_ok trivial
noncomputable def Zq6_code : Code := (Tryz.f102.body).getD .skip
noncomputable def Zq6 (N : Nat) (g : (Int × (List (Int × Int)))) : Option ((Int × Unit) × (Unit)) :=
 (chk (ile 0 g.1)
 (some (((IntKind.u64.wrap ((shlI .u64 1 g.1) - 1)), ()), ())))
noncomputable def Zq6_S (N : Nat) : FSum := ⟨Zq6_ps, Zq6_rs, fun x => Zq6 N x.1⟩
theorem Zq6_pc (N : Nat) : PC Tryz.prog 102 (Zq6_S N) := pcQ (L := []) (Zq6_gok N) Tryz.call102 Tryz.func102 (fun x => by kernel_rfl) trivial (by kernel_rfl)

abbrev Zq71_ps : List (PV.Mode × Ty) := [(.ro, LQII), (.ro, FQIIBo)]
abbrev Zq71_rs : List (Bool × Ty) := [(true, I)]
noncomputable def Zq71_G (N : Nat) : GTab := gOf []
theorem Zq71_gok (N : Nat) : GOk Tryz.prog (Zq71_G N) := gOf_ok trivial
noncomputable def Zq71_code : Code := (Tryz.f159.body).getD .skip
noncomputable def Zq71_l0_sh : Sh := ⟨[(0, .one (.ro LQII)), (1, .one (.ro FQIIBo)), (7, .one (.ro I)), (8, .one (.ro I))], []⟩
noncomputable def Zq71_l0_ex : List (Ex × Sh) := [(.ret, ⟨[(4, .one (.ro I))], []⟩), (.exit 0, ⟨[], []⟩)]
noncomputable def Zq71_l0 {R : Type} (N : Nat) (k0 : Int → Option R) (k1 : Unit → Option R) : Nat → (List (Int × Int)) → ((Int × Int) → Option Bool) → Int → Int → Option R
 | 0, _, _, _, _ => none
 | K + 1, s1, f1, x, x1 =>
 (br (ilt x1 x)
 ((chk (inb s1 x1)
 ((f1 (rdP s1 x1)).bind fun v =>
 (br v
 (k0 x1)
 (Zq71_l0 N k0 k1 K s1 f1 x (IntKind.i64.wrap (x1 + 1)))))))
 (k1 ()))
noncomputable def Zq71_l0_again {R : Type} (N : Nat) (ks : KS Zq71_l0_ex R) (k : Nat) (x : Zq71_l0_sh.T) : Option R :=
 Zq71_l0 N (fun y0 => ks 0 ((y0, ()), ())) (fun (_ : Unit) => ks 1 ((), ())) k x.1.1 x.1.2.1 x.1.2.2.1 x.1.2.2.2.1
noncomputable def Zq71_l0_s (N : Nat) : LSum := ⟨Zq71_l0_sh, Zq71_l0_ex, fun x ks => Zq71_l0_again N ks N x⟩
theorem Zq71_l0_ok (N : Nat) : LoopOk Tryz.prog Tryz.f159.ntmps (Zq71_l0_s N) (loopAt Zq71_code 0) := loopQ (sh := Zq71_l0_sh) (ex := Zq71_l0_ex) (N := N) (L := []) (fun R k x ks => Zq71_l0_again N ks k x) (Zq71_gok N) (fun _ _ _ => rfl) (fun R k x ks => by kernel_rfl) trivial (by kernel_rfl)
noncomputable def Zq71 (N : Nat) (s : (List (Int × Int))) (f : ((Int × Int) → Option Bool)) : Option ((Int × Unit) × (Unit)) :=
 Zq71_l0 N (fun x => some ((x, ()), ())) (fun (_ : Unit) => some (((-1), ()), ())) N s f (tLen s) 0
noncomputable def Zq71_S (N : Nat) : FSum := ⟨Zq71_ps, Zq71_rs, fun x => Zq71 N x.1 x.2.1⟩
theorem Zq71_pc (N : Nat) : PC Tryz.prog 159 (Zq71_S N) := pcQ (L := [Zq71_l0_s N]) (Zq71_gok N) Tryz.call159 Tryz.func159 (fun x => by kernel_rfl) ⟨Zq71_l0_ok N, trivial⟩ (by kernel_rfl)

abbrev Zq67_ps : List (PV.Mode × Ty) := [(.ro, LQII), (.ro, FQIIBo)]
abbrev Zq67_rs : List (Bool × Ty) := [(true, .bool)]
noncomputable def Zq67_G (N : Nat) : GTab := gOf [(159, Zq71_S N)]
theorem Zq67_gok (N : Nat) : GOk Tryz.prog (Zq67_G N) := gOf_ok ⟨Zq71_pc N, trivial⟩
noncomputable def Zq67_code : Code := (Tryz.f141.body).getD .skip
noncomputable def Zq67 (N : Nat) (s : (List (Int × Int))) (f : ((Int × Int) → Option Bool)) : Option ((Bool × Unit) × (Unit)) :=
 ((Zq71 N s f).bind fun r =>
 some (((ile 0 r.1.1), ()), ()))
noncomputable def Zq67_S (N : Nat) : FSum := ⟨Zq67_ps, Zq67_rs, fun x => Zq67 N x.1 x.2.1⟩
theorem Zq67_pc (N : Nat) : PC Tryz.prog 141 (Zq67_S N) := pcQ (L := []) (Zq67_gok N) Tryz.call141 Tryz.func141 (fun x => by kernel_rfl) trivial (by kernel_rfl)

abbrev Zq31_ps : List (PV.Mode × Ty) := [(.ro, U64), (.ro, I)]
abbrev Zq31_rs : List (Bool × Ty) := [(true, .bool)]
noncomputable def Zq31_G (N : Nat) : GTab := gOf []
theorem Zq31_gok (N : Nat) : GOk Tryz.prog (Zq31_G N) := gOf_ok trivial
noncomputable def Zq31_code : Code := (Tryz.f103.body).getD .skip
noncomputable def Zq31 (N : Nat) (b : Int) (x : Int) : Option ((Bool × Unit) × (Unit)) :=
 (chk (ile 0 x)
 (some (((ieq (bitop .and .u64 (shrI .u64 b x) 1) 1), ()), ())))
noncomputable def Zq31_S (N : Nat) : FSum := ⟨Zq31_ps, Zq31_rs, fun x => Zq31 N x.1 x.2.1⟩
theorem Zq31_pc (N : Nat) : PC Tryz.prog 103 (Zq31_S N) := pcQ (L := []) (Zq31_gok N) Tryz.call103 Tryz.func103 (fun x => by kernel_rfl) trivial (by kernel_rfl)

abbrev Zq12_ps : List (PV.Mode × Ty) := [(.ro, QII), (.ro, AU64)]
abbrev Zq12_rs : List (Bool × Ty) := [(true, .bool)]
noncomputable def Zq12_G (N : Nat) : GTab := gOf [(103, Zq31_S N)]
theorem Zq12_gok (N : Nat) : GOk Tryz.prog (Zq12_G N) := gOf_ok ⟨Zq31_pc N, trivial⟩
noncomputable def Zq12_code : Code := (Tryz.f142.body).getD .skip
noncomputable def Zq12 (N : Nat) (e : (Int × Int)) (c : Int) : Option ((Bool × Unit) × (Unit)) :=
 ((Zq31 N c e.1).bind fun r =>
 (br r.1.1
 (((Zq31 N c e.2).bind fun r1 =>
 some ((r1.1.1, ()), ())))
 (some ((false, ()), ()))))
noncomputable def Zq12_S (N : Nat) : FSum := ⟨Zq12_ps, Zq12_rs, fun x => Zq12 N x.1 x.2.1⟩
theorem Zq12_pc (N : Nat) : PC Tryz.prog 142 (Zq12_S N) := pcQ (L := []) (Zq12_gok N) Tryz.call142 Tryz.func142 (fun x => by kernel_rfl) trivial (by kernel_rfl)

abbrev Zq11_ps : List (PV.Mode × Ty) := [(.ro, QILQII), (.ro, U64)]
abbrev Zq11_rs : List (Bool × Ty) := [(true, .bool)]
noncomputable def Zq11_G (N : Nat) : GTab := gOf [(141, Zq67_S N), (142, Zq12_S N)]
theorem Zq11_gok (N : Nat) : GOk Tryz.prog (Zq11_G N) := gOf_ok ⟨Zq67_pc N, Zq12_pc N, trivial⟩
noncomputable def Zq11_code : Code := (Tryz.f101.body).getD .skip
noncomputable def Zq11 (N : Nat) (g : (Int × (List (Int × Int)))) (b : Int) : Option ((Bool × Unit) × (Unit)) :=
 ((Zq67 N g.2 (fun y0 => (Zq12 N y0 b).bind fun z => some z.1.1)).bind fun r =>
 some (((!r.1.1), ()), ()))
noncomputable def Zq11_S (N : Nat) : FSum := ⟨Zq11_ps, Zq11_rs, fun x => Zq11 N x.1 x.2.1⟩
theorem Zq11_pc (N : Nat) : PC Tryz.prog 101 (Zq11_S N) := pcQ (L := []) (Zq11_gok N) Tryz.call101 Tryz.func101 (fun x => by kernel_rfl) trivial (by kernel_rfl)

abbrev Zq32_ps : List (PV.Mode × Ty) := [(.ro, U64)]
abbrev Zq32_rs : List (Bool × Ty) := [(true, LI)]
noncomputable def Zq32_G (N : Nat) : GTab := gOf []
theorem Zq32_gok (N : Nat) : GOk Tryz.prog (Zq32_G N) := gOf_ok trivial
noncomputable def Zq32_code : Code := (Tryz.f85.body).getD .skip
noncomputable def Zq32_l0_sh : Sh := ⟨[(0, .one (.ro U64)), (3, .one (.ref 0)), (6, .one (.ro I))], [.sl 3 I .own]⟩
noncomputable def Zq32_l0_ex : List (Ex × Sh) := [(.exit 0, ⟨[(3, .one (.ref 0))], [.sl 3 I .own]⟩)]
noncomputable def Zq32_l0 {R : Type} (N : Nat) (k0 : (List Int) → Option R) : Nat → Int → Int → (List Int) → Option R
 | 0, _, _, _ => none
 | K + 1, b1, x, o =>
 (br (ilt x 8)
 ((chk (ile 0 x)
 (br (ieq (bitop .and .u64 (shrI .u64 b1 x) 1) 1)
 ((chk (room o [x])
 (Zq32_l0 N k0 K b1 (IntKind.i64.wrap (x + 1)) (tApp o [x]))))
 (Zq32_l0 N k0 K b1 (IntKind.i64.wrap (x + 1)) o))))
 (k0 o))
noncomputable def Zq32_l0_again {R : Type} (N : Nat) (ks : KS Zq32_l0_ex R) (k : Nat) (x : Zq32_l0_sh.T) : Option R :=
 Zq32_l0 N (fun y0 => ks 0 (((), ()), (y0, ()))) k x.1.1 x.1.2.2.1 x.2.1
noncomputable def Zq32_l0_s (N : Nat) : LSum := ⟨Zq32_l0_sh, Zq32_l0_ex, fun x ks => Zq32_l0_again N ks N x⟩
theorem Zq32_l0_ok (N : Nat) : LoopOk Tryz.prog Tryz.f85.ntmps (Zq32_l0_s N) (loopAt Zq32_code 0) := loopQ (sh := Zq32_l0_sh) (ex := Zq32_l0_ex) (N := N) (L := []) (fun R k x ks => Zq32_l0_again N ks k x) (Zq32_gok N) (fun _ _ _ => rfl) (fun R k x ks => by kernel_rfl) trivial (by kernel_rfl)
noncomputable def Zq32 (N : Nat) (b : Int) : Option (((List Int) × Unit) × (Unit)) :=
 Zq32_l0 N (fun o => some ((o, ()), ())) N b 0 []
noncomputable def Zq32_S (N : Nat) : FSum := ⟨Zq32_ps, Zq32_rs, fun x => Zq32 N x.1⟩
theorem Zq32_pc (N : Nat) : PC Tryz.prog 85 (Zq32_S N) := pcQ (L := [Zq32_l0_s N]) (Zq32_gok N) Tryz.call85 Tryz.func85 (fun x => by kernel_rfl) ⟨Zq32_l0_ok N, trivial⟩ (by kernel_rfl)

abbrev Zq48_ps : List (PV.Mode × Ty) := [(.ro, I), (.ro, I)]
abbrev Zq48_rs : List (Bool × Ty) := [(true, QII)]
noncomputable def Zq48_G (N : Nat) : GTab := gOf []
theorem Zq48_gok (N : Nat) : GOk Tryz.prog (Zq48_G N) := gOf_ok trivial
noncomputable def Zq48_code : Code := (Tryz.f48.body).getD .skip
noncomputable def Zq48 (N : Nat) (a : Int) (b : Int) : Option (((Int × Int) × Unit) × (Unit)) :=
 some ((((if b < a then b else a), (if b > a then b else a)), ()), ())
noncomputable def Zq48_S (N : Nat) : FSum := ⟨Zq48_ps, Zq48_rs, fun x => Zq48 N x.1 x.2.1⟩
theorem Zq48_pc (N : Nat) : PC Tryz.prog 48 (Zq48_S N) := pcQ (L := []) (Zq48_gok N) Tryz.call48 Tryz.func48 (fun x => by kernel_rfl) trivial (by kernel_rfl)

abbrev Zq72_ps : List (PV.Mode × Ty) := [(.ro, LQII), (.ro, QII)]
abbrev Zq72_rs : List (Bool × Ty) := [(true, I)]
noncomputable def Zq72_G (N : Nat) : GTab := gOf []
theorem Zq72_gok (N : Nat) : GOk Tryz.prog (Zq72_G N) := gOf_ok trivial
noncomputable def Zq72_code : Code := (Tryz.f149.body).getD .skip
noncomputable def Zq72_l0_sh : Sh := ⟨[(0, .one (.ro LQII)), (3, .one (.adr 0 0)), (7, .one (.ro I)), (8, .one (.ro I))], [.box [.ro I, .ro I]]⟩
noncomputable def Zq72_l0_ex : List (Ex × Sh) := [(.ret, ⟨[(4, .one (.ro I))], []⟩), (.exit 0, ⟨[], []⟩)]
noncomputable def Zq72_l0 {R : Type} (N : Nat) (k0 : Int → Option R) (k1 : Unit → Option R) : Nat → (List (Int × Int)) → Int → Int → Int → Int → Option R
 | 0, _, _, _, _, _ => none
 | K + 1, s1, x, x1, o, o1 =>
 (br (ilt x1 x)
 ((chk (inb s1 x1)
 (br (ieq o ((rdP s1 x1).1) && ieq o1 ((rdP s1 x1).2))
 (k0 x1)
 (Zq72_l0 N k0 k1 K s1 x (IntKind.i64.wrap (x1 + 1)) o o1))))
 (k1 ()))
noncomputable def Zq72_l0_again {R : Type} (N : Nat) (ks : KS Zq72_l0_ex R) (k : Nat) (x : Zq72_l0_sh.T) : Option R :=
 Zq72_l0 N (fun y0 => ks 0 ((y0, ()), ())) (fun (_ : Unit) => ks 1 ((), ())) k x.1.1 x.1.2.2.1 x.1.2.2.2.1 x.2.1.1 x.2.1.2.1
noncomputable def Zq72_l0_s (N : Nat) : LSum := ⟨Zq72_l0_sh, Zq72_l0_ex, fun x ks => Zq72_l0_again N ks N x⟩
theorem Zq72_l0_ok (N : Nat) : LoopOk Tryz.prog Tryz.f149.ntmps (Zq72_l0_s N) (loopAt Zq72_code 0) := loopQ (sh := Zq72_l0_sh) (ex := Zq72_l0_ex) (N := N) (L := []) (fun R k x ks => Zq72_l0_again N ks k x) (Zq72_gok N) (fun _ _ _ => rfl) (fun R k x ks => by kernel_rfl) trivial (by kernel_rfl)
noncomputable def Zq72 (N : Nat) (s : (List (Int × Int))) (v : (Int × Int)) : Option ((Int × Unit) × (Unit)) :=
 Zq72_l0 N (fun x => some ((x, ()), ())) (fun (_ : Unit) => some (((-1), ()), ())) N s (tLen s) 0 v.1 v.2
noncomputable def Zq72_S (N : Nat) : FSum := ⟨Zq72_ps, Zq72_rs, fun x => Zq72 N x.1 x.2.1⟩
theorem Zq72_pc (N : Nat) : PC Tryz.prog 149 (Zq72_S N) := pcQ (L := [Zq72_l0_s N]) (Zq72_gok N) Tryz.call149 Tryz.func149 (fun x => by kernel_rfl) ⟨Zq72_l0_ok N, trivial⟩ (by kernel_rfl)

abbrev Zq68_ps : List (PV.Mode × Ty) := [(.ro, LQII), (.ro, QII)]
abbrev Zq68_rs : List (Bool × Ty) := [(true, .bool)]
noncomputable def Zq68_G (N : Nat) : GTab := gOf [(149, Zq72_S N)]
theorem Zq68_gok (N : Nat) : GOk Tryz.prog (Zq68_G N) := gOf_ok ⟨Zq72_pc N, trivial⟩
noncomputable def Zq68_code : Code := (Tryz.f117.body).getD .skip
noncomputable def Zq68 (N : Nat) (s : (List (Int × Int))) (v : (Int × Int)) : Option ((Bool × Unit) × (Unit)) :=
 ((Zq72 N s (v.1, v.2)).bind fun r =>
 some (((ile 0 r.1.1), ()), ()))
noncomputable def Zq68_S (N : Nat) : FSum := ⟨Zq68_ps, Zq68_rs, fun x => Zq68 N x.1 x.2.1⟩
theorem Zq68_pc (N : Nat) : PC Tryz.prog 117 (Zq68_S N) := pcQ (L := []) (Zq68_gok N) Tryz.call117 Tryz.func117 (fun x => by kernel_rfl) trivial (by kernel_rfl)
end Go.Proofs.YtahehkidnfmfnaaGreat
