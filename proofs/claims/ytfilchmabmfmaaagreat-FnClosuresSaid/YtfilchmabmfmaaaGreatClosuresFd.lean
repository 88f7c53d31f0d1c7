/- Functions of the program as functions on data. -/
import Derived.Test.YtfilchmabmfmaaaGreatClosuresFc
set_option linter.all false
namespace Go.Proofs.YtfilchmabmfmaaaGreat
open Go Go.PV
abbrev Zq34_ps : List (PV.Mode × Ty) := [(.ro, LQII), (.ro, LQII)]
abbrev Zq34_rs : List (Bool × Ty) := [(true, .bool)]
noncomputable def Zq34_G (N : Nat) : GTab := gOf []
theorem Zq34_gok (N : Nat) : GOk Tryz.prog (Zq34_G N) := gOf_ok trivial
noncomputable def Zq34_code : Code := (Tryz.f66.body).getD .skip
noncomputable def Zq34_l0_sh : Sh := ⟨[(0, .one (.ro LQII)), (1, .one (.ro LQII)), (5, .one (.ro I))], []⟩
noncomputable def Zq34_l0_ex : List (Ex × Sh) := [(.ret, ⟨[(4, .one (.ro .bool))], []⟩), (.exit 0, ⟨[], []⟩)]
noncomputable def Zq34_l0 {R : Type} (N : Nat) (k0 : Bool → Option R) (k1 : Unit → Option R) : Nat → (List (Int × Int)) → (List (Int × Int)) → Int → Option R
 | 0, _, _, _ => none
 | K + 1, a1, b1, i =>
 (br (ilt i (tLen a1))
 ((chk (inb a1 i)
 (chk (inb b1 i)
 (br (!(ieq ((rdP a1 i).1) ((rdP b1 i).1) && ieq ((rdP a1 i).2) ((rdP b1 i).2)))
 (k0 false)
 (Zq34_l0 N k0 k1 K a1 b1 (IntKind.i64.wrap (i + 1)))))))
 (k1 ()))
noncomputable def Zq34_l0_again {R : Type} (N : Nat) (ks : KS Zq34_l0_ex R) (k : Nat) (x : Zq34_l0_sh.T) : Option R :=
 Zq34_l0 N (fun y0 => ks 0 ((y0, ()), ())) (fun (_ : Unit) => ks 1 ((), ())) k x.1.1 x.1.2.1 x.1.2.2.1
noncomputable def Zq34_l0_s (N : Nat) : LSum := ⟨Zq34_l0_sh, Zq34_l0_ex, fun x ks => Zq34_l0_again N ks N x⟩
theorem Zq34_l0_ok (N : Nat) : LoopOk Tryz.prog Tryz.f66.ntmps (Zq34_l0_s N) (loopAt Zq34_code 0) := loopQ (sh := Zq34_l0_sh) (ex := Zq34_l0_ex) (N := N) (L := []) (fun R k x ks => Zq34_l0_again N ks k x) (Zq34_gok N) (fun _ _ _ => rfl) (fun R k x ks => by kernel_rfl) trivial (by kernel_rfl)
noncomputable def Zq34 (N : Nat) (a : (List (Int × Int))) (b : (List (Int × Int))) : Option ((Bool × Unit) × (Unit)) :=
 (br (ine (tLen a) (tLen b))
 (some ((false, ()), ()))
 (Zq34_l0 N (fun x => some ((x, ()), ())) (fun (_ : Unit) => some ((true, ()), ())) N a b 0))
noncomputable def Zq34_S (N : Nat) : FSum := ⟨Zq34_ps, Zq34_rs, fun x => Zq34 N x.1 x.2.1⟩
theorem Zq34_pc (N : Nat) : PC Tryz.prog 66 (Zq34_S N) := pcQ (L := [Zq34_l0_s N]) (Zq34_gok N) Tryz.call66 Tryz.func66 (fun x => by kernel_rfl) ⟨Zq34_l0_ok N, trivial⟩ (by kernel_rfl)

abbrev Zq35_ps : List (PV.Mode × Ty) := [(.ro, QLLILQII), (.ro, QLLILQII)]
abbrev Zq35_rs : List (Bool × Ty) := [(true, .bool)]
noncomputable def Zq35_G (N : Nat) : GTab := gOf [(13, Zq36_S N), (66, Zq34_S N)]
theorem Zq35_gok (N : Nat) : GOk Tryz.prog (Zq35_G N) := gOf_ok ⟨Zq36_pc N, Zq34_pc N, trivial⟩
noncomputable def Zq35_code : Code := (Tryz.f19.body).getD .skip
noncomputable def Zq35 (N : Nat) (a : ((List (List Int)) × (List (Int × Int)))) (b : ((List (List Int)) × (List (Int × Int)))) : Option ((Bool × Unit) × (Unit)) :=
 ((Zq36 N a.1 b.1).bind fun r =>
 (br r.1.1
 (((Zq34 N a.2 b.2).bind fun r1 =>
 some ((r1.1.1, ()), ())))
 (some ((false, ()), ()))))
noncomputable def Zq35_S (N : Nat) : FSum := ⟨Zq35_ps, Zq35_rs, fun x => Zq35 N x.1 x.2.1⟩
theorem Zq35_pc (N : Nat) : PC Tryz.prog 19 (Zq35_S N) := pcQ (L := []) (Zq35_gok N) Tryz.call19 Tryz.func19 (fun x => by kernel_rfl) trivial (by kernel_rfl)

abbrev Zq32_ps : List (PV.Mode × Ty) := [(.ro, LLI), (.ro, LI)]
abbrev Zq32_rs : List (Bool × Ty) := [(true, I)]
noncomputable def Zq32_G (N : Nat) : GTab := gOf [(30, Zq33_S N)]
theorem Zq32_gok (N : Nat) : GOk Tryz.prog (Zq32_G N) := gOf_ok ⟨Zq33_pc N, trivial⟩
noncomputable def Zq32_code : Code := (Tryz.f20.body).getD .skip
noncomputable def Zq32_l0_sh : Sh := ⟨[(0, .one (.ro LLI)), (1, .one (.ro LI)), (5, .one (.ro I))], []⟩
noncomputable def Zq32_l0_ex : List (Ex × Sh) := [(.ret, ⟨[(4, .one (.ro I))], []⟩), (.exit 0, ⟨[], []⟩)]
noncomputable def Zq32_l0 {R : Type} (N : Nat) (k0 : Int → Option R) (k1 : Unit → Option R) : Nat → (List (List Int)) → (List Int) → Int → Option R
 | 0, _, _, _ => none
 | K + 1, lists1, x1, i =>
 (br (ilt i (tLen lists1))
 ((chk (inb lists1 i)
 ((Zq33 N (rdL lists1 i) x1).bind fun r =>
 (br r.1.1
 (k0 i)
 (Zq32_l0 N k0 k1 K lists1 x1 (IntKind.i64.wrap (i + 1)))))))
 (k1 ()))
noncomputable def Zq32_l0_again {R : Type} (N : Nat) (ks : KS Zq32_l0_ex R) (k : Nat) (x : Zq32_l0_sh.T) : Option R :=
 Zq32_l0 N (fun y0 => ks 0 ((y0, ()), ())) (fun (_ : Unit) => ks 1 ((), ())) k x.1.1 x.1.2.1 x.1.2.2.1
noncomputable def Zq32_l0_s (N : Nat) : LSum := ⟨Zq32_l0_sh, Zq32_l0_ex, fun x ks => Zq32_l0_again N ks N x⟩
theorem Zq32_l0_ok (N : Nat) : LoopOk Tryz.prog Tryz.f20.ntmps (Zq32_l0_s N) (loopAt Zq32_code 0) := loopQ (sh := Zq32_l0_sh) (ex := Zq32_l0_ex) (N := N) (L := []) (fun R k x ks => Zq32_l0_again N ks k x) (Zq32_gok N) (fun _ _ _ => rfl) (fun R k x ks => by kernel_rfl) trivial (by kernel_rfl)
noncomputable def Zq32 (N : Nat) (lists : (List (List Int))) (x : (List Int)) : Option ((Int × Unit) × (Unit)) :=
 Zq32_l0 N (fun x1 => some ((x1, ()), ())) (fun (_ : Unit) => some (((-1), ()), ())) N lists x 0
noncomputable def Zq32_S (N : Nat) : FSum := ⟨Zq32_ps, Zq32_rs, fun x => Zq32 N x.1 x.2.1⟩
theorem Zq32_pc (N : Nat) : PC Tryz.prog 20 (Zq32_S N) := pcQ (L := [Zq32_l0_s N]) (Zq32_gok N) Tryz.call20 Tryz.func20 (fun x => by kernel_rfl) ⟨Zq32_l0_ok N, trivial⟩ (by kernel_rfl)

abbrev Zq48_ps : List (PV.Mode × Ty) := [(.ro, LU8)]
abbrev Zq48_rs : List (Bool × Ty) := [(false, QILLI), (false, I), (false, I)]
noncomputable def Zq48_G (N : Nat) : GTab := gOf [(35, Zq58_S N), (48, Zq64_S N), (47, Zq65_S N), (49, Zq61_S N), (37, Zq57_S N)]
theorem Zq48_gok (N : Nat) : GOk Tryz.prog (Zq48_G N) := gOf_ok ⟨Zq58_pc N, Zq64_pc N, Zq65_pc N, Zq61_pc N, Zq57_pc N, trivial⟩
noncomputable def Zq48_code : Code := (Tryz.f21.body).getD .skip
noncomputable def Zq48 (N : Nat) (code : (List Int)) : Option (((Int × (List (List Int))) × Int × Int × Unit) × (Unit)) :=
 ((Zq58 N (code, (0, 0))).bind fun r =>
 ((Zq64 N r.1.1.1 7).bind fun r1 =>
 ((Zq65 N r1.1.1 0).bind fun r2 =>
 ((Zq61 N (r.2.1.1, (r.2.1.2.1, r.2.1.2.2)) (IntKind.i64.wrap (r2.1.1 + 2))).bind fun r3 =>
 ((Zq61 N r3.2.1 2).bind fun r4 =>
 ((Zq57 N r4.2.1 [0, 1, 0, 1, 2, (-1)]).bind fun r5 =>
 some (((r.1.1.1, r.1.1.2), (IntKind.i64.wrap (r3.1.1 - r4.1.1)), r5.1.1, ()), ())))))))
noncomputable def Zq48_S (N : Nat) : FSum := ⟨Zq48_ps, Zq48_rs, fun x => Zq48 N x.1⟩
theorem Zq48_pc (N : Nat) : PC Tryz.prog 21 (Zq48_S N) := pcQ (L := []) (Zq48_gok N) Tryz.call21 Tryz.func21 (fun x => by kernel_rfl) trivial (by kernel_rfl)

abbrev Zq3_ps : List (PV.Mode × Ty) := [(.ro, QILLI), (.ro, I), (.ro, I)]
abbrev Zq3_rs : List (Bool × Ty) := [(true, QILLI), (true, .bool)]
noncomputable def Zq3_G (N : Nat) : GTab := gOf [(38, Zq13_S N), (39, Zq18_S N), (52, Zq19_S N)]
theorem Zq3_gok (N : Nat) : GOk Tryz.prog (Zq3_G N) := gOf_ok ⟨Zq13_pc N, Zq18_pc N, Zq19_pc N, trivial⟩
noncomputable def Zq3_code : Code := (Tryz.f22.body).getD .skip
noncomputable def Zq3 (N : Nat) (f : (Int × (List (List Int)))) (v : Int) (bit : Int) : Option (((Int × (List (List Int))) × Bool × Unit) × (Unit)) :=
 ((Zq13 N (f.1, f.2)).bind fun r =>
 (br (!r.1.1)
 (some (((0, []), false, ()), ()))
 (((Zq18 N v 0 (IntKind.i64.wrap (f.1 - 1))).bind fun r1 =>
 (br (!r1.1.1)
 (some (((0, []), false, ()), ()))
 (((Zq18 N bit 0 1).bind fun r2 =>
 (br (!r2.1.1)
 (some (((0, []), false, ()), ()))
 ((br (ieq (tLen f.2) 64)
 (some (((0, []), false, ()), ()))
 ((br (ieq bit 0)
 (((Zq19 N f.2).bind fun r3 =>
 (chk (room r3.1.1 [[(IntKind.i64.wrap (0 - (IntKind.i64.wrap (v + 1))))]])
 (some (((f.1, (tApp r3.1.1 [[(IntKind.i64.wrap (0 - (IntKind.i64.wrap (v + 1))))]])), true, ()), ())))))
 (((Zq19 N f.2).bind fun r4 =>
 (chk (room r4.1.1 [[(IntKind.i64.wrap (v + 1))]])
 (some (((f.1, (tApp r4.1.1 [[(IntKind.i64.wrap (v + 1))]])), true, ()), ())))))))))))))))))
noncomputable def Zq3_S (N : Nat) : FSum := ⟨Zq3_ps, Zq3_rs, fun x => Zq3 N x.1 x.2.1 x.2.2.1⟩
theorem Zq3_pc (N : Nat) : PC Tryz.prog 22 (Zq3_S N) := pcQ (L := []) (Zq3_gok N) Tryz.call22 Tryz.func22 (fun x => by kernel_rfl) trivial (by kernel_rfl)

abbrev Zq66_ps : List (PV.Mode × Ty) := [(.ro, LI)]
abbrev Zq66_rs : List (Bool × Ty) := [(true, LI)]
noncomputable def Zq66_G (N : Nat) : GTab := gOf []
theorem Zq66_gok (N : Nat) : GOk Tryz.prog (Zq66_G N) := gOf_ok trivial
noncomputable def Zq66_code : Code := (Tryz.f67.body).getD .skip
noncomputable def Zq66 (N : Nat) (l : (List Int)) : Option (((List Int) × Unit) × (Unit)) :=
 (chk (room (α := Int) (β := Int) [] l)
 (some (((tApp [] l), ()), ())))
noncomputable def Zq66_S (N : Nat) : FSum := ⟨Zq66_ps, Zq66_rs, fun x => Zq66 N x.1⟩
theorem Zq66_pc (N : Nat) : PC Tryz.prog 67 (Zq66_S N) := pcQ (L := []) (Zq66_gok N) Tryz.call67 Tryz.func67 (fun x => by kernel_rfl) trivial (by kernel_rfl)

abbrev Zq52_ps : List (PV.Mode × Ty) := [(.ro, QILLI), (.ro, I), (.ro, I)]
abbrev Zq52_rs : List (Bool × Ty) := [(true, QILLI), (true, .bool)]
noncomputable def Zq52_G (N : Nat) : GTab := gOf [(36, Zq75_S N), (42, Zq63_S N), (67, Zq66_S N)]
theorem Zq52_gok (N : Nat) : GOk Tryz.prog (Zq52_G N) := gOf_ok ⟨Zq75_pc N, Zq63_pc N, Zq66_pc N, trivial⟩
noncomputable def Zq52_code : Code := (Tryz.f23.body).getD .skip
noncomputable def Zq52_l0_sh : Sh := ⟨[(1, .one (.ro I)), (2, .one (.ro I)), (3, .one (.adr 0 0)), (6, .one (.adr 1 0)), (8, .one (.adr 2 0)), (9, .one (.ro I))], [.box [.ro I, .ro LLI], .box [.ro I, .nilsl], .box [.ro I, .ref 3], .sl 33 LI .deep]⟩
noncomputable def Zq52_l0_ex : List (Ex × Sh) := [(.exit 0, ⟨[(1, .one (.ro I)), (2, .one (.ro I)), (6, .one (.adr 0 0)), (8, .one (.adr 1 0))], [.box [.ro I, .nilsl], .box [.ro I, .ref 2], .sl 33 LI .deep]⟩)]
noncomputable def Zq52_l0 {R : Type} (N : Nat) (k0 : Int → Int → Int → Int → (List (List Int)) → Option R) : Nat → Int → Int → Int → Int → (List (List Int)) → Int → Int → (List (List Int)) → Option R
 | 0, _, _, _, _, _, _, _, _ => none
 | K + 1, x, x1, x2, o, o1, o2, o3, o4 =>
 (br (ilt x2 (tLen o1))
 ((chk (inb o1 x2)
 ((Zq66 N (rdL o1 x2)).bind fun r3 =>
 (chk (room o4 [r3.1.1])
 (Zq52_l0 N k0 K x x1 (IntKind.i64.wrap (x2 + 1)) o o1 o2 o3 (tApp o4 [r3.1.1]))))))
 (k0 x x1 o2 o3 o4))
noncomputable def Zq52_l0_again {R : Type} (N : Nat) (ks : KS Zq52_l0_ex R) (k : Nat) (x : Zq52_l0_sh.T) : Option R :=
 Zq52_l0 N (fun y0 y1 y2 y3 y4 => ks 0 ((y0, y1, (), (), ()), ((y2, (), ()), (y3, (), ()), y4, ()))) k x.1.1 x.1.2.1 x.1.2.2.2.2.2.1 x.2.1.1 x.2.1.2.1 x.2.2.1.1 x.2.2.2.1.1 x.2.2.2.2.1
noncomputable def Zq52_l0_s (N : Nat) : LSum := ⟨Zq52_l0_sh, Zq52_l0_ex, fun x ks => Zq52_l0_again N ks N x⟩
theorem Zq52_l0_ok (N : Nat) : LoopOk Tryz.prog Tryz.f23.ntmps (Zq52_l0_s N) (loopAt Zq52_code 0) := loopQ (sh := Zq52_l0_sh) (ex := Zq52_l0_ex) (N := N) (L := []) (fun R k x ks => Zq52_l0_again N ks k x) (Zq52_gok N) (fun _ _ _ => rfl) (fun R k x ks => by kernel_rfl) trivial (by kernel_rfl)
noncomputable def Zq52 (N : Nat) (c : (Int × (List (List Int)))) (c1 : Int) (c2 : Int) : Option (((Int × (List (List Int))) × Bool × Unit) × (Unit)) :=
 ((Zq75 N (c.1, c.2)).bind fun r =>
 (br (!r.1.1)
 (some (((0, []), false, ()), ()))
 (((Zq63 N c1 0 (IntKind.i64.wrap (c.1 - 1))).bind fun r1 =>
 (br (!r1.1.1)
 (some (((0, []), false, ()), ()))
 (((Zq63 N c2 0 1).bind fun r2 =>
 (br (!r2.1.1)
 (some (((0, []), false, ()), ()))
 ((br (ieq (tLen c.2) 64)
 (some (((0, []), false, ()), ()))
 (Zq52_l0 N (fun x x1 o o1 o2 => (br (ieq x1 1)
 ((chk (room o2 [[(IntKind.i64.wrap (x + 1))]])
 (some (((o1, (tApp o2 [[(IntKind.i64.wrap (x + 1))]])), true, ()), ()))))
 ((chk (room o2 [[(IntKind.i64.wrap ((-1) - x))]])
 (some (((o1, (tApp o2 [[(IntKind.i64.wrap ((-1) - x))]])), true, ()), ())))))) N c1 c2 0 c.1 c.2 0 c.1 [])))))))))))
noncomputable def Zq52_S (N : Nat) : FSum := ⟨Zq52_ps, Zq52_rs, fun x => Zq52 N x.1 x.2.1 x.2.2.1⟩
theorem Zq52_pc (N : Nat) : PC Tryz.prog 23 (Zq52_S N) := pcQ (L := [Zq52_l0_s N]) (Zq52_gok N) Tryz.call23 Tryz.func23 (fun x => by kernel_rfl) ⟨Zq52_l0_ok N, trivial⟩ (by kernel_rfl)

abbrev Zq30_ps : List (PV.Mode × Ty) := [(.ro, LU8)]
abbrev Zq30_rs : List (Bool × Ty) := [(true, .bool)]
noncomputable def Zq30_G (N : Nat) : GTab := gOf [(5, Zq31_S N), (6, Zq50_S N), (7, Zq12_S N), (8, Zq55_S N), (9, Zq2_S N), (10, Zq51_S N), (11, Zq14_S N), (12, Zq56_S N), (13, Zq36_S N), (14, Zq49_S N), (15, Zq5_S N), (16, Zq54_S N), (17, Zq4_S N), (18, Zq53_S N), (19, Zq35_S N), (20, Zq32_S N), (21, Zq48_S N), (22, Zq3_S N), (23, Zq52_S N)]
theorem Zq30_gok (N : Nat) : GOk Tryz.prog (Zq30_G N) := gOf_ok ⟨Zq31_pc N, Zq50_pc N, Zq12_pc N, Zq55_pc N, Zq2_pc N, Zq51_pc N, Zq14_pc N, Zq56_pc N, Zq36_pc N, Zq49_pc N, Zq5_pc N, Zq54_pc N, Zq4_pc N, Zq53_pc N, Zq35_pc N, Zq32_pc N, Zq48_pc N, Zq3_pc N, Zq52_pc N, trivial⟩
noncomputable def Zq30_code : Code := (Tryz.f3.body).getD .skip
noncomputable def Zq30_l0_sh : Sh := ⟨[(0, .one (.ro LU8)), (30, .one (.ro LLI)), (35, .one (.adr 0 0)), (39, .one (.ro I))], [.box [.ref 1, .ref 2], .sl 33 LI .deep, .sl 108 QII .own]⟩
noncomputable def Zq30_l0_ex : List (Ex × Sh) := [(.ret, ⟨[(2, .one (.ro .bool))], []⟩), (.exit 0, ⟨[(0, .one (.ro LU8)), (30, .one (.ro LLI)), (35, .one (.adr 0 0))], [.box [.ref 1, .ref 2], .sl 33 LI .deep, .sl 108 QII .own]⟩)]
noncomputable def Zq30_l0 {R : Type} (N : Nat) (k0 : Bool → Option R) (k1 : (List Int) → (List (List Int)) → (List (List Int)) → (List (Int × Int)) → Option R) : Nat → (List Int) → (List (List Int)) → Int → (List (List Int)) → (List (Int × Int)) → Option R
 | 0, _, _, _, _, _ => none
 | K + 1, x, x1, x2, o, o1 =>
 (br (ilt x2 (tLen o))
 ((chk (inb o x2)
 ((Zq32 N x1 (rdL o x2)).bind fun r20 =>
 (br (ilt r20.1.1 0)
 (k0 false)
 (Zq30_l0 N k0 k1 K x x1 (IntKind.i64.wrap (x2 + 1)) o o1)))))
 (k1 x x1 o o1))
noncomputable def Zq30_l0_again {R : Type} (N : Nat) (ks : KS Zq30_l0_ex R) (k : Nat) (x : Zq30_l0_sh.T) : Option R :=
 Zq30_l0 N (fun y0 => ks 0 ((y0, ()), ())) (fun y0 y1 y2 y3 => ks 1 ((y0, y1, (), ()), (((), (), ()), y2, y3, ()))) k x.1.1 x.1.2.1 x.1.2.2.2.1 x.2.2.1 x.2.2.2.1
noncomputable def Zq30_l0_s (N : Nat) : LSum := ⟨Zq30_l0_sh, Zq30_l0_ex, fun x ks => Zq30_l0_again N ks N x⟩
theorem Zq30_l0_ok (N : Nat) : LoopOk Tryz.prog Tryz.f3.ntmps (Zq30_l0_s N) (loopAt Zq30_code 0) := loopQ (sh := Zq30_l0_sh) (ex := Zq30_l0_ex) (N := N) (L := []) (fun R k x ks => Zq30_l0_again N ks k x) (Zq30_gok N) (fun _ _ _ => rfl) (fun R k x ks => by kernel_rfl) trivial (by kernel_rfl)
noncomputable def Zq30_l1_sh : Sh := ⟨[(0, .one (.ro LU8)), (30, .one (.ro LLI)), (35, .one (.adr 0 0)), (40, .one (.ro I))], [.box [.ref 1, .ref 2], .sl 33 LI .deep, .sl 108 QII .own]⟩
noncomputable def Zq30_l1_ex : List (Ex × Sh) := [(.ret, ⟨[(2, .one (.ro .bool))], []⟩), (.exit 2, ⟨[(0, .one (.ro LU8))], []⟩)]
noncomputable def Zq30_l1 {R : Type} (N : Nat) (k0 : Bool → Option R) (k1 : (List Int) → Option R) : Nat → (List Int) → (List (List Int)) → Int → (List (List Int)) → (List (Int × Int)) → Option R
 | 0, _, _, _, _, _ => none
 | K + 1, x3, x4, x5, o2, o3 =>
 (br (ilt x5 (tLen x4))
 ((chk (inb x4 x5)
 ((Zq32 N o2 (rdL x4 x5)).bind fun r20 =>
 (br (ilt r20.1.1 0)
 (k0 false)
 (Zq30_l1 N k0 k1 K x3 x4 (IntKind.i64.wrap (x5 + 1)) o2 o3)))))
 (k1 x3))
noncomputable def Zq30_l1_again {R : Type} (N : Nat) (ks : KS Zq30_l1_ex R) (k : Nat) (x : Zq30_l1_sh.T) : Option R :=
 Zq30_l1 N (fun y0 => ks 0 ((y0, ()), ())) (fun y0 => ks 1 ((y0, ()), ())) k x.1.1 x.1.2.1 x.1.2.2.2.1 x.2.2.1 x.2.2.2.1
noncomputable def Zq30_l1_s (N : Nat) : LSum := ⟨Zq30_l1_sh, Zq30_l1_ex, fun x ks => Zq30_l1_again N ks N x⟩
theorem Zq30_l1_ok (N : Nat) : LoopOk Tryz.prog Tryz.f3.ntmps (Zq30_l1_s N) (loopAt Zq30_code 1) := loopQ (sh := Zq30_l1_sh) (ex := Zq30_l1_ex) (N := N) (L := []) (fun R k x ks => Zq30_l1_again N ks k x) (Zq30_gok N) (fun _ _ _ => rfl) (fun R k x ks => by kernel_rfl) trivial (by kernel_rfl)
noncomputable def Zq30_l2_sh : Sh := ⟨[(42, .one (.ro I)), (43, .one (.ro I)), (48, .one (.adr 0 0)), (52, .one (.ro I))], [.box [.ref 1, .ref 2], .sl 33 LI .deep, .sl 108 QII .own]⟩
noncomputable def Zq30_l2_ex : List (Ex × Sh) := [(.ret, ⟨[(2, .one (.ro .bool))], []⟩), (.exit 4, ⟨[], []⟩)]
noncomputable def Zq30_l2 {R : Type} (N : Nat) (k0 : Bool → Option R) (k1 : Unit → Option R) : Nat → Int → Int → Int → (List (List Int)) → (List (Int × Int)) → Option R
 | 0, _, _, _, _, _ => none
 | K + 1, x5, x6, x7, o2, o3 =>
 (br (ilt x7 (tLen o2))
 ((chk (inb o2 x7)
 (chk (inb (rdL o2 x7) x5)
 (br (ine (rdI (rdL o2 x7) x5) x6)
 (k0 false)
 (Zq30_l2 N k0 k1 K x5 x6 (IntKind.i64.wrap (x7 + 1)) o2 o3)))))
 (k1 ()))
noncomputable def Zq30_l2_again {R : Type} (N : Nat) (ks : KS Zq30_l2_ex R) (k : Nat) (x : Zq30_l2_sh.T) : Option R :=
 Zq30_l2 N (fun y0 => ks 0 ((y0, ()), ())) (fun (_ : Unit) => ks 1 ((), ())) k x.1.1 x.1.2.1 x.1.2.2.2.1 x.2.2.1 x.2.2.2.1
noncomputable def Zq30_l2_s (N : Nat) : LSum := ⟨Zq30_l2_sh, Zq30_l2_ex, fun x ks => Zq30_l2_again N ks N x⟩
theorem Zq30_l2_ok (N : Nat) : LoopOk Tryz.prog Tryz.f3.ntmps (Zq30_l2_s N) (loopAt Zq30_code 2) := loopQ (sh := Zq30_l2_sh) (ex := Zq30_l2_ex) (N := N) (L := []) (fun R k x ks => Zq30_l2_again N ks k x) (Zq30_gok N) (fun _ _ _ => rfl) (fun R k x ks => by kernel_rfl) trivial (by kernel_rfl)
noncomputable def Zq30 (N : Nat) (c : (List Int)) : Option ((Bool × Unit) × (Unit)) :=
 ((Zq31 N c).bind fun r => (br r.1.1 (some ((true, ()), ())) (((Zq50 N c).bind fun r1 => ((Zq12 N (r1.1.1.1, r1.1.1.2) r1.1.2.1).bind fun r2 => ((Zq55 N (r1.1.1.1, r1.1.1.2) r1.1.2.1).bind fun r3 => (br (! (r2.1.1 == r3.1.1)) (some ((false, ()), ())) ((br (! (r2.1.2.1 == r3.1.2.1)) (some ((false, ()), ())) ((shr (((Zq51 N c).bind fun r5 => ((Zq14 N (r5.1.1.1, r5.1.1.2) r5.1.2.1).bind fun r6 => ((Zq56 N (r5.1.1.1, r5.1.1.2) r5.1.2.1).bind fun r7 => (br (! (r6.1.2.1 == r7.1.2.1)) (some ((false, ()), ())) ((br (ine r6.1.1.1 r7.1.1.1) (some ((false, ()), ())) (((Zq36 N r6.1.1.2 r7.1.1.2).bind fun r8 => (br (!r8.1.1) (some ((false, ()), ())) ((shr (((Zq49 N c).bind fun r13 => ((Zq5 N r13.1.1 r13.1.2.1).bind fun r14 => ((Zq54 N r13.1.1 r13.1.2.1).bind fun r15 => (br (! (r14.1.2.1 == r15.1.2.1)) (some ((false, ()), ())) ((br (ine r14.1.1.1 r15.1.1.1) (some ((false, ()), ())) (((Zq36 N r14.1.1.2 r15.1.1.2).bind fun r16 => (br (!r16.1.1) (some ((false, ()), ())) ((br r14.1.2.1 (((Zq4 N (r14.1.1.1, r14.1.1.2)).bind fun r17 => ((Zq53 N (r14.1.1.1, r14.1.1.2)).bind fun r18 => (br (!r17.1.2.1) (some ((false, ()), ())) ((br (!r18.1.2.1) (some ((false, ()), ())) (((Zq35 N (r17.1.1.1, r17.1.1.2) (r18.1.1.1, r18.1.1.2)).bind fun r19 => (br (!r19.1.1) (some ((false, ()), ())) (Zq30_l0 N (fun x => some ((x, ()), ())) (fun x1 x2 o o1 => Zq30_l1 N (fun x3 => some ((x3, ()), ())) (fun x4 => ((Zq48 N x4).bind fun r20 => ((Zq3 N (r20.1.1.1, r20.1.1.2) r20.1.2.1 r20.1.2.2.1).bind fun r21 => ((Zq52 N (r20.1.1.1, r20.1.1.2) r20.1.2.1 r20.1.2.2.1).bind fun r22 => (br (! (r21.1.2.1 == r22.1.2.1)) (some ((false, ()), ())) ((br (ine r21.1.1.1 r22.1.1.1) (some ((false, ()), ())) (((Zq36 N r21.1.1.2 r22.1.1.2).bind fun r23 => (br (!r23.1.1) (some ((false, ()), ())) ((br (!r21.1.2.1) (some ((true, ()), ())) (((Zq4 N (r21.1.1.1, r21.1.1.2)).bind fun r24 => ((Zq53 N (r21.1.1.1, r21.1.1.2)).bind fun r25 => (br (!r24.1.2.1) (some ((false, ()), ())) ((br (!r25.1.2.1) (some ((false, ()), ())) (((Zq35 N (r24.1.1.1, r24.1.1.2) (r25.1.1.1, r25.1.1.2)).bind fun r26 => (br (!r26.1.1) (some ((false, ()), ())) (Zq30_l2 N (fun x5 => some ((x5, ()), ())) (fun (_ : Unit) => some ((true, ()), ())) N r20.1.2.1 r20.1.2.2.1 0 r24.1.1.1 r24.1.1.2)))))))))))))))))))))) N x1 x2 0 o o1) N c r13.1.2.1 0 r17.1.1.1 r17.1.1.2)))))))))) (((Zq48 N c).bind fun r27 => ((Zq3 N (r27.1.1.1, r27.1.1.2) r27.1.2.1 r27.1.2.2.1).bind fun r28 => ((Zq52 N (r27.1.1.1, r27.1.1.2) r27.1.2.1 r27.1.2.2.1).bind fun r29 => (br (! (r28.1.2.1 == r29.1.2.1)) (some ((false, ()), ())) ((br (ine r28.1.1.1 r29.1.1.1) (some ((false, ()), ())) (((Zq36 N r28.1.1.2 r29.1.1.2).bind fun r30 => (br (!r30.1.1) (some ((false, ()), ())) ((br (!r28.1.2.1) (some ((true, ()), ())) (((Zq4 N (r28.1.1.1, r28.1.1.2)).bind fun r31 => ((Zq53 N (r28.1.1.1, r28.1.1.2)).bind fun r32 => (br (!r31.1.2.1) (some ((false, ()), ())) ((br (!r32.1.2.1) (some ((false, ()), ())) (((Zq35 N (r31.1.1.1, r31.1.1.2) (r32.1.1.1, r32.1.1.2)).bind fun r33 => (br (!r33.1.1) (some ((false, ()), ())) (Zq30_l2 N (fun x6 => some ((x6, ()), ())) (fun (_ : Unit) => some ((true, ()), ())) N r27.1.2.1 r27.1.2.2.1 0 r31.1.1.1 r31.1.1.2)))))))))))))))))))))))))))))))))) (fun jj4 => (br r6.1.2.1 (((Zq14 N (r6.1.1.1, r6.1.1.2) r5.1.2.1).bind fun r9 => (br (!r9.1.2.1) (some ((false, ()), ())) (((Zq36 N r9.1.1.2 r5.1.1.2).bind fun r10 => (br (!r10.1.1) (some ((false, ()), ())) ((br (ieq (tLen r5.1.2.1) r5.1.1.1) (((Zq2 N (r5.1.1.1, r5.1.1.2)).bind fun r11 => ((Zq2 N (r6.1.1.1, r6.1.1.2)).bind fun r12 => (br (!r11.1.2.2.2.1) (some ((false, ()), ())) ((br (!r12.1.2.2.2.1) (some ((false, ()), ())) ((br (! (r11.1.2.1 == r12.1.2.2.1)) (some ((false, ()), ())) ((br (! (r11.1.2.2.1 == r12.1.2.1)) (some ((false, ()), ())) jj4)))))))))) jj4)))))))) jj4)))))))))))))) (fun jj3 => (br r2.1.2.1 (((Zq2 N (r1.1.1.1, r1.1.1.2)).bind fun r4 => (br (!r4.1.2.2.2.1) (some ((false, ()), ())) ((shr ((shr ((br (ieq r1.1.2.1 3) ((br r4.1.2.2.1 ((br (!r2.1.1) (some ((false, ()), ())) jj3)) jj3)) jj3)) (fun jj2 => (br (ieq r1.1.2.1 2) ((br r4.1.2.1 ((br (!r2.1.1) (some ((false, ()), ())) jj2)) jj2)) jj2)))) (fun jj1 => (br (ieq r1.1.2.1 1) ((br r4.1.1 ((br (!r2.1.1) (some ((false, ()), ())) jj1)) jj1)) jj1))))))) jj3)))))))))))))
noncomputable def Zq30_S (N : Nat) : FSum := ⟨Zq30_ps, Zq30_rs, fun x => Zq30 N x.1⟩
theorem Zq30_pc (N : Nat) : PC Tryz.prog 3 (Zq30_S N) := pcQ (L := [Zq30_l0_s N, Zq30_l1_s N, Zq30_l2_s N]) (Zq30_gok N) Tryz.call3 Tryz.func3 (fun x => by kernel_rfl) ⟨Zq30_l0_ok N, Zq30_l1_ok N, Zq30_l2_ok N, trivial⟩ (by kernel_rfl)
end Go.Proofs.YtfilchmabmfmaaaGreat
