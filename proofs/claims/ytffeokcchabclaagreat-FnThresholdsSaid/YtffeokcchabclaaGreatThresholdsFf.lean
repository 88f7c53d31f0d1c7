/- Functions of the program as functions on data. -/
import Derived.Test.YtffeokcchabclaaGreatThresholdsFe
set_option linter.all false
namespace Go.Proofs.YtffeokcchabclaaGreat
open Go Go.PV
abbrev Zq48_ps : List (PV.Mode × Ty) := [(.ro, I)]
abbrev Zq48_rs : List (Bool × Ty) := [(true, .bool)]
noncomputable def Zq48_G (N : Nat) : GTab := gOf [(130, Zq38_S N)]
theorem Zq48_gok (N : Nat) : GOk Tryz.prog (Zq48_G N) := gOf_ok ⟨Zq38_pc N, trivial⟩
noncomputable def Zq48_code : Code := (Tryz.f173.body).getD .skip
noncomputable def Zq48 (N : Nat) (n : Int) : Option ((Bool × Unit) × (Unit)) :=
 ((Zq38 N n (-99) 99).bind fun r =>
 some (((!r.1.1), ()), ()))
noncomputable def Zq48_S (N : Nat) : FSum := ⟨Zq48_ps, Zq48_rs, fun x => Zq48 N x.1⟩
theorem Zq48_pc (N : Nat) : PC Tryz.prog 173 (Zq48_S N) := pcQ (L := []) (Zq48_gok N) Tryz.call173 Tryz.func173 (fun x => by kernel_rfl) trivial (by kernel_rfl)

abbrev Zq47_ps : List (PV.Mode × Ty) := [(.ro, LI)]
abbrev Zq47_rs : List (Bool × Ty) := [(true, .bool)]
noncomputable def Zq47_G (N : Nat) : GTab := gOf [(172, Zq68_S N), (173, Zq48_S N)]
theorem Zq47_gok (N : Nat) : GOk Tryz.prog (Zq47_G N) := gOf_ok ⟨Zq68_pc N, Zq48_pc N, trivial⟩
noncomputable def Zq47_code : Code := (Tryz.f150.body).getD .skip
noncomputable def Zq47 (N : Nat) (state : (List Int)) : Option ((Bool × Unit) × (Unit)) :=
 (br (ile (tLen state) 24)
 (((Zq68 N state (fun y0 => (Zq48 N y0).bind fun z => some z.1.1)).bind fun r =>
 some (((!r.1.1), ()), ())))
 (some ((false, ()), ())))
noncomputable def Zq47_S (N : Nat) : FSum := ⟨Zq47_ps, Zq47_rs, fun x => Zq47 N x.1⟩
theorem Zq47_pc (N : Nat) : PC Tryz.prog 150 (Zq47_S N) := pcQ (L := []) (Zq47_gok N) Tryz.call150 Tryz.func150 (fun x => by kernel_rfl) trivial (by kernel_rfl)

abbrev Zq22_ps : List (PV.Mode × Ty) := [(.ro, QLLILQII)]
abbrev Zq22_rs : List (Bool × Ty) := [(true, .bool)]
noncomputable def Zq22_G (N : Nat) : GTab := gOf [(150, Zq47_S N), (102, Zq67_S N), (131, Zq44_S N)]
theorem Zq22_gok (N : Nat) : GOk Tryz.prog (Zq22_G N) := gOf_ok ⟨Zq47_pc N, Zq67_pc N, Zq44_pc N, trivial⟩
noncomputable def Zq22_code : Code := (Tryz.f99.body).getD .skip
noncomputable def Zq22_l0_sh : Sh := ⟨[(1, .one (.adr 0 0)), (16, .one (.ro LLI)), (17, .one (.ro I)), (18, .one (.ro I))], [.box [.ro LLI, .ro LQII]]⟩
noncomputable def Zq22_l0_ex : List (Ex × Sh) := [(.ret, ⟨[(2, .one (.ro .bool))], []⟩), (.exit 0, ⟨[(1, .one (.adr 0 0))], [.box [.ro LLI, .ro LQII]]⟩)]
noncomputable def Zq22_l0 {R : Type} (N : Nat) (k0 : Bool → Option R) (k1 : (List (List Int)) → (List (Int × Int)) → Option R) : Nat → (List (List Int)) → Int → Int → (List (List Int)) → (List (Int × Int)) → Option R
 | 0, _, _, _, _, _ => none
 | K + 1, x1, x2, x3, o, o1 =>
 (br (ilt x3 x2)
 ((chk (inb x1 x3)
 ((Zq47 N (rdL x1 x3)).bind fun r =>
 (br (!r.1.1)
 (k0 false)
 ((br (ilt 0 x3)
 ((chk (inb o (IntKind.i64.wrap (x3 - 1)))
 ((Zq67 N (rdL o (IntKind.i64.wrap (x3 - 1))) (rdL x1 x3)).bind fun r1 =>
 (br (ile 0 r1.1.1)
 (k0 false)
 (Zq22_l0 N k0 k1 K x1 x2 (IntKind.i64.wrap (x3 + 1)) o o1)))))
 (Zq22_l0 N k0 k1 K x1 x2 (IntKind.i64.wrap (x3 + 1)) o o1)))))))
 (k1 o o1))
noncomputable def Zq22_l0_again {R : Type} (N : Nat) (ks : KS Zq22_l0_ex R) (k : Nat) (x : Zq22_l0_sh.T) : Option R :=
 Zq22_l0 N (fun y0 => ks 0 ((y0, ()), ())) (fun y0 y1 => ks 1 (((), ()), ((y0, y1, ()), ()))) k x.1.2.1 x.1.2.2.1 x.1.2.2.2.1 x.2.1.1 x.2.1.2.1
noncomputable def Zq22_l0_s (N : Nat) : LSum := ⟨Zq22_l0_sh, Zq22_l0_ex, fun x ks => Zq22_l0_again N ks N x⟩
theorem Zq22_l0_ok (N : Nat) : LoopOk Tryz.prog Tryz.f99.ntmps (Zq22_l0_s N) (loopAt Zq22_code 0) := loopQ (sh := Zq22_l0_sh) (ex := Zq22_l0_ex) (N := N) (L := []) (fun R k x ks => Zq22_l0_again N ks k x) (Zq22_gok N) (fun _ _ _ => rfl) (fun R k x ks => by kernel_rfl) trivial (by kernel_rfl)
noncomputable def Zq22 (N : Nat) (x : ((List (List Int)) × (List (Int × Int)))) : Option ((Bool × Unit) × (Unit)) :=
 (br (ilt 300 (tLen x.1))
 (some ((false, ()), ()))
 ((br (ilt 6000 (tLen x.2))
 (some ((false, ()), ()))
 (Zq22_l0 N (fun x1 => some ((x1, ()), ())) (fun o o1 => ((Zq44 N o1 (tLen o)).bind fun r =>
 some ((r.1.1, ()), ()))) N x.1 (tLen x.1) 0 x.1 x.2))))
noncomputable def Zq22_S (N : Nat) : FSum := ⟨Zq22_ps, Zq22_rs, fun x => Zq22 N x.1⟩
theorem Zq22_pc (N : Nat) : PC Tryz.prog 99 (Zq22_S N) := pcQ (L := [Zq22_l0_s N]) (Zq22_gok N) Tryz.call99 Tryz.func99 (fun x => by kernel_rfl) ⟨Zq22_l0_ok N, trivial⟩ (by kernel_rfl)

abbrev Zq52_ps : List (PV.Mode × Ty) := [(.ro, LLI), (.ro, I)]
abbrev Zq52_rs : List (Bool × Ty) := [(true, LLI)]
noncomputable def Zq52_G (N : Nat) : GTab := gOf [(161, Zq79_S N)]
theorem Zq52_gok (N : Nat) : GOk Tryz.prog (Zq52_G N) := gOf_ok ⟨Zq79_pc N, trivial⟩
noncomputable def Zq52_code : Code := (Tryz.f119.body).getD .skip
noncomputable def Zq52_l0_0_0_sh : Sh := ⟨[(0, .one (.ro LLI)), (5, .one (.ref 0)), (6, .one (.ref 1)), (8, .one (.ref 2)), (9, .one (.ro I)), (22, .one (.ro I)), (23, .one (.ro I)), (47, .one (.ro LI)), (48, .one (.ro I)), (49, .one (.ro I))], [.sl 27 LI .deep, .sl 4 .bool .own, .sl 3 I .own]⟩
noncomputable def Zq52_l0_0_0_ex : List (Ex × Sh) := [(.exit 4, ⟨[(0, .one (.ro LLI)), (5, .one (.ref 0)), (6, .one (.ref 1)), (8, .one (.ref 2)), (9, .one (.ro I)), (22, .one (.ro I)), (23, .one (.ro I))], [.sl 27 LI .deep, .sl 4 .bool .own, .sl 3 I .own]⟩)]
noncomputable def Zq52_l0_0_0 {R : Type} (N : Nat) (k0 : (List (List Int)) → Int → Int → Int → (List (List Int)) → (List Bool) → (List Int) → Option R) : Nat → (List (List Int)) → Int → Int → Int → (List Int) → Int → Int → (List (List Int)) → (List Bool) → (List Int) → Option R
 | 0, _, _, _, _, _, _, _, _, _, _ => none
 | K + 1, x7, x8, x9, x10, x11, x12, x13, o5, o6, o7 =>
 (br (ilt x13 x12)
 ((chk (inb x11 x13)
 (chk (inb o6 (rdI x11 x13))
 (br (!(rdB o6 (rdI x11 x13)))
 ((chk (inb o6 (rdI x11 x13))
 (chk (room o7 [(rdI x11 x13)])
 (Zq52_l0_0_0 N k0 K x7 x8 x9 x10 x11 x12 (IntKind.i64.wrap (x13 + 1)) o5 (tSet o6 (rdI x11 x13) true) (tApp o7 [(rdI x11 x13)])))))
 (Zq52_l0_0_0 N k0 K x7 x8 x9 x10 x11 x12 (IntKind.i64.wrap (x13 + 1)) o5 o6 o7)))))
 (k0 x7 x8 x9 x10 o5 o6 o7))
noncomputable def Zq52_l0_0_0_again {R : Type} (N : Nat) (ks : KS Zq52_l0_0_0_ex R) (k : Nat) (x : Zq52_l0_0_0_sh.T) : Option R :=
 Zq52_l0_0_0 N (fun y0 y1 y2 y3 y4 y5 y6 => ks 0 ((y0, (), (), (), y1, y2, y3, ()), (y4, y5, y6, ()))) k x.1.1 x.1.2.2.2.2.1 x.1.2.2.2.2.2.1 x.1.2.2.2.2.2.2.1 x.1.2.2.2.2.2.2.2.1 x.1.2.2.2.2.2.2.2.2.1 x.1.2.2.2.2.2.2.2.2.2.1 x.2.1 x.2.2.1 x.2.2.2.1
noncomputable def Zq52_l0_0_0_s (N : Nat) : LSum := ⟨Zq52_l0_0_0_sh, Zq52_l0_0_0_ex, fun x ks => Zq52_l0_0_0_again N ks N x⟩
theorem Zq52_l0_0_0_ok (N : Nat) : LoopOk Tryz.prog Tryz.f119.ntmps (Zq52_l0_0_0_s N) (loopAt (loopAt (loopAt Zq52_code 0) 0) 0) := loopQ (sh := Zq52_l0_0_0_sh) (ex := Zq52_l0_0_0_ex) (N := N) (L := []) (fun R k x ks => Zq52_l0_0_0_again N ks k x) (Zq52_gok N) (fun _ _ _ => rfl) (fun R k x ks => by kernel_rfl) trivial (by kernel_rfl)
noncomputable def Zq52_l0_0_sh : Sh := ⟨[(0, .one (.ro LLI)), (5, .one (.ref 0)), (6, .one (.ref 1)), (8, .one (.ref 2)), (9, .one (.ro I)), (22, .one (.ro I)), (23, .one (.ro I))], [.sl 27 LI .deep, .sl 4 .bool .own, .sl 3 I .own]⟩
noncomputable def Zq52_l0_0_ex : List (Ex × Sh) := [(.exit 2, ⟨[(0, .one (.ro LLI)), (5, .one (.ref 0)), (6, .one (.ref 1)), (8, .one (.ref 2)), (22, .one (.ro I)), (23, .one (.ro I))], [.sl 27 LI .deep, .sl 4 .bool .own, .sl 3 I .own]⟩)]
noncomputable def Zq52_l0_0 {R : Type} (N : Nat) (k0 : (List (List Int)) → Int → Int → (List (List Int)) → (List Bool) → (List Int) → Option R) : Nat → (List (List Int)) → Int → Int → Int → (List (List Int)) → (List Bool) → (List Int) → Option R
 | 0, _, _, _, _, _, _, _ => none
 | K + 1, x3, x4, x5, x6, o2, o3, o4 =>
 (br (ilt x4 (tLen o4))
 ((chk (inb o4 x4)
 (chk (inb x3 (rdI o4 x4))
 (Zq52_l0_0_0 N (fun x7 x8 x9 x10 o5 o6 o7 => Zq52_l0_0 N k0 K x7 (IntKind.i64.wrap (x8 + 1)) x9 x10 o5 o6 o7) N x3 x4 x5 x6 (rdL x3 (rdI o4 x4)) (tLen (rdL x3 (rdI o4 x4))) 0 o2 o3 o4))))
 (k0 x3 x5 x6 o2 o3 o4))
noncomputable def Zq52_l0_0_again {R : Type} (N : Nat) (ks : KS Zq52_l0_0_ex R) (k : Nat) (x : Zq52_l0_0_sh.T) : Option R :=
 Zq52_l0_0 N (fun y0 y1 y2 y3 y4 y5 => ks 0 ((y0, (), (), (), y1, y2, ()), (y3, y4, y5, ()))) k x.1.1 x.1.2.2.2.2.1 x.1.2.2.2.2.2.1 x.1.2.2.2.2.2.2.1 x.2.1 x.2.2.1 x.2.2.2.1
noncomputable def Zq52_l0_0_s (N : Nat) : LSum := ⟨Zq52_l0_0_sh, Zq52_l0_0_ex, fun x ks => Zq52_l0_0_again N ks N x⟩
theorem Zq52_l0_0_ok (N : Nat) : LoopOk Tryz.prog Tryz.f119.ntmps (Zq52_l0_0_s N) (loopAt (loopAt Zq52_code 0) 0) := loopQ (sh := Zq52_l0_0_sh) (ex := Zq52_l0_0_ex) (N := N) (L := [Zq52_l0_0_0_s N]) (fun R k x ks => Zq52_l0_0_again N ks k x) (Zq52_gok N) (fun _ _ _ => rfl) (fun R k x ks => by kernel_rfl) ⟨Zq52_l0_0_0_ok N, trivial⟩ (by kernel_rfl)
noncomputable def Zq52_l0_sh : Sh := ⟨[(0, .one (.ro LLI)), (5, .one (.ref 0)), (6, .one (.ref 1)), (22, .one (.ro I)), (23, .one (.ro I))], [.sl 27 LI .deep, .sl 4 .bool .own]⟩
noncomputable def Zq52_l0_ex : List (Ex × Sh) := [(.exit 0, ⟨[(5, .one (.ref 0))], [.sl 27 LI .deep]⟩)]
noncomputable def Zq52_l0 {R : Type} (N : Nat) (k0 : (List (List Int)) → Option R) : Nat → (List (List Int)) → Int → Int → (List (List Int)) → (List Bool) → Option R
 | 0, _, _, _, _, _ => none
 | K + 1, x, x1, x2, o, o1 =>
 (br (ilt x2 x1)
 ((chk (inb o1 x2)
 (br (rdB o1 x2)
 (Zq52_l0 N k0 K x x1 (IntKind.i64.wrap (x2 + 1)) o o1)
 ((chk (inb o1 x2)
 (Zq52_l0_0 N (fun x3 x4 x5 o2 o3 o4 => ((Zq79 N o4).bind fun r =>
 (chk (room o2 [r.2.1])
 (Zq52_l0 N k0 K x3 x4 (IntKind.i64.wrap (x5 + 1)) (tApp o2 [r.2.1]) o3)))) N x 0 x1 x2 o (tSet o1 x2 true) [x2]))))))
 (k0 o))
noncomputable def Zq52_l0_again {R : Type} (N : Nat) (ks : KS Zq52_l0_ex R) (k : Nat) (x : Zq52_l0_sh.T) : Option R :=
 Zq52_l0 N (fun y0 => ks 0 (((), ()), (y0, ()))) k x.1.1 x.1.2.2.2.1 x.1.2.2.2.2.1 x.2.1 x.2.2.1
noncomputable def Zq52_l0_s (N : Nat) : LSum := ⟨Zq52_l0_sh, Zq52_l0_ex, fun x ks => Zq52_l0_again N ks N x⟩
theorem Zq52_l0_ok (N : Nat) : LoopOk Tryz.prog Tryz.f119.ntmps (Zq52_l0_s N) (loopAt Zq52_code 0) := loopQ (sh := Zq52_l0_sh) (ex := Zq52_l0_ex) (N := N) (L := [Zq52_l0_0_s N]) (fun R k x ks => Zq52_l0_again N ks k x) (Zq52_gok N) (fun _ _ _ => rfl) (fun R k x ks => by kernel_rfl) ⟨Zq52_l0_0_ok N, trivial⟩ (by kernel_rfl)
noncomputable def Zq52 (N : Nat) (c : (List (List Int))) (c1 : Int) : Option (((List (List Int)) × Unit) × (Unit)) :=
 (chk (ile 0 (tLen c) && ile (tLen c) (tLen c) && fits (tLen c))
 (br (ile 0 c1)
 ((chk (inb (tRep (tLen c) false) c1)
 (Zq52_l0 N (fun o => some ((o, ()), ())) N c (tLen c) 0 [] (tSet (tRep (tLen c) false) c1 true))))
 (Zq52_l0 N (fun o1 => some ((o1, ()), ())) N c (tLen c) 0 [] (tRep (tLen c) false))))
noncomputable def Zq52_S (N : Nat) : FSum := ⟨Zq52_ps, Zq52_rs, fun x => Zq52 N x.1 x.2.1⟩
theorem Zq52_pc (N : Nat) : PC Tryz.prog 119 (Zq52_S N) := pcQ (L := [Zq52_l0_s N]) (Zq52_gok N) Tryz.call119 Tryz.func119 (fun x => by kernel_rfl) ⟨Zq52_l0_ok N, trivial⟩ (by kernel_rfl)

abbrev Zq23_ps : List (PV.Mode × Ty) := [(.ro, QLLILQII)]
abbrev Zq23_rs : List (Bool × Ty) := [(true, LLI), (true, .bool)]
noncomputable def Zq23_G (N : Nat) : GTab := gOf [(99, Zq22_S N), (120, Zq28_S N), (119, Zq52_S N)]
theorem Zq23_gok (N : Nat) : GOk Tryz.prog (Zq23_G N) := gOf_ok ⟨Zq22_pc N, Zq28_pc N, Zq52_pc N, trivial⟩
noncomputable def Zq23_code : Code := (Tryz.f53.body).getD .skip
noncomputable def Zq23 (N : Nat) (x : ((List (List Int)) × (List (Int × Int)))) : Option (((List (List Int)) × Bool × Unit) × (Unit)) :=
 ((Zq22 N (x.1, x.2)).bind fun r =>
 (br (!r.1.1)
 (some (([], false, ()), ()))
 (((Zq28 N (x.1, x.2)).bind fun r1 =>
 ((Zq52 N r1.1.1 (-1)).bind fun r2 =>
 some ((r2.1.1, true, ()), ()))))))
noncomputable def Zq23_S (N : Nat) : FSum := ⟨Zq23_ps, Zq23_rs, fun x => Zq23 N x.1⟩
theorem Zq23_pc (N : Nat) : PC Tryz.prog 53 (Zq23_S N) := pcQ (L := []) (Zq23_gok N) Tryz.call53 Tryz.func53 (fun x => by kernel_rfl) trivial (by kernel_rfl)

abbrev Zq24_ps : List (PV.Mode × Ty) := [(.ro, QLLILQII), (.ro, LI)]
abbrev Zq24_rs : List (Bool × Ty) := [(true, I), (true, .bool)]
noncomputable def Zq24_G (N : Nat) : GTab := gOf [(99, Zq22_S N), (105, Zq27_S N)]
theorem Zq24_gok (N : Nat) : GOk Tryz.prog (Zq24_G N) := gOf_ok ⟨Zq22_pc N, Zq27_pc N, trivial⟩
noncomputable def Zq24_code : Code := (Tryz.f43.body).getD .skip
noncomputable def Zq24 (N : Nat) (x : ((List (List Int)) × (List (Int × Int)))) (state : (List Int)) : Option ((Int × Bool × Unit) × (Unit)) :=
 ((Zq22 N (x.1, x.2)).bind fun r =>
 (br (!r.1.1)
 (some ((0, false, ()), ()))
 (((Zq27 N (x.1, x.2) state).bind fun r1 =>
 (br (!r1.1.2.1)
 (some ((0, false, ()), ()))
 (some ((r1.1.1, true, ()), ())))))))
noncomputable def Zq24_S (N : Nat) : FSum := ⟨Zq24_ps, Zq24_rs, fun x => Zq24 N x.1 x.2.1⟩
theorem Zq24_pc (N : Nat) : PC Tryz.prog 43 (Zq24_S N) := pcQ (L := []) (Zq24_gok N) Tryz.call43 Tryz.func43 (fun x => by kernel_rfl) trivial (by kernel_rfl)

abbrev Zq26_ps : List (PV.Mode × Ty) := [(.ro, QLLILQII), (.ro, I)]
abbrev Zq26_rs : List (Bool × Ty) := [(true, .bool)]
noncomputable def Zq26_G (N : Nat) : GTab := gOf [(130, Zq38_S N)]
theorem Zq26_gok (N : Nat) : GOk Tryz.prog (Zq26_G N) := gOf_ok ⟨Zq38_pc N, trivial⟩
noncomputable def Zq26_code : Code := (Tryz.f113.body).getD .skip
noncomputable def Zq26 (N : Nat) (x : ((List (List Int)) × (List (Int × Int)))) (i : Int) : Option ((Bool × Unit) × (Unit)) :=
 ((Zq38 N i 0 (IntKind.i64.wrap ((tLen x.1) - 1))).bind fun r =>
 some ((r.1.1, ()), ()))
noncomputable def Zq26_S (N : Nat) : FSum := ⟨Zq26_ps, Zq26_rs, fun x => Zq26 N x.1 x.2.1⟩
theorem Zq26_pc (N : Nat) : PC Tryz.prog 113 (Zq26_S N) := pcQ (L := []) (Zq26_gok N) Tryz.call113 Tryz.func113 (fun x => by kernel_rfl) trivial (by kernel_rfl)

abbrev Zq3_ps : List (PV.Mode × Ty) := [(.ro, QLLILQII), (.ro, I), (.ro, I)]
abbrev Zq3_rs : List (Bool × Ty) := [(true, LI), (true, .bool)]
noncomputable def Zq3_G (N : Nat) : GTab := gOf [(99, Zq22_S N), (113, Zq26_S N), (114, Zq25_S N)]
theorem Zq3_gok (N : Nat) : GOk Tryz.prog (Zq3_G N) := gOf_ok ⟨Zq22_pc N, Zq26_pc N, Zq25_pc N, trivial⟩
noncomputable def Zq3_code : Code := (Tryz.f44.body).getD .skip
noncomputable def Zq3 (N : Nat) (x : ((List (List Int)) × (List (Int × Int)))) (i : Int) (j : Int) : Option (((List Int) × Bool × Unit) × (Unit)) :=
 ((Zq22 N (x.1, x.2)).bind fun r =>
 (br (!r.1.1)
 (some (([], false, ()), ()))
 (((Zq26 N (x.1, x.2) i).bind fun r1 =>
 (br (!r1.1.1)
 (some (([], false, ()), ()))
 (((Zq26 N (x.1, x.2) j).bind fun r2 =>
 (br (!r2.1.1)
 (some (([], false, ()), ()))
 (((Zq25 N (x.1, x.2) i j).bind fun r3 =>
 some ((r3.1.1, r3.1.2.1, ()), ())))))))))))
noncomputable def Zq3_S (N : Nat) : FSum := ⟨Zq3_ps, Zq3_rs, fun x => Zq3 N x.1 x.2.1 x.2.2.1⟩
theorem Zq3_pc (N : Nat) : PC Tryz.prog 44 (Zq3_S N) := pcQ (L := []) (Zq3_gok N) Tryz.call44 Tryz.func44 (fun x => by kernel_rfl) trivial (by kernel_rfl)

abbrev Zq55_ps : List (PV.Mode × Ty) := [(.ro, LU8)]
abbrev Zq55_rs : List (Bool × Ty) := [(true, .bool)]
noncomputable def Zq55_G (N : Nat) : GTab := gOf [(6, Zq56_S N), (45, Zq81_S N), (46, Zq30_S N), (47, Zq84_S N), (48, Zq32_S N), (49, Zq86_S N), (20, Zq60_S N), (50, Zq82_S N), (51, Zq33_S N), (52, Zq88_S N), (41, Zq31_S N), (42, Zq85_S N), (36, Zq59_S N), (53, Zq23_S N), (10, Zq20_S N), (43, Zq24_S N), (44, Zq3_S N)]
theorem Zq55_gok (N : Nat) : GOk Tryz.prog (Zq55_G N) := gOf_ok ⟨Zq56_pc N, Zq81_pc N, Zq30_pc N, Zq84_pc N, Zq32_pc N, Zq86_pc N, Zq60_pc N, Zq82_pc N, Zq33_pc N, Zq88_pc N, Zq31_pc N, Zq85_pc N, Zq59_pc N, Zq23_pc N, Zq20_pc N, Zq24_pc N, Zq3_pc N, trivial⟩
noncomputable def Zq55_code : Code := (Tryz.f5.body).getD .skip
noncomputable def Zq55_l0_sh : Sh := ⟨[(3, .one (.adr 0 0)), (4, .one (.ro I)), (5, .one (.ro LI)), (6, .one (.ro LI)), (7, .one (.ro I)), (11, .one (.ref 1)), (27, .one (.ro I)), (28, .one (.ro I))], [.box [.ro I, .ro LQII], .sl 27 LI .deep]⟩
noncomputable def Zq55_l0_ex : List (Ex × Sh) := [(.ret, ⟨[(2, .one (.ro .bool))], []⟩), (.exit 0, ⟨[(3, .one (.adr 0 0)), (4, .one (.ro I)), (5, .one (.ro LI)), (6, .one (.ro LI)), (7, .one (.ro I)), (27, .one (.ro I))], [.box [.ro I, .ro LQII]]⟩)]
noncomputable def Zq55_l0 {R : Type} (N : Nat) (k0 : Bool → Option R) (k1 : Int → (List Int) → (List Int) → Int → Int → Int → (List (Int × Int)) → Option R) : Nat → Int → (List Int) → (List Int) → Int → Int → Int → Int → (List (Int × Int)) → (List (List Int)) → Option R
 | 0, _, _, _, _, _, _, _, _, _ => none
 | K + 1, x, x1, x2, x3, x4, x5, o, o1, o2 =>
 (br (ilt x5 (tLen o2))
 ((chk (inb o2 x5)
 ((Zq20 N (o, o1) x (rdL o2 x5)).bind fun r14 =>
 (br (!r14.1.2.1)
 (k0 false)
 ((br (!r14.1.1)
 (k0 false)
 ((chk (inb o2 x5)
 (br (ilt (IntKind.i64.wrap (x4 * x3)) (IntKind.i64.wrap (x4 * (tLen (rdL o2 x5)))))
 (k0 false)
 (Zq55_l0 N k0 k1 K x x1 x2 x3 x4 (IntKind.i64.wrap (x5 + 1)) o o1 o2))))))))))
 (k1 x x1 x2 x3 x4 o o1))
noncomputable def Zq55_l0_again {R : Type} (N : Nat) (ks : KS Zq55_l0_ex R) (k : Nat) (x : Zq55_l0_sh.T) : Option R :=
 Zq55_l0 N (fun y0 => ks 0 ((y0, ()), ())) (fun y0 y1 y2 y3 y4 y5 y6 => ks 1 (((), y0, y1, y2, y3, y4, ()), ((y5, y6, ()), ()))) k x.1.2.1 x.1.2.2.1 x.1.2.2.2.1 x.1.2.2.2.2.1 x.1.2.2.2.2.2.2.1 x.1.2.2.2.2.2.2.2.1 x.2.1.1 x.2.1.2.1 x.2.2.1
noncomputable def Zq55_l0_s (N : Nat) : LSum := ⟨Zq55_l0_sh, Zq55_l0_ex, fun x ks => Zq55_l0_again N ks N x⟩
theorem Zq55_l0_ok (N : Nat) : LoopOk Tryz.prog Tryz.f5.ntmps (Zq55_l0_s N) (loopAt Zq55_code 0) := loopQ (sh := Zq55_l0_sh) (ex := Zq55_l0_ex) (N := N) (L := []) (fun R k x ks => Zq55_l0_again N ks k x) (Zq55_gok N) (fun _ _ _ => rfl) (fun R k x ks => by kernel_rfl) trivial (by kernel_rfl)
noncomputable def Zq55 (N : Nat) (c : (List Int)) : Option ((Bool × Unit) × (Unit)) :=
 ((Zq56 N c).bind fun r =>
 (br r.1.1
 (some ((true, ()), ()))
 (((Zq81 N c).bind fun r1 =>
 ((Zq30 N (r1.1.1.1, r1.1.1.2) r1.1.2.1 r1.1.2.2.1 r1.1.2.2.2.1).bind fun r2 =>
 ((Zq84 N (r1.1.1.1, r1.1.1.2) r1.1.2.1 r1.1.2.2.1 r1.1.2.2.2.1).bind fun r3 =>
 (br (ine r2.1.1 r3.1.1)
 (some ((false, ()), ()))
 ((br (!(r2.1.2.1 == r3.1.2.1))
 (some ((false, ()), ()))
 (((Zq32 N (r1.1.1.1, r1.1.1.2) r1.1.2.1 r1.1.2.2.1 r1.1.2.2.2.1).bind fun r4 =>
 ((Zq86 N (r1.1.1.1, r1.1.1.2) r1.1.2.1 r1.1.2.2.1 r1.1.2.2.2.1).bind fun r5 =>
 (br (!(r4.1.2.1 == r5.1.2.1))
 (some ((false, ()), ()))
 ((br (!(r4.1.2.1 == r2.1.2.1))
 (some ((false, ()), ()))
 (((Zq60 N r4.1.1 r5.1.1).bind fun r6 =>
 (br (!r6.1.1)
 (some ((false, ()), ()))
 (((Zq82 N c).bind fun r7 =>
 ((Zq33 N (r7.1.1.1, r7.1.1.2) r7.1.2.1).bind fun r8 =>
 ((Zq88 N (r7.1.1.1, r7.1.1.2) r7.1.2.1).bind fun r9 =>
 (br (ine r8.1.1 r9.1.1)
 (some ((false, ()), ()))
 ((br (!(r8.1.2.1 == r9.1.2.1))
 (some ((false, ()), ()))
 ((br r8.1.2.1
 ((br (ilt r7.1.1.1 7)
 (((Zq31 N (r7.1.1.1, r7.1.1.2) r7.1.2.1 r8.1.1).bind fun r10 =>
 ((Zq85 N (r7.1.1.1, r7.1.1.2) r7.1.2.1 r8.1.1).bind fun r11 =>
 (br (!r10.1.2.1)
 (some ((false, ()), ()))
 ((br (!r11.1.2.1)
 (some ((false, ()), ()))
 (((Zq59 N (r10.1.1.1, r10.1.1.2) (r11.1.1.1, r11.1.1.2)).bind fun r12 =>
 (br (!r12.1.1)
 (some ((false, ()), ()))
 (((Zq23 N (r10.1.1.1, r10.1.1.2)).bind fun r13 =>
 (br (!r13.1.2.1)
 (some ((false, ()), ()))
 ((br (ilt 1 (tLen r13.1.1))
 (some ((false, ()), ()))
 ((br (!r2.1.2.1)
 (some ((true, ()), ()))
 ((br (ieq r1.1.2.1 2)
 (Zq55_l0 N (fun x => some ((x, ()), ())) (fun x1 x2 x3 x4 x5 o o1 => (br (ile 0 (IntKind.i64.wrap (x4 - x5)))
 ((br (ile (IntKind.i64.wrap (x4 - x5)) o)
 ((br (ile (IntKind.i64.wrap (x5 * (tLen x2))) (IntKind.i64.wrap (x5 * (IntKind.i64.wrap (x4 - x5)))))
 ((br (ile (IntKind.i64.wrap (x5 * (tLen x3))) (IntKind.i64.wrap (x5 * (IntKind.i64.wrap (x4 - x5)))))
 (((Zq31 N (o, o1) x1 (IntKind.i64.wrap (x4 - x5))).bind fun r14 =>
 ((Zq85 N (o, o1) x1 (IntKind.i64.wrap (x4 - x5))).bind fun r15 =>
 (br (!r14.1.2.1)
 (some ((false, ()), ()))
 ((br (!r15.1.2.1)
 (some ((false, ()), ()))
 (((Zq59 N (r14.1.1.1, r14.1.1.2) (r15.1.1.1, r15.1.1.2)).bind fun r16 =>
 (br (!r16.1.1)
 (some ((false, ()), ()))
 (((Zq24 N (r14.1.1.1, r14.1.1.2) x2).bind fun r17 =>
 ((Zq24 N (r14.1.1.1, r14.1.1.2) x3).bind fun r18 =>
 ((Zq3 N (r14.1.1.1, r14.1.1.2) r17.1.1 r18.1.1).bind fun r19 =>
 (br r17.1.2.1
 ((br r18.1.2.1
 (some (((!r19.1.2.1), ()), ()))
 (some ((false, ()), ()))))
 (some ((false, ()), ()))))))))))))))))
 (some ((true, ()), ()))))
 (some ((true, ()), ()))))
 (some ((true, ()), ()))))
 (some ((true, ()), ())))) N r1.1.2.1 r1.1.2.2.1 r1.1.2.2.2.1 r2.1.1 (-1) 0 r1.1.1.1 r1.1.1.2 r4.1.1)
 (Zq55_l0 N (fun x6 => some ((x6, ()), ())) (fun x7 x8 x9 x10 x11 o2 o3 => (br (ile 0 (IntKind.i64.wrap (x10 - x11)))
 ((br (ile (IntKind.i64.wrap (x10 - x11)) o2)
 ((br (ile (IntKind.i64.wrap (x11 * (tLen x8))) (IntKind.i64.wrap (x11 * (IntKind.i64.wrap (x10 - x11)))))
 ((br (ile (IntKind.i64.wrap (x11 * (tLen x9))) (IntKind.i64.wrap (x11 * (IntKind.i64.wrap (x10 - x11)))))
 (((Zq31 N (o2, o3) x7 (IntKind.i64.wrap (x10 - x11))).bind fun r20 =>
 ((Zq85 N (o2, o3) x7 (IntKind.i64.wrap (x10 - x11))).bind fun r21 =>
 (br (!r20.1.2.1)
 (some ((false, ()), ()))
 ((br (!r21.1.2.1)
 (some ((false, ()), ()))
 (((Zq59 N (r20.1.1.1, r20.1.1.2) (r21.1.1.1, r21.1.1.2)).bind fun r22 =>
 (br (!r22.1.1)
 (some ((false, ()), ()))
 (((Zq24 N (r20.1.1.1, r20.1.1.2) x8).bind fun r23 =>
 ((Zq24 N (r20.1.1.1, r20.1.1.2) x9).bind fun r24 =>
 ((Zq3 N (r20.1.1.1, r20.1.1.2) r23.1.1 r24.1.1).bind fun r25 =>
 (br r23.1.2.1
 ((br r24.1.2.1
 (some (((!r25.1.2.1), ()), ()))
 (some ((false, ()), ()))))
 (some ((false, ()), ()))))))))))))))))
 (some ((true, ()), ()))))
 (some ((true, ()), ()))))
 (some ((true, ()), ()))))
 (some ((true, ()), ())))) N r1.1.2.1 r1.1.2.2.1 r1.1.2.2.2.1 r2.1.1 1 0 r1.1.1.1 r1.1.1.2 r4.1.1)))))))))))))))))))
 ((br (!r2.1.2.1)
 (some ((true, ()), ()))
 ((br (ieq r1.1.2.1 2)
 (Zq55_l0 N (fun x12 => some ((x12, ()), ())) (fun x13 x14 x15 x16 x17 o4 o5 => (br (ile 0 (IntKind.i64.wrap (x16 - x17)))
 ((br (ile (IntKind.i64.wrap (x16 - x17)) o4)
 ((br (ile (IntKind.i64.wrap (x17 * (tLen x14))) (IntKind.i64.wrap (x17 * (IntKind.i64.wrap (x16 - x17)))))
 ((br (ile (IntKind.i64.wrap (x17 * (tLen x15))) (IntKind.i64.wrap (x17 * (IntKind.i64.wrap (x16 - x17)))))
 (((Zq31 N (o4, o5) x13 (IntKind.i64.wrap (x16 - x17))).bind fun r26 =>
 ((Zq85 N (o4, o5) x13 (IntKind.i64.wrap (x16 - x17))).bind fun r27 =>
 (br (!r26.1.2.1)
 (some ((false, ()), ()))
 ((br (!r27.1.2.1)
 (some ((false, ()), ()))
 (((Zq59 N (r26.1.1.1, r26.1.1.2) (r27.1.1.1, r27.1.1.2)).bind fun r28 =>
 (br (!r28.1.1)
 (some ((false, ()), ()))
 (((Zq24 N (r26.1.1.1, r26.1.1.2) x14).bind fun r29 =>
 ((Zq24 N (r26.1.1.1, r26.1.1.2) x15).bind fun r30 =>
 ((Zq3 N (r26.1.1.1, r26.1.1.2) r29.1.1 r30.1.1).bind fun r31 =>
 (br r29.1.2.1
 ((br r30.1.2.1
 (some (((!r31.1.2.1), ()), ()))
 (some ((false, ()), ()))))
 (some ((false, ()), ()))))))))))))))))
 (some ((true, ()), ()))))
 (some ((true, ()), ()))))
 (some ((true, ()), ()))))
 (some ((true, ()), ())))) N r1.1.2.1 r1.1.2.2.1 r1.1.2.2.2.1 r2.1.1 (-1) 0 r1.1.1.1 r1.1.1.2 r4.1.1)
 (Zq55_l0 N (fun x18 => some ((x18, ()), ())) (fun x19 x20 x21 x22 x23 o6 o7 => (br (ile 0 (IntKind.i64.wrap (x22 - x23)))
 ((br (ile (IntKind.i64.wrap (x22 - x23)) o6)
 ((br (ile (IntKind.i64.wrap (x23 * (tLen x20))) (IntKind.i64.wrap (x23 * (IntKind.i64.wrap (x22 - x23)))))
 ((br (ile (IntKind.i64.wrap (x23 * (tLen x21))) (IntKind.i64.wrap (x23 * (IntKind.i64.wrap (x22 - x23)))))
 (((Zq31 N (o6, o7) x19 (IntKind.i64.wrap (x22 - x23))).bind fun r32 =>
 ((Zq85 N (o6, o7) x19 (IntKind.i64.wrap (x22 - x23))).bind fun r33 =>
 (br (!r32.1.2.1)
 (some ((false, ()), ()))
 ((br (!r33.1.2.1)
 (some ((false, ()), ()))
 (((Zq59 N (r32.1.1.1, r32.1.1.2) (r33.1.1.1, r33.1.1.2)).bind fun r34 =>
 (br (!r34.1.1)
 (some ((false, ()), ()))
 (((Zq24 N (r32.1.1.1, r32.1.1.2) x20).bind fun r35 =>
 ((Zq24 N (r32.1.1.1, r32.1.1.2) x21).bind fun r36 =>
 ((Zq3 N (r32.1.1.1, r32.1.1.2) r35.1.1 r36.1.1).bind fun r37 =>
 (br r35.1.2.1
 ((br r36.1.2.1
 (some (((!r37.1.2.1), ()), ()))
 (some ((false, ()), ()))))
 (some ((false, ()), ()))))))))))))))))
 (some ((true, ()), ()))))
 (some ((true, ()), ()))))
 (some ((true, ()), ()))))
 (some ((true, ()), ())))) N r1.1.2.1 r1.1.2.2.1 r1.1.2.2.2.1 r2.1.1 1 0 r1.1.1.1 r1.1.1.2 r4.1.1)))))))
 ((br (!r2.1.2.1)
 (some ((true, ()), ()))
 ((br (ieq r1.1.2.1 2)
 (Zq55_l0 N (fun x24 => some ((x24, ()), ())) (fun x25 x26 x27 x28 x29 o8 o9 => (br (ile 0 (IntKind.i64.wrap (x28 - x29)))
 ((br (ile (IntKind.i64.wrap (x28 - x29)) o8)
 ((br (ile (IntKind.i64.wrap (x29 * (tLen x26))) (IntKind.i64.wrap (x29 * (IntKind.i64.wrap (x28 - x29)))))
 ((br (ile (IntKind.i64.wrap (x29 * (tLen x27))) (IntKind.i64.wrap (x29 * (IntKind.i64.wrap (x28 - x29)))))
 (((Zq31 N (o8, o9) x25 (IntKind.i64.wrap (x28 - x29))).bind fun r38 =>
 ((Zq85 N (o8, o9) x25 (IntKind.i64.wrap (x28 - x29))).bind fun r39 =>
 (br (!r38.1.2.1)
 (some ((false, ()), ()))
 ((br (!r39.1.2.1)
 (some ((false, ()), ()))
 (((Zq59 N (r38.1.1.1, r38.1.1.2) (r39.1.1.1, r39.1.1.2)).bind fun r40 =>
 (br (!r40.1.1)
 (some ((false, ()), ()))
 (((Zq24 N (r38.1.1.1, r38.1.1.2) x26).bind fun r41 =>
 ((Zq24 N (r38.1.1.1, r38.1.1.2) x27).bind fun r42 =>
 ((Zq3 N (r38.1.1.1, r38.1.1.2) r41.1.1 r42.1.1).bind fun r43 =>
 (br r41.1.2.1
 ((br r42.1.2.1
 (some (((!r43.1.2.1), ()), ()))
 (some ((false, ()), ()))))
 (some ((false, ()), ()))))))))))))))))
 (some ((true, ()), ()))))
 (some ((true, ()), ()))))
 (some ((true, ()), ()))))
 (some ((true, ()), ())))) N r1.1.2.1 r1.1.2.2.1 r1.1.2.2.2.1 r2.1.1 (-1) 0 r1.1.1.1 r1.1.1.2 r4.1.1)
 (Zq55_l0 N (fun x30 => some ((x30, ()), ())) (fun x31 x32 x33 x34 x35 o10 o11 => (br (ile 0 (IntKind.i64.wrap (x34 - x35)))
 ((br (ile (IntKind.i64.wrap (x34 - x35)) o10)
 ((br (ile (IntKind.i64.wrap (x35 * (tLen x32))) (IntKind.i64.wrap (x35 * (IntKind.i64.wrap (x34 - x35)))))
 ((br (ile (IntKind.i64.wrap (x35 * (tLen x33))) (IntKind.i64.wrap (x35 * (IntKind.i64.wrap (x34 - x35)))))
 (((Zq31 N (o10, o11) x31 (IntKind.i64.wrap (x34 - x35))).bind fun r44 =>
 ((Zq85 N (o10, o11) x31 (IntKind.i64.wrap (x34 - x35))).bind fun r45 =>
 (br (!r44.1.2.1)
 (some ((false, ()), ()))
 ((br (!r45.1.2.1)
 (some ((false, ()), ()))
 (((Zq59 N (r44.1.1.1, r44.1.1.2) (r45.1.1.1, r45.1.1.2)).bind fun r46 =>
 (br (!r46.1.1)
 (some ((false, ()), ()))
 (((Zq24 N (r44.1.1.1, r44.1.1.2) x32).bind fun r47 =>
 ((Zq24 N (r44.1.1.1, r44.1.1.2) x33).bind fun r48 =>
 ((Zq3 N (r44.1.1.1, r44.1.1.2) r47.1.1 r48.1.1).bind fun r49 =>
 (br r47.1.2.1
 ((br r48.1.2.1
 (some (((!r49.1.2.1), ()), ()))
 (some ((false, ()), ()))))
 (some ((false, ()), ()))))))))))))))))
 (some ((true, ()), ()))))
 (some ((true, ()), ()))))
 (some ((true, ()), ()))))
 (some ((true, ()), ())))) N r1.1.2.1 r1.1.2.2.1 r1.1.2.2.2.1 r2.1.1 1 0 r1.1.1.1 r1.1.1.2 r4.1.1))))))))))))))))))))))))))))))))
noncomputable def Zq55_S (N : Nat) : FSum := ⟨Zq55_ps, Zq55_rs, fun x => Zq55 N x.1⟩
theorem Zq55_pc (N : Nat) : PC Tryz.prog 5 (Zq55_S N) := pcQ (L := [Zq55_l0_s N]) (Zq55_gok N) Tryz.call5 Tryz.func5 (fun x => by kernel_rfl) ⟨Zq55_l0_ok N, trivial⟩ (by kernel_rfl)
end Go.Proofs.YtffeokcchabclaaGreat
