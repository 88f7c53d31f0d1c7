/- Functions of the program as functions on data. -/
import Derived.Test.YtfilchmabmfmaaaGreatParitiesFa
set_option linter.all false
namespace Go.Proofs.YtfilchmabmfmaaaGreat
open Go Go.PV
abbrev Zq38_ps : List (PV.Mode × Ty) := [(.own, LLI), (.ro, GLILIBo)]
abbrev Zq38_rs : List (Bool × Ty) := [(true, QLLILQII)]
noncomputable def Zq38_G (N : Nat) : GTab := gOf [(97, Zq59_S N)]
theorem Zq38_gok (N : Nat) : GOk Tryz.prog (Zq38_G N) := gOf_ok ⟨Zq59_pc N, trivial⟩
noncomputable def Zq38_code : Code := (Tryz.f69.body).getD .skip
noncomputable def Zq38_l0_0_sh : Sh := ⟨[(1, .one (.ro GLILIBo)), (4, .one (.adr 0 0)), (5, .one (.adr 1 0)), (6, .one (.ro I)), (7, .one (.el 2)), (16, .one (.ref 2)), (17, .one (.ro I)), (18, .one (.ro I)), (27, .one (.sub 2 1)), (28, .one (.ro I)), (29, .one (.ro I))], [.box [.nilsl, .nilsl], .box [.ref 2, .ref 3], .sl 33 LI .deep, .sl 108 QII .own]⟩
noncomputable def Zq38_l0_0_ex : List (Ex × Sh) := [(.exit 2, ⟨[(1, .one (.ro GLILIBo)), (4, .one (.adr 0 0)), (5, .one (.adr 1 0)), (16, .one (.ref 2)), (17, .one (.ro I)), (18, .one (.ro I))], [.box [.nilsl, .nilsl], .box [.ref 2, .ref 3], .sl 33 LI .deep, .sl 108 QII .own]⟩)]
noncomputable def Zq38_l0_0 {R : Type} (N : Nat) (k0 : ((List Int) → (List Int) → Option Bool) → Int → Int → (List (List Int)) → (List (Int × Int)) → Option R) : Nat → ((List Int) → (List Int) → Option Bool) → Int → Int → Int → Int → Int → Int → Int → Int → (List (List Int)) → (List (Int × Int)) → Option R
 | 0, _, _, _, _, _, _, _, _, _, _, _ => none
 | K + 1, isStep2, i, a, x2, x3, x4, x5, x6, x7, o2, o3 =>
 (br (ilt x7 x6)
 ((chk (ile 0 x7 && ilt x7 (x5 - x4))
 ((isStep2 (rdL o2 a) (rdL o2 (x4 + x7))).bind fun v =>
 (br v
 ((chk (room o3 [(i, (IntKind.i64.wrap ((IntKind.i64.wrap (i + 1)) + x7)))])
 (Zq38_l0_0 N k0 K isStep2 i a x2 x3 x4 x5 x6 (IntKind.i64.wrap (x7 + 1)) o2 (tApp o3 [(i, (IntKind.i64.wrap ((IntKind.i64.wrap (i + 1)) + x7)))]))))
 (Zq38_l0_0 N k0 K isStep2 i a x2 x3 x4 x5 x6 (IntKind.i64.wrap (x7 + 1)) o2 o3)))))
 (k0 isStep2 x2 x3 o2 o3))
noncomputable def Zq38_l0_0_again {R : Type} (N : Nat) (ks : KS Zq38_l0_0_ex R) (k : Nat) (x : Zq38_l0_0_sh.T) : Option R :=
 Zq38_l0_0 N (fun y0 y1 y2 y3 y4 => ks 0 ((y0, (), (), (), y1, y2, ()), (((), (), ()), ((), (), ()), y3, y4, ()))) k x.1.1 x.1.2.2.2.1 x.1.2.2.2.2.1 x.1.2.2.2.2.2.2.1 x.1.2.2.2.2.2.2.2.1 x.1.2.2.2.2.2.2.2.2.1.1 x.1.2.2.2.2.2.2.2.2.1.2 x.1.2.2.2.2.2.2.2.2.2.1 x.1.2.2.2.2.2.2.2.2.2.2.1 x.2.2.2.1 x.2.2.2.2.1
noncomputable def Zq38_l0_0_s (N : Nat) : LSum := ⟨Zq38_l0_0_sh, Zq38_l0_0_ex, fun x ks => Zq38_l0_0_again N ks N x⟩
theorem Zq38_l0_0_ok (N : Nat) : LoopOk Tryz.prog Tryz.f69.ntmps (Zq38_l0_0_s N) (loopAt (loopAt Zq38_code 0) 0) := loopQ (sh := Zq38_l0_0_sh) (ex := Zq38_l0_0_ex) (N := N) (L := []) (fun R k x ks => Zq38_l0_0_again N ks k x) (Zq38_gok N) (fun _ _ _ => rfl) (fun R k x ks => by kernel_rfl) trivial (by kernel_rfl)
noncomputable def Zq38_l0_sh : Sh := ⟨[(1, .one (.ro GLILIBo)), (4, .one (.adr 0 0)), (5, .one (.adr 1 0)), (16, .one (.ref 2)), (17, .one (.ro I)), (18, .one (.ro I))], [.box [.nilsl, .nilsl], .box [.ref 2, .ref 3], .sl 33 LI .deep, .sl 108 QII .own]⟩
noncomputable def Zq38_l0_ex : List (Ex × Sh) := [(.exit 0, ⟨[(4, .one (.adr 0 0)), (5, .one (.adr 1 0))], [.box [.nilsl, .nilsl], .box [.ref 2, .ref 3], .sl 33 LI .deep, .sl 108 QII .own]⟩)]
noncomputable def Zq38_l0 {R : Type} (N : Nat) (k0 : (List (List Int)) → (List (Int × Int)) → Option R) : Nat → ((List Int) → (List Int) → Option Bool) → Int → Int → (List (List Int)) → (List (Int × Int)) → Option R
 | 0, _, _, _, _, _ => none
 | K + 1, isStep1, x, x1, o, o1 =>
 (br (ilt x1 x)
 ((chk (inb o x1)
 (chk (ile 0 (IntKind.i64.wrap (x1 + 1)) && ile (IntKind.i64.wrap (x1 + 1)) (tLen o) && ile (tLen o) (tLen o))
 (Zq38_l0_0 N (fun isStep2 x2 x3 o2 o3 => Zq38_l0 N k0 K isStep2 x2 (IntKind.i64.wrap (x3 + 1)) o2 o3) N isStep1 x1 x1 x x1 (IntKind.i64.wrap (x1 + 1)) (tLen o) ((tLen o) - (IntKind.i64.wrap (x1 + 1))) 0 o o1))))
 (k0 o o1))
noncomputable def Zq38_l0_again {R : Type} (N : Nat) (ks : KS Zq38_l0_ex R) (k : Nat) (x : Zq38_l0_sh.T) : Option R :=
 Zq38_l0 N (fun y0 y1 => ks 0 (((), (), ()), (((), (), ()), ((), (), ()), y0, y1, ()))) k x.1.1 x.1.2.2.2.2.1 x.1.2.2.2.2.2.1 x.2.2.2.1 x.2.2.2.2.1
noncomputable def Zq38_l0_s (N : Nat) : LSum := ⟨Zq38_l0_sh, Zq38_l0_ex, fun x ks => Zq38_l0_again N ks N x⟩
theorem Zq38_l0_ok (N : Nat) : LoopOk Tryz.prog Tryz.f69.ntmps (Zq38_l0_s N) (loopAt Zq38_code 0) := loopQ (sh := Zq38_l0_sh) (ex := Zq38_l0_ex) (N := N) (L := [Zq38_l0_0_s N]) (fun R k x ks => Zq38_l0_again N ks k x) (Zq38_gok N) (fun _ _ _ => rfl) (fun R k x ks => by kernel_rfl) ⟨Zq38_l0_0_ok N, trivial⟩ (by kernel_rfl)
noncomputable def Zq38 (N : Nat) (states : (List (List Int))) (isStep : ((List Int) → (List Int) → Option Bool)) : Option ((((List (List Int)) × (List (Int × Int))) × Unit) × (Unit)) :=
 ((Zq59 N states ()).bind fun r =>
 Zq38_l0 N (fun o o1 => some (((o, o1), ()), ())) N isStep (tLen r.2.1) 0 r.2.1 [])
noncomputable def Zq38_S (N : Nat) : FSum := ⟨Zq38_ps, Zq38_rs, fun x => Zq38 N x.1 x.2.1⟩
theorem Zq38_pc (N : Nat) : PC Tryz.prog 69 (Zq38_S N) := pcQ (L := [Zq38_l0_s N]) (Zq38_gok N) Tryz.call69 Tryz.func69 (fun x => by kernel_rfl) ⟨Zq38_l0_ok N, trivial⟩ (by kernel_rfl)

abbrev Zq37_ps : List (PV.Mode × Ty) := [(.ro, LI), (.ro, LI)]
abbrev Zq37_rs : List (Bool × Ty) := [(true, LI)]
noncomputable def Zq37_G (N : Nat) : GTab := gOf []
theorem Zq37_gok (N : Nat) : GOk Tryz.prog (Zq37_G N) := gOf_ok trivial
noncomputable def Zq37_code : Code := (Tryz.f100.body).getD .skip
noncomputable def Zq37_l0_sh : Sh := ⟨[(1, .one (.ro LI)), (5, .one (.ref 0)), (9, .one (.ro LI)), (10, .one (.ro I)), (11, .one (.ro I))], [.sl 3 I .own]⟩
noncomputable def Zq37_l0_ex : List (Ex × Sh) := [(.exit 0, ⟨[(5, .one (.ref 0))], [.sl 3 I .own]⟩)]
noncomputable def Zq37_l0 {R : Type} (N : Nat) (k0 : (List Int) → Option R) : Nat → (List Int) → (List Int) → Int → Int → (List Int) → Option R
 | 0, _, _, _, _, _ => none
 | K + 1, b1, x, x1, x2, o =>
 (br (ilt x2 x1)
 ((chk (inb x x2)
 (chk (inb b1 x2)
 (br (ine (rdI b1 x2) (rdI x x2))
 ((chk (room o [x2])
 (Zq37_l0 N k0 K b1 x x1 (IntKind.i64.wrap (x2 + 1)) (tApp o [x2]))))
 (Zq37_l0 N k0 K b1 x x1 (IntKind.i64.wrap (x2 + 1)) o)))))
 (k0 o))
noncomputable def Zq37_l0_again {R : Type} (N : Nat) (ks : KS Zq37_l0_ex R) (k : Nat) (x : Zq37_l0_sh.T) : Option R :=
 Zq37_l0 N (fun y0 => ks 0 (((), ()), (y0, ()))) k x.1.1 x.1.2.2.1 x.1.2.2.2.1 x.1.2.2.2.2.1 x.2.1
noncomputable def Zq37_l0_s (N : Nat) : LSum := ⟨Zq37_l0_sh, Zq37_l0_ex, fun x ks => Zq37_l0_again N ks N x⟩
theorem Zq37_l0_ok (N : Nat) : LoopOk Tryz.prog Tryz.f100.ntmps (Zq37_l0_s N) (loopAt Zq37_code 0) := loopQ (sh := Zq37_l0_sh) (ex := Zq37_l0_ex) (N := N) (L := []) (fun R k x ks => Zq37_l0_again N ks k x) (Zq37_gok N) (fun _ _ _ => rfl) (fun R k x ks => by kernel_rfl) trivial (by kernel_rfl)
noncomputable def Zq37 (N : Nat) (a : (List Int)) (b : (List Int)) : Option (((List Int) × Unit) × (Unit)) :=
 Zq37_l0 N (fun o => some ((o, ()), ())) N b a (tLen a) 0 []
noncomputable def Zq37_S (N : Nat) : FSum := ⟨Zq37_ps, Zq37_rs, fun x => Zq37 N x.1 x.2.1⟩
theorem Zq37_pc (N : Nat) : PC Tryz.prog 100 (Zq37_S N) := pcQ (L := [Zq37_l0_s N]) (Zq37_gok N) Tryz.call100 Tryz.func100 (fun x => by kernel_rfl) ⟨Zq37_l0_ok N, trivial⟩ (by kernel_rfl)

abbrev Zq31_ps : List (PV.Mode × Ty) := [(.ro, LI), (.ro, LI)]
abbrev Zq31_rs : List (Bool × Ty) := [(true, .bool)]
noncomputable def Zq31_G (N : Nat) : GTab := gOf [(100, Zq37_S N)]
theorem Zq31_gok (N : Nat) : GOk Tryz.prog (Zq31_G N) := gOf_ok ⟨Zq37_pc N, trivial⟩
noncomputable def Zq31_code : Code := (Tryz.f71.body).getD .skip
noncomputable def Zq31 (N : Nat) (a : (List Int)) (b : (List Int)) : Option ((Bool × Unit) × (Unit)) :=
 ((Zq37 N a b).bind fun r =>
 some (((ieq (tLen r.1.1) 1), ()), ()))
noncomputable def Zq31_S (N : Nat) : FSum := ⟨Zq31_ps, Zq31_rs, fun x => Zq31 N x.1 x.2.1⟩
theorem Zq31_pc (N : Nat) : PC Tryz.prog 71 (Zq31_S N) := pcQ (L := []) (Zq31_gok N) Tryz.call71 Tryz.func71 (fun x => by kernel_rfl) trivial (by kernel_rfl)

abbrev Zq16_ps : List (PV.Mode × Ty) := [(.ro, QIQLLILI)]
abbrev Zq16_rs : List (Bool × Ty) := [(true, QLLILQII), (true, .bool)]
noncomputable def Zq16_G (N : Nat) : GTab := gOf [(27, Zq10_S N), (70, Zq17_S N), (69, Zq38_S N), (71, Zq31_S N)]
theorem Zq16_gok (N : Nat) : GOk Tryz.prog (Zq16_G N) := gOf_ok ⟨Zq10_pc N, Zq17_pc N, Zq38_pc N, Zq31_pc N, trivial⟩
noncomputable def Zq16_code : Code := (Tryz.f25.body).getD .skip
noncomputable def Zq16 (N : Nat) (p : (Int × ((List (List Int)) × (List Int)))) : Option ((((List (List Int)) × (List (Int × Int))) × Bool × Unit) × (Unit)) :=
 ((Zq10 N (p.1, (p.2.1, p.2.2))).bind fun r =>
 (br (!r.1.1)
 (some ((([], []), false, ()), ()))
 (((Zq17 N (p.1, (p.2.1, p.2.2))).bind fun r1 =>
 ((Zq38 N r1.1.1 (fun y0 y1 => (Zq31 N y0 y1).bind fun z => some z.1.1)).bind fun r2 =>
 some (((r2.1.1.1, r2.1.1.2), true, ()), ()))))))
noncomputable def Zq16_S (N : Nat) : FSum := ⟨Zq16_ps, Zq16_rs, fun x => Zq16 N x.1⟩
theorem Zq16_pc (N : Nat) : PC Tryz.prog 25 (Zq16_S N) := pcQ (L := []) (Zq16_gok N) Tryz.call25 Tryz.func25 (fun x => by kernel_rfl) trivial (by kernel_rfl)

abbrev Zq72_ps : List (PV.Mode × Ty) := [(.ro, I), (.ro, I), (.ro, I)]
abbrev Zq72_rs : List (Bool × Ty) := [(true, .bool)]
noncomputable def Zq72_G (N : Nat) : GTab := gOf []
theorem Zq72_gok (N : Nat) : GOk Tryz.prog (Zq72_G N) := gOf_ok trivial
noncomputable def Zq72_code : Code := (Tryz.f42.body).getD .skip
noncomputable def Zq72 (N : Nat) (x : Int) (a : Int) (b : Int) : Option ((Bool × Unit) × (Unit)) :=
 (br (ile a x)
 (some (((ile x b), ()), ()))
 (some ((false, ()), ())))
noncomputable def Zq72_S (N : Nat) : FSum := ⟨Zq72_ps, Zq72_rs, fun x => Zq72 N x.1 x.2.1 x.2.2.1⟩
theorem Zq72_pc (N : Nat) : PC Tryz.prog 42 (Zq72_S N) := pcQ (L := []) (Zq72_gok N) Tryz.call42 Tryz.func42 (fun x => by kernel_rfl) trivial (by kernel_rfl)

abbrev Zq73_ps : List (PV.Mode × Ty) := [(.ro, LI), (.ro, I), (.ro, I)]
abbrev Zq73_rs : List (Bool × Ty) := [(true, .bool)]
noncomputable def Zq73_G (N : Nat) : GTab := gOf [(42, Zq72_S N)]
theorem Zq73_gok (N : Nat) : GOk Tryz.prog (Zq73_G N) := gOf_ok ⟨Zq72_pc N, trivial⟩
noncomputable def Zq73_code : Code := (Tryz.f55.body).getD .skip
noncomputable def Zq73_l0_sh : Sh := ⟨[(0, .one (.ro LI)), (1, .one (.ro I)), (2, .one (.ro I)), (7, .one (.ro I))], []⟩
noncomputable def Zq73_l0_ex : List (Ex × Sh) := [(.ret, ⟨[(6, .one (.ro .bool))], []⟩), (.exit 0, ⟨[], []⟩)]
noncomputable def Zq73_l0 {R : Type} (N : Nat) (k0 : Bool → Option R) (k1 : Unit → Option R) : Nat → (List Int) → Int → Int → Int → Option R
 | 0, _, _, _, _ => none
 | K + 1, l1, lo1, hi1, i =>
 (br (ilt i (tLen l1))
 ((chk (inb l1 i)
 ((Zq72 N (rdI l1 i) lo1 hi1).bind fun r =>
 (br (!r.1.1)
 (k0 false)
 ((br (ilt 0 i)
 ((chk (inb l1 (IntKind.i64.wrap (i - 1)))
 (chk (inb l1 i)
 (br (ile (rdI l1 i) (rdI l1 (IntKind.i64.wrap (i - 1))))
 (k0 false)
 (Zq73_l0 N k0 k1 K l1 lo1 hi1 (IntKind.i64.wrap (i + 1)))))))
 (Zq73_l0 N k0 k1 K l1 lo1 hi1 (IntKind.i64.wrap (i + 1)))))))))
 (k1 ()))
noncomputable def Zq73_l0_again {R : Type} (N : Nat) (ks : KS Zq73_l0_ex R) (k : Nat) (x : Zq73_l0_sh.T) : Option R :=
 Zq73_l0 N (fun y0 => ks 0 ((y0, ()), ())) (fun (_ : Unit) => ks 1 ((), ())) k x.1.1 x.1.2.1 x.1.2.2.1 x.1.2.2.2.1
noncomputable def Zq73_l0_s (N : Nat) : LSum := ⟨Zq73_l0_sh, Zq73_l0_ex, fun x ks => Zq73_l0_again N ks N x⟩
theorem Zq73_l0_ok (N : Nat) : LoopOk Tryz.prog Tryz.f55.ntmps (Zq73_l0_s N) (loopAt Zq73_code 0) := loopQ (sh := Zq73_l0_sh) (ex := Zq73_l0_ex) (N := N) (L := []) (fun R k x ks => Zq73_l0_again N ks k x) (Zq73_gok N) (fun _ _ _ => rfl) (fun R k x ks => by kernel_rfl) trivial (by kernel_rfl)
noncomputable def Zq73 (N : Nat) (l : (List Int)) (lo : Int) (hi : Int) : Option ((Bool × Unit) × (Unit)) :=
 Zq73_l0 N (fun x => some ((x, ()), ())) (fun (_ : Unit) => some ((true, ()), ())) N l lo hi 0
noncomputable def Zq73_S (N : Nat) : FSum := ⟨Zq73_ps, Zq73_rs, fun x => Zq73 N x.1 x.2.1 x.2.2.1⟩
theorem Zq73_pc (N : Nat) : PC Tryz.prog 55 (Zq73_S N) := pcQ (L := [Zq73_l0_s N]) (Zq73_gok N) Tryz.call55 Tryz.func55 (fun x => by kernel_rfl) ⟨Zq73_l0_ok N, trivial⟩ (by kernel_rfl)

abbrev Zq87_ps : List (PV.Mode × Ty) := [(.ro, I), (.ro, LI)]
abbrev Zq87_rs : List (Bool × Ty) := [(true, .bool)]
noncomputable def Zq87_G (N : Nat) : GTab := gOf [(42, Zq72_S N)]
theorem Zq87_gok (N : Nat) : GOk Tryz.prog (Zq87_G N) := gOf_ok ⟨Zq72_pc N, trivial⟩
noncomputable def Zq87_code : Code := (Tryz.f62.body).getD .skip
noncomputable def Zq87_l0_sh : Sh := ⟨[(0, .one (.ro I)), (1, .one (.ro LI)), (5, .one (.ro I))], []⟩
noncomputable def Zq87_l0_ex : List (Ex × Sh) := [(.ret, ⟨[(4, .one (.ro .bool))], []⟩), (.exit 0, ⟨[(0, .one (.ro I)), (1, .one (.ro LI))], []⟩)]
noncomputable def Zq87_l0 {R : Type} (N : Nat) (k0 : Bool → Option R) (k1 : Int → (List Int) → Option R) : Nat → Int → (List Int) → Int → Option R
 | 0, _, _, _ => none
 | K + 1, vars1, bits1, i =>
 (br (ilt i (tLen bits1))
 ((chk (inb bits1 i)
 ((Zq72 N (rdI bits1 i) 0 1).bind fun r =>
 (br (!r.1.1)
 (k0 false)
 (Zq87_l0 N k0 k1 K vars1 bits1 (IntKind.i64.wrap (i + 1)))))))
 (k1 vars1 bits1))
noncomputable def Zq87_l0_again {R : Type} (N : Nat) (ks : KS Zq87_l0_ex R) (k : Nat) (x : Zq87_l0_sh.T) : Option R :=
 Zq87_l0 N (fun y0 => ks 0 ((y0, ()), ())) (fun y0 y1 => ks 1 ((y0, y1, ()), ())) k x.1.1 x.1.2.1 x.1.2.2.1
noncomputable def Zq87_l0_s (N : Nat) : LSum := ⟨Zq87_l0_sh, Zq87_l0_ex, fun x ks => Zq87_l0_again N ks N x⟩
theorem Zq87_l0_ok (N : Nat) : LoopOk Tryz.prog Tryz.f62.ntmps (Zq87_l0_s N) (loopAt Zq87_code 0) := loopQ (sh := Zq87_l0_sh) (ex := Zq87_l0_ex) (N := N) (L := []) (fun R k x ks => Zq87_l0_again N ks k x) (Zq87_gok N) (fun _ _ _ => rfl) (fun R k x ks => by kernel_rfl) trivial (by kernel_rfl)
noncomputable def Zq87 (N : Nat) (vars : Int) (bits : (List Int)) : Option ((Bool × Unit) × (Unit)) :=
 Zq87_l0 N (fun x => some ((x, ()), ())) (fun vars1 bits1 => some (((ieq (tLen bits1) vars1), ()), ())) N vars bits 0
noncomputable def Zq87_S (N : Nat) : FSum := ⟨Zq87_ps, Zq87_rs, fun x => Zq87 N x.1 x.2.1⟩
theorem Zq87_pc (N : Nat) : PC Tryz.prog 62 (Zq87_S N) := pcQ (L := [Zq87_l0_s N]) (Zq87_gok N) Tryz.call62 Tryz.func62 (fun x => by kernel_rfl) ⟨Zq87_l0_ok N, trivial⟩ (by kernel_rfl)

abbrev Zq91_ps : List (PV.Mode × Ty) := [(.ro, QIQLLILI)]
abbrev Zq91_rs : List (Bool × Ty) := [(true, .bool)]
noncomputable def Zq91_G (N : Nat) : GTab := gOf [(55, Zq73_S N), (42, Zq72_S N), (62, Zq87_S N)]
theorem Zq91_gok (N : Nat) : GOk Tryz.prog (Zq91_G N) := gOf_ok ⟨Zq73_pc N, Zq72_pc N, Zq87_pc N, trivial⟩
noncomputable def Zq91_code : Code := (Tryz.f72.body).getD .skip
noncomputable def Zq91_l0_sh : Sh := ⟨[(1, .one (.adr 0 0)), (3, .one (.ro I))], [.box [.ro I, .ro LLI, .ro LI]]⟩
noncomputable def Zq91_l0_ex : List (Ex × Sh) := [(.ret, ⟨[(2, .one (.ro .bool))], []⟩), (.exit 0, ⟨[(1, .one (.adr 0 0))], [.box [.ro I, .ro LLI, .ro LI]]⟩)]
noncomputable def Zq91_l0 {R : Type} (N : Nat) (k0 : Bool → Option R) (k1 : Int → (List (List Int)) → (List Int) → Option R) : Nat → Int → Int → (List (List Int)) → (List Int) → Option R
 | 0, _, _, _, _ => none
 | K + 1, i, o, o1, o2 =>
 (br (ilt i (tLen o1))
 ((chk (inb o1 i)
 ((Zq73 N (rdL o1 i) 0 (IntKind.i64.wrap (o - 1))).bind fun r =>
 (br (!r.1.1)
 (k0 false)
 (Zq91_l0 N k0 k1 K (IntKind.i64.wrap (i + 1)) o o1 o2)))))
 (k1 o o1 o2))
noncomputable def Zq91_l0_again {R : Type} (N : Nat) (ks : KS Zq91_l0_ex R) (k : Nat) (x : Zq91_l0_sh.T) : Option R :=
 Zq91_l0 N (fun y0 => ks 0 ((y0, ()), ())) (fun y0 y1 y2 => ks 1 (((), ()), ((y0, y1, y2, ()), ()))) k x.1.2.1 x.2.1.1 x.2.1.2.1 x.2.1.2.2.1
noncomputable def Zq91_l0_s (N : Nat) : LSum := ⟨Zq91_l0_sh, Zq91_l0_ex, fun x ks => Zq91_l0_again N ks N x⟩
theorem Zq91_l0_ok (N : Nat) : LoopOk Tryz.prog Tryz.f72.ntmps (Zq91_l0_s N) (loopAt Zq91_code 0) := loopQ (sh := Zq91_l0_sh) (ex := Zq91_l0_ex) (N := N) (L := []) (fun R k x ks => Zq91_l0_again N ks k x) (Zq91_gok N) (fun _ _ _ => rfl) (fun R k x ks => by kernel_rfl) trivial (by kernel_rfl)
noncomputable def Zq91 (N : Nat) (p : (Int × ((List (List Int)) × (List Int)))) : Option ((Bool × Unit) × (Unit)) :=
 Zq91_l0 N (fun x => some ((x, ()), ())) (fun o o1 o2 => ((Zq72 N o 0 6).bind fun r =>
 (br r.1.1
 ((br (ile (tLen o1) 6)
 (((Zq87 N (tLen o1) o2).bind fun r1 =>
 some ((r1.1.1, ()), ())))
 (some ((false, ()), ()))))
 (some ((false, ()), ()))))) N 0 p.1 p.2.1 p.2.2
noncomputable def Zq91_S (N : Nat) : FSum := ⟨Zq91_ps, Zq91_rs, fun x => Zq91 N x.1⟩
theorem Zq91_pc (N : Nat) : PC Tryz.prog 72 (Zq91_S N) := pcQ (L := [Zq91_l0_s N]) (Zq91_gok N) Tryz.call72 Tryz.func72 (fun x => by kernel_rfl) ⟨Zq91_l0_ok N, trivial⟩ (by kernel_rfl)

abbrev Zq85_ps : List (PV.Mode × Ty) := [(.ro, I)]
abbrev Zq85_rs : List (Bool × Ty) := [(false, LLI)]
noncomputable def Zq85_G (N : Nat) : GTab := gOf []
theorem Zq85_gok (N : Nat) : GOk Tryz.prog (Zq85_G N) := gOf_ok trivial
noncomputable def Zq85_code : Code := (Tryz.f81.body).getD .skip
noncomputable def Zq85_l0_0_sh : Sh := ⟨[(0, .one (.ro I)), (3, .one (.ref 0)), (4, .one (.ro I)), (5, .one (.ref 1)), (6, .one (.ro I))], [.sl 33 LI .deep, .sl 3 I .own]⟩
noncomputable def Zq85_l0_0_ex : List (Ex × Sh) := [(.exit 2, ⟨[(0, .one (.ro I)), (3, .one (.ref 0)), (4, .one (.ro I)), (5, .one (.ref 1))], [.sl 33 LI .deep, .sl 3 I .own]⟩)]
noncomputable def Zq85_l0_0 {R : Type} (N : Nat) (k0 : Int → Int → (List (List Int)) → (List Int) → Option R) : Nat → Int → Int → Int → (List (List Int)) → (List Int) → Option R
 | 0, _, _, _, _, _ => none
 | K + 1, vars2, code1, v, o1, o2 =>
 (br (ilt v vars2)
 ((chk (ile 0 (IntKind.i64.wrap ((IntKind.i64.wrap (vars2 - 1)) - v)))
 (chk (room o2 [(bitop .and .i64 (shrI .i64 code1 (IntKind.i64.wrap ((IntKind.i64.wrap (vars2 - 1)) - v))) 1)])
 (Zq85_l0_0 N k0 K vars2 code1 (IntKind.i64.wrap (v + 1)) o1 (tApp o2 [(bitop .and .i64 (shrI .i64 code1 (IntKind.i64.wrap ((IntKind.i64.wrap (vars2 - 1)) - v))) 1)])))))
 (k0 vars2 code1 o1 o2))
noncomputable def Zq85_l0_0_again {R : Type} (N : Nat) (ks : KS Zq85_l0_0_ex R) (k : Nat) (x : Zq85_l0_0_sh.T) : Option R :=
 Zq85_l0_0 N (fun y0 y1 y2 y3 => ks 0 ((y0, (), y1, (), ()), (y2, y3, ()))) k x.1.1 x.1.2.2.1 x.1.2.2.2.2.1 x.2.1 x.2.2.1
noncomputable def Zq85_l0_0_s (N : Nat) : LSum := ⟨Zq85_l0_0_sh, Zq85_l0_0_ex, fun x ks => Zq85_l0_0_again N ks N x⟩
theorem Zq85_l0_0_ok (N : Nat) : LoopOk Tryz.prog Tryz.f81.ntmps (Zq85_l0_0_s N) (loopAt (loopAt Zq85_code 0) 0) := loopQ (sh := Zq85_l0_0_sh) (ex := Zq85_l0_0_ex) (N := N) (L := []) (fun R k x ks => Zq85_l0_0_again N ks k x) (Zq85_gok N) (fun _ _ _ => rfl) (fun R k x ks => by kernel_rfl) trivial (by kernel_rfl)
noncomputable def Zq85_l0_sh : Sh := ⟨[(0, .one (.ro I)), (3, .one (.ref 0)), (4, .one (.ro I))], [.sl 33 LI .deep]⟩
noncomputable def Zq85_l0_ex : List (Ex × Sh) := [(.exit 0, ⟨[(3, .one (.ref 0))], [.sl 33 LI .deep]⟩)]
noncomputable def Zq85_l0 {R : Type} (N : Nat) (k0 : (List (List Int)) → Option R) : Nat → Int → Int → (List (List Int)) → Option R
 | 0, _, _, _ => none
 | K + 1, vars1, code, o =>
 (chk (ile 0 vars1)
 (br (ilt code (shlI .i64 1 vars1))
 (Zq85_l0_0 N (fun vars2 code1 o1 o2 => (chk (room o1 [o2])
 (Zq85_l0 N k0 K vars2 (IntKind.i64.wrap (code1 + 1)) (tApp o1 [o2])))) N vars1 code 0 o [])
 (k0 o)))
noncomputable def Zq85_l0_again {R : Type} (N : Nat) (ks : KS Zq85_l0_ex R) (k : Nat) (x : Zq85_l0_sh.T) : Option R :=
 Zq85_l0 N (fun y0 => ks 0 (((), ()), (y0, ()))) k x.1.1 x.1.2.2.1 x.2.1
noncomputable def Zq85_l0_s (N : Nat) : LSum := ⟨Zq85_l0_sh, Zq85_l0_ex, fun x ks => Zq85_l0_again N ks N x⟩
theorem Zq85_l0_ok (N : Nat) : LoopOk Tryz.prog Tryz.f81.ntmps (Zq85_l0_s N) (loopAt Zq85_code 0) := loopQ (sh := Zq85_l0_sh) (ex := Zq85_l0_ex) (N := N) (L := [Zq85_l0_0_s N]) (fun R k x ks => Zq85_l0_again N ks k x) (Zq85_gok N) (fun _ _ _ => rfl) (fun R k x ks => by kernel_rfl) ⟨Zq85_l0_0_ok N, trivial⟩ (by kernel_rfl)
noncomputable def Zq85 (N : Nat) (vars : Int) : Option (((List (List Int)) × Unit) × (Unit)) :=
 Zq85_l0 N (fun o => some ((o, ()), ())) N vars 0 []
noncomputable def Zq85_S (N : Nat) : FSum := ⟨Zq85_ps, Zq85_rs, fun x => Zq85 N x.1⟩
theorem Zq85_pc (N : Nat) : PC Tryz.prog 81 (Zq85_S N) := pcQ (L := [Zq85_l0_s N]) (Zq85_gok N) Tryz.call81 Tryz.func81 (fun x => by kernel_rfl) ⟨Zq85_l0_ok N, trivial⟩ (by kernel_rfl)

abbrev Zq88_ps : List (PV.Mode × Ty) := [(.ro, QIQLLILI)]
abbrev Zq88_rs : List (Bool × Ty) := [(false, LLI)]
noncomputable def Zq88_G (N : Nat) : GTab := gOf [(81, Zq85_S N)]
theorem Zq88_gok (N : Nat) : GOk Tryz.prog (Zq88_G N) := gOf_ok ⟨Zq85_pc N, trivial⟩
noncomputable def Zq88_code : Code := (Tryz.f73.body).getD .skip
noncomputable def Zq88_l0_0_0_sh : Sh := ⟨[(1, .one (.adr 0 0)), (3, .one (.ref 1)), (4, .one (.ro LLI)), (5, .one (.ro I)), (6, .one (.ro .bool)), (7, .one (.ro I)), (8, .one (.ro I)), (9, .one (.ro I))], [.box [.ro I, .ro LLI, .ro LI], .sl 33 LI .own]⟩
noncomputable def Zq88_l0_0_0_ex : List (Ex × Sh) := [(.exit 4, ⟨[(1, .one (.adr 0 0)), (3, .one (.ref 1)), (4, .one (.ro LLI)), (5, .one (.ro I)), (6, .one (.ro .bool)), (7, .one (.ro I)), (8, .one (.ro I))], [.box [.ro I, .ro LLI, .ro LI], .sl 33 LI .own]⟩)]
noncomputable def Zq88_l0_0_0 {R : Type} (N : Nat) (k0 : (List (List Int)) → Int → Bool → Int → Int → Int → (List (List Int)) → (List Int) → (List (List Int)) → Option R) : Nat → (List (List Int)) → Int → Bool → Int → Int → Int → Int → (List (List Int)) → (List Int) → (List (List Int)) → Option R
 | 0, _, _, _, _, _, _, _, _, _, _ => none
 | K + 1, x11, x12, x13, x14, x15, x16, o16, o17, o18, o19 =>
 (chk (inb o17 x14)
 (br (ilt x16 (tLen (rdL o17 x14)))
 ((chk (inb x11 x12)
 (chk (inb o17 x14)
 (chk (inb (rdL o17 x14) x16)
 (chk (inb (rdL x11 x12) (rdI (rdL o17 x14) x16))
 (Zq88_l0_0_0 N k0 K x11 x12 x13 x14 (IntKind.i64.wrap (x15 + (rdI (rdL x11 x12) (rdI (rdL o17 x14) x16)))) (IntKind.i64.wrap (x16 + 1)) o16 o17 o18 o19))))))
 (k0 x11 x12 x13 x14 x15 o16 o17 o18 o19)))
noncomputable def Zq88_l0_0_0_again {R : Type} (N : Nat) (ks : KS Zq88_l0_0_0_ex R) (k : Nat) (x : Zq88_l0_0_0_sh.T) : Option R :=
 Zq88_l0_0_0 N (fun y0 y1 y2 y3 y4 y5 y6 y7 y8 => ks 0 (((), (), y0, y1, y2, y3, y4, ()), ((y5, y6, y7, ()), y8, ()))) k x.1.2.2.1 x.1.2.2.2.1 x.1.2.2.2.2.1 x.1.2.2.2.2.2.1 x.1.2.2.2.2.2.2.1 x.1.2.2.2.2.2.2.2.1 x.2.1.1 x.2.1.2.1 x.2.1.2.2.1 x.2.2.1
noncomputable def Zq88_l0_0_0_s (N : Nat) : LSum := ⟨Zq88_l0_0_0_sh, Zq88_l0_0_0_ex, fun x ks => Zq88_l0_0_0_again N ks N x⟩
theorem Zq88_l0_0_0_ok (N : Nat) : LoopOk Tryz.prog Tryz.f73.ntmps (Zq88_l0_0_0_s N) (loopAt (loopAt (loopAt Zq88_code 0) 0) 0) := loopQ (sh := Zq88_l0_0_0_sh) (ex := Zq88_l0_0_0_ex) (N := N) (L := []) (fun R k x ks => Zq88_l0_0_0_again N ks k x) (Zq88_gok N) (fun _ _ _ => rfl) (fun R k x ks => by kernel_rfl) trivial (by kernel_rfl)
noncomputable def Zq88_l0_0_sh : Sh := ⟨[(1, .one (.adr 0 0)), (3, .one (.ref 1)), (4, .one (.ro LLI)), (5, .one (.ro I)), (6, .one (.ro .bool)), (7, .one (.ro I))], [.box [.ro I, .ro LLI, .ro LI], .sl 33 LI .own]⟩
noncomputable def Zq88_l0_0_ex : List (Ex × Sh) := [(.exit 2, ⟨[(1, .one (.adr 0 0)), (3, .one (.ref 1)), (4, .one (.ro LLI)), (5, .one (.ro I)), (6, .one (.ro .bool))], [.box [.ro I, .ro LLI, .ro LI], .sl 33 LI .own]⟩)]
noncomputable def Zq88_l0_0 {R : Type} (N : Nat) (k0 : (List (List Int)) → Int → Bool → Int → (List (List Int)) → (List Int) → (List (List Int)) → Option R) : Nat → (List (List Int)) → Int → Bool → Int → Int → (List (List Int)) → (List Int) → (List (List Int)) → Option R
 | 0, _, _, _, _, _, _, _, _ => none
 | K + 1, x7, x8, x9, x10, o12, o13, o14, o15 =>
 (br (ilt x10 (tLen o13))
 ((chk (inb o14 x10)
 (Zq88_l0_0_0 N (fun x11 x12 x13 x14 x15 o16 o17 o18 o19 => (br x13
 (Zq88_l0_0 N k0 K x11 x12 (ieq (x15.tmod 2) 0) (IntKind.i64.wrap (x14 + 1)) o16 o17 o18 o19)
 (Zq88_l0_0 N k0 K x11 x12 false (IntKind.i64.wrap (x14 + 1)) o16 o17 o18 o19))) N x7 x8 x9 x10 (rdI o14 x10) 0 o12 o13 o14 o15)))
 (k0 x7 x8 x9 o12 o13 o14 o15))
noncomputable def Zq88_l0_0_again {R : Type} (N : Nat) (ks : KS Zq88_l0_0_ex R) (k : Nat) (x : Zq88_l0_0_sh.T) : Option R :=
 Zq88_l0_0 N (fun y0 y1 y2 y3 y4 y5 y6 => ks 0 (((), (), y0, y1, y2, ()), ((y3, y4, y5, ()), y6, ()))) k x.1.2.2.1 x.1.2.2.2.1 x.1.2.2.2.2.1 x.1.2.2.2.2.2.1 x.2.1.1 x.2.1.2.1 x.2.1.2.2.1 x.2.2.1
noncomputable def Zq88_l0_0_s (N : Nat) : LSum := ⟨Zq88_l0_0_sh, Zq88_l0_0_ex, fun x ks => Zq88_l0_0_again N ks N x⟩
theorem Zq88_l0_0_ok (N : Nat) : LoopOk Tryz.prog Tryz.f73.ntmps (Zq88_l0_0_s N) (loopAt (loopAt Zq88_code 0) 0) := loopQ (sh := Zq88_l0_0_sh) (ex := Zq88_l0_0_ex) (N := N) (L := [Zq88_l0_0_0_s N]) (fun R k x ks => Zq88_l0_0_again N ks k x) (Zq88_gok N) (fun _ _ _ => rfl) (fun R k x ks => by kernel_rfl) ⟨Zq88_l0_0_0_ok N, trivial⟩ (by kernel_rfl)
noncomputable def Zq88_l0_sh : Sh := ⟨[(1, .one (.adr 0 0)), (3, .one (.ref 1)), (4, .one (.ro LLI)), (5, .one (.ro I))], [.box [.ro I, .ro LLI, .ro LI], .sl 33 LI .own]⟩
noncomputable def Zq88_l0_ex : List (Ex × Sh) := [(.exit 0, ⟨[(3, .one (.ref 0))], [.sl 33 LI .own]⟩)]
noncomputable def Zq88_l0 {R : Type} (N : Nat) (k0 : (List (List Int)) → Option R) : Nat → (List (List Int)) → Int → Int → (List (List Int)) → (List Int) → (List (List Int)) → Option R
 | 0, _, _, _, _, _, _ => none
 | K + 1, x5, x6, o8, o9, o10, o11 =>
 (br (ilt x6 (tLen x5))
 (Zq88_l0_0 N (fun x7 x8 x9 o12 o13 o14 o15 => (br x9
 ((chk (inb x7 x8)
 (chk (room o15 [(rdL x7 x8)])
 (Zq88_l0 N k0 K x7 (IntKind.i64.wrap (x8 + 1)) o12 o13 o14 (tApp o15 [(rdL x7 x8)])))))
 (Zq88_l0 N k0 K x7 (IntKind.i64.wrap (x8 + 1)) o12 o13 o14 o15))) N x5 x6 true 0 o8 o9 o10 o11)
 (k0 o11))
noncomputable def Zq88_l0_again {R : Type} (N : Nat) (ks : KS Zq88_l0_ex R) (k : Nat) (x : Zq88_l0_sh.T) : Option R :=
 Zq88_l0 N (fun y0 => ks 0 (((), ()), (y0, ()))) k x.1.2.2.1 x.1.2.2.2.1 x.2.1.1 x.2.1.2.1 x.2.1.2.2.1 x.2.2.1
noncomputable def Zq88_l0_s (N : Nat) : LSum := ⟨Zq88_l0_sh, Zq88_l0_ex, fun x ks => Zq88_l0_again N ks N x⟩
theorem Zq88_l0_ok (N : Nat) : LoopOk Tryz.prog Tryz.f73.ntmps (Zq88_l0_s N) (loopAt Zq88_code 0) := loopQ (sh := Zq88_l0_sh) (ex := Zq88_l0_ex) (N := N) (L := [Zq88_l0_0_s N]) (fun R k x ks => Zq88_l0_again N ks k x) (Zq88_gok N) (fun _ _ _ => rfl) (fun R k x ks => by kernel_rfl) ⟨Zq88_l0_0_ok N, trivial⟩ (by kernel_rfl)
noncomputable def Zq88 (N : Nat) (c : (Int × ((List (List Int)) × (List Int)))) : Option (((List (List Int)) × Unit) × (Unit)) :=
 ((Zq85 N c.1).bind fun r =>
 Zq88_l0 N (fun o8 => some ((o8, ()), ())) N r.1.1 0 c.1 c.2.1 c.2.2 [])
noncomputable def Zq88_S (N : Nat) : FSum := ⟨Zq88_ps, Zq88_rs, fun x => Zq88 N x.1⟩
theorem Zq88_pc (N : Nat) : PC Tryz.prog 73 (Zq88_S N) := pcQ (L := [Zq88_l0_s N]) (Zq88_gok N) Tryz.call73 Tryz.func73 (fun x => by kernel_rfl) ⟨Zq88_l0_ok N, trivial⟩ (by kernel_rfl)

abbrev Zq86_ps : List (PV.Mode × Ty) := [(.ro, LI), (.ro, LI)]
abbrev Zq86_rs : List (Bool × Ty) := [(true, I)]
noncomputable def Zq86_G (N : Nat) : GTab := gOf []
theorem Zq86_gok (N : Nat) : GOk Tryz.prog (Zq86_G N) := gOf_ok trivial
noncomputable def Zq86_code : Code := (Tryz.f95.body).getD .skip
noncomputable def Zq86_l0_sh : Sh := ⟨[(0, .one (.ro LI)), (1, .one (.ro LI)), (5, .one (.ro I)), (6, .one (.ro I))], []⟩
noncomputable def Zq86_l0_ex : List (Ex × Sh) := [(.exit 0, ⟨[(5, .one (.ro I))], []⟩)]
noncomputable def Zq86_l0 {R : Type} (N : Nat) (k0 : Int → Option R) : Nat → (List Int) → (List Int) → Int → Int → Option R
 | 0, _, _, _, _ => none
 | K + 1, a1, b1, count, i =>
 (br (ilt i (tLen a1))
 ((chk (inb a1 i)
 (chk (inb b1 i)
 (br (ine (rdI a1 i) (rdI b1 i))
 (Zq86_l0 N k0 K a1 b1 (IntKind.i64.wrap (count + 1)) (IntKind.i64.wrap (i + 1)))
 (Zq86_l0 N k0 K a1 b1 count (IntKind.i64.wrap (i + 1)))))))
 (k0 count))
noncomputable def Zq86_l0_again {R : Type} (N : Nat) (ks : KS Zq86_l0_ex R) (k : Nat) (x : Zq86_l0_sh.T) : Option R :=
 Zq86_l0 N (fun y0 => ks 0 ((y0, ()), ())) k x.1.1 x.1.2.1 x.1.2.2.1 x.1.2.2.2.1
noncomputable def Zq86_l0_s (N : Nat) : LSum := ⟨Zq86_l0_sh, Zq86_l0_ex, fun x ks => Zq86_l0_again N ks N x⟩
theorem Zq86_l0_ok (N : Nat) : LoopOk Tryz.prog Tryz.f95.ntmps (Zq86_l0_s N) (loopAt Zq86_code 0) := loopQ (sh := Zq86_l0_sh) (ex := Zq86_l0_ex) (N := N) (L := []) (fun R k x ks => Zq86_l0_again N ks k x) (Zq86_gok N) (fun _ _ _ => rfl) (fun R k x ks => by kernel_rfl) trivial (by kernel_rfl)
noncomputable def Zq86 (N : Nat) (a : (List Int)) (b : (List Int)) : Option ((Int × Unit) × (Unit)) :=
 Zq86_l0 N (fun count => some ((count, ()), ())) N a b 0 0
noncomputable def Zq86_S (N : Nat) : FSum := ⟨Zq86_ps, Zq86_rs, fun x => Zq86 N x.1 x.2.1⟩
theorem Zq86_pc (N : Nat) : PC Tryz.prog 95 (Zq86_S N) := pcQ (L := [Zq86_l0_s N]) (Zq86_gok N) Tryz.call95 Tryz.func95 (fun x => by kernel_rfl) ⟨Zq86_l0_ok N, trivial⟩ (by kernel_rfl)

abbrev Zq92_ps : List (PV.Mode × Ty) := [(.ro, LLI)]
abbrev Zq92_rs : List (Bool × Ty) := [(false, QLLILQII)]
noncomputable def Zq92_G (N : Nat) : GTab := gOf [(95, Zq86_S N)]
theorem Zq92_gok (N : Nat) : GOk Tryz.prog (Zq92_G N) := gOf_ok ⟨Zq86_pc N, trivial⟩
noncomputable def Zq92_code : Code := (Tryz.f65.body).getD .skip
noncomputable def Zq92_l0_0_sh : Sh := ⟨[(0, .one (.ro LLI)), (2, .one (.adr 0 0)), (3, .one (.adr 1 0)), (4, .one (.ro I)), (5, .one (.ro I))], [.box [.nilsl, .nilsl], .box [.ro LLI, .ref 2], .sl 108 QII .own]⟩
noncomputable def Zq92_l0_0_ex : List (Ex × Sh) := [(.exit 2, ⟨[(0, .one (.ro LLI)), (2, .one (.adr 0 0)), (3, .one (.adr 1 0)), (4, .one (.ro I))], [.box [.nilsl, .nilsl], .box [.ro LLI, .ref 2], .sl 108 QII .own]⟩)]
noncomputable def Zq92_l0_0 {R : Type} (N : Nat) (k0 : (List (List Int)) → Int → (List (List Int)) → (List (Int × Int)) → Option R) : Nat → (List (List Int)) → Int → Int → (List (List Int)) → (List (Int × Int)) → Option R
 | 0, _, _, _, _, _ => none
 | K + 1, states2, i1, j, o2, o3 =>
 (br (ilt j (tLen states2))
 ((chk (inb states2 i1)
 (chk (inb states2 j)
 ((Zq86 N (rdL states2 i1) (rdL states2 j)).bind fun r =>
 (br (ieq r.1.1 1)
 ((chk (room o3 [(i1, j)])
 (Zq92_l0_0 N k0 K states2 i1 (IntKind.i64.wrap (j + 1)) o2 (tApp o3 [(i1, j)]))))
 (Zq92_l0_0 N k0 K states2 i1 (IntKind.i64.wrap (j + 1)) o2 o3))))))
 (k0 states2 i1 o2 o3))
noncomputable def Zq92_l0_0_again {R : Type} (N : Nat) (ks : KS Zq92_l0_0_ex R) (k : Nat) (x : Zq92_l0_0_sh.T) : Option R :=
 Zq92_l0_0 N (fun y0 y1 y2 y3 => ks 0 ((y0, (), (), y1, ()), (((), (), ()), (y2, (), ()), y3, ()))) k x.1.1 x.1.2.2.2.1 x.1.2.2.2.2.1 x.2.2.1.1 x.2.2.2.1
noncomputable def Zq92_l0_0_s (N : Nat) : LSum := ⟨Zq92_l0_0_sh, Zq92_l0_0_ex, fun x ks => Zq92_l0_0_again N ks N x⟩
theorem Zq92_l0_0_ok (N : Nat) : LoopOk Tryz.prog Tryz.f65.ntmps (Zq92_l0_0_s N) (loopAt (loopAt Zq92_code 0) 0) := loopQ (sh := Zq92_l0_0_sh) (ex := Zq92_l0_0_ex) (N := N) (L := []) (fun R k x ks => Zq92_l0_0_again N ks k x) (Zq92_gok N) (fun _ _ _ => rfl) (fun R k x ks => by kernel_rfl) trivial (by kernel_rfl)
noncomputable def Zq92_l0_sh : Sh := ⟨[(0, .one (.ro LLI)), (2, .one (.adr 0 0)), (3, .one (.adr 1 0)), (4, .one (.ro I))], [.box [.nilsl, .nilsl], .box [.ro LLI, .ref 2], .sl 108 QII .own]⟩
noncomputable def Zq92_l0_ex : List (Ex × Sh) := [(.exit 0, ⟨[(2, .one (.adr 0 0)), (3, .one (.adr 1 0))], [.box [.nilsl, .nilsl], .box [.ro LLI, .ref 2], .sl 108 QII .own]⟩)]
noncomputable def Zq92_l0 {R : Type} (N : Nat) (k0 : (List (List Int)) → (List (Int × Int)) → Option R) : Nat → (List (List Int)) → Int → (List (List Int)) → (List (Int × Int)) → Option R
 | 0, _, _, _, _ => none
 | K + 1, states1, i, o, o1 =>
 (br (ilt i (tLen states1))
 (Zq92_l0_0 N (fun states2 i1 o2 o3 => Zq92_l0 N k0 K states2 (IntKind.i64.wrap (i1 + 1)) o2 o3) N states1 i (IntKind.i64.wrap (i + 1)) o o1)
 (k0 o o1))
noncomputable def Zq92_l0_again {R : Type} (N : Nat) (ks : KS Zq92_l0_ex R) (k : Nat) (x : Zq92_l0_sh.T) : Option R :=
 Zq92_l0 N (fun y0 y1 => ks 0 (((), (), ()), (((), (), ()), (y0, (), ()), y1, ()))) k x.1.1 x.1.2.2.2.1 x.2.2.1.1 x.2.2.2.1
noncomputable def Zq92_l0_s (N : Nat) : LSum := ⟨Zq92_l0_sh, Zq92_l0_ex, fun x ks => Zq92_l0_again N ks N x⟩
theorem Zq92_l0_ok (N : Nat) : LoopOk Tryz.prog Tryz.f65.ntmps (Zq92_l0_s N) (loopAt Zq92_code 0) := loopQ (sh := Zq92_l0_sh) (ex := Zq92_l0_ex) (N := N) (L := [Zq92_l0_0_s N]) (fun R k x ks => Zq92_l0_again N ks k x) (Zq92_gok N) (fun _ _ _ => rfl) (fun R k x ks => by kernel_rfl) ⟨Zq92_l0_0_ok N, trivial⟩ (by kernel_rfl)
noncomputable def Zq92 (N : Nat) (states : (List (List Int))) : Option ((((List (List Int)) × (List (Int × Int))) × Unit) × (Unit)) :=
 Zq92_l0 N (fun o o1 => some (((o, o1), ()), ())) N states 0 states []
noncomputable def Zq92_S (N : Nat) : FSum := ⟨Zq92_ps, Zq92_rs, fun x => Zq92 N x.1⟩
theorem Zq92_pc (N : Nat) : PC Tryz.prog 65 (Zq92_S N) := pcQ (L := [Zq92_l0_s N]) (Zq92_gok N) Tryz.call65 Tryz.func65 (fun x => by kernel_rfl) ⟨Zq92_l0_ok N, trivial⟩ (by kernel_rfl)

abbrev Zq66_ps : List (PV.Mode × Ty) := [(.ro, QIQLLILI)]
abbrev Zq66_rs : List (Bool × Ty) := [(false, QLLILQII), (true, .bool)]
noncomputable def Zq66_G (N : Nat) : GTab := gOf [(72, Zq91_S N), (73, Zq88_S N), (65, Zq92_S N)]
theorem Zq66_gok (N : Nat) : GOk Tryz.prog (Zq66_G N) := gOf_ok ⟨Zq91_pc N, Zq88_pc N, Zq92_pc N, trivial⟩
noncomputable def Zq66_code : Code := (Tryz.f26.body).getD .skip
noncomputable def Zq66 (N : Nat) (p : (Int × ((List (List Int)) × (List Int)))) : Option ((((List (List Int)) × (List (Int × Int))) × Bool × Unit) × (Unit)) :=
 ((Zq91 N (p.1, (p.2.1, p.2.2))).bind fun r =>
 (br (!r.1.1)
 (some ((([], []), false, ()), ()))
 (((Zq88 N (p.1, (p.2.1, p.2.2))).bind fun r1 =>
 ((Zq92 N r1.1.1).bind fun r2 =>
 some (((r2.1.1.1, r2.1.1.2), true, ()), ()))))))
noncomputable def Zq66_S (N : Nat) : FSum := ⟨Zq66_ps, Zq66_rs, fun x => Zq66 N x.1⟩
theorem Zq66_pc (N : Nat) : PC Tryz.prog 26 (Zq66_S N) := pcQ (L := []) (Zq66_gok N) Tryz.call26 Tryz.func26 (fun x => by kernel_rfl) trivial (by kernel_rfl)

abbrev Zq44_ps : List (PV.Mode × Ty) := [(.ro, LI), (.ro, LI)]
abbrev Zq44_rs : List (Bool × Ty) := [(true, .bool)]
noncomputable def Zq44_G (N : Nat) : GTab := gOf []
theorem Zq44_gok (N : Nat) : GOk Tryz.prog (Zq44_G N) := gOf_ok trivial
noncomputable def Zq44_code : Code := (Tryz.f30.body).getD .skip
noncomputable def Zq44_l0_sh : Sh := ⟨[(0, .one (.ro LI)), (1, .one (.ro LI)), (5, .one (.ro I))], []⟩
noncomputable def Zq44_l0_ex : List (Ex × Sh) := [(.ret, ⟨[(4, .one (.ro .bool))], []⟩), (.exit 0, ⟨[], []⟩)]
noncomputable def Zq44_l0 {R : Type} (N : Nat) (k0 : Bool → Option R) (k1 : Unit → Option R) : Nat → (List Int) → (List Int) → Int → Option R
 | 0, _, _, _ => none
 | K + 1, a1, b1, i =>
 (br (ilt i (tLen a1))
 ((chk (inb a1 i)
 (chk (inb b1 i)
 (br (ine (rdI a1 i) (rdI b1 i))
 (k0 false)
 (Zq44_l0 N k0 k1 K a1 b1 (IntKind.i64.wrap (i + 1)))))))
 (k1 ()))
noncomputable def Zq44_l0_again {R : Type} (N : Nat) (ks : KS Zq44_l0_ex R) (k : Nat) (x : Zq44_l0_sh.T) : Option R :=
 Zq44_l0 N (fun y0 => ks 0 ((y0, ()), ())) (fun (_ : Unit) => ks 1 ((), ())) k x.1.1 x.1.2.1 x.1.2.2.1
noncomputable def Zq44_l0_s (N : Nat) : LSum := ⟨Zq44_l0_sh, Zq44_l0_ex, fun x ks => Zq44_l0_again N ks N x⟩
theorem Zq44_l0_ok (N : Nat) : LoopOk Tryz.prog Tryz.f30.ntmps (Zq44_l0_s N) (loopAt Zq44_code 0) := loopQ (sh := Zq44_l0_sh) (ex := Zq44_l0_ex) (N := N) (L := []) (fun R k x ks => Zq44_l0_again N ks k x) (Zq44_gok N) (fun _ _ _ => rfl) (fun R k x ks => by kernel_rfl) trivial (by kernel_rfl)
noncomputable def Zq44 (N : Nat) (a : (List Int)) (b : (List Int)) : Option ((Bool × Unit) × (Unit)) :=
 (br (ine (tLen a) (tLen b))
 (some ((false, ()), ()))
 (Zq44_l0 N (fun x => some ((x, ()), ())) (fun (_ : Unit) => some ((true, ()), ())) N a b 0))
noncomputable def Zq44_S (N : Nat) : FSum := ⟨Zq44_ps, Zq44_rs, fun x => Zq44 N x.1 x.2.1⟩
theorem Zq44_pc (N : Nat) : PC Tryz.prog 30 (Zq44_S N) := pcQ (L := [Zq44_l0_s N]) (Zq44_gok N) Tryz.call30 Tryz.func30 (fun x => by kernel_rfl) ⟨Zq44_l0_ok N, trivial⟩ (by kernel_rfl)

abbrev Zq47_ps : List (PV.Mode × Ty) := [(.ro, LLI), (.ro, LLI)]
abbrev Zq47_rs : List (Bool × Ty) := [(true, .bool)]
noncomputable def Zq47_G (N : Nat) : GTab := gOf [(30, Zq44_S N)]
theorem Zq47_gok (N : Nat) : GOk Tryz.prog (Zq47_G N) := gOf_ok ⟨Zq44_pc N, trivial⟩
noncomputable def Zq47_code : Code := (Tryz.f13.body).getD .skip
noncomputable def Zq47_l0_sh : Sh := ⟨[(0, .one (.ro LLI)), (1, .one (.ro LLI)), (5, .one (.ro I))], []⟩
noncomputable def Zq47_l0_ex : List (Ex × Sh) := [(.ret, ⟨[(4, .one (.ro .bool))], []⟩), (.exit 0, ⟨[], []⟩)]
noncomputable def Zq47_l0 {R : Type} (N : Nat) (k0 : Bool → Option R) (k1 : Unit → Option R) : Nat → (List (List Int)) → (List (List Int)) → Int → Option R
 | 0, _, _, _ => none
 | K + 1, a1, b1, i =>
 (br (ilt i (tLen a1))
 ((chk (inb a1 i)
 (chk (inb b1 i)
 ((Zq44 N (rdL a1 i) (rdL b1 i)).bind fun r =>
 (br (!r.1.1)
 (k0 false)
 (Zq47_l0 N k0 k1 K a1 b1 (IntKind.i64.wrap (i + 1))))))))
 (k1 ()))
noncomputable def Zq47_l0_again {R : Type} (N : Nat) (ks : KS Zq47_l0_ex R) (k : Nat) (x : Zq47_l0_sh.T) : Option R :=
 Zq47_l0 N (fun y0 => ks 0 ((y0, ()), ())) (fun (_ : Unit) => ks 1 ((), ())) k x.1.1 x.1.2.1 x.1.2.2.1
noncomputable def Zq47_l0_s (N : Nat) : LSum := ⟨Zq47_l0_sh, Zq47_l0_ex, fun x ks => Zq47_l0_again N ks N x⟩
theorem Zq47_l0_ok (N : Nat) : LoopOk Tryz.prog Tryz.f13.ntmps (Zq47_l0_s N) (loopAt Zq47_code 0) := loopQ (sh := Zq47_l0_sh) (ex := Zq47_l0_ex) (N := N) (L := []) (fun R k x ks => Zq47_l0_again N ks k x) (Zq47_gok N) (fun _ _ _ => rfl) (fun R k x ks => by kernel_rfl) trivial (by kernel_rfl)
noncomputable def Zq47 (N : Nat) (a : (List (List Int))) (b : (List (List Int))) : Option ((Bool × Unit) × (Unit)) :=
 (br (ine (tLen a) (tLen b))
 (some ((false, ()), ()))
 (Zq47_l0 N (fun x => some ((x, ()), ())) (fun (_ : Unit) => some ((true, ()), ())) N a b 0))
noncomputable def Zq47_S (N : Nat) : FSum := ⟨Zq47_ps, Zq47_rs, fun x => Zq47 N x.1 x.2.1⟩
theorem Zq47_pc (N : Nat) : PC Tryz.prog 13 (Zq47_S N) := pcQ (L := [Zq47_l0_s N]) (Zq47_gok N) Tryz.call13 Tryz.func13 (fun x => by kernel_rfl) ⟨Zq47_l0_ok N, trivial⟩ (by kernel_rfl)

abbrev Zq45_ps : List (PV.Mode × Ty) := [(.ro, LQII), (.ro, LQII)]
abbrev Zq45_rs : List (Bool × Ty) := [(true, .bool)]
noncomputable def Zq45_G (N : Nat) : GTab := gOf []
theorem Zq45_gok (N : Nat) : GOk Tryz.prog (Zq45_G N) := gOf_ok trivial
noncomputable def Zq45_code : Code := (Tryz.f66.body).getD .skip
noncomputable def Zq45_l0_sh : Sh := ⟨[(0, .one (.ro LQII)), (1, .one (.ro LQII)), (5, .one (.ro I))], []⟩
noncomputable def Zq45_l0_ex : List (Ex × Sh) := [(.ret, ⟨[(4, .one (.ro .bool))], []⟩), (.exit 0, ⟨[], []⟩)]
noncomputable def Zq45_l0 {R : Type} (N : Nat) (k0 : Bool → Option R) (k1 : Unit → Option R) : Nat → (List (Int × Int)) → (List (Int × Int)) → Int → Option R
 | 0, _, _, _ => none
 | K + 1, a1, b1, i =>
 (br (ilt i (tLen a1))
 ((chk (inb a1 i)
 (chk (inb b1 i)
 (br (!(ieq ((rdP a1 i).1) ((rdP b1 i).1) && ieq ((rdP a1 i).2) ((rdP b1 i).2)))
 (k0 false)
 (Zq45_l0 N k0 k1 K a1 b1 (IntKind.i64.wrap (i + 1)))))))
 (k1 ()))
noncomputable def Zq45_l0_again {R : Type} (N : Nat) (ks : KS Zq45_l0_ex R) (k : Nat) (x : Zq45_l0_sh.T) : Option R :=
 Zq45_l0 N (fun y0 => ks 0 ((y0, ()), ())) (fun (_ : Unit) => ks 1 ((), ())) k x.1.1 x.1.2.1 x.1.2.2.1
noncomputable def Zq45_l0_s (N : Nat) : LSum := ⟨Zq45_l0_sh, Zq45_l0_ex, fun x ks => Zq45_l0_again N ks N x⟩
theorem Zq45_l0_ok (N : Nat) : LoopOk Tryz.prog Tryz.f66.ntmps (Zq45_l0_s N) (loopAt Zq45_code 0) := loopQ (sh := Zq45_l0_sh) (ex := Zq45_l0_ex) (N := N) (L := []) (fun R k x ks => Zq45_l0_again N ks k x) (Zq45_gok N) (fun _ _ _ => rfl) (fun R k x ks => by kernel_rfl) trivial (by kernel_rfl)
noncomputable def Zq45 (N : Nat) (a : (List (Int × Int))) (b : (List (Int × Int))) : Option ((Bool × Unit) × (Unit)) :=
 (br (ine (tLen a) (tLen b))
 (some ((false, ()), ()))
 (Zq45_l0 N (fun x => some ((x, ()), ())) (fun (_ : Unit) => some ((true, ()), ())) N a b 0))
noncomputable def Zq45_S (N : Nat) : FSum := ⟨Zq45_ps, Zq45_rs, fun x => Zq45 N x.1 x.2.1⟩
theorem Zq45_pc (N : Nat) : PC Tryz.prog 66 (Zq45_S N) := pcQ (L := [Zq45_l0_s N]) (Zq45_gok N) Tryz.call66 Tryz.func66 (fun x => by kernel_rfl) ⟨Zq45_l0_ok N, trivial⟩ (by kernel_rfl)

abbrev Zq46_ps : List (PV.Mode × Ty) := [(.ro, QLLILQII), (.ro, QLLILQII)]
abbrev Zq46_rs : List (Bool × Ty) := [(true, .bool)]
noncomputable def Zq46_G (N : Nat) : GTab := gOf [(13, Zq47_S N), (66, Zq45_S N)]
theorem Zq46_gok (N : Nat) : GOk Tryz.prog (Zq46_G N) := gOf_ok ⟨Zq47_pc N, Zq45_pc N, trivial⟩
noncomputable def Zq46_code : Code := (Tryz.f19.body).getD .skip
noncomputable def Zq46 (N : Nat) (a : ((List (List Int)) × (List (Int × Int)))) (b : ((List (List Int)) × (List (Int × Int)))) : Option ((Bool × Unit) × (Unit)) :=
 ((Zq47 N a.1 b.1).bind fun r =>
 (br r.1.1
 (((Zq45 N a.2 b.2).bind fun r1 =>
 some ((r1.1.1, ()), ())))
 (some ((false, ()), ()))))
noncomputable def Zq46_S (N : Nat) : FSum := ⟨Zq46_ps, Zq46_rs, fun x => Zq46 N x.1 x.2.1⟩
theorem Zq46_pc (N : Nat) : PC Tryz.prog 19 (Zq46_S N) := pcQ (L := []) (Zq46_gok N) Tryz.call19 Tryz.func19 (fun x => by kernel_rfl) trivial (by kernel_rfl)

abbrev Zq57_ps : List (PV.Mode × Ty) := [(.ro, LI), (.ro, I)]
abbrev Zq57_rs : List (Bool × Ty) := [(true, I)]
noncomputable def Zq57_G (N : Nat) : GTab := gOf []
theorem Zq57_gok (N : Nat) : GOk Tryz.prog (Zq57_G N) := gOf_ok trivial
noncomputable def Zq57_code : Code := (Tryz.f85.body).getD .skip
noncomputable def Zq57_l0_sh : Sh := ⟨[(0, .one (.ro LI)), (1, .one (.ro I)), (7, .one (.ro I)), (8, .one (.ro I))], []⟩
noncomputable def Zq57_l0_ex : List (Ex × Sh) := [(.ret, ⟨[(4, .one (.ro I))], []⟩), (.exit 0, ⟨[], []⟩)]
noncomputable def Zq57_l0 {R : Type} (N : Nat) (k0 : Int → Option R) (k1 : Unit → Option R) : Nat → (List Int) → Int → Int → Int → Option R
 | 0, _, _, _, _ => none
 | K + 1, s1, v1, x, x1 =>
 (br (ilt x1 x)
 ((chk (inb s1 x1)
 (br (ieq v1 (rdI s1 x1))
 (k0 x1)
 (Zq57_l0 N k0 k1 K s1 v1 x (IntKind.i64.wrap (x1 + 1))))))
 (k1 ()))
noncomputable def Zq57_l0_again {R : Type} (N : Nat) (ks : KS Zq57_l0_ex R) (k : Nat) (x : Zq57_l0_sh.T) : Option R :=
 Zq57_l0 N (fun y0 => ks 0 ((y0, ()), ())) (fun (_ : Unit) => ks 1 ((), ())) k x.1.1 x.1.2.1 x.1.2.2.1 x.1.2.2.2.1
noncomputable def Zq57_l0_s (N : Nat) : LSum := ⟨Zq57_l0_sh, Zq57_l0_ex, fun x ks => Zq57_l0_again N ks N x⟩
theorem Zq57_l0_ok (N : Nat) : LoopOk Tryz.prog Tryz.f85.ntmps (Zq57_l0_s N) (loopAt Zq57_code 0) := loopQ (sh := Zq57_l0_sh) (ex := Zq57_l0_ex) (N := N) (L := []) (fun R k x ks => Zq57_l0_again N ks k x) (Zq57_gok N) (fun _ _ _ => rfl) (fun R k x ks => by kernel_rfl) trivial (by kernel_rfl)
noncomputable def Zq57 (N : Nat) (s : (List Int)) (v : Int) : Option ((Int × Unit) × (Unit)) :=
 Zq57_l0 N (fun x => some ((x, ()), ())) (fun (_ : Unit) => some (((-1), ()), ())) N s v (tLen s) 0
noncomputable def Zq57_S (N : Nat) : FSum := ⟨Zq57_ps, Zq57_rs, fun x => Zq57 N x.1 x.2.1⟩
theorem Zq57_pc (N : Nat) : PC Tryz.prog 85 (Zq57_S N) := pcQ (L := [Zq57_l0_s N]) (Zq57_gok N) Tryz.call85 Tryz.func85 (fun x => by kernel_rfl) ⟨Zq57_l0_ok N, trivial⟩ (by kernel_rfl)

abbrev Zq53_ps : List (PV.Mode × Ty) := [(.ro, LI), (.ro, I)]
abbrev Zq53_rs : List (Bool × Ty) := [(true, .bool)]
noncomputable def Zq53_G (N : Nat) : GTab := gOf [(85, Zq57_S N)]
theorem Zq53_gok (N : Nat) : GOk Tryz.prog (Zq53_G N) := gOf_ok ⟨Zq57_pc N, trivial⟩
noncomputable def Zq53_code : Code := (Tryz.f53.body).getD .skip
noncomputable def Zq53 (N : Nat) (s : (List Int)) (v : Int) : Option ((Bool × Unit) × (Unit)) :=
 ((Zq57 N s v).bind fun r =>
 some (((ile 0 r.1.1), ()), ()))
noncomputable def Zq53_S (N : Nat) : FSum := ⟨Zq53_ps, Zq53_rs, fun x => Zq53 N x.1 x.2.1⟩
theorem Zq53_pc (N : Nat) : PC Tryz.prog 53 (Zq53_S N) := pcQ (L := []) (Zq53_gok N) Tryz.call53 Tryz.func53 (fun x => by kernel_rfl) trivial (by kernel_rfl)

abbrev Zq14_ps : List (PV.Mode × Ty) := [(.ro, LI), (.ro, AI)]
abbrev Zq14_rs : List (Bool × Ty) := [(true, .bool)]
noncomputable def Zq14_G (N : Nat) : GTab := gOf [(53, Zq53_S N)]
theorem Zq14_gok (N : Nat) : GOk Tryz.prog (Zq14_G N) := gOf_ok ⟨Zq53_pc N, trivial⟩
noncomputable def Zq14_code : Code := (Tryz.f75.body).getD .skip
noncomputable def Zq14 (N : Nat) (row : (List Int)) (c : Int) : Option ((Bool × Unit) × (Unit)) :=
 ((Zq53 N row c).bind fun r =>
 some ((r.1.1, ()), ()))
noncomputable def Zq14_S (N : Nat) : FSum := ⟨Zq14_ps, Zq14_rs, fun x => Zq14 N x.1 x.2.1⟩
theorem Zq14_pc (N : Nat) : PC Tryz.prog 75 (Zq14_S N) := pcQ (L := []) (Zq14_gok N) Tryz.call75 Tryz.func75 (fun x => by kernel_rfl) trivial (by kernel_rfl)

abbrev Zq13_ps : List (PV.Mode × Ty) := [(.ro, QIQLLILI)]
abbrev Zq13_rs : List (Bool × Ty) := [(true, LI), (true, .bool)]
noncomputable def Zq13_G (N : Nat) : GTab := gOf [(27, Zq10_S N), (58, Zq52_S N), (75, Zq14_S N)]
theorem Zq13_gok (N : Nat) : GOk Tryz.prog (Zq13_G N) := gOf_ok ⟨Zq10_pc N, Zq52_pc N, Zq14_pc N, trivial⟩
noncomputable def Zq13_code : Code := (Tryz.f28.body).getD .skip
noncomputable def Zq13_l0_sh : Sh := ⟨[(1, .one (.adr 0 0)), (4, .one (.ref 1)), (11, .one (.ro I)), (12, .one (.ro I))], [.box [.ro I, .ro LLI, .ro LI], .sl 3 I .own]⟩
noncomputable def Zq13_l0_ex : List (Ex × Sh) := [(.exit 0, ⟨[(4, .one (.ref 0))], [.sl 3 I .own]⟩)]
noncomputable def Zq13_l0 {R : Type} (N : Nat) (k0 : (List Int) → Option R) : Nat → Int → Int → Int → (List (List Int)) → (List Int) → (List Int) → Option R
 | 0, _, _, _, _, _, _ => none
 | K + 1, x, x1, o, o1, o2, o3 =>
 (br (ilt x1 x)
 (((Zq52 N o1 (fun y0 => (Zq14 N y0 x1).bind fun z => some z.1.1)).bind fun r1 =>
 (br (!r1.1.1)
 ((chk (room o3 [x1])
 (Zq13_l0 N k0 K x (IntKind.i64.wrap (x1 + 1)) o o1 o2 (tApp o3 [x1]))))
 (Zq13_l0 N k0 K x (IntKind.i64.wrap (x1 + 1)) o o1 o2 o3))))
 (k0 o3))
noncomputable def Zq13_l0_again {R : Type} (N : Nat) (ks : KS Zq13_l0_ex R) (k : Nat) (x : Zq13_l0_sh.T) : Option R :=
 Zq13_l0 N (fun y0 => ks 0 (((), ()), (y0, ()))) k x.1.2.2.1 x.1.2.2.2.1 x.2.1.1 x.2.1.2.1 x.2.1.2.2.1 x.2.2.1
noncomputable def Zq13_l0_s (N : Nat) : LSum := ⟨Zq13_l0_sh, Zq13_l0_ex, fun x ks => Zq13_l0_again N ks N x⟩
theorem Zq13_l0_ok (N : Nat) : LoopOk Tryz.prog Tryz.f28.ntmps (Zq13_l0_s N) (loopAt Zq13_code 0) := loopQ (sh := Zq13_l0_sh) (ex := Zq13_l0_ex) (N := N) (L := []) (fun R k x ks => Zq13_l0_again N ks k x) (Zq13_gok N) (fun _ _ _ => rfl) (fun R k x ks => by kernel_rfl) trivial (by kernel_rfl)
noncomputable def Zq13 (N : Nat) (p : (Int × ((List (List Int)) × (List Int)))) : Option (((List Int) × Bool × Unit) × (Unit)) :=
 ((Zq10 N (p.1, (p.2.1, p.2.2))).bind fun r =>
 (br (!r.1.1)
 (some (([], false, ()), ()))
 (Zq13_l0 N (fun o => some ((o, true, ()), ())) N p.1 0 p.1 p.2.1 p.2.2 [])))
noncomputable def Zq13_S (N : Nat) : FSum := ⟨Zq13_ps, Zq13_rs, fun x => Zq13 N x.1⟩
theorem Zq13_pc (N : Nat) : PC Tryz.prog 28 (Zq13_S N) := pcQ (L := [Zq13_l0_s N]) (Zq13_gok N) Tryz.call28 Tryz.func28 (fun x => by kernel_rfl) ⟨Zq13_l0_ok N, trivial⟩ (by kernel_rfl)

abbrev Zq71_ps : List (PV.Mode × Ty) := [(.ro, LI), (.ro, I)]
abbrev Zq71_rs : List (Bool × Ty) := [(true, .bool)]
noncomputable def Zq71_G (N : Nat) : GTab := gOf []
theorem Zq71_gok (N : Nat) : GOk Tryz.prog (Zq71_G N) := gOf_ok trivial
noncomputable def Zq71_code : Code := (Tryz.f56.body).getD .skip
noncomputable def Zq71_l0_sh : Sh := ⟨[(0, .one (.ro LI)), (1, .one (.ro I)), (5, .one (.ro I))], []⟩
noncomputable def Zq71_l0_ex : List (Ex × Sh) := [(.ret, ⟨[(4, .one (.ro .bool))], []⟩), (.exit 0, ⟨[], []⟩)]
noncomputable def Zq71_l0 {R : Type} (N : Nat) (k0 : Bool → Option R) (k1 : Unit → Option R) : Nat → (List Int) → Int → Int → Option R
 | 0, _, _, _ => none
 | K + 1, l1, n1, i =>
 (br (ilt i (tLen l1))
 ((chk (inb l1 i)
 (br (ieq (rdI l1 i) n1)
 (k0 true)
 (Zq71_l0 N k0 k1 K l1 n1 (IntKind.i64.wrap (i + 1))))))
 (k1 ()))
noncomputable def Zq71_l0_again {R : Type} (N : Nat) (ks : KS Zq71_l0_ex R) (k : Nat) (x : Zq71_l0_sh.T) : Option R :=
 Zq71_l0 N (fun y0 => ks 0 ((y0, ()), ())) (fun (_ : Unit) => ks 1 ((), ())) k x.1.1 x.1.2.1 x.1.2.2.1
noncomputable def Zq71_l0_s (N : Nat) : LSum := ⟨Zq71_l0_sh, Zq71_l0_ex, fun x ks => Zq71_l0_again N ks N x⟩
theorem Zq71_l0_ok (N : Nat) : LoopOk Tryz.prog Tryz.f56.ntmps (Zq71_l0_s N) (loopAt Zq71_code 0) := loopQ (sh := Zq71_l0_sh) (ex := Zq71_l0_ex) (N := N) (L := []) (fun R k x ks => Zq71_l0_again N ks k x) (Zq71_gok N) (fun _ _ _ => rfl) (fun R k x ks => by kernel_rfl) trivial (by kernel_rfl)
noncomputable def Zq71 (N : Nat) (l : (List Int)) (n : Int) : Option ((Bool × Unit) × (Unit)) :=
 Zq71_l0 N (fun x => some ((x, ()), ())) (fun (_ : Unit) => some ((false, ()), ())) N l n 0
noncomputable def Zq71_S (N : Nat) : FSum := ⟨Zq71_ps, Zq71_rs, fun x => Zq71 N x.1 x.2.1⟩
theorem Zq71_pc (N : Nat) : PC Tryz.prog 56 (Zq71_S N) := pcQ (L := [Zq71_l0_s N]) (Zq71_gok N) Tryz.call56 Tryz.func56 (fun x => by kernel_rfl) ⟨Zq71_l0_ok N, trivial⟩ (by kernel_rfl)

abbrev Zq64_ps : List (PV.Mode × Ty) := [(.ro, QIQLLILI)]
abbrev Zq64_rs : List (Bool × Ty) := [(true, LI), (true, .bool)]
noncomputable def Zq64_G (N : Nat) : GTab := gOf [(72, Zq91_S N), (56, Zq71_S N)]
theorem Zq64_gok (N : Nat) : GOk Tryz.prog (Zq64_G N) := gOf_ok ⟨Zq91_pc N, Zq71_pc N, trivial⟩
noncomputable def Zq64_code : Code := (Tryz.f29.body).getD .skip
noncomputable def Zq64_l0_0_sh : Sh := ⟨[(1, .one (.adr 0 0)), (4, .one (.ref 1)), (5, .one (.ro I)), (6, .one (.ro .bool)), (7, .one (.ro I))], [.box [.ro I, .ro LLI, .ro LI], .sl 3 I .own]⟩
noncomputable def Zq64_l0_0_ex : List (Ex × Sh) := [(.exit 2, ⟨[(1, .one (.adr 0 0)), (4, .one (.ref 1)), (5, .one (.ro I)), (6, .one (.ro .bool))], [.box [.ro I, .ro LLI, .ro LI], .sl 3 I .own]⟩)]
noncomputable def Zq64_l0_0 {R : Type} (N : Nat) (k0 : Int → Bool → Int → (List (List Int)) → (List Int) → (List Int) → Option R) : Nat → Int → Bool → Int → Int → (List (List Int)) → (List Int) → (List Int) → Option R
 | 0, _, _, _, _, _, _, _ => none
 | K + 1, v1, loose, r1, o4, o5, o6, o7 =>
 (br (ilt r1 (tLen o5))
 ((br loose
 ((chk (inb o5 r1)
 ((Zq71 N (rdL o5 r1) v1).bind fun r2 =>
 Zq64_l0_0 N k0 K v1 (!r2.1.1) (IntKind.i64.wrap (r1 + 1)) o4 o5 o6 o7)))
 (Zq64_l0_0 N k0 K v1 false (IntKind.i64.wrap (r1 + 1)) o4 o5 o6 o7)))
 (k0 v1 loose o4 o5 o6 o7))
noncomputable def Zq64_l0_0_again {R : Type} (N : Nat) (ks : KS Zq64_l0_0_ex R) (k : Nat) (x : Zq64_l0_0_sh.T) : Option R :=
 Zq64_l0_0 N (fun y0 y1 y2 y3 y4 y5 => ks 0 (((), (), y0, y1, ()), ((y2, y3, y4, ()), y5, ()))) k x.1.2.2.1 x.1.2.2.2.1 x.1.2.2.2.2.1 x.2.1.1 x.2.1.2.1 x.2.1.2.2.1 x.2.2.1
noncomputable def Zq64_l0_0_s (N : Nat) : LSum := ⟨Zq64_l0_0_sh, Zq64_l0_0_ex, fun x ks => Zq64_l0_0_again N ks N x⟩
theorem Zq64_l0_0_ok (N : Nat) : LoopOk Tryz.prog Tryz.f29.ntmps (Zq64_l0_0_s N) (loopAt (loopAt Zq64_code 0) 0) := loopQ (sh := Zq64_l0_0_sh) (ex := Zq64_l0_0_ex) (N := N) (L := []) (fun R k x ks => Zq64_l0_0_again N ks k x) (Zq64_gok N) (fun _ _ _ => rfl) (fun R k x ks => by kernel_rfl) trivial (by kernel_rfl)
noncomputable def Zq64_l0_sh : Sh := ⟨[(1, .one (.adr 0 0)), (4, .one (.ref 1)), (5, .one (.ro I))], [.box [.ro I, .ro LLI, .ro LI], .sl 3 I .own]⟩
noncomputable def Zq64_l0_ex : List (Ex × Sh) := [(.exit 0, ⟨[(4, .one (.ref 0))], [.sl 3 I .own]⟩)]
noncomputable def Zq64_l0 {R : Type} (N : Nat) (k0 : (List Int) → Option R) : Nat → Int → Int → (List (List Int)) → (List Int) → (List Int) → Option R
 | 0, _, _, _, _, _ => none
 | K + 1, v, o, o1, o2, o3 =>
 (br (ilt v o)
 (Zq64_l0_0 N (fun v1 loose o4 o5 o6 o7 => (br loose
 ((chk (room o7 [v1])
 (Zq64_l0 N k0 K (IntKind.i64.wrap (v1 + 1)) o4 o5 o6 (tApp o7 [v1]))))
 (Zq64_l0 N k0 K (IntKind.i64.wrap (v1 + 1)) o4 o5 o6 o7))) N v true 0 o o1 o2 o3)
 (k0 o3))
noncomputable def Zq64_l0_again {R : Type} (N : Nat) (ks : KS Zq64_l0_ex R) (k : Nat) (x : Zq64_l0_sh.T) : Option R :=
 Zq64_l0 N (fun y0 => ks 0 (((), ()), (y0, ()))) k x.1.2.2.1 x.2.1.1 x.2.1.2.1 x.2.1.2.2.1 x.2.2.1
noncomputable def Zq64_l0_s (N : Nat) : LSum := ⟨Zq64_l0_sh, Zq64_l0_ex, fun x ks => Zq64_l0_again N ks N x⟩
theorem Zq64_l0_ok (N : Nat) : LoopOk Tryz.prog Tryz.f29.ntmps (Zq64_l0_s N) (loopAt Zq64_code 0) := loopQ (sh := Zq64_l0_sh) (ex := Zq64_l0_ex) (N := N) (L := [Zq64_l0_0_s N]) (fun R k x ks => Zq64_l0_again N ks k x) (Zq64_gok N) (fun _ _ _ => rfl) (fun R k x ks => by kernel_rfl) ⟨Zq64_l0_0_ok N, trivial⟩ (by kernel_rfl)
noncomputable def Zq64 (N : Nat) (p : (Int × ((List (List Int)) × (List Int)))) : Option (((List Int) × Bool × Unit) × (Unit)) :=
 ((Zq91 N (p.1, (p.2.1, p.2.2))).bind fun r =>
 (br (!r.1.1)
 (some (([], false, ()), ()))
 (Zq64_l0 N (fun o => some ((o, true, ()), ())) N 0 p.1 p.2.1 p.2.2 [])))
noncomputable def Zq64_S (N : Nat) : FSum := ⟨Zq64_ps, Zq64_rs, fun x => Zq64 N x.1⟩
theorem Zq64_pc (N : Nat) : PC Tryz.prog 29 (Zq64_S N) := pcQ (L := [Zq64_l0_s N]) (Zq64_gok N) Tryz.call29 Tryz.func29 (fun x => by kernel_rfl) ⟨Zq64_l0_ok N, trivial⟩ (by kernel_rfl)

abbrev Zq22_ps : List (PV.Mode × Ty) := [(.ro, I), (.ro, FLIBo)]
abbrev Zq22_rs : List (Bool × Ty) := [(false, LLI)]
noncomputable def Zq22_G (N : Nat) : GTab := gOf []
theorem Zq22_gok (N : Nat) : GOk Tryz.prog (Zq22_G N) := gOf_ok trivial
noncomputable def Zq22_code : Code := (Tryz.f79.body).getD .skip
noncomputable def Zq22_l0_0_sh : Sh := ⟨[(0, .one (.ro I)), (1, .one (.ro FLIBo)), (5, .one (.ref 0)), (6, .one (.ro I)), (7, .one (.ref 1)), (11, .one (.ro I)), (12, .one (.ro I)), (16, .one (.ro I)), (17, .one (.ro I))], [.sl 33 LI .deep, .sl 3 I .own]⟩
noncomputable def Zq22_l0_0_ex : List (Ex × Sh) := [(.exit 2, ⟨[(0, .one (.ro I)), (1, .one (.ro FLIBo)), (5, .one (.ref 0)), (7, .one (.ref 1)), (11, .one (.ro I)), (12, .one (.ro I))], [.sl 33 LI .deep, .sl 3 I .own]⟩)]
noncomputable def Zq22_l0_0 {R : Type} (N : Nat) (k0 : Int → ((List Int) → Option Bool) → Int → Int → (List (List Int)) → (List Int) → Option R) : Nat → Int → ((List Int) → Option Bool) → Int → Int → Int → Int → Int → (List (List Int)) → (List Int) → Option R
 | 0, _, _, _, _, _, _, _, _, _ => none
 | K + 1, vars2, is2, n, x2, x3, x4, x5, o1, o2 =>
 (br (ilt x5 x4)
 ((chk (ile 0 (IntKind.i64.wrap ((IntKind.i64.wrap (vars2 - 1)) - x5)))
 (chk (room o2 [(bitop .and .i64 (shrI .i64 n (IntKind.i64.wrap ((IntKind.i64.wrap (vars2 - 1)) - x5))) 1)])
 (Zq22_l0_0 N k0 K vars2 is2 n x2 x3 x4 (IntKind.i64.wrap (x5 + 1)) o1 (tApp o2 [(bitop .and .i64 (shrI .i64 n (IntKind.i64.wrap ((IntKind.i64.wrap (vars2 - 1)) - x5))) 1)])))))
 (k0 vars2 is2 x2 x3 o1 o2))
noncomputable def Zq22_l0_0_again {R : Type} (N : Nat) (ks : KS Zq22_l0_0_ex R) (k : Nat) (x : Zq22_l0_0_sh.T) : Option R :=
 Zq22_l0_0 N (fun y0 y1 y2 y3 y4 y5 => ks 0 ((y0, y1, (), (), y2, y3, ()), (y4, y5, ()))) k x.1.1 x.1.2.1 x.1.2.2.2.1 x.1.2.2.2.2.2.1 x.1.2.2.2.2.2.2.1 x.1.2.2.2.2.2.2.2.1 x.1.2.2.2.2.2.2.2.2.1 x.2.1 x.2.2.1
noncomputable def Zq22_l0_0_s (N : Nat) : LSum := ⟨Zq22_l0_0_sh, Zq22_l0_0_ex, fun x ks => Zq22_l0_0_again N ks N x⟩
theorem Zq22_l0_0_ok (N : Nat) : LoopOk Tryz.prog Tryz.f79.ntmps (Zq22_l0_0_s N) (loopAt (loopAt Zq22_code 0) 0) := loopQ (sh := Zq22_l0_0_sh) (ex := Zq22_l0_0_ex) (N := N) (L := []) (fun R k x ks => Zq22_l0_0_again N ks k x) (Zq22_gok N) (fun _ _ _ => rfl) (fun R k x ks => by kernel_rfl) trivial (by kernel_rfl)
noncomputable def Zq22_l0_sh : Sh := ⟨[(0, .one (.ro I)), (1, .one (.ro FLIBo)), (5, .one (.ref 0)), (11, .one (.ro I)), (12, .one (.ro I))], [.sl 33 LI .deep]⟩
noncomputable def Zq22_l0_ex : List (Ex × Sh) := [(.exit 0, ⟨[(5, .one (.ref 0))], [.sl 33 LI .deep]⟩)]
noncomputable def Zq22_l0 {R : Type} (N : Nat) (k0 : (List (List Int)) → Option R) : Nat → Int → ((List Int) → Option Bool) → Int → Int → (List (List Int)) → Option R
 | 0, _, _, _, _, _ => none
 | K + 1, vars1, is1, x, x1, o =>
 (br (ilt x1 x)
 (Zq22_l0_0 N (fun vars2 is2 x2 x3 o1 o2 => ((is2 o2).bind fun v =>
 (br v
 ((chk (room o1 [o2])
 (Zq22_l0 N k0 K vars2 is2 x2 (IntKind.i64.wrap (x3 + 1)) (tApp o1 [o2]))))
 (Zq22_l0 N k0 K vars2 is2 x2 (IntKind.i64.wrap (x3 + 1)) o1)))) N vars1 is1 x1 x x1 vars1 0 o [])
 (k0 o))
noncomputable def Zq22_l0_again {R : Type} (N : Nat) (ks : KS Zq22_l0_ex R) (k : Nat) (x : Zq22_l0_sh.T) : Option R :=
 Zq22_l0 N (fun y0 => ks 0 (((), ()), (y0, ()))) k x.1.1 x.1.2.1 x.1.2.2.2.1 x.1.2.2.2.2.1 x.2.1
noncomputable def Zq22_l0_s (N : Nat) : LSum := ⟨Zq22_l0_sh, Zq22_l0_ex, fun x ks => Zq22_l0_again N ks N x⟩
theorem Zq22_l0_ok (N : Nat) : LoopOk Tryz.prog Tryz.f79.ntmps (Zq22_l0_s N) (loopAt Zq22_code 0) := loopQ (sh := Zq22_l0_sh) (ex := Zq22_l0_ex) (N := N) (L := [Zq22_l0_0_s N]) (fun R k x ks => Zq22_l0_again N ks k x) (Zq22_gok N) (fun _ _ _ => rfl) (fun R k x ks => by kernel_rfl) ⟨Zq22_l0_0_ok N, trivial⟩ (by kernel_rfl)
noncomputable def Zq22 (N : Nat) (vars : Int) (is : ((List Int) → Option Bool)) : Option (((List (List Int)) × Unit) × (Unit)) :=
 (chk (ile 0 vars)
 (Zq22_l0 N (fun o => some ((o, ()), ())) N vars is (shlI .i64 1 vars) 0 []))
noncomputable def Zq22_S (N : Nat) : FSum := ⟨Zq22_ps, Zq22_rs, fun x => Zq22 N x.1 x.2.1⟩
theorem Zq22_pc (N : Nat) : PC Tryz.prog 79 (Zq22_S N) := pcQ (L := [Zq22_l0_s N]) (Zq22_gok N) Tryz.call79 Tryz.func79 (fun x => by kernel_rfl) ⟨Zq22_l0_ok N, trivial⟩ (by kernel_rfl)

abbrev Zq27_ps : List (PV.Mode × Ty) := [(.ro, LI)]
abbrev Zq27_rs : List (Bool × Ty) := [(true, .bool)]
noncomputable def Zq27_G (N : Nat) : GTab := gOf []
theorem Zq27_gok (N : Nat) : GOk Tryz.prog (Zq27_G N) := gOf_ok trivial
noncomputable def Zq27_code : Code := (Tryz.f91.body).getD .skip
noncomputable def Zq27 (N : Nat) (x : (List Int)) : Option ((Bool × Unit) × (Unit)) :=
 some ((true, ()), ())
noncomputable def Zq27_S (N : Nat) : FSum := ⟨Zq27_ps, Zq27_rs, fun x => Zq27 N x.1⟩
theorem Zq27_pc (N : Nat) : PC Tryz.prog 91 (Zq27_S N) := pcQ (L := []) (Zq27_gok N) Tryz.call91 Tryz.func91 (fun x => by kernel_rfl) trivial (by kernel_rfl)
end Go.Proofs.YtfilchmabmfmaaaGreat
