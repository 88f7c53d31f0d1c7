/- Functions of the program as functions on data. -/
import Derived.Test.YtfilchmabmfmaaaGreatParitiesFb
set_option linter.all false
namespace Go.Proofs.YtfilchmabmfmaaaGreat
open Go Go.PV
abbrev Zq54_ps : List (PV.Mode × Ty) := [(.ro, LI), (.ro, LI)]
abbrev Zq54_rs : List (Bool × Ty) := [(true, .bool)]
noncomputable def Zq54_G (N : Nat) : GTab := gOf []
theorem Zq54_gok (N : Nat) : GOk Tryz.prog (Zq54_G N) := gOf_ok trivial
noncomputable def Zq54_code : Code := (Tryz.f93.body).getD .skip
noncomputable def Zq54_l0_sh : Sh := ⟨[(0, .one (.ro LI)), (1, .one (.ro LI)), (12, .one (.ro I)), (13, .one (.ro I))], []⟩
noncomputable def Zq54_l0_ex : List (Ex × Sh) := [(.ret, ⟨[(4, .one (.ro .bool))], []⟩), (.exit 0, ⟨[], []⟩)]
noncomputable def Zq54_l0 {R : Type} (N : Nat) (k0 : Bool → Option R) (k1 : Unit → Option R) : Nat → (List Int) → (List Int) → Int → Int → Option R
 | 0, _, _, _, _ => none
 | K + 1, s11, s21, x, x1 =>
 (br (ilt x1 x)
 ((chk (inb s11 x1)
 (chk (inb s21 x1)
 (br (ine (rdI s11 x1) (rdI s21 x1))
 (k0 false)
 (Zq54_l0 N k0 k1 K s11 s21 x (IntKind.i64.wrap (x1 + 1)))))))
 (k1 ()))
noncomputable def Zq54_l0_again {R : Type} (N : Nat) (ks : KS Zq54_l0_ex R) (k : Nat) (x : Zq54_l0_sh.T) : Option R :=
 Zq54_l0 N (fun y0 => ks 0 ((y0, ()), ())) (fun (_ : Unit) => ks 1 ((), ())) k x.1.1 x.1.2.1 x.1.2.2.1 x.1.2.2.2.1
noncomputable def Zq54_l0_s (N : Nat) : LSum := ⟨Zq54_l0_sh, Zq54_l0_ex, fun x ks => Zq54_l0_again N ks N x⟩
theorem Zq54_l0_ok (N : Nat) : LoopOk Tryz.prog Tryz.f93.ntmps (Zq54_l0_s N) (loopAt Zq54_code 0) := loopQ (sh := Zq54_l0_sh) (ex := Zq54_l0_ex) (N := N) (L := []) (fun R k x ks => Zq54_l0_again N ks k x) (Zq54_gok N) (fun _ _ _ => rfl) (fun R k x ks => by kernel_rfl) trivial (by kernel_rfl)
noncomputable def Zq54 (N : Nat) (s1 : (List Int)) (s2 : (List Int)) : Option ((Bool × Unit) × (Unit)) :=
 (br (ine (tLen s1) (tLen s2))
 (some ((false, ()), ()))
 (Zq54_l0 N (fun x => some ((x, ()), ())) (fun (_ : Unit) => some ((true, ()), ())) N s1 s2 (tLen s1) 0))
noncomputable def Zq54_S (N : Nat) : FSum := ⟨Zq54_ps, Zq54_rs, fun x => Zq54 N x.1 x.2.1⟩
theorem Zq54_pc (N : Nat) : PC Tryz.prog 93 (Zq54_S N) := pcQ (L := [Zq54_l0_s N]) (Zq54_gok N) Tryz.call93 Tryz.func93 (fun x => by kernel_rfl) ⟨Zq54_l0_ok N, trivial⟩ (by kernel_rfl)

abbrev Zq28_ps : List (PV.Mode × Ty) := [(.ro, LI), (.ro, ALI)]
abbrev Zq28_rs : List (Bool × Ty) := [(true, .bool)]
noncomputable def Zq28_G (N : Nat) : GTab := gOf [(93, Zq54_S N)]
theorem Zq28_gok (N : Nat) : GOk Tryz.prog (Zq28_G N) := gOf_ok ⟨Zq54_pc N, trivial⟩
noncomputable def Zq28_code : Code := (Tryz.f92.body).getD .skip
noncomputable def Zq28 (N : Nat) (s : (List Int)) (c : (List Int)) : Option ((Bool × Unit) × (Unit)) :=
 ((Zq54 N s c).bind fun r =>
 some ((r.1.1, ()), ()))
noncomputable def Zq28_S (N : Nat) : FSum := ⟨Zq28_ps, Zq28_rs, fun x => Zq28 N x.1 x.2.1⟩
theorem Zq28_pc (N : Nat) : PC Tryz.prog 92 (Zq28_S N) := pcQ (L := []) (Zq28_gok N) Tryz.call92 Tryz.func92 (fun x => by kernel_rfl) trivial (by kernel_rfl)

abbrev Zq60_ps : List (PV.Mode × Ty) := [(.mut, LI)]
abbrev Zq60_rs : List (Bool × Ty) := []
noncomputable def Zq60 (N : Nat) (x : List Int) : Option (Unit × (List Int × Unit)) := sortIF x
noncomputable def Zq60_S (N : Nat) : FSum := ⟨Zq60_ps, Zq60_rs, fun x => Zq60 N x.1⟩
theorem Zq60_pc (N : Nat) : PC Tryz.prog 54 (Zq60_S N) := sortInts_pc (sortsI Tryz.sortIL) (sortsINone Tryz.sortIL) Tryz.call54

abbrev Zq26_ps : List (PV.Mode × Ty) := [(.ro, I), (.ro, LLI)]
abbrev Zq26_rs : List (Bool × Ty) := [(true, QILLI)]
noncomputable def Zq26_G (N : Nat) : GTab := gOf [(79, Zq22_S N), (91, Zq27_S N), (58, Zq52_S N), (92, Zq28_S N), (54, Zq60_S N)]
theorem Zq26_gok (N : Nat) : GOk Tryz.prog (Zq26_G N) := gOf_ok ⟨Zq22_pc N, Zq27_pc N, Zq52_pc N, Zq28_pc N, Zq60_pc N, trivial⟩
noncomputable def Zq26_code : Code := (Tryz.f61.body).getD .skip
noncomputable def Zq26_l0_0_sh : Sh := ⟨[(1, .one (.ro LLI)), (4, .one (.adr 0 0)), (5, .one (.adr 1 0)), (8, .one (.ref 2)), (14, .one (.ro LLI)), (15, .one (.ro I)), (16, .one (.ro I)), (24, .one (.ro LI)), (25, .one (.ro I)), (26, .one (.ro I))], [.box [.ro I, .nilsl], .box [.ro I, .ref 3], .sl 3 I .own, .sl 33 LI .deep]⟩
noncomputable def Zq26_l0_0_ex : List (Ex × Sh) := [(.exit 2, ⟨[(1, .one (.ro LLI)), (4, .one (.adr 0 0)), (5, .one (.adr 1 0)), (8, .one (.ref 2)), (14, .one (.ro LLI)), (15, .one (.ro I)), (16, .one (.ro I))], [.box [.ro I, .nilsl], .box [.ro I, .ref 3], .sl 3 I .own, .sl 33 LI .deep]⟩)]
noncomputable def Zq26_l0_0 {R : Type} (N : Nat) (k0 : (List (List Int)) → (List (List Int)) → Int → Int → Int → Int → (List Int) → (List (List Int)) → Option R) : Nat → (List (List Int)) → (List (List Int)) → Int → Int → (List Int) → Int → Int → Int → Int → (List Int) → (List (List Int)) → Option R
 | 0, _, _, _, _, _, _, _, _, _, _, _ => none
 | K + 1, solutions2, x3, x4, x5, x6, x7, x8, o3, o4, o5, o6 =>
 (br (ilt x8 x7)
 ((chk (inb x6 x8)
 (br (ieq (rdI x6 x8) 1)
 ((chk (room o5 [(IntKind.i64.wrap ((-1) - x8))])
 (Zq26_l0_0 N k0 K solutions2 x3 x4 x5 x6 x7 (IntKind.i64.wrap (x8 + 1)) o3 o4 (tApp o5 [(IntKind.i64.wrap ((-1) - x8))]) o6)))
 ((chk (room o5 [(IntKind.i64.wrap (x8 + 1))])
 (Zq26_l0_0 N k0 K solutions2 x3 x4 x5 x6 x7 (IntKind.i64.wrap (x8 + 1)) o3 o4 (tApp o5 [(IntKind.i64.wrap (x8 + 1))]) o6))))))
 (k0 solutions2 x3 x4 x5 o3 o4 o5 o6))
noncomputable def Zq26_l0_0_again {R : Type} (N : Nat) (ks : KS Zq26_l0_0_ex R) (k : Nat) (x : Zq26_l0_0_sh.T) : Option R :=
 Zq26_l0_0 N (fun y0 y1 y2 y3 y4 y5 y6 y7 => ks 0 ((y0, (), (), (), y1, y2, y3, ()), ((y4, (), ()), (y5, (), ()), y6, y7, ()))) k x.1.1 x.1.2.2.2.2.1 x.1.2.2.2.2.2.1 x.1.2.2.2.2.2.2.1 x.1.2.2.2.2.2.2.2.1 x.1.2.2.2.2.2.2.2.2.1 x.1.2.2.2.2.2.2.2.2.2.1 x.2.1.1 x.2.2.1.1 x.2.2.2.1 x.2.2.2.2.1
noncomputable def Zq26_l0_0_s (N : Nat) : LSum := ⟨Zq26_l0_0_sh, Zq26_l0_0_ex, fun x ks => Zq26_l0_0_again N ks N x⟩
theorem Zq26_l0_0_ok (N : Nat) : LoopOk Tryz.prog Tryz.f61.ntmps (Zq26_l0_0_s N) (loopAt (loopAt Zq26_code 0) 0) := loopQ (sh := Zq26_l0_0_sh) (ex := Zq26_l0_0_ex) (N := N) (L := []) (fun R k x ks => Zq26_l0_0_again N ks k x) (Zq26_gok N) (fun _ _ _ => rfl) (fun R k x ks => by kernel_rfl) trivial (by kernel_rfl)
noncomputable def Zq26_l0_sh : Sh := ⟨[(1, .one (.ro LLI)), (4, .one (.adr 0 0)), (5, .one (.adr 1 0)), (14, .one (.ro LLI)), (15, .one (.ro I)), (16, .one (.ro I))], [.box [.ro I, .nilsl], .box [.ro I, .ref 2], .sl 33 LI .deep]⟩
noncomputable def Zq26_l0_ex : List (Ex × Sh) := [(.exit 0, ⟨[(4, .one (.adr 0 0)), (5, .one (.adr 1 0))], [.box [.ro I, .nilsl], .box [.ro I, .ref 2], .sl 33 LI .deep]⟩)]
noncomputable def Zq26_l0 {R : Type} (N : Nat) (k0 : Int → Int → (List (List Int)) → Option R) : Nat → (List (List Int)) → (List (List Int)) → Int → Int → Int → Int → (List (List Int)) → Option R
 | 0, _, _, _, _, _, _, _ => none
 | K + 1, solutions1, x, x1, x2, o, o1, o2 =>
 (br (ilt x2 x1)
 ((chk (inb x x2)
 ((Zq52 N solutions1 (fun y0 => (Zq28 N y0 (rdL x x2)).bind fun z => some z.1.1)).bind fun r1 =>
 (br r1.1.1
 (Zq26_l0 N k0 K solutions1 x x1 (IntKind.i64.wrap (x2 + 1)) o o1 o2)
 (Zq26_l0_0 N (fun solutions2 x3 x4 x5 o3 o4 o5 o6 => ((Zq60 N o5).bind fun r2 =>
 (chk (room o6 [r2.2.1])
 (Zq26_l0 N k0 K solutions2 x3 x4 (IntKind.i64.wrap (x5 + 1)) o3 o4 (tApp o6 [r2.2.1]))))) N solutions1 x x1 x2 (rdL x x2) (tLen (rdL x x2)) 0 o o1 [] o2)))))
 (k0 o o1 o2))
noncomputable def Zq26_l0_again {R : Type} (N : Nat) (ks : KS Zq26_l0_ex R) (k : Nat) (x : Zq26_l0_sh.T) : Option R :=
 Zq26_l0 N (fun y0 y1 y2 => ks 0 (((), (), ()), ((y0, (), ()), (y1, (), ()), y2, ()))) k x.1.1 x.1.2.2.2.1 x.1.2.2.2.2.1 x.1.2.2.2.2.2.1 x.2.1.1 x.2.2.1.1 x.2.2.2.1
noncomputable def Zq26_l0_s (N : Nat) : LSum := ⟨Zq26_l0_sh, Zq26_l0_ex, fun x ks => Zq26_l0_again N ks N x⟩
theorem Zq26_l0_ok (N : Nat) : LoopOk Tryz.prog Tryz.f61.ntmps (Zq26_l0_s N) (loopAt Zq26_code 0) := loopQ (sh := Zq26_l0_sh) (ex := Zq26_l0_ex) (N := N) (L := [Zq26_l0_0_s N]) (fun R k x ks => Zq26_l0_again N ks k x) (Zq26_gok N) (fun _ _ _ => rfl) (fun R k x ks => by kernel_rfl) ⟨Zq26_l0_0_ok N, trivial⟩ (by kernel_rfl)
noncomputable def Zq26 (N : Nat) (vars : Int) (solutions : (List (List Int))) : Option (((Int × (List (List Int))) × Unit) × (Unit)) :=
 ((Zq22 N vars (fun y0 => (Zq27 N y0).bind fun z => some z.1.1)).bind fun r =>
 Zq26_l0 N (fun o o1 o2 => some (((o1, o2), ()), ())) N solutions r.1.1 (tLen r.1.1) 0 0 vars [])
noncomputable def Zq26_S (N : Nat) : FSum := ⟨Zq26_ps, Zq26_rs, fun x => Zq26 N x.1 x.2.1⟩
theorem Zq26_pc (N : Nat) : PC Tryz.prog 61 (Zq26_S N) := pcQ (L := [Zq26_l0_s N]) (Zq26_gok N) Tryz.call61 Tryz.func61 (fun x => by kernel_rfl) ⟨Zq26_l0_ok N, trivial⟩ (by kernel_rfl)

abbrev Zq15_ps : List (PV.Mode × Ty) := [(.ro, QIQLLILI)]
abbrev Zq15_rs : List (Bool × Ty) := [(true, QILLI), (true, .bool)]
noncomputable def Zq15_G (N : Nat) : GTab := gOf [(27, Zq10_S N), (70, Zq17_S N), (61, Zq26_S N)]
theorem Zq15_gok (N : Nat) : GOk Tryz.prog (Zq15_G N) := gOf_ok ⟨Zq10_pc N, Zq17_pc N, Zq26_pc N, trivial⟩
noncomputable def Zq15_code : Code := (Tryz.f31.body).getD .skip
noncomputable def Zq15 (N : Nat) (p : (Int × ((List (List Int)) × (List Int)))) : Option (((Int × (List (List Int))) × Bool × Unit) × (Unit)) :=
 ((Zq10 N (p.1, (p.2.1, p.2.2))).bind fun r =>
 (br (!r.1.1)
 (some (((0, []), false, ()), ()))
 (((Zq17 N (p.1, (p.2.1, p.2.2))).bind fun r1 =>
 ((Zq26 N p.1 r1.1.1).bind fun r2 =>
 some (((r2.1.1.1, r2.1.1.2), true, ()), ()))))))
noncomputable def Zq15_S (N : Nat) : FSum := ⟨Zq15_ps, Zq15_rs, fun x => Zq15 N x.1⟩
theorem Zq15_pc (N : Nat) : PC Tryz.prog 31 (Zq15_S N) := pcQ (L := []) (Zq15_gok N) Tryz.call31 Tryz.func31 (fun x => by kernel_rfl) trivial (by kernel_rfl)

abbrev Zq74_ps : List (PV.Mode × Ty) := [(.ro, LI), (.ro, LI)]
abbrev Zq74_rs : List (Bool × Ty) := [(true, .bool)]
noncomputable def Zq74_G (N : Nat) : GTab := gOf []
theorem Zq74_gok (N : Nat) : GOk Tryz.prog (Zq74_G N) := gOf_ok trivial
noncomputable def Zq74_code : Code := (Tryz.f122.body).getD .skip
noncomputable def Zq74_l0_sh : Sh := ⟨[(0, .one (.ro LI)), (1, .one (.ro LI)), (5, .one (.ro I))], []⟩
noncomputable def Zq74_l0_ex : List (Ex × Sh) := [(.ret, ⟨[(4, .one (.ro .bool))], []⟩), (.exit 0, ⟨[], []⟩)]
noncomputable def Zq74_l0 {R : Type} (N : Nat) (k0 : Bool → Option R) (k1 : Unit → Option R) : Nat → (List Int) → (List Int) → Int → Option R
 | 0, _, _, _ => none
 | K + 1, a1, b1, i =>
 (br (ilt i (tLen a1))
 ((chk (inb a1 i)
 (chk (inb b1 i)
 (br (ine (rdI a1 i) (rdI b1 i))
 (k0 false)
 (Zq74_l0 N k0 k1 K a1 b1 (IntKind.i64.wrap (i + 1)))))))
 (k1 ()))
noncomputable def Zq74_l0_again {R : Type} (N : Nat) (ks : KS Zq74_l0_ex R) (k : Nat) (x : Zq74_l0_sh.T) : Option R :=
 Zq74_l0 N (fun y0 => ks 0 ((y0, ()), ())) (fun (_ : Unit) => ks 1 ((), ())) k x.1.1 x.1.2.1 x.1.2.2.1
noncomputable def Zq74_l0_s (N : Nat) : LSum := ⟨Zq74_l0_sh, Zq74_l0_ex, fun x ks => Zq74_l0_again N ks N x⟩
theorem Zq74_l0_ok (N : Nat) : LoopOk Tryz.prog Tryz.f122.ntmps (Zq74_l0_s N) (loopAt Zq74_code 0) := loopQ (sh := Zq74_l0_sh) (ex := Zq74_l0_ex) (N := N) (L := []) (fun R k x ks => Zq74_l0_again N ks k x) (Zq74_gok N) (fun _ _ _ => rfl) (fun R k x ks => by kernel_rfl) trivial (by kernel_rfl)
noncomputable def Zq74 (N : Nat) (a : (List Int)) (b : (List Int)) : Option ((Bool × Unit) × (Unit)) :=
 (br (ine (tLen a) (tLen b))
 (some ((false, ()), ()))
 (Zq74_l0 N (fun x => some ((x, ()), ())) (fun (_ : Unit) => some ((true, ()), ())) N a b 0))
noncomputable def Zq74_S (N : Nat) : FSum := ⟨Zq74_ps, Zq74_rs, fun x => Zq74 N x.1 x.2.1⟩
theorem Zq74_pc (N : Nat) : PC Tryz.prog 122 (Zq74_S N) := pcQ (L := [Zq74_l0_s N]) (Zq74_gok N) Tryz.call122 Tryz.func122 (fun x => by kernel_rfl) ⟨Zq74_l0_ok N, trivial⟩ (by kernel_rfl)

abbrev Zq90_ps : List (PV.Mode × Ty) := [(.ro, LLI), (.ro, LI)]
abbrev Zq90_rs : List (Bool × Ty) := [(true, .bool)]
noncomputable def Zq90_G (N : Nat) : GTab := gOf [(122, Zq74_S N)]
theorem Zq90_gok (N : Nat) : GOk Tryz.prog (Zq90_G N) := gOf_ok ⟨Zq74_pc N, trivial⟩
noncomputable def Zq90_code : Code := (Tryz.f94.body).getD .skip
noncomputable def Zq90_l0_sh : Sh := ⟨[(0, .one (.ro LLI)), (1, .one (.ro LI)), (5, .one (.ro I))], []⟩
noncomputable def Zq90_l0_ex : List (Ex × Sh) := [(.ret, ⟨[(4, .one (.ro .bool))], []⟩), (.exit 0, ⟨[], []⟩)]
noncomputable def Zq90_l0 {R : Type} (N : Nat) (k0 : Bool → Option R) (k1 : Unit → Option R) : Nat → (List (List Int)) → (List Int) → Int → Option R
 | 0, _, _, _ => none
 | K + 1, list1, bits1, i =>
 (br (ilt i (tLen list1))
 ((chk (inb list1 i)
 ((Zq74 N (rdL list1 i) bits1).bind fun r =>
 (br r.1.1
 (k0 true)
 (Zq90_l0 N k0 k1 K list1 bits1 (IntKind.i64.wrap (i + 1)))))))
 (k1 ()))
noncomputable def Zq90_l0_again {R : Type} (N : Nat) (ks : KS Zq90_l0_ex R) (k : Nat) (x : Zq90_l0_sh.T) : Option R :=
 Zq90_l0 N (fun y0 => ks 0 ((y0, ()), ())) (fun (_ : Unit) => ks 1 ((), ())) k x.1.1 x.1.2.1 x.1.2.2.1
noncomputable def Zq90_l0_s (N : Nat) : LSum := ⟨Zq90_l0_sh, Zq90_l0_ex, fun x ks => Zq90_l0_again N ks N x⟩
theorem Zq90_l0_ok (N : Nat) : LoopOk Tryz.prog Tryz.f94.ntmps (Zq90_l0_s N) (loopAt Zq90_code 0) := loopQ (sh := Zq90_l0_sh) (ex := Zq90_l0_ex) (N := N) (L := []) (fun R k x ks => Zq90_l0_again N ks k x) (Zq90_gok N) (fun _ _ _ => rfl) (fun R k x ks => by kernel_rfl) trivial (by kernel_rfl)
noncomputable def Zq90 (N : Nat) (list : (List (List Int))) (bits : (List Int)) : Option ((Bool × Unit) × (Unit)) :=
 Zq90_l0 N (fun x => some ((x, ()), ())) (fun (_ : Unit) => some ((false, ()), ())) N list bits 0
noncomputable def Zq90_S (N : Nat) : FSum := ⟨Zq90_ps, Zq90_rs, fun x => Zq90 N x.1 x.2.1⟩
theorem Zq90_pc (N : Nat) : PC Tryz.prog 94 (Zq90_S N) := pcQ (L := [Zq90_l0_s N]) (Zq90_gok N) Tryz.call94 Tryz.func94 (fun x => by kernel_rfl) ⟨Zq90_l0_ok N, trivial⟩ (by kernel_rfl)

abbrev Zq89_ps : List (PV.Mode × Ty) := [(.ro, I), (.ro, LLI)]
abbrev Zq89_rs : List (Bool × Ty) := [(true, QILLI)]
noncomputable def Zq89_G (N : Nat) : GTab := gOf [(81, Zq85_S N), (94, Zq90_S N)]
theorem Zq89_gok (N : Nat) : GOk Tryz.prog (Zq89_G N) := gOf_ok ⟨Zq85_pc N, Zq90_pc N, trivial⟩
noncomputable def Zq89_code : Code := (Tryz.f63.body).getD .skip
noncomputable def Zq89_l0_0_sh : Sh := ⟨[(0, .one (.ro I)), (1, .one (.ro LLI)), (4, .one (.adr 0 0)), (5, .one (.adr 1 0)), (6, .one (.ro LLI)), (7, .one (.ro I)), (8, .one (.ref 2)), (9, .one (.ro I))], [.box [.ro I, .nilsl], .box [.ro I, .ref 3], .sl 3 I .own, .sl 33 LI .deep]⟩
noncomputable def Zq89_l0_0_ex : List (Ex × Sh) := [(.exit 2, ⟨[(0, .one (.ro I)), (1, .one (.ro LLI)), (4, .one (.adr 0 0)), (5, .one (.adr 1 0)), (6, .one (.ro LLI)), (7, .one (.ro I)), (8, .one (.ref 2))], [.box [.ro I, .nilsl], .box [.ro I, .ref 3], .sl 3 I .own, .sl 33 LI .deep]⟩)]
noncomputable def Zq89_l0_0 {R : Type} (N : Nat) (k0 : Int → (List (List Int)) → (List (List Int)) → Int → Int → Int → (List Int) → (List (List Int)) → Option R) : Nat → Int → (List (List Int)) → (List (List Int)) → Int → Int → Int → Int → (List Int) → (List (List Int)) → Option R
 | 0, _, _, _, _, _, _, _, _, _ => none
 | K + 1, x4, x5, x6, x7, x8, o3, o4, o5, o6 =>
 (br (ile 0 x8)
 ((chk (inb x6 x7)
 (chk (inb (rdL x6 x7) x8)
 (br (ieq (rdI (rdL x6 x7) x8) 1)
 ((chk (room o5 [(IntKind.i64.wrap ((-1) - x8))])
 (Zq89_l0_0 N k0 K x4 x5 x6 x7 (IntKind.i64.wrap (x8 - 1)) o3 o4 (tApp o5 [(IntKind.i64.wrap ((-1) - x8))]) o6)))
 (Zq89_l0_0 N k0 K x4 x5 x6 x7 (IntKind.i64.wrap (x8 - 1)) o3 o4 o5 o6)))))
 (k0 x4 x5 x6 x7 o3 o4 o5 o6))
noncomputable def Zq89_l0_0_again {R : Type} (N : Nat) (ks : KS Zq89_l0_0_ex R) (k : Nat) (x : Zq89_l0_0_sh.T) : Option R :=
 Zq89_l0_0 N (fun y0 y1 y2 y3 y4 y5 y6 y7 => ks 0 ((y0, y1, (), (), y2, y3, (), ()), ((y4, (), ()), (y5, (), ()), y6, y7, ()))) k x.1.1 x.1.2.1 x.1.2.2.2.2.1 x.1.2.2.2.2.2.1 x.1.2.2.2.2.2.2.2.1 x.2.1.1 x.2.2.1.1 x.2.2.2.1 x.2.2.2.2.1
noncomputable def Zq89_l0_0_s (N : Nat) : LSum := ⟨Zq89_l0_0_sh, Zq89_l0_0_ex, fun x ks => Zq89_l0_0_again N ks N x⟩
theorem Zq89_l0_0_ok (N : Nat) : LoopOk Tryz.prog Tryz.f63.ntmps (Zq89_l0_0_s N) (loopAt (loopAt Zq89_code 0) 0) := loopQ (sh := Zq89_l0_0_sh) (ex := Zq89_l0_0_ex) (N := N) (L := []) (fun R k x ks => Zq89_l0_0_again N ks k x) (Zq89_gok N) (fun _ _ _ => rfl) (fun R k x ks => by kernel_rfl) trivial (by kernel_rfl)
noncomputable def Zq89_l0_1_sh : Sh := ⟨[(0, .one (.ro I)), (1, .one (.ro LLI)), (4, .one (.adr 0 0)), (5, .one (.adr 1 0)), (6, .one (.ro LLI)), (7, .one (.ro I)), (8, .one (.ref 2)), (10, .one (.ro I))], [.box [.ro I, .nilsl], .box [.ro I, .ref 3], .sl 3 I .own, .sl 33 LI .deep]⟩
noncomputable def Zq89_l0_1_ex : List (Ex × Sh) := [(.exit 4, ⟨[(0, .one (.ro I)), (1, .one (.ro LLI)), (4, .one (.adr 0 0)), (5, .one (.adr 1 0)), (6, .one (.ro LLI)), (7, .one (.ro I)), (8, .one (.ref 2))], [.box [.ro I, .nilsl], .box [.ro I, .ref 3], .sl 3 I .own, .sl 33 LI .deep]⟩)]
noncomputable def Zq89_l0_1 {R : Type} (N : Nat) (k0 : Int → (List (List Int)) → (List (List Int)) → Int → Int → Int → (List Int) → (List (List Int)) → Option R) : Nat → Int → (List (List Int)) → (List (List Int)) → Int → Int → Int → Int → (List Int) → (List (List Int)) → Option R
 | 0, _, _, _, _, _, _, _, _, _ => none
 | K + 1, x8, x9, x10, x11, x12, o7, o8, o9, o10 =>
 (br (ilt x12 x8)
 ((chk (inb x10 x11)
 (chk (inb (rdL x10 x11) x12)
 (br (ieq (rdI (rdL x10 x11) x12) 0)
 ((chk (room o9 [(IntKind.i64.wrap (x12 + 1))])
 (Zq89_l0_1 N k0 K x8 x9 x10 x11 (IntKind.i64.wrap (x12 + 1)) o7 o8 (tApp o9 [(IntKind.i64.wrap (x12 + 1))]) o10)))
 (Zq89_l0_1 N k0 K x8 x9 x10 x11 (IntKind.i64.wrap (x12 + 1)) o7 o8 o9 o10)))))
 (k0 x8 x9 x10 x11 o7 o8 o9 o10))
noncomputable def Zq89_l0_1_again {R : Type} (N : Nat) (ks : KS Zq89_l0_1_ex R) (k : Nat) (x : Zq89_l0_1_sh.T) : Option R :=
 Zq89_l0_1 N (fun y0 y1 y2 y3 y4 y5 y6 y7 => ks 0 ((y0, y1, (), (), y2, y3, (), ()), ((y4, (), ()), (y5, (), ()), y6, y7, ()))) k x.1.1 x.1.2.1 x.1.2.2.2.2.1 x.1.2.2.2.2.2.1 x.1.2.2.2.2.2.2.2.1 x.2.1.1 x.2.2.1.1 x.2.2.2.1 x.2.2.2.2.1
noncomputable def Zq89_l0_1_s (N : Nat) : LSum := ⟨Zq89_l0_1_sh, Zq89_l0_1_ex, fun x ks => Zq89_l0_1_again N ks N x⟩
theorem Zq89_l0_1_ok (N : Nat) : LoopOk Tryz.prog Tryz.f63.ntmps (Zq89_l0_1_s N) (loopAt (loopAt Zq89_code 0) 1) := loopQ (sh := Zq89_l0_1_sh) (ex := Zq89_l0_1_ex) (N := N) (L := []) (fun R k x ks => Zq89_l0_1_again N ks k x) (Zq89_gok N) (fun _ _ _ => rfl) (fun R k x ks => by kernel_rfl) trivial (by kernel_rfl)
noncomputable def Zq89_l0_sh : Sh := ⟨[(0, .one (.ro I)), (1, .one (.ro LLI)), (4, .one (.adr 0 0)), (5, .one (.adr 1 0)), (6, .one (.ro LLI)), (7, .one (.ro I))], [.box [.ro I, .nilsl], .box [.ro I, .ref 2], .sl 33 LI .deep]⟩
noncomputable def Zq89_l0_ex : List (Ex × Sh) := [(.exit 0, ⟨[(4, .one (.adr 0 0)), (5, .one (.adr 1 0))], [.box [.ro I, .nilsl], .box [.ro I, .ref 2], .sl 33 LI .deep]⟩)]
noncomputable def Zq89_l0 {R : Type} (N : Nat) (k0 : Int → Int → (List (List Int)) → Option R) : Nat → Int → (List (List Int)) → (List (List Int)) → Int → Int → Int → (List (List Int)) → Option R
 | 0, _, _, _, _, _, _, _ => none
 | K + 1, x, x1, x2, x3, o, o1, o2 =>
 (br (ilt x3 (tLen x2))
 ((chk (inb x2 x3)
 ((Zq90 N x1 (rdL x2 x3)).bind fun r1 =>
 (br r1.1.1
 (Zq89_l0 N k0 K x x1 x2 (IntKind.i64.wrap (x3 + 1)) o o1 o2)
 (Zq89_l0_0 N (fun x4 x5 x6 x7 o3 o4 o5 o6 => Zq89_l0_1 N (fun x8 x9 x10 x11 o7 o8 o9 o10 => (chk (room o10 [o9])
 (Zq89_l0 N k0 K x8 x9 x10 (IntKind.i64.wrap (x11 + 1)) o7 o8 (tApp o10 [o9])))) N x4 x5 x6 x7 0 o3 o4 o5 o6) N x x1 x2 x3 (IntKind.i64.wrap (x - 1)) o o1 [] o2)))))
 (k0 o o1 o2))
noncomputable def Zq89_l0_again {R : Type} (N : Nat) (ks : KS Zq89_l0_ex R) (k : Nat) (x : Zq89_l0_sh.T) : Option R :=
 Zq89_l0 N (fun y0 y1 y2 => ks 0 (((), (), ()), ((y0, (), ()), (y1, (), ()), y2, ()))) k x.1.1 x.1.2.1 x.1.2.2.2.2.1 x.1.2.2.2.2.2.1 x.2.1.1 x.2.2.1.1 x.2.2.2.1
noncomputable def Zq89_l0_s (N : Nat) : LSum := ⟨Zq89_l0_sh, Zq89_l0_ex, fun x ks => Zq89_l0_again N ks N x⟩
theorem Zq89_l0_ok (N : Nat) : LoopOk Tryz.prog Tryz.f63.ntmps (Zq89_l0_s N) (loopAt Zq89_code 0) := loopQ (sh := Zq89_l0_sh) (ex := Zq89_l0_ex) (N := N) (L := [Zq89_l0_0_s N, Zq89_l0_1_s N]) (fun R k x ks => Zq89_l0_again N ks k x) (Zq89_gok N) (fun _ _ _ => rfl) (fun R k x ks => by kernel_rfl) ⟨Zq89_l0_0_ok N, Zq89_l0_1_ok N, trivial⟩ (by kernel_rfl)
noncomputable def Zq89 (N : Nat) (c : Int) (c1 : (List (List Int))) : Option (((Int × (List (List Int))) × Unit) × (Unit)) :=
 ((Zq85 N c).bind fun r =>
 Zq89_l0 N (fun o o1 o2 => some (((o1, o2), ()), ())) N c c1 r.1.1 0 0 c [])
noncomputable def Zq89_S (N : Nat) : FSum := ⟨Zq89_ps, Zq89_rs, fun x => Zq89 N x.1 x.2.1⟩
theorem Zq89_pc (N : Nat) : PC Tryz.prog 63 (Zq89_S N) := pcQ (L := [Zq89_l0_s N]) (Zq89_gok N) Tryz.call63 Tryz.func63 (fun x => by kernel_rfl) ⟨Zq89_l0_ok N, trivial⟩ (by kernel_rfl)

abbrev Zq65_ps : List (PV.Mode × Ty) := [(.ro, QIQLLILI)]
abbrev Zq65_rs : List (Bool × Ty) := [(true, QILLI), (true, .bool)]
noncomputable def Zq65_G (N : Nat) : GTab := gOf [(72, Zq91_S N), (73, Zq88_S N), (63, Zq89_S N)]
theorem Zq65_gok (N : Nat) : GOk Tryz.prog (Zq65_G N) := gOf_ok ⟨Zq91_pc N, Zq88_pc N, Zq89_pc N, trivial⟩
noncomputable def Zq65_code : Code := (Tryz.f32.body).getD .skip
noncomputable def Zq65 (N : Nat) (p : (Int × ((List (List Int)) × (List Int)))) : Option (((Int × (List (List Int))) × Bool × Unit) × (Unit)) :=
 ((Zq91 N (p.1, (p.2.1, p.2.2))).bind fun r =>
 (br (!r.1.1)
 (some (((0, []), false, ()), ()))
 (((Zq88 N (p.1, (p.2.1, p.2.2))).bind fun r1 =>
 ((Zq89 N p.1 r1.1.1).bind fun r2 =>
 some (((r2.1.1.1, r2.1.1.2), true, ()), ()))))))
noncomputable def Zq65_S (N : Nat) : FSum := ⟨Zq65_ps, Zq65_rs, fun x => Zq65 N x.1⟩
theorem Zq65_pc (N : Nat) : PC Tryz.prog 32 (Zq65_S N) := pcQ (L := []) (Zq65_gok N) Tryz.call32 Tryz.func32 (fun x => by kernel_rfl) trivial (by kernel_rfl)

abbrev Zq9_ps : List (PV.Mode × Ty) := [(.ro, QILLI)]
abbrev Zq9_rs : List (Bool × Ty) := [(true, .bool)]
noncomputable def Zq9_G (N : Nat) : GTab := gOf [(39, Zq24_S N)]
theorem Zq9_gok (N : Nat) : GOk Tryz.prog (Zq9_G N) := gOf_ok ⟨Zq24_pc N, trivial⟩
noncomputable def Zq9_code : Code := (Tryz.f38.body).getD .skip
noncomputable def Zq9_l0_0_sh : Sh := ⟨[(1, .one (.adr 0 0)), (4, .one (.ro LI)), (18, .one (.ro LLI)), (19, .one (.ro I)), (20, .one (.ro I)), (24, .one (.ro LI)), (25, .one (.ro I)), (26, .one (.ro I))], [.box [.ro I, .ro LLI]]⟩
noncomputable def Zq9_l0_0_ex : List (Ex × Sh) := [(.ret, ⟨[(2, .one (.ro .bool))], []⟩), (.exit 2, ⟨[(1, .one (.adr 0 0)), (18, .one (.ro LLI)), (19, .one (.ro I)), (20, .one (.ro I))], [.box [.ro I, .ro LLI]]⟩)]
noncomputable def Zq9_l0_0 {R : Type} (N : Nat) (k0 : Bool → Option R) (k1 : (List (List Int)) → Int → Int → Int → (List (List Int)) → Option R) : Nat → (List Int) → (List (List Int)) → Int → Int → (List Int) → Int → Int → Int → (List (List Int)) → Option R
 | 0, _, _, _, _, _, _, _, _, _ => none
 | K + 1, clause, x3, x4, x5, x6, x7, x8, o2, o3 =>
 (br (ilt x8 x7)
 ((chk (inb x6 x8)
 (br (ieq (rdI x6 x8) 0)
 (k0 false)
 (((Zq24 N (rdI x6 x8) (IntKind.i64.wrap (0 - o2)) o2).bind fun r1 =>
 (br (!r1.1.1)
 (k0 false)
 ((br (ilt 0 x8)
 ((chk (inb clause (IntKind.i64.wrap (x8 - 1)))
 (br (ile (rdI x6 x8) (rdI clause (IntKind.i64.wrap (x8 - 1))))
 (k0 false)
 (Zq9_l0_0 N k0 k1 K clause x3 x4 x5 x6 x7 (IntKind.i64.wrap (x8 + 1)) o2 o3))))
 (Zq9_l0_0 N k0 k1 K clause x3 x4 x5 x6 x7 (IntKind.i64.wrap (x8 + 1)) o2 o3)))))))))
 (k1 x3 x4 x5 o2 o3))
noncomputable def Zq9_l0_0_again {R : Type} (N : Nat) (ks : KS Zq9_l0_0_ex R) (k : Nat) (x : Zq9_l0_0_sh.T) : Option R :=
 Zq9_l0_0 N (fun y0 => ks 0 ((y0, ()), ())) (fun y0 y1 y2 y3 y4 => ks 1 (((), y0, y1, y2, ()), ((y3, y4, ()), ()))) k x.1.2.1 x.1.2.2.1 x.1.2.2.2.1 x.1.2.2.2.2.1 x.1.2.2.2.2.2.1 x.1.2.2.2.2.2.2.1 x.1.2.2.2.2.2.2.2.1 x.2.1.1 x.2.1.2.1
noncomputable def Zq9_l0_0_s (N : Nat) : LSum := ⟨Zq9_l0_0_sh, Zq9_l0_0_ex, fun x ks => Zq9_l0_0_again N ks N x⟩
theorem Zq9_l0_0_ok (N : Nat) : LoopOk Tryz.prog Tryz.f38.ntmps (Zq9_l0_0_s N) (loopAt (loopAt Zq9_code 0) 0) := loopQ (sh := Zq9_l0_0_sh) (ex := Zq9_l0_0_ex) (N := N) (L := []) (fun R k x ks => Zq9_l0_0_again N ks k x) (Zq9_gok N) (fun _ _ _ => rfl) (fun R k x ks => by kernel_rfl) trivial (by kernel_rfl)
noncomputable def Zq9_l0_sh : Sh := ⟨[(1, .one (.adr 0 0)), (18, .one (.ro LLI)), (19, .one (.ro I)), (20, .one (.ro I))], [.box [.ro I, .ro LLI]]⟩
noncomputable def Zq9_l0_ex : List (Ex × Sh) := [(.ret, ⟨[(2, .one (.ro .bool))], []⟩), (.exit 0, ⟨[], []⟩)]
noncomputable def Zq9_l0 {R : Type} (N : Nat) (k0 : Bool → Option R) (k1 : Unit → Option R) : Nat → (List (List Int)) → Int → Int → Int → (List (List Int)) → Option R
 | 0, _, _, _, _, _ => none
 | K + 1, x, x1, x2, o, o1 =>
 (br (ilt x2 x1)
 ((chk (inb x x2)
 (Zq9_l0_0 N (fun x3 => k0 x3) (fun x4 x5 x6 o2 o3 => Zq9_l0 N k0 k1 K x4 x5 (IntKind.i64.wrap (x6 + 1)) o2 o3) N (rdL x x2) x x1 x2 (rdL x x2) (tLen (rdL x x2)) 0 o o1)))
 (k1 ()))
noncomputable def Zq9_l0_again {R : Type} (N : Nat) (ks : KS Zq9_l0_ex R) (k : Nat) (x : Zq9_l0_sh.T) : Option R :=
 Zq9_l0 N (fun y0 => ks 0 ((y0, ()), ())) (fun (_ : Unit) => ks 1 ((), ())) k x.1.2.1 x.1.2.2.1 x.1.2.2.2.1 x.2.1.1 x.2.1.2.1
noncomputable def Zq9_l0_s (N : Nat) : LSum := ⟨Zq9_l0_sh, Zq9_l0_ex, fun x ks => Zq9_l0_again N ks N x⟩
theorem Zq9_l0_ok (N : Nat) : LoopOk Tryz.prog Tryz.f38.ntmps (Zq9_l0_s N) (loopAt Zq9_code 0) := loopQ (sh := Zq9_l0_sh) (ex := Zq9_l0_ex) (N := N) (L := [Zq9_l0_0_s N]) (fun R k x ks => Zq9_l0_again N ks k x) (Zq9_gok N) (fun _ _ _ => rfl) (fun R k x ks => by kernel_rfl) ⟨Zq9_l0_0_ok N, trivial⟩ (by kernel_rfl)
noncomputable def Zq9 (N : Nat) (f : (Int × (List (List Int)))) : Option ((Bool × Unit) × (Unit)) :=
 ((Zq24 N f.1 0 6).bind fun r =>
 (br (!r.1.1)
 (some ((false, ()), ()))
 ((br (ilt 64 (tLen f.2))
 (some ((false, ()), ()))
 (Zq9_l0 N (fun x => some ((x, ()), ())) (fun (_ : Unit) => some ((true, ()), ())) N f.2 (tLen f.2) 0 f.1 f.2)))))
noncomputable def Zq9_S (N : Nat) : FSum := ⟨Zq9_ps, Zq9_rs, fun x => Zq9 N x.1⟩
theorem Zq9_pc (N : Nat) : PC Tryz.prog 38 (Zq9_S N) := pcQ (L := [Zq9_l0_s N]) (Zq9_gok N) Tryz.call38 Tryz.func38 (fun x => by kernel_rfl) ⟨Zq9_l0_ok N, trivial⟩ (by kernel_rfl)

abbrev Zq36_ps : List (PV.Mode × Ty) := [(.ro, LI), (.ro, I)]
abbrev Zq36_rs : List (Bool × Ty) := [(true, .bool)]
noncomputable def Zq36_G (N : Nat) : GTab := gOf []
theorem Zq36_gok (N : Nat) : GOk Tryz.prog (Zq36_G N) := gOf_ok trivial
noncomputable def Zq36_code : Code := (Tryz.f109.body).getD .skip
noncomputable def Zq36 (N : Nat) (list : (List Int)) (literal : Int) : Option ((Bool × Unit) × (Unit)) :=
 (br (ilt 0 literal)
 ((chk (inb list (IntKind.i64.wrap (literal - 1)))
 (some (((ieq (rdI list (IntKind.i64.wrap (literal - 1))) 1), ()), ()))))
 ((chk (inb list (IntKind.i64.wrap ((-1) - literal)))
 (some (((ieq (rdI list (IntKind.i64.wrap ((-1) - literal))) 0), ()), ())))))
noncomputable def Zq36_S (N : Nat) : FSum := ⟨Zq36_ps, Zq36_rs, fun x => Zq36 N x.1 x.2.1⟩
theorem Zq36_pc (N : Nat) : PC Tryz.prog 109 (Zq36_S N) := pcQ (L := []) (Zq36_gok N) Tryz.call109 Tryz.func109 (fun x => by kernel_rfl) trivial (by kernel_rfl)

abbrev Zq7_ps : List (PV.Mode × Ty) := [(.ro, I), (.ro, ALI)]
abbrev Zq7_rs : List (Bool × Ty) := [(true, .bool)]
noncomputable def Zq7_G (N : Nat) : GTab := gOf [(109, Zq36_S N)]
theorem Zq7_gok (N : Nat) : GOk Tryz.prog (Zq7_G N) := gOf_ok ⟨Zq36_pc N, trivial⟩
noncomputable def Zq7_code : Code := (Tryz.f108.body).getD .skip
noncomputable def Zq7 (N : Nat) (literal : Int) (c : (List Int)) : Option ((Bool × Unit) × (Unit)) :=
 ((Zq36 N c literal).bind fun r =>
 some ((r.1.1, ()), ()))
noncomputable def Zq7_S (N : Nat) : FSum := ⟨Zq7_ps, Zq7_rs, fun x => Zq7 N x.1 x.2.1⟩
theorem Zq7_pc (N : Nat) : PC Tryz.prog 108 (Zq7_S N) := pcQ (L := []) (Zq7_gok N) Tryz.call108 Tryz.func108 (fun x => by kernel_rfl) trivial (by kernel_rfl)

abbrev Zq6_ps : List (PV.Mode × Ty) := [(.ro, LI), (.ro, ALI)]
abbrev Zq6_rs : List (Bool × Ty) := [(true, .bool)]
noncomputable def Zq6_G (N : Nat) : GTab := gOf [(108, Zq7_S N), (89, Zq51_S N)]
theorem Zq6_gok (N : Nat) : GOk Tryz.prog (Zq6_G N) := gOf_ok ⟨Zq7_pc N, Zq51_pc N, trivial⟩
noncomputable def Zq6_code : Code := (Tryz.f107.body).getD .skip
noncomputable def Zq6 (N : Nat) (clause : (List Int)) (c : (List Int)) : Option ((Bool × Unit) × (Unit)) :=
 ((Zq51 N clause (fun y0 => (Zq7 N y0 c).bind fun z => some z.1.1)).bind fun r =>
 some (((!r.1.1), ()), ()))
noncomputable def Zq6_S (N : Nat) : FSum := ⟨Zq6_ps, Zq6_rs, fun x => Zq6 N x.1 x.2.1⟩
theorem Zq6_pc (N : Nat) : PC Tryz.prog 107 (Zq6_S N) := pcQ (L := []) (Zq6_gok N) Tryz.call107 Tryz.func107 (fun x => by kernel_rfl) trivial (by kernel_rfl)

abbrev Zq5_ps : List (PV.Mode × Ty) := [(.ro, QILLI), (.ro, LI)]
abbrev Zq5_rs : List (Bool × Ty) := [(true, .bool)]
noncomputable def Zq5_G (N : Nat) : GTab := gOf [(58, Zq52_S N), (107, Zq6_S N)]
theorem Zq5_gok (N : Nat) : GOk Tryz.prog (Zq5_G N) := gOf_ok ⟨Zq52_pc N, Zq6_pc N, trivial⟩
noncomputable def Zq5_code : Code := (Tryz.f80.body).getD .skip
noncomputable def Zq5 (N : Nat) (f : (Int × (List (List Int)))) (list : (List Int)) : Option ((Bool × Unit) × (Unit)) :=
 ((Zq52 N f.2 (fun y0 => (Zq6 N y0 list).bind fun z => some z.1.1)).bind fun r =>
 some (((!r.1.1), ()), ()))
noncomputable def Zq5_S (N : Nat) : FSum := ⟨Zq5_ps, Zq5_rs, fun x => Zq5 N x.1 x.2.1⟩
theorem Zq5_pc (N : Nat) : PC Tryz.prog 80 (Zq5_S N) := pcQ (L := []) (Zq5_gok N) Tryz.call80 Tryz.func80 (fun x => by kernel_rfl) trivial (by kernel_rfl)

abbrev Zq4_ps : List (PV.Mode × Ty) := [(.ro, QILLI)]
abbrev Zq4_rs : List (Bool × Ty) := [(true, LLI)]
noncomputable def Zq4_G (N : Nat) : GTab := gOf [(80, Zq5_S N), (79, Zq23_S N)]
theorem Zq4_gok (N : Nat) : GOk Tryz.prog (Zq4_G N) := gOf_ok ⟨Zq5_pc N, Zq23_pc N, trivial⟩
noncomputable def Zq4_code : Code := (Tryz.f40.body).getD .skip
noncomputable def Zq4 (N : Nat) (f : (Int × (List (List Int)))) : Option (((List (List Int)) × Unit) × (Unit)) :=
 ((Zq23 N f.1 (fun y0 => (Zq5 N (f.1, f.2) y0).bind fun z => some z.1.1)).bind fun r =>
 some ((r.1.1, ()), ()))
noncomputable def Zq4_S (N : Nat) : FSum := ⟨Zq4_ps, Zq4_rs, fun x => Zq4 N x.1⟩
theorem Zq4_pc (N : Nat) : PC Tryz.prog 40 (Zq4_S N) := pcQ (L := []) (Zq4_gok N) Tryz.call40 Tryz.func40 (fun x => by kernel_rfl) trivial (by kernel_rfl)

abbrev Zq21_ps : List (PV.Mode × Ty) := [(.ro, LI)]
abbrev Zq21_rs : List (Bool × Ty) := [(true, U64)]
noncomputable def Zq21_G (N : Nat) : GTab := gOf []
theorem Zq21_gok (N : Nat) : GOk Tryz.prog (Zq21_G N) := gOf_ok trivial
noncomputable def Zq21_code : Code := (Tryz.f41.body).getD .skip
noncomputable def Zq21_l0_sh : Sh := ⟨[(3, .one (.ro U64)), (6, .one (.ro LI)), (7, .one (.ro I)), (8, .one (.ro I))], []⟩
noncomputable def Zq21_l0_ex : List (Ex × Sh) := [(.exit 0, ⟨[(3, .one (.ro U64))], []⟩)]
noncomputable def Zq21_l0 {R : Type} (N : Nat) (k0 : Int → Option R) : Nat → Int → (List Int) → Int → Int → Option R
 | 0, _, _, _, _ => none
 | K + 1, out, x, x1, x2 =>
 (br (ilt x2 x1)
 ((chk (inb x x2)
 (Zq21_l0 N k0 K (IntKind.u64.wrap ((IntKind.u64.wrap (2 * out)) + (IntKind.u64.wrap ((rdI x x2))))) x x1 (IntKind.i64.wrap (x2 + 1)))))
 (k0 out))
noncomputable def Zq21_l0_again {R : Type} (N : Nat) (ks : KS Zq21_l0_ex R) (k : Nat) (x : Zq21_l0_sh.T) : Option R :=
 Zq21_l0 N (fun y0 => ks 0 ((y0, ()), ())) k x.1.1 x.1.2.1 x.1.2.2.1 x.1.2.2.2.1
noncomputable def Zq21_l0_s (N : Nat) : LSum := ⟨Zq21_l0_sh, Zq21_l0_ex, fun x ks => Zq21_l0_again N ks N x⟩
theorem Zq21_l0_ok (N : Nat) : LoopOk Tryz.prog Tryz.f41.ntmps (Zq21_l0_s N) (loopAt Zq21_code 0) := loopQ (sh := Zq21_l0_sh) (ex := Zq21_l0_ex) (N := N) (L := []) (fun R k x ks => Zq21_l0_again N ks k x) (Zq21_gok N) (fun _ _ _ => rfl) (fun R k x ks => by kernel_rfl) trivial (by kernel_rfl)
noncomputable def Zq21 (N : Nat) (list : (List Int)) : Option ((Int × Unit) × (Unit)) :=
 Zq21_l0 N (fun out => some ((out, ()), ())) N 0 list (tLen list) 0
noncomputable def Zq21_S (N : Nat) : FSum := ⟨Zq21_ps, Zq21_rs, fun x => Zq21 N x.1⟩
theorem Zq21_pc (N : Nat) : PC Tryz.prog 41 (Zq21_S N) := pcQ (L := [Zq21_l0_s N]) (Zq21_gok N) Tryz.call41 Tryz.func41 (fun x => by kernel_rfl) ⟨Zq21_l0_ok N, trivial⟩ (by kernel_rfl)

abbrev Zq8_ps : List (PV.Mode × Ty) := [(.ro, QILLI), (.ro, I)]
abbrev Zq8_rs : List (Bool × Ty) := [(true, .bool), (true, .bool)]
noncomputable def Zq8_G (N : Nat) : GTab := gOf [(38, Zq9_S N), (39, Zq24_S N), (40, Zq4_S N), (41, Zq21_S N)]
theorem Zq8_gok (N : Nat) : GOk Tryz.prog (Zq8_G N) := gOf_ok ⟨Zq9_pc N, Zq24_pc N, Zq4_pc N, Zq21_pc N, trivial⟩
noncomputable def Zq8_code : Code := (Tryz.f7.body).getD .skip
noncomputable def Zq8_l0_sh : Sh := ⟨[(1, .one (.ro I)), (6, .one (.mref 0)), (7, .one (.ref 1)), (28, .one (.ref 2)), (29, .one (.ro I)), (30, .one (.ro I))], [.mp 74 4 .u64, .sl 74 U64 .own, .sl 33 LI .deep]⟩
noncomputable def Zq8_l0_ex : List (Ex × Sh) := [(.exit 0, ⟨[(1, .one (.ro I)), (6, .one (.mref 0)), (7, .one (.ref 1))], [.mp 74 4 .u64, .sl 74 U64 .own]⟩)]
noncomputable def Zq8_l0 {R : Type} (N : Nat) (k0 : Int → (List Int) → (List Int) → Option R) : Nat → Int → Int → Int → (List Int) → (List Int) → (List (List Int)) → Option R
 | 0, _, _, _, _, _, _ => none
 | K + 1, x, x1, x2, o, o1, o2 =>
 (br (ilt x2 x1)
 ((chk (inb o2 x2)
 ((Zq21 N (rdL o2 x2)).bind fun r3 =>
 (chk (wfI .u64 r3.1.1 && room (α := Int) (β := Int) o [r3.1.1])
 (chk (room o1 [r3.1.1])
 (Zq8_l0 N k0 K x x1 (IntKind.i64.wrap (x2 + 1)) (tApp o [r3.1.1]) (tApp o1 [r3.1.1]) o2))))))
 (k0 x o o1))
noncomputable def Zq8_l0_again {R : Type} (N : Nat) (ks : KS Zq8_l0_ex R) (k : Nat) (x : Zq8_l0_sh.T) : Option R :=
 Zq8_l0 N (fun y0 y1 y2 => ks 0 ((y0, (), (), ()), (y1, y2, ()))) k x.1.1 x.1.2.2.2.2.1 x.1.2.2.2.2.2.1 x.2.1 x.2.2.1 x.2.2.2.1
noncomputable def Zq8_l0_s (N : Nat) : LSum := ⟨Zq8_l0_sh, Zq8_l0_ex, fun x ks => Zq8_l0_again N ks N x⟩
theorem Zq8_l0_ok (N : Nat) : LoopOk Tryz.prog Tryz.f7.ntmps (Zq8_l0_s N) (loopAt Zq8_code 0) := loopQ (sh := Zq8_l0_sh) (ex := Zq8_l0_ex) (N := N) (L := []) (fun R k x ks => Zq8_l0_again N ks k x) (Zq8_gok N) (fun _ _ _ => rfl) (fun R k x ks => by kernel_rfl) trivial (by kernel_rfl)
noncomputable def Zq8_l1_0_0_sh : Sh := ⟨[(1, .one (.ro I)), (6, .one (.mref 0)), (7, .one (.ref 1)), (12, .one (.ro U64)), (14, .one (.ro U64)), (43, .one (.ref 1)), (44, .one (.ro I)), (45, .one (.ro I)), (49, .one (.ref 1)), (50, .one (.ro I)), (51, .one (.ro I)), (80, .one (.ro I)), (81, .one (.ro .bool)), (83, .one (.ref 1)), (84, .one (.ro I)), (85, .one (.ro I))], [.mp 74 4 .u64, .sl 74 U64 .own]⟩
noncomputable def Zq8_l1_0_0_ex : List (Ex × Sh) := [(.ret, ⟨[(4, .one (.ro .bool)), (5, .one (.ro .bool))], []⟩), (.exit 7, ⟨[(1, .one (.ro I)), (6, .one (.mref 0)), (7, .one (.ref 1)), (12, .one (.ro U64)), (43, .one (.ref 1)), (44, .one (.ro I)), (45, .one (.ro I)), (49, .one (.ref 1)), (50, .one (.ro I)), (51, .one (.ro I)), (80, .one (.ro I)), (81, .one (.ro .bool))], [.mp 74 4 .u64, .sl 74 U64 .own]⟩)]
noncomputable def Zq8_l1_0_0 {R : Type} (N : Nat) (k0 : Bool → Bool → Option R) (k1 : Int → Int → Int → Int → Int → Int → Int → Bool → (List Int) → (List Int) → Option R) : Nat → Int → Int → Int → Int → Int → Int → Int → Int → Bool → Int → Int → (List Int) → (List Int) → Option R
 | 0, _, _, _, _, _, _, _, _, _, _, _, _, _ => none
 | K + 1, x60, x61, x62, x63, x64, x65, x66, x67, x68, x69, x70, o12, o13 =>
 (br (ilt x70 x69)
 ((chk (inb o13 x70)
 (br (ieq x60 1)
 ((chk (wfI .u64 (bitop .or .u64 (bitop .or .u64 (bitop .and .u64 x61 x62) (bitop .and .u64 x61 (rd U64 o13 x70))) (bitop .and .u64 x62 (rd U64 o13 x70))))
 (br (!(hasI o12 (bitop .or .u64 (bitop .or .u64 (bitop .and .u64 x61 x62) (bitop .and .u64 x61 (rd U64 o13 x70))) (bitop .and .u64 x62 (rd U64 o13 x70)))))
 (k0 false true)
 ((br (ieq x60 4)
 ((chk (wfI .u64 (bitop .xor .u64 (bitop .xor .u64 x61 x62) (rd U64 o13 x70)))
 (br (!(hasI o12 (bitop .xor .u64 (bitop .xor .u64 x61 x62) (rd U64 o13 x70))))
 (k0 false true)
 (Zq8_l1_0_0 N k0 k1 K x60 x61 x62 x63 x64 x65 x66 x67 x68 x69 (IntKind.i64.wrap (x70 + 1)) o12 o13))))
 (Zq8_l1_0_0 N k0 k1 K x60 x61 x62 x63 x64 x65 x66 x67 x68 x69 (IntKind.i64.wrap (x70 + 1)) o12 o13))))))
 ((br (ieq x60 4)
 ((chk (wfI .u64 (bitop .xor .u64 (bitop .xor .u64 x61 x62) (rd U64 o13 x70)))
 (br (!(hasI o12 (bitop .xor .u64 (bitop .xor .u64 x61 x62) (rd U64 o13 x70))))
 (k0 false true)
 (Zq8_l1_0_0 N k0 k1 K x60 x61 x62 x63 x64 x65 x66 x67 x68 x69 (IntKind.i64.wrap (x70 + 1)) o12 o13))))
 (Zq8_l1_0_0 N k0 k1 K x60 x61 x62 x63 x64 x65 x66 x67 x68 x69 (IntKind.i64.wrap (x70 + 1)) o12 o13))))))
 (k1 x60 x61 x63 x64 x65 x66 x67 x68 o12 o13))
noncomputable def Zq8_l1_0_0_again {R : Type} (N : Nat) (ks : KS Zq8_l1_0_0_ex R) (k : Nat) (x : Zq8_l1_0_0_sh.T) : Option R :=
 Zq8_l1_0_0 N (fun y0 y1 => ks 0 ((y0, y1, ()), ())) (fun y0 y1 y2 y3 y4 y5 y6 y7 y8 y9 => ks 1 ((y0, (), (), y1, (), y2, y3, (), y4, y5, y6, y7, ()), (y8, y9, ()))) k x.1.1 x.1.2.2.2.1 x.1.2.2.2.2.1 x.1.2.2.2.2.2.2.1 x.1.2.2.2.2.2.2.2.1 x.1.2.2.2.2.2.2.2.2.2.1 x.1.2.2.2.2.2.2.2.2.2.2.1 x.1.2.2.2.2.2.2.2.2.2.2.2.1 x.1.2.2.2.2.2.2.2.2.2.2.2.2.1 x.1.2.2.2.2.2.2.2.2.2.2.2.2.2.2.1 x.1.2.2.2.2.2.2.2.2.2.2.2.2.2.2.2.1 x.2.1 x.2.2.1
noncomputable def Zq8_l1_0_0_s (N : Nat) : LSum := ⟨Zq8_l1_0_0_sh, Zq8_l1_0_0_ex, fun x ks => Zq8_l1_0_0_again N ks N x⟩
theorem Zq8_l1_0_0_ok (N : Nat) : LoopOk Tryz.prog Tryz.f7.ntmps (Zq8_l1_0_0_s N) (loopAt (loopAt (loopAt Zq8_code 1) 0) 0) := loopQ (sh := Zq8_l1_0_0_sh) (ex := Zq8_l1_0_0_ex) (N := N) (L := []) (fun R k x ks => Zq8_l1_0_0_again N ks k x) (Zq8_gok N) (fun _ _ _ => rfl) (fun R k x ks => by kernel_rfl) trivial (by kernel_rfl)
noncomputable def Zq8_l1_0_sh : Sh := ⟨[(1, .one (.ro I)), (6, .one (.mref 0)), (7, .one (.ref 1)), (12, .one (.ro U64)), (43, .one (.ref 1)), (44, .one (.ro I)), (45, .one (.ro I)), (49, .one (.ref 1)), (50, .one (.ro I)), (51, .one (.ro I))], [.mp 74 4 .u64, .sl 74 U64 .own]⟩
noncomputable def Zq8_l1_0_ex : List (Ex × Sh) := [(.ret, ⟨[(4, .one (.ro .bool)), (5, .one (.ro .bool))], []⟩), (.exit 4, ⟨[(1, .one (.ro I)), (6, .one (.mref 0)), (7, .one (.ref 1)), (43, .one (.ref 1)), (44, .one (.ro I)), (45, .one (.ro I))], [.mp 74 4 .u64, .sl 74 U64 .own]⟩)]
noncomputable def Zq8_l1_0 {R : Type} (N : Nat) (k0 : Bool → Bool → Option R) (k1 : Int → Int → Int → (List Int) → (List Int) → Option R) : Nat → Int → Int → Int → Int → Int → Int → (List Int) → (List Int) → Option R
 | 0, _, _, _, _, _, _, _, _ => none
 | K + 1, x4, x5, x6, x7, x8, x9, o4, o5 =>
 (br (ilt x9 x8)
 ((chk (inb o5 x9)
 (br (ieq x4 2)
 ((chk (wfI .u64 (bitop .and .u64 x5 (rd U64 o5 x9)))
 (br (!(hasI o4 (bitop .and .u64 x5 (rd U64 o5 x9))))
 (k0 false true)
 ((br (ieq x4 3)
 ((chk (wfI .u64 (bitop .or .u64 x5 (rd U64 o5 x9)))
 (br (!(hasI o4 (bitop .or .u64 x5 (rd U64 o5 x9))))
 (k0 false true)
 ((br (ieq x4 2)
 (Zq8_l1_0 N k0 k1 K x4 x5 x6 x7 x8 (IntKind.i64.wrap (x9 + 1)) o4 o5)
 ((br (ieq x4 3)
 (Zq8_l1_0 N k0 k1 K x4 x5 x6 x7 x8 (IntKind.i64.wrap (x9 + 1)) o4 o5)
 (Zq8_l1_0_0 N (fun x10 x11 => k0 x10 x11) (fun x12 x13 x14 x15 x16 x17 x18 x19 o6 o7 => Zq8_l1_0 N k0 k1 K x12 x13 x14 x15 x16 (IntKind.i64.wrap (x17 + 1)) o6 o7) N x4 x5 (rd U64 o5 x9) x6 x7 x8 x9 x4 (ieq x4 3) (tLen o5) 0 o4 o5))))))))
 ((br (ieq x4 2)
 (Zq8_l1_0 N k0 k1 K x4 x5 x6 x7 x8 (IntKind.i64.wrap (x9 + 1)) o4 o5)
 ((br (ieq x4 3)
 (Zq8_l1_0 N k0 k1 K x4 x5 x6 x7 x8 (IntKind.i64.wrap (x9 + 1)) o4 o5)
 (Zq8_l1_0_0 N (fun x20 x21 => k0 x20 x21) (fun x22 x23 x24 x25 x26 x27 x28 x29 o8 o9 => Zq8_l1_0 N k0 k1 K x22 x23 x24 x25 x26 (IntKind.i64.wrap (x27 + 1)) o8 o9) N x4 x5 (rd U64 o5 x9) x6 x7 x8 x9 x4 (ieq x4 3) (tLen o5) 0 o4 o5))))))))))
 ((br (ieq x4 3)
 ((chk (wfI .u64 (bitop .or .u64 x5 (rd U64 o5 x9)))
 (br (!(hasI o4 (bitop .or .u64 x5 (rd U64 o5 x9))))
 (k0 false true)
 ((br (ieq x4 2)
 (Zq8_l1_0 N k0 k1 K x4 x5 x6 x7 x8 (IntKind.i64.wrap (x9 + 1)) o4 o5)
 ((br (ieq x4 3)
 (Zq8_l1_0 N k0 k1 K x4 x5 x6 x7 x8 (IntKind.i64.wrap (x9 + 1)) o4 o5)
 (Zq8_l1_0_0 N (fun x30 x31 => k0 x30 x31) (fun x32 x33 x34 x35 x36 x37 x38 x39 o10 o11 => Zq8_l1_0 N k0 k1 K x32 x33 x34 x35 x36 (IntKind.i64.wrap (x37 + 1)) o10 o11) N x4 x5 (rd U64 o5 x9) x6 x7 x8 x9 x4 (ieq x4 3) (tLen o5) 0 o4 o5))))))))
 ((br (ieq x4 2)
 (Zq8_l1_0 N k0 k1 K x4 x5 x6 x7 x8 (IntKind.i64.wrap (x9 + 1)) o4 o5)
 ((br (ieq x4 3)
 (Zq8_l1_0 N k0 k1 K x4 x5 x6 x7 x8 (IntKind.i64.wrap (x9 + 1)) o4 o5)
 (Zq8_l1_0_0 N (fun x40 x41 => k0 x40 x41) (fun x42 x43 x44 x45 x46 x47 x48 x49 o12 o13 => Zq8_l1_0 N k0 k1 K x42 x43 x44 x45 x46 (IntKind.i64.wrap (x47 + 1)) o12 o13) N x4 x5 (rd U64 o5 x9) x6 x7 x8 x9 x4 (ieq x4 3) (tLen o5) 0 o4 o5))))))))))
 (k1 x4 x6 x7 o4 o5))
noncomputable def Zq8_l1_0_again {R : Type} (N : Nat) (ks : KS Zq8_l1_0_ex R) (k : Nat) (x : Zq8_l1_0_sh.T) : Option R :=
 Zq8_l1_0 N (fun y0 y1 => ks 0 ((y0, y1, ()), ())) (fun y0 y1 y2 y3 y4 => ks 1 ((y0, (), (), (), y1, y2, ()), (y3, y4, ()))) k x.1.1 x.1.2.2.2.1 x.1.2.2.2.2.2.1 x.1.2.2.2.2.2.2.1 x.1.2.2.2.2.2.2.2.2.1 x.1.2.2.2.2.2.2.2.2.2.1 x.2.1 x.2.2.1
noncomputable def Zq8_l1_0_s (N : Nat) : LSum := ⟨Zq8_l1_0_sh, Zq8_l1_0_ex, fun x ks => Zq8_l1_0_again N ks N x⟩
theorem Zq8_l1_0_ok (N : Nat) : LoopOk Tryz.prog Tryz.f7.ntmps (Zq8_l1_0_s N) (loopAt (loopAt Zq8_code 1) 0) := loopQ (sh := Zq8_l1_0_sh) (ex := Zq8_l1_0_ex) (N := N) (L := [Zq8_l1_0_0_s N]) (fun R k x ks => Zq8_l1_0_again N ks k x) (Zq8_gok N) (fun _ _ _ => rfl) (fun R k x ks => by kernel_rfl) ⟨Zq8_l1_0_0_ok N, trivial⟩ (by kernel_rfl)
noncomputable def Zq8_l1_sh : Sh := ⟨[(1, .one (.ro I)), (6, .one (.mref 0)), (7, .one (.ref 1)), (43, .one (.ref 1)), (44, .one (.ro I)), (45, .one (.ro I))], [.mp 74 4 .u64, .sl 74 U64 .own]⟩
noncomputable def Zq8_l1_ex : List (Ex × Sh) := [(.ret, ⟨[(4, .one (.ro .bool)), (5, .one (.ro .bool))], []⟩), (.exit 2, ⟨[], []⟩)]
noncomputable def Zq8_l1 {R : Type} (N : Nat) (k0 : Bool → Bool → Option R) (k1 : Unit → Option R) : Nat → Int → Int → Int → (List Int) → (List Int) → Option R
 | 0, _, _, _, _, _ => none
 | K + 1, x1, x2, x3, o2, o3 =>
 (br (ilt x3 x2)
 ((chk (inb o3 x3)
 (Zq8_l1_0 N (fun x4 x5 => k0 x4 x5) (fun x6 x7 x8 o4 o5 => Zq8_l1 N k0 k1 K x6 x7 (IntKind.i64.wrap (x8 + 1)) o4 o5) N x1 (rd U64 o3 x3) x2 x3 (tLen o3) 0 o2 o3)))
 (k1 ()))
noncomputable def Zq8_l1_again {R : Type} (N : Nat) (ks : KS Zq8_l1_ex R) (k : Nat) (x : Zq8_l1_sh.T) : Option R :=
 Zq8_l1 N (fun y0 y1 => ks 0 ((y0, y1, ()), ())) (fun (_ : Unit) => ks 1 ((), ())) k x.1.1 x.1.2.2.2.2.1 x.1.2.2.2.2.2.1 x.2.1 x.2.2.1
noncomputable def Zq8_l1_s (N : Nat) : LSum := ⟨Zq8_l1_sh, Zq8_l1_ex, fun x ks => Zq8_l1_again N ks N x⟩
theorem Zq8_l1_ok (N : Nat) : LoopOk Tryz.prog Tryz.f7.ntmps (Zq8_l1_s N) (loopAt Zq8_code 1) := loopQ (sh := Zq8_l1_sh) (ex := Zq8_l1_ex) (N := N) (L := [Zq8_l1_0_s N]) (fun R k x ks => Zq8_l1_again N ks k x) (Zq8_gok N) (fun _ _ _ => rfl) (fun R k x ks => by kernel_rfl) ⟨Zq8_l1_0_ok N, trivial⟩ (by kernel_rfl)
noncomputable def Zq8 (N : Nat) (c : (Int × (List (List Int)))) (c1 : Int) : Option ((Bool × Bool × Unit) × (Unit)) :=
 ((Zq9 N (c.1, c.2)).bind fun r =>
 (br (!r.1.1)
 (some ((false, false, ()), ()))
 (((Zq24 N c1 1 4).bind fun r1 =>
 (br (!r1.1.1)
 (some ((false, false, ()), ()))
 (((Zq4 N (c.1, c.2)).bind fun r2 =>
 Zq8_l0 N (fun x o o1 => Zq8_l1 N (fun x1 x2 => some ((x1, x2, ()), ())) (fun (_ : Unit) => some ((true, true, ()), ())) N x (tLen o1) 0 o o1) N c1 (tLen r2.1.1) 0 [] [] r2.1.1)))))))
noncomputable def Zq8_S (N : Nat) : FSum := ⟨Zq8_ps, Zq8_rs, fun x => Zq8 N x.1 x.2.1⟩
theorem Zq8_pc (N : Nat) : PC Tryz.prog 7 (Zq8_S N) := pcQ (L := [Zq8_l0_s N, Zq8_l1_s N]) (Zq8_gok N) Tryz.call7 Tryz.func7 (fun x => by kernel_rfl) ⟨Zq8_l0_ok N, Zq8_l1_ok N, trivial⟩ (by kernel_rfl)

abbrev Zq35_ps : List (PV.Mode × Ty) := [(.ro, I)]
abbrev Zq35_rs : List (Bool × Ty) := [(true, .bool)]
noncomputable def Zq35_G (N : Nat) : GTab := gOf [(39, Zq24_S N)]
theorem Zq35_gok (N : Nat) : GOk Tryz.prog (Zq35_G N) := gOf_ok ⟨Zq24_pc N, trivial⟩
noncomputable def Zq35_code : Code := (Tryz.f145.body).getD .skip
noncomputable def Zq35 (N : Nat) (n : Int) : Option ((Bool × Unit) × (Unit)) :=
 ((Zq24 N n (-99) 99).bind fun r =>
 some (((!r.1.1), ()), ()))
noncomputable def Zq35_S (N : Nat) : FSum := ⟨Zq35_ps, Zq35_rs, fun x => Zq35 N x.1⟩
theorem Zq35_pc (N : Nat) : PC Tryz.prog 145 (Zq35_S N) := pcQ (L := []) (Zq35_gok N) Tryz.call145 Tryz.func145 (fun x => by kernel_rfl) trivial (by kernel_rfl)

abbrev Zq34_ps : List (PV.Mode × Ty) := [(.ro, LI)]
abbrev Zq34_rs : List (Bool × Ty) := [(true, .bool)]
noncomputable def Zq34_G (N : Nat) : GTab := gOf [(89, Zq51_S N), (145, Zq35_S N)]
theorem Zq34_gok (N : Nat) : GOk Tryz.prog (Zq34_G N) := gOf_ok ⟨Zq51_pc N, Zq35_pc N, trivial⟩
noncomputable def Zq34_code : Code := (Tryz.f125.body).getD .skip
noncomputable def Zq34 (N : Nat) (state : (List Int)) : Option ((Bool × Unit) × (Unit)) :=
 (br (ile (tLen state) 24)
 (((Zq51 N state (fun y0 => (Zq35 N y0).bind fun z => some z.1.1)).bind fun r =>
 some (((!r.1.1), ()), ())))
 (some ((false, ()), ())))
noncomputable def Zq34_S (N : Nat) : FSum := ⟨Zq34_ps, Zq34_rs, fun x => Zq34 N x.1⟩
theorem Zq34_pc (N : Nat) : PC Tryz.prog 125 (Zq34_S N) := pcQ (L := []) (Zq34_gok N) Tryz.call125 Tryz.func125 (fun x => by kernel_rfl) trivial (by kernel_rfl)

abbrev Zq1_ps : List (PV.Mode × Ty) := [(.ro, LI)]
abbrev Zq1_rs : List (Bool × Ty) := [(true, I)]
noncomputable def Zq1_G (N : Nat) : GTab := gOf []
theorem Zq1_gok (N : Nat) : GOk Tryz.prog (Zq1_G N) := gOf_ok trivial
noncomputable def Zq1_code : Code := (Tryz.f155.body).getD .skip
noncomputable def Zq1_l0_sh : Sh := ⟨[(3, .one (.ro I)), (6, .one (.ro LI)), (7, .one (.ro I)), (8, .one (.ro I))], []⟩
noncomputable def Zq1_l0_ex : List (Ex × Sh) := [(.ret, ⟨[(2, .one (.ro I))], []⟩), (.exit 0, ⟨[(3, .one (.ro I))], []⟩)]
noncomputable def Zq1_l0 {R : Type} (N : Nat) (k0 : Int → Option R) (k1 : Int → Option R) : Nat → Int → (List Int) → Int → Int → Option R
 | 0, _, _, _, _ => none
 | K + 1, zero, x, x1, x2 =>
 (br (ilt x2 x1)
 ((chk (inb x x2)
 (br (ine (rdI x x2) zero)
 (k0 (rdI x x2))
 (Zq1_l0 N k0 k1 K zero x x1 (IntKind.i64.wrap (x2 + 1))))))
 (k1 zero))
noncomputable def Zq1_l0_again {R : Type} (N : Nat) (ks : KS Zq1_l0_ex R) (k : Nat) (x : Zq1_l0_sh.T) : Option R :=
 Zq1_l0 N (fun y0 => ks 0 ((y0, ()), ())) (fun y0 => ks 1 ((y0, ()), ())) k x.1.1 x.1.2.1 x.1.2.2.1 x.1.2.2.2.1
noncomputable def Zq1_l0_s (N : Nat) : LSum := ⟨Zq1_l0_sh, Zq1_l0_ex, fun x ks => Zq1_l0_again N ks N x⟩
theorem Zq1_l0_ok (N : Nat) : LoopOk Tryz.prog Tryz.f155.ntmps (Zq1_l0_s N) (loopAt Zq1_code 0) := loopQ (sh := Zq1_l0_sh) (ex := Zq1_l0_ex) (N := N) (L := []) (fun R k x ks => Zq1_l0_again N ks k x) (Zq1_gok N) (fun _ _ _ => rfl) (fun R k x ks => by kernel_rfl) trivial (by kernel_rfl)
noncomputable def Zq1 (N : Nat) (vals : (List Int)) : Option ((Int × Unit) × (Unit)) :=
 Zq1_l0 N (fun x => some ((x, ()), ())) (fun zero => some ((zero, ()), ())) N 0 vals (tLen vals) 0
noncomputable def Zq1_S (N : Nat) : FSum := ⟨Zq1_ps, Zq1_rs, fun x => Zq1 N x.1⟩
theorem Zq1_pc (N : Nat) : PC Tryz.prog 155 (Zq1_S N) := pcQ (L := [Zq1_l0_s N]) (Zq1_gok N) Tryz.call155 Tryz.func155 (fun x => by kernel_rfl) ⟨Zq1_l0_ok N, trivial⟩ (by kernel_rfl)

abbrev Zq25_ps : List (PV.Mode × Ty) := [(.ro, QII), (.ro, QII)]
abbrev Zq25_rs : List (Bool × Ty) := [(true, I)]
noncomputable def Zq25_G (N : Nat) : GTab := gOf [(124, Zq0_S N), (155, Zq1_S N)]
theorem Zq25_gok (N : Nat) : GOk Tryz.prog (Zq25_G N) := gOf_ok ⟨Zq0_pc N, Zq1_pc N, trivial⟩
noncomputable def Zq25_code : Code := (Tryz.f146.body).getD .skip
noncomputable def Zq25 (N : Nat) (a : (Int × Int)) (b : (Int × Int)) : Option ((Int × Unit) × (Unit)) :=
 ((Zq0 N a.1 b.1).bind fun r =>
 ((Zq0 N a.2 b.2).bind fun r1 =>
 ((Zq1 N [r.1.1, r1.1.1]).bind fun r2 =>
 some ((r2.1.1, ()), ()))))
noncomputable def Zq25_S (N : Nat) : FSum := ⟨Zq25_ps, Zq25_rs, fun x => Zq25 N x.1 x.2.1⟩
theorem Zq25_pc (N : Nat) : PC Tryz.prog 146 (Zq25_S N) := pcQ (L := []) (Zq25_gok N) Tryz.call146 Tryz.func146 (fun x => by kernel_rfl) trivial (by kernel_rfl)

abbrev Zq32_ps : List (PV.Mode × Ty) := [(.ro, LQII), (.ro, I)]
abbrev Zq32_rs : List (Bool × Ty) := [(true, .bool)]
noncomputable def Zq32_G (N : Nat) : GTab := gOf [(146, Zq25_S N)]
theorem Zq32_gok (N : Nat) : GOk Tryz.prog (Zq32_G N) := gOf_ok ⟨Zq25_pc N, trivial⟩
noncomputable def Zq32_code : Code := (Tryz.f126.body).getD .skip
noncomputable def Zq32_l0_sh : Sh := ⟨[(0, .one (.ro LQII)), (1, .one (.ro I)), (7, .one (.ro LQII)), (8, .one (.ro I)), (9, .one (.ro I))], []⟩
noncomputable def Zq32_l0_ex : List (Ex × Sh) := [(.ret, ⟨[(4, .one (.ro .bool))], []⟩), (.exit 0, ⟨[], []⟩)]
noncomputable def Zq32_l0 {R : Type} (N : Nat) (k0 : Bool → Option R) (k1 : Unit → Option R) : Nat → (List (Int × Int)) → Int → (List (Int × Int)) → Int → Int → Option R
 | 0, _, _, _, _, _ => none
 | K + 1, list1, below1, x, x1, x2 =>
 (br (ilt x2 x1)
 ((chk (inb x x2)
 (br (ilt ((rdP x x2).1) 0)
 (k0 false)
 ((br (ile ((rdP x x2).2) ((rdP x x2).1))
 (k0 false)
 ((br (ile below1 ((rdP x x2).2))
 (k0 false)
 ((br (ilt 0 x2)
 ((chk (inb list1 (IntKind.i64.wrap (x2 - 1)))
 ((Zq25 N (rdP list1 (IntKind.i64.wrap (x2 - 1))) ((rdP x x2).1, (rdP x x2).2)).bind fun r =>
 (br (ile 0 r.1.1)
 (k0 false)
 (Zq32_l0 N k0 k1 K list1 below1 x x1 (IntKind.i64.wrap (x2 + 1)))))))
 (Zq32_l0 N k0 k1 K list1 below1 x x1 (IntKind.i64.wrap (x2 + 1))))))))))))
 (k1 ()))
noncomputable def Zq32_l0_again {R : Type} (N : Nat) (ks : KS Zq32_l0_ex R) (k : Nat) (x : Zq32_l0_sh.T) : Option R :=
 Zq32_l0 N (fun y0 => ks 0 ((y0, ()), ())) (fun (_ : Unit) => ks 1 ((), ())) k x.1.1 x.1.2.1 x.1.2.2.1 x.1.2.2.2.1 x.1.2.2.2.2.1
noncomputable def Zq32_l0_s (N : Nat) : LSum := ⟨Zq32_l0_sh, Zq32_l0_ex, fun x ks => Zq32_l0_again N ks N x⟩
theorem Zq32_l0_ok (N : Nat) : LoopOk Tryz.prog Tryz.f126.ntmps (Zq32_l0_s N) (loopAt Zq32_code 0) := loopQ (sh := Zq32_l0_sh) (ex := Zq32_l0_ex) (N := N) (L := []) (fun R k x ks => Zq32_l0_again N ks k x) (Zq32_gok N) (fun _ _ _ => rfl) (fun R k x ks => by kernel_rfl) trivial (by kernel_rfl)
noncomputable def Zq32 (N : Nat) (list : (List (Int × Int))) (below : Int) : Option ((Bool × Unit) × (Unit)) :=
 Zq32_l0 N (fun x => some ((x, ()), ())) (fun (_ : Unit) => some ((true, ()), ())) N list below list (tLen list) 0
noncomputable def Zq32_S (N : Nat) : FSum := ⟨Zq32_ps, Zq32_rs, fun x => Zq32 N x.1 x.2.1⟩
theorem Zq32_pc (N : Nat) : PC Tryz.prog 126 (Zq32_S N) := pcQ (L := [Zq32_l0_s N]) (Zq32_gok N) Tryz.call126 Tryz.func126 (fun x => by kernel_rfl) ⟨Zq32_l0_ok N, trivial⟩ (by kernel_rfl)

abbrev Zq12_ps : List (PV.Mode × Ty) := [(.ro, QLLILQII)]
abbrev Zq12_rs : List (Bool × Ty) := [(true, .bool)]
noncomputable def Zq12_G (N : Nat) : GTab := gOf [(125, Zq34_S N), (98, Zq50_S N), (126, Zq32_S N)]
theorem Zq12_gok (N : Nat) : GOk Tryz.prog (Zq12_G N) := gOf_ok ⟨Zq34_pc N, Zq50_pc N, Zq32_pc N, trivial⟩
noncomputable def Zq12_code : Code := (Tryz.f101.body).getD .skip
noncomputable def Zq12_l0_sh : Sh := ⟨[(1, .one (.adr 0 0)), (16, .one (.ro LLI)), (17, .one (.ro I)), (18, .one (.ro I))], [.box [.ro LLI, .ro LQII]]⟩
noncomputable def Zq12_l0_ex : List (Ex × Sh) := [(.ret, ⟨[(2, .one (.ro .bool))], []⟩), (.exit 0, ⟨[(1, .one (.adr 0 0))], [.box [.ro LLI, .ro LQII]]⟩)]
noncomputable def Zq12_l0 {R : Type} (N : Nat) (k0 : Bool → Option R) (k1 : (List (List Int)) → (List (Int × Int)) → Option R) : Nat → (List (List Int)) → Int → Int → (List (List Int)) → (List (Int × Int)) → Option R
 | 0, _, _, _, _, _ => none
 | K + 1, x1, x2, x3, o, o1 =>
 (br (ilt x3 x2)
 ((chk (inb x1 x3)
 ((Zq34 N (rdL x1 x3)).bind fun r =>
 (br (!r.1.1)
 (k0 false)
 ((br (ilt 0 x3)
 ((chk (inb o (IntKind.i64.wrap (x3 - 1)))
 ((Zq50 N (rdL o (IntKind.i64.wrap (x3 - 1))) (rdL x1 x3)).bind fun r1 =>
 (br (ile 0 r1.1.1)
 (k0 false)
 (Zq12_l0 N k0 k1 K x1 x2 (IntKind.i64.wrap (x3 + 1)) o o1)))))
 (Zq12_l0 N k0 k1 K x1 x2 (IntKind.i64.wrap (x3 + 1)) o o1)))))))
 (k1 o o1))
noncomputable def Zq12_l0_again {R : Type} (N : Nat) (ks : KS Zq12_l0_ex R) (k : Nat) (x : Zq12_l0_sh.T) : Option R :=
 Zq12_l0 N (fun y0 => ks 0 ((y0, ()), ())) (fun y0 y1 => ks 1 (((), ()), ((y0, y1, ()), ()))) k x.1.2.1 x.1.2.2.1 x.1.2.2.2.1 x.2.1.1 x.2.1.2.1
noncomputable def Zq12_l0_s (N : Nat) : LSum := ⟨Zq12_l0_sh, Zq12_l0_ex, fun x ks => Zq12_l0_again N ks N x⟩
theorem Zq12_l0_ok (N : Nat) : LoopOk Tryz.prog Tryz.f101.ntmps (Zq12_l0_s N) (loopAt Zq12_code 0) := loopQ (sh := Zq12_l0_sh) (ex := Zq12_l0_ex) (N := N) (L := []) (fun R k x ks => Zq12_l0_again N ks k x) (Zq12_gok N) (fun _ _ _ => rfl) (fun R k x ks => by kernel_rfl) trivial (by kernel_rfl)
noncomputable def Zq12 (N : Nat) (x : ((List (List Int)) × (List (Int × Int)))) : Option ((Bool × Unit) × (Unit)) :=
 (br (ilt 300 (tLen x.1))
 (some ((false, ()), ()))
 ((br (ilt 6000 (tLen x.2))
 (some ((false, ()), ()))
 (Zq12_l0 N (fun x1 => some ((x1, ()), ())) (fun o o1 => ((Zq32 N o1 (tLen o)).bind fun r =>
 some ((r.1.1, ()), ()))) N x.1 (tLen x.1) 0 x.1 x.2))))
noncomputable def Zq12_S (N : Nat) : FSum := ⟨Zq12_ps, Zq12_rs, fun x => Zq12 N x.1⟩
theorem Zq12_pc (N : Nat) : PC Tryz.prog 101 (Zq12_S N) := pcQ (L := [Zq12_l0_s N]) (Zq12_gok N) Tryz.call101 Tryz.func101 (fun x => by kernel_rfl) ⟨Zq12_l0_ok N, trivial⟩ (by kernel_rfl)

abbrev Zq19_ps : List (PV.Mode × Ty) := [(.ro, QLLILQII), (.ro, I)]
abbrev Zq19_rs : List (Bool × Ty) := [(true, .bool)]
noncomputable def Zq19_G (N : Nat) : GTab := gOf [(39, Zq24_S N)]
theorem Zq19_gok (N : Nat) : GOk Tryz.prog (Zq19_G N) := gOf_ok ⟨Zq24_pc N, trivial⟩
noncomputable def Zq19_code : Code := (Tryz.f102.body).getD .skip
noncomputable def Zq19 (N : Nat) (x : ((List (List Int)) × (List (Int × Int)))) (i : Int) : Option ((Bool × Unit) × (Unit)) :=
 ((Zq24 N i 0 (IntKind.i64.wrap ((tLen x.1) - 1))).bind fun r =>
 some ((r.1.1, ()), ()))
noncomputable def Zq19_S (N : Nat) : FSum := ⟨Zq19_ps, Zq19_rs, fun x => Zq19 N x.1 x.2.1⟩
theorem Zq19_pc (N : Nat) : PC Tryz.prog 102 (Zq19_S N) := pcQ (L := []) (Zq19_gok N) Tryz.call102 Tryz.func102 (fun x => by kernel_rfl) trivial (by kernel_rfl)

abbrev Zq20_ps : List (PV.Mode × Ty) := [(.ro, QLLILQII)]
abbrev Zq20_rs : List (Bool × Ty) := [(true, LLI)]
noncomputable def Zq20_G (N : Nat) : GTab := gOf [(54, Zq60_S N)]
theorem Zq20_gok (N : Nat) : GOk Tryz.prog (Zq20_G N) := gOf_ok ⟨Zq60_pc N, trivial⟩
noncomputable def Zq20_code : Code := (Tryz.f104.body).getD .skip
noncomputable def Zq20_l0_sh : Sh := ⟨[(3, .one (.ref 0)), (13, .one (.ro LQII)), (14, .one (.ro I)), (15, .one (.ro I))], [.sl 33 LI .deep]⟩
noncomputable def Zq20_l0_ex : List (Ex × Sh) := [(.exit 0, ⟨[(3, .one (.ref 0))], [.sl 33 LI .deep]⟩)]
noncomputable def Zq20_l0 {R : Type} (N : Nat) (k0 : (List (List Int)) → Option R) : Nat → (List (Int × Int)) → Int → Int → (List (List Int)) → Option R
 | 0, _, _, _, _ => none
 | K + 1, x1, x2, x3, o =>
 (br (ilt x3 x2)
 ((chk (inb x1 x3)
 (chk (inb o ((rdP x1 x3).1))
 (chk (room (rdL o ((rdP x1 x3).1)) [(rdP x1 x3).2])
 (chk (inb o ((rdP x1 x3).1))
 (chk (ieq ((rdP x1 x3).1) ((rdP x1 x3).1))
 (chk (inb (tSet o ((rdP x1 x3).1) (tApp (rdL o ((rdP x1 x3).1)) [(rdP x1 x3).2])) ((rdP x1 x3).2))
 (chk (room (rdL (tSet o ((rdP x1 x3).1) (tApp (rdL o ((rdP x1 x3).1)) [(rdP x1 x3).2])) ((rdP x1 x3).2)) [(rdP x1 x3).1])
 (chk (inb (tSet o ((rdP x1 x3).1) (tApp (rdL o ((rdP x1 x3).1)) [(rdP x1 x3).2])) ((rdP x1 x3).2))
 (chk (ieq ((rdP x1 x3).2) ((rdP x1 x3).2))
 (Zq20_l0 N k0 K x1 x2 (IntKind.i64.wrap (x3 + 1)) (tSet (tSet o ((rdP x1 x3).1) (tApp (rdL o ((rdP x1 x3).1)) [(rdP x1 x3).2])) ((rdP x1 x3).2) (tApp (rdL (tSet o ((rdP x1 x3).1) (tApp (rdL o ((rdP x1 x3).1)) [(rdP x1 x3).2])) ((rdP x1 x3).2)) [(rdP x1 x3).1])))))))))))))
 (k0 o))
noncomputable def Zq20_l0_again {R : Type} (N : Nat) (ks : KS Zq20_l0_ex R) (k : Nat) (x : Zq20_l0_sh.T) : Option R :=
 Zq20_l0 N (fun y0 => ks 0 (((), ()), (y0, ()))) k x.1.2.1 x.1.2.2.1 x.1.2.2.2.1 x.2.1
noncomputable def Zq20_l0_s (N : Nat) : LSum := ⟨Zq20_l0_sh, Zq20_l0_ex, fun x ks => Zq20_l0_again N ks N x⟩
theorem Zq20_l0_ok (N : Nat) : LoopOk Tryz.prog Tryz.f104.ntmps (Zq20_l0_s N) (loopAt Zq20_code 0) := loopQ (sh := Zq20_l0_sh) (ex := Zq20_l0_ex) (N := N) (L := []) (fun R k x ks => Zq20_l0_again N ks k x) (Zq20_gok N) (fun _ _ _ => rfl) (fun R k x ks => by kernel_rfl) trivial (by kernel_rfl)
noncomputable def Zq20_l1_sh : Sh := ⟨[(3, .one (.ref 0)), (46, .one (.ref 0)), (47, .one (.ro I)), (48, .one (.ro I))], [.sl 33 LI .deep]⟩
noncomputable def Zq20_l1_ex : List (Ex × Sh) := [(.exit 2, ⟨[(3, .one (.ref 0))], [.sl 33 LI .deep]⟩)]
noncomputable def Zq20_l1 {R : Type} (N : Nat) (k0 : (List (List Int)) → Option R) : Nat → Int → Int → (List (List Int)) → Option R
 | 0, _, _, _ => none
 | K + 1, x1, x2, o1 =>
 (br (ilt x2 x1)
 ((chk (inb o1 x2)
 ((Zq60 N (rdL o1 x2)).bind fun r =>
 Zq20_l1 N k0 K x1 (IntKind.i64.wrap (x2 + 1)) (tSet o1 x2 r.2.1))))
 (k0 o1))
noncomputable def Zq20_l1_again {R : Type} (N : Nat) (ks : KS Zq20_l1_ex R) (k : Nat) (x : Zq20_l1_sh.T) : Option R :=
 Zq20_l1 N (fun y0 => ks 0 (((), ()), (y0, ()))) k x.1.2.2.1 x.1.2.2.2.1 x.2.1
noncomputable def Zq20_l1_s (N : Nat) : LSum := ⟨Zq20_l1_sh, Zq20_l1_ex, fun x ks => Zq20_l1_again N ks N x⟩
theorem Zq20_l1_ok (N : Nat) : LoopOk Tryz.prog Tryz.f104.ntmps (Zq20_l1_s N) (loopAt Zq20_code 1) := loopQ (sh := Zq20_l1_sh) (ex := Zq20_l1_ex) (N := N) (L := []) (fun R k x ks => Zq20_l1_again N ks k x) (Zq20_gok N) (fun _ _ _ => rfl) (fun R k x ks => by kernel_rfl) trivial (by kernel_rfl)
noncomputable def Zq20 (N : Nat) (x : ((List (List Int)) × (List (Int × Int)))) : Option (((List (List Int)) × Unit) × (Unit)) :=
 (chk (ile 0 (tLen x.1) && ile (tLen x.1) (tLen x.1) && fits (tLen x.1))
 (Zq20_l0 N (fun o => Zq20_l1 N (fun o1 => some ((o1, ()), ())) N (tLen o) 0 o) N x.2 (tLen x.2) 0 (tRep (tLen x.1) [])))
noncomputable def Zq20_S (N : Nat) : FSum := ⟨Zq20_ps, Zq20_rs, fun x => Zq20 N x.1⟩
theorem Zq20_pc (N : Nat) : PC Tryz.prog 104 (Zq20_S N) := pcQ (L := [Zq20_l0_s N, Zq20_l1_s N]) (Zq20_gok N) Tryz.call104 Tryz.func104 (fun x => by kernel_rfl) ⟨Zq20_l0_ok N, Zq20_l1_ok N, trivial⟩ (by kernel_rfl)
end Go.Proofs.YtfilchmabmfmaaaGreat
