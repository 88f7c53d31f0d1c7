/- Functions of the program as functions on data. -/
import Derived.Test.YtfilchmabmfmaaaGreatClosuresFb
set_option linter.all false
namespace Go.Proofs.YtfilchmabmfmaaaGreat
open Go Go.PV
abbrev Zq23_ps : List (PV.Mode × Ty) := [(.ro, I), (.ro, LI)]
abbrev Zq23_rs : List (Bool × Ty) := [(true, .bool)]
noncomputable def Zq23_G (N : Nat) : GTab := gOf [(89, Zq39_S N), (90, Zq24_S N)]
theorem Zq23_gok (N : Nat) : GOk Tryz.prog (Zq23_G N) := gOf_ok ⟨Zq39_pc N, Zq24_pc N, trivial⟩
noncomputable def Zq23_code : Code := (Tryz.f60.body).getD .skip
noncomputable def Zq23 (N : Nat) (vars : Int) (list : (List Int)) : Option ((Bool × Unit) × (Unit)) :=
 (br (ieq (tLen list) vars)
 (((Zq39 N list (fun y0 => (Zq24 N y0).bind fun z => some z.1.1)).bind fun r =>
 some (((!r.1.1), ()), ())))
 (some ((false, ()), ())))
noncomputable def Zq23_S (N : Nat) : FSum := ⟨Zq23_ps, Zq23_rs, fun x => Zq23 N x.1 x.2.1⟩
theorem Zq23_pc (N : Nat) : PC Tryz.prog 60 (Zq23_S N) := pcQ (L := []) (Zq23_gok N) Tryz.call60 Tryz.func60 (fun x => by kernel_rfl) trivial (by kernel_rfl)

abbrev Zq6_ps : List (PV.Mode × Ty) := [(.ro, LI), (.ro, AI)]
abbrev Zq6_rs : List (Bool × Ty) := [(true, .bool)]
noncomputable def Zq6_G (N : Nat) : GTab := gOf [(60, Zq23_S N)]
theorem Zq6_gok (N : Nat) : GOk Tryz.prog (Zq6_G N) := gOf_ok ⟨Zq23_pc N, trivial⟩
noncomputable def Zq6_code : Code := (Tryz.f59.body).getD .skip
noncomputable def Zq6 (N : Nat) (s : (List Int)) (c : Int) : Option ((Bool × Unit) × (Unit)) :=
 ((Zq23 N c s).bind fun r =>
 some (((!r.1.1), ()), ()))
noncomputable def Zq6_S (N : Nat) : FSum := ⟨Zq6_ps, Zq6_rs, fun x => Zq6 N x.1 x.2.1⟩
theorem Zq6_pc (N : Nat) : PC Tryz.prog 59 (Zq6_S N) := pcQ (L := []) (Zq6_gok N) Tryz.call59 Tryz.func59 (fun x => by kernel_rfl) trivial (by kernel_rfl)

abbrev Zq16_ps : List (PV.Mode × Ty) := [(.ro, I), (.ro, FLIBo)]
abbrev Zq16_rs : List (Bool × Ty) := [(false, LLI)]
noncomputable def Zq16_G (N : Nat) : GTab := gOf []
theorem Zq16_gok (N : Nat) : GOk Tryz.prog (Zq16_G N) := gOf_ok trivial
noncomputable def Zq16_code : Code := (Tryz.f79.body).getD .skip
noncomputable def Zq16_l0_0_sh : Sh := ⟨[(0, .one (.ro I)), (1, .one (.ro FLIBo)), (5, .one (.ref 0)), (6, .one (.ro I)), (7, .one (.ref 1)), (11, .one (.ro I)), (12, .one (.ro I)), (16, .one (.ro I)), (17, .one (.ro I))], [.sl 33 LI .deep, .sl 3 I .own]⟩
noncomputable def Zq16_l0_0_ex : List (Ex × Sh) := [(.exit 2, ⟨[(0, .one (.ro I)), (1, .one (.ro FLIBo)), (5, .one (.ref 0)), (7, .one (.ref 1)), (11, .one (.ro I)), (12, .one (.ro I))], [.sl 33 LI .deep, .sl 3 I .own]⟩)]
noncomputable def Zq16_l0_0 {R : Type} (N : Nat) (k0 : Int → ((List Int) → Option Bool) → Int → Int → (List (List Int)) → (List Int) → Option R) : Nat → Int → ((List Int) → Option Bool) → Int → Int → Int → Int → Int → (List (List Int)) → (List Int) → Option R
 | 0, _, _, _, _, _, _, _, _, _ => none
 | K + 1, vars2, is2, n, x2, x3, x4, x5, o1, o2 =>
 (br (ilt x5 x4)
 ((chk (ile 0 (IntKind.i64.wrap ((IntKind.i64.wrap (vars2 - 1)) - x5)))
 (chk (room o2 [(bitop .and .i64 (shrI .i64 n (IntKind.i64.wrap ((IntKind.i64.wrap (vars2 - 1)) - x5))) 1)])
 (Zq16_l0_0 N k0 K vars2 is2 n x2 x3 x4 (IntKind.i64.wrap (x5 + 1)) o1 (tApp o2 [(bitop .and .i64 (shrI .i64 n (IntKind.i64.wrap ((IntKind.i64.wrap (vars2 - 1)) - x5))) 1)])))))
 (k0 vars2 is2 x2 x3 o1 o2))
noncomputable def Zq16_l0_0_again {R : Type} (N : Nat) (ks : KS Zq16_l0_0_ex R) (k : Nat) (x : Zq16_l0_0_sh.T) : Option R :=
 Zq16_l0_0 N (fun y0 y1 y2 y3 y4 y5 => ks 0 ((y0, y1, (), (), y2, y3, ()), (y4, y5, ()))) k x.1.1 x.1.2.1 x.1.2.2.2.1 x.1.2.2.2.2.2.1 x.1.2.2.2.2.2.2.1 x.1.2.2.2.2.2.2.2.1 x.1.2.2.2.2.2.2.2.2.1 x.2.1 x.2.2.1
noncomputable def Zq16_l0_0_s (N : Nat) : LSum := ⟨Zq16_l0_0_sh, Zq16_l0_0_ex, fun x ks => Zq16_l0_0_again N ks N x⟩
theorem Zq16_l0_0_ok (N : Nat) : LoopOk Tryz.prog Tryz.f79.ntmps (Zq16_l0_0_s N) (loopAt (loopAt Zq16_code 0) 0) := loopQ (sh := Zq16_l0_0_sh) (ex := Zq16_l0_0_ex) (N := N) (L := []) (fun R k x ks => Zq16_l0_0_again N ks k x) (Zq16_gok N) (fun _ _ _ => rfl) (fun R k x ks => by kernel_rfl) trivial (by kernel_rfl)
noncomputable def Zq16_l0_sh : Sh := ⟨[(0, .one (.ro I)), (1, .one (.ro FLIBo)), (5, .one (.ref 0)), (11, .one (.ro I)), (12, .one (.ro I))], [.sl 33 LI .deep]⟩
noncomputable def Zq16_l0_ex : List (Ex × Sh) := [(.exit 0, ⟨[(5, .one (.ref 0))], [.sl 33 LI .deep]⟩)]
noncomputable def Zq16_l0 {R : Type} (N : Nat) (k0 : (List (List Int)) → Option R) : Nat → Int → ((List Int) → Option Bool) → Int → Int → (List (List Int)) → Option R
 | 0, _, _, _, _, _ => none
 | K + 1, vars1, is1, x, x1, o =>
 (br (ilt x1 x)
 (Zq16_l0_0 N (fun vars2 is2 x2 x3 o1 o2 => ((is2 o2).bind fun v =>
 (br v
 ((chk (room o1 [o2])
 (Zq16_l0 N k0 K vars2 is2 x2 (IntKind.i64.wrap (x3 + 1)) (tApp o1 [o2]))))
 (Zq16_l0 N k0 K vars2 is2 x2 (IntKind.i64.wrap (x3 + 1)) o1)))) N vars1 is1 x1 x x1 vars1 0 o [])
 (k0 o))
noncomputable def Zq16_l0_again {R : Type} (N : Nat) (ks : KS Zq16_l0_ex R) (k : Nat) (x : Zq16_l0_sh.T) : Option R :=
 Zq16_l0 N (fun y0 => ks 0 (((), ()), (y0, ()))) k x.1.1 x.1.2.1 x.1.2.2.2.1 x.1.2.2.2.2.1 x.2.1
noncomputable def Zq16_l0_s (N : Nat) : LSum := ⟨Zq16_l0_sh, Zq16_l0_ex, fun x ks => Zq16_l0_again N ks N x⟩
theorem Zq16_l0_ok (N : Nat) : LoopOk Tryz.prog Tryz.f79.ntmps (Zq16_l0_s N) (loopAt Zq16_code 0) := loopQ (sh := Zq16_l0_sh) (ex := Zq16_l0_ex) (N := N) (L := [Zq16_l0_0_s N]) (fun R k x ks => Zq16_l0_again N ks k x) (Zq16_gok N) (fun _ _ _ => rfl) (fun R k x ks => by kernel_rfl) ⟨Zq16_l0_0_ok N, trivial⟩ (by kernel_rfl)
noncomputable def Zq16 (N : Nat) (vars : Int) (is : ((List Int) → Option Bool)) : Option (((List (List Int)) × Unit) × (Unit)) :=
 (chk (ile 0 vars)
 (Zq16_l0 N (fun o => some ((o, ()), ())) N vars is (shlI .i64 1 vars) 0 []))
noncomputable def Zq16_S (N : Nat) : FSum := ⟨Zq16_ps, Zq16_rs, fun x => Zq16 N x.1 x.2.1⟩
theorem Zq16_pc (N : Nat) : PC Tryz.prog 79 (Zq16_S N) := pcQ (L := [Zq16_l0_s N]) (Zq16_gok N) Tryz.call79 Tryz.func79 (fun x => by kernel_rfl) ⟨Zq16_l0_ok N, trivial⟩ (by kernel_rfl)

abbrev Zq21_ps : List (PV.Mode × Ty) := [(.ro, LI)]
abbrev Zq21_rs : List (Bool × Ty) := [(true, .bool)]
noncomputable def Zq21_G (N : Nat) : GTab := gOf []
theorem Zq21_gok (N : Nat) : GOk Tryz.prog (Zq21_G N) := gOf_ok trivial
noncomputable def Zq21_code : Code := (Tryz.f91.body).getD .skip
noncomputable def Zq21 (N : Nat) (x : (List Int)) : Option ((Bool × Unit) × (Unit)) :=
 some ((true, ()), ())
noncomputable def Zq21_S (N : Nat) : FSum := ⟨Zq21_ps, Zq21_rs, fun x => Zq21 N x.1⟩
theorem Zq21_pc (N : Nat) : PC Tryz.prog 91 (Zq21_S N) := pcQ (L := []) (Zq21_gok N) Tryz.call91 Tryz.func91 (fun x => by kernel_rfl) trivial (by kernel_rfl)

abbrev Zq42_ps : List (PV.Mode × Ty) := [(.ro, LI), (.ro, LI)]
abbrev Zq42_rs : List (Bool × Ty) := [(true, .bool)]
noncomputable def Zq42_G (N : Nat) : GTab := gOf []
theorem Zq42_gok (N : Nat) : GOk Tryz.prog (Zq42_G N) := gOf_ok trivial
noncomputable def Zq42_code : Code := (Tryz.f93.body).getD .skip
noncomputable def Zq42_l0_sh : Sh := ⟨[(0, .one (.ro LI)), (1, .one (.ro LI)), (12, .one (.ro I)), (13, .one (.ro I))], []⟩
noncomputable def Zq42_l0_ex : List (Ex × Sh) := [(.ret, ⟨[(4, .one (.ro .bool))], []⟩), (.exit 0, ⟨[], []⟩)]
noncomputable def Zq42_l0 {R : Type} (N : Nat) (k0 : Bool → Option R) (k1 : Unit → Option R) : Nat → (List Int) → (List Int) → Int → Int → Option R
 | 0, _, _, _, _ => none
 | K + 1, s11, s21, x, x1 =>
 (br (ilt x1 x)
 ((chk (inb s11 x1)
 (chk (inb s21 x1)
 (br (ine (rdI s11 x1) (rdI s21 x1))
 (k0 false)
 (Zq42_l0 N k0 k1 K s11 s21 x (IntKind.i64.wrap (x1 + 1)))))))
 (k1 ()))
noncomputable def Zq42_l0_again {R : Type} (N : Nat) (ks : KS Zq42_l0_ex R) (k : Nat) (x : Zq42_l0_sh.T) : Option R :=
 Zq42_l0 N (fun y0 => ks 0 ((y0, ()), ())) (fun (_ : Unit) => ks 1 ((), ())) k x.1.1 x.1.2.1 x.1.2.2.1 x.1.2.2.2.1
noncomputable def Zq42_l0_s (N : Nat) : LSum := ⟨Zq42_l0_sh, Zq42_l0_ex, fun x ks => Zq42_l0_again N ks N x⟩
theorem Zq42_l0_ok (N : Nat) : LoopOk Tryz.prog Tryz.f93.ntmps (Zq42_l0_s N) (loopAt Zq42_code 0) := loopQ (sh := Zq42_l0_sh) (ex := Zq42_l0_ex) (N := N) (L := []) (fun R k x ks => Zq42_l0_again N ks k x) (Zq42_gok N) (fun _ _ _ => rfl) (fun R k x ks => by kernel_rfl) trivial (by kernel_rfl)
noncomputable def Zq42 (N : Nat) (s1 : (List Int)) (s2 : (List Int)) : Option ((Bool × Unit) × (Unit)) :=
 (br (ine (tLen s1) (tLen s2))
 (some ((false, ()), ()))
 (Zq42_l0 N (fun x => some ((x, ()), ())) (fun (_ : Unit) => some ((true, ()), ())) N s1 s2 (tLen s1) 0))
noncomputable def Zq42_S (N : Nat) : FSum := ⟨Zq42_ps, Zq42_rs, fun x => Zq42 N x.1 x.2.1⟩
theorem Zq42_pc (N : Nat) : PC Tryz.prog 93 (Zq42_S N) := pcQ (L := [Zq42_l0_s N]) (Zq42_gok N) Tryz.call93 Tryz.func93 (fun x => by kernel_rfl) ⟨Zq42_l0_ok N, trivial⟩ (by kernel_rfl)

abbrev Zq22_ps : List (PV.Mode × Ty) := [(.ro, LI), (.ro, ALI)]
abbrev Zq22_rs : List (Bool × Ty) := [(true, .bool)]
noncomputable def Zq22_G (N : Nat) : GTab := gOf [(93, Zq42_S N)]
theorem Zq22_gok (N : Nat) : GOk Tryz.prog (Zq22_G N) := gOf_ok ⟨Zq42_pc N, trivial⟩
noncomputable def Zq22_code : Code := (Tryz.f92.body).getD .skip
noncomputable def Zq22 (N : Nat) (s : (List Int)) (c : (List Int)) : Option ((Bool × Unit) × (Unit)) :=
 ((Zq42 N s c).bind fun r =>
 some ((r.1.1, ()), ()))
noncomputable def Zq22_S (N : Nat) : FSum := ⟨Zq22_ps, Zq22_rs, fun x => Zq22 N x.1 x.2.1⟩
theorem Zq22_pc (N : Nat) : PC Tryz.prog 92 (Zq22_S N) := pcQ (L := []) (Zq22_gok N) Tryz.call92 Tryz.func92 (fun x => by kernel_rfl) trivial (by kernel_rfl)

abbrev Zq20_ps : List (PV.Mode × Ty) := [(.ro, I), (.ro, LLI)]
abbrev Zq20_rs : List (Bool × Ty) := [(true, QILLI)]
noncomputable def Zq20_G (N : Nat) : GTab := gOf [(79, Zq16_S N), (91, Zq21_S N), (58, Zq40_S N), (92, Zq22_S N), (54, Zq47_S N)]
theorem Zq20_gok (N : Nat) : GOk Tryz.prog (Zq20_G N) := gOf_ok ⟨Zq16_pc N, Zq21_pc N, Zq40_pc N, Zq22_pc N, Zq47_pc N, trivial⟩
noncomputable def Zq20_code : Code := (Tryz.f61.body).getD .skip
noncomputable def Zq20_l0_0_sh : Sh := ⟨[(1, .one (.ro LLI)), (4, .one (.adr 0 0)), (5, .one (.adr 1 0)), (8, .one (.ref 2)), (14, .one (.ro LLI)), (15, .one (.ro I)), (16, .one (.ro I)), (24, .one (.ro LI)), (25, .one (.ro I)), (26, .one (.ro I))], [.box [.ro I, .nilsl], .box [.ro I, .ref 3], .sl 3 I .own, .sl 33 LI .deep]⟩
noncomputable def Zq20_l0_0_ex : List (Ex × Sh) := [(.exit 2, ⟨[(1, .one (.ro LLI)), (4, .one (.adr 0 0)), (5, .one (.adr 1 0)), (8, .one (.ref 2)), (14, .one (.ro LLI)), (15, .one (.ro I)), (16, .one (.ro I))], [.box [.ro I, .nilsl], .box [.ro I, .ref 3], .sl 3 I .own, .sl 33 LI .deep]⟩)]
noncomputable def Zq20_l0_0 {R : Type} (N : Nat) (k0 : (List (List Int)) → (List (List Int)) → Int → Int → Int → Int → (List Int) → (List (List Int)) → Option R) : Nat → (List (List Int)) → (List (List Int)) → Int → Int → (List Int) → Int → Int → Int → Int → (List Int) → (List (List Int)) → Option R
 | 0, _, _, _, _, _, _, _, _, _, _, _ => none
 | K + 1, solutions2, x3, x4, x5, x6, x7, x8, o3, o4, o5, o6 =>
 (br (ilt x8 x7)
 ((chk (inb x6 x8)
 (br (ieq (rdI x6 x8) 1)
 ((chk (room o5 [(IntKind.i64.wrap ((-1) - x8))])
 (Zq20_l0_0 N k0 K solutions2 x3 x4 x5 x6 x7 (IntKind.i64.wrap (x8 + 1)) o3 o4 (tApp o5 [(IntKind.i64.wrap ((-1) - x8))]) o6)))
 ((chk (room o5 [(IntKind.i64.wrap (x8 + 1))])
 (Zq20_l0_0 N k0 K solutions2 x3 x4 x5 x6 x7 (IntKind.i64.wrap (x8 + 1)) o3 o4 (tApp o5 [(IntKind.i64.wrap (x8 + 1))]) o6))))))
 (k0 solutions2 x3 x4 x5 o3 o4 o5 o6))
noncomputable def Zq20_l0_0_again {R : Type} (N : Nat) (ks : KS Zq20_l0_0_ex R) (k : Nat) (x : Zq20_l0_0_sh.T) : Option R :=
 Zq20_l0_0 N (fun y0 y1 y2 y3 y4 y5 y6 y7 => ks 0 ((y0, (), (), (), y1, y2, y3, ()), ((y4, (), ()), (y5, (), ()), y6, y7, ()))) k x.1.1 x.1.2.2.2.2.1 x.1.2.2.2.2.2.1 x.1.2.2.2.2.2.2.1 x.1.2.2.2.2.2.2.2.1 x.1.2.2.2.2.2.2.2.2.1 x.1.2.2.2.2.2.2.2.2.2.1 x.2.1.1 x.2.2.1.1 x.2.2.2.1 x.2.2.2.2.1
noncomputable def Zq20_l0_0_s (N : Nat) : LSum := ⟨Zq20_l0_0_sh, Zq20_l0_0_ex, fun x ks => Zq20_l0_0_again N ks N x⟩
theorem Zq20_l0_0_ok (N : Nat) : LoopOk Tryz.prog Tryz.f61.ntmps (Zq20_l0_0_s N) (loopAt (loopAt Zq20_code 0) 0) := loopQ (sh := Zq20_l0_0_sh) (ex := Zq20_l0_0_ex) (N := N) (L := []) (fun R k x ks => Zq20_l0_0_again N ks k x) (Zq20_gok N) (fun _ _ _ => rfl) (fun R k x ks => by kernel_rfl) trivial (by kernel_rfl)
noncomputable def Zq20_l0_sh : Sh := ⟨[(1, .one (.ro LLI)), (4, .one (.adr 0 0)), (5, .one (.adr 1 0)), (14, .one (.ro LLI)), (15, .one (.ro I)), (16, .one (.ro I))], [.box [.ro I, .nilsl], .box [.ro I, .ref 2], .sl 33 LI .deep]⟩
noncomputable def Zq20_l0_ex : List (Ex × Sh) := [(.exit 0, ⟨[(4, .one (.adr 0 0)), (5, .one (.adr 1 0))], [.box [.ro I, .nilsl], .box [.ro I, .ref 2], .sl 33 LI .deep]⟩)]
noncomputable def Zq20_l0 {R : Type} (N : Nat) (k0 : Int → Int → (List (List Int)) → Option R) : Nat → (List (List Int)) → (List (List Int)) → Int → Int → Int → Int → (List (List Int)) → Option R
 | 0, _, _, _, _, _, _, _ => none
 | K + 1, solutions1, x, x1, x2, o, o1, o2 =>
 (br (ilt x2 x1)
 ((chk (inb x x2)
 ((Zq40 N solutions1 (fun y0 => (Zq22 N y0 (rdL x x2)).bind fun z => some z.1.1)).bind fun r1 =>
 (br r1.1.1
 (Zq20_l0 N k0 K solutions1 x x1 (IntKind.i64.wrap (x2 + 1)) o o1 o2)
 (Zq20_l0_0 N (fun solutions2 x3 x4 x5 o3 o4 o5 o6 => ((Zq47 N o5).bind fun r2 =>
 (chk (room o6 [r2.2.1])
 (Zq20_l0 N k0 K solutions2 x3 x4 (IntKind.i64.wrap (x5 + 1)) o3 o4 (tApp o6 [r2.2.1]))))) N solutions1 x x1 x2 (rdL x x2) (tLen (rdL x x2)) 0 o o1 [] o2)))))
 (k0 o o1 o2))
noncomputable def Zq20_l0_again {R : Type} (N : Nat) (ks : KS Zq20_l0_ex R) (k : Nat) (x : Zq20_l0_sh.T) : Option R :=
 Zq20_l0 N (fun y0 y1 y2 => ks 0 (((), (), ()), ((y0, (), ()), (y1, (), ()), y2, ()))) k x.1.1 x.1.2.2.2.1 x.1.2.2.2.2.1 x.1.2.2.2.2.2.1 x.2.1.1 x.2.2.1.1 x.2.2.2.1
noncomputable def Zq20_l0_s (N : Nat) : LSum := ⟨Zq20_l0_sh, Zq20_l0_ex, fun x ks => Zq20_l0_again N ks N x⟩
theorem Zq20_l0_ok (N : Nat) : LoopOk Tryz.prog Tryz.f61.ntmps (Zq20_l0_s N) (loopAt Zq20_code 0) := loopQ (sh := Zq20_l0_sh) (ex := Zq20_l0_ex) (N := N) (L := [Zq20_l0_0_s N]) (fun R k x ks => Zq20_l0_again N ks k x) (Zq20_gok N) (fun _ _ _ => rfl) (fun R k x ks => by kernel_rfl) ⟨Zq20_l0_0_ok N, trivial⟩ (by kernel_rfl)
noncomputable def Zq20 (N : Nat) (vars : Int) (solutions : (List (List Int))) : Option (((Int × (List (List Int))) × Unit) × (Unit)) :=
 ((Zq16 N vars (fun y0 => (Zq21 N y0).bind fun z => some z.1.1)).bind fun r =>
 Zq20_l0 N (fun o o1 o2 => some (((o1, o2), ()), ())) N solutions r.1.1 (tLen r.1.1) 0 0 vars [])
noncomputable def Zq20_S (N : Nat) : FSum := ⟨Zq20_ps, Zq20_rs, fun x => Zq20 N x.1 x.2.1⟩
theorem Zq20_pc (N : Nat) : PC Tryz.prog 61 (Zq20_S N) := pcQ (L := [Zq20_l0_s N]) (Zq20_gok N) Tryz.call61 Tryz.func61 (fun x => by kernel_rfl) ⟨Zq20_l0_ok N, trivial⟩ (by kernel_rfl)

abbrev Zq5_ps : List (PV.Mode × Ty) := [(.ro, I), (.ro, LLI)]
abbrev Zq5_rs : List (Bool × Ty) := [(true, QILLI), (true, .bool)]
noncomputable def Zq5_G (N : Nat) : GTab := gOf [(39, Zq18_S N), (58, Zq40_S N), (59, Zq6_S N), (61, Zq20_S N)]
theorem Zq5_gok (N : Nat) : GOk Tryz.prog (Zq5_G N) := gOf_ok ⟨Zq18_pc N, Zq40_pc N, Zq6_pc N, Zq20_pc N, trivial⟩
noncomputable def Zq5_code : Code := (Tryz.f15.body).getD .skip
noncomputable def Zq5 (N : Nat) (vars : Int) (solutions : (List (List Int))) : Option (((Int × (List (List Int))) × Bool × Unit) × (Unit)) :=
 ((Zq18 N vars 0 6).bind fun r =>
 (br (!r.1.1)
 (some (((0, []), false, ()), ()))
 (((Zq40 N solutions (fun y0 => (Zq6 N y0 vars).bind fun z => some z.1.1)).bind fun r1 =>
 (br r1.1.1
 (some (((0, []), false, ()), ()))
 (((Zq20 N vars solutions).bind fun r2 =>
 some (((r2.1.1.1, r2.1.1.2), true, ()), ()))))))))
noncomputable def Zq5_S (N : Nat) : FSum := ⟨Zq5_ps, Zq5_rs, fun x => Zq5 N x.1 x.2.1⟩
theorem Zq5_pc (N : Nat) : PC Tryz.prog 15 (Zq5_S N) := pcQ (L := []) (Zq5_gok N) Tryz.call15 Tryz.func15 (fun x => by kernel_rfl) trivial (by kernel_rfl)

abbrev Zq73_ps : List (PV.Mode × Ty) := [(.ro, I), (.ro, LI)]
abbrev Zq73_rs : List (Bool × Ty) := [(true, .bool)]
noncomputable def Zq73_G (N : Nat) : GTab := gOf [(42, Zq63_S N)]
theorem Zq73_gok (N : Nat) : GOk Tryz.prog (Zq73_G N) := gOf_ok ⟨Zq63_pc N, trivial⟩
noncomputable def Zq73_code : Code := (Tryz.f62.body).getD .skip
noncomputable def Zq73_l0_sh : Sh := ⟨[(0, .one (.ro I)), (1, .one (.ro LI)), (5, .one (.ro I))], []⟩
noncomputable def Zq73_l0_ex : List (Ex × Sh) := [(.ret, ⟨[(4, .one (.ro .bool))], []⟩), (.exit 0, ⟨[(0, .one (.ro I)), (1, .one (.ro LI))], []⟩)]
noncomputable def Zq73_l0 {R : Type} (N : Nat) (k0 : Bool → Option R) (k1 : Int → (List Int) → Option R) : Nat → Int → (List Int) → Int → Option R
 | 0, _, _, _ => none
 | K + 1, vars1, bits1, i =>
 (br (ilt i (tLen bits1))
 ((chk (inb bits1 i)
 ((Zq63 N (rdI bits1 i) 0 1).bind fun r =>
 (br (!r.1.1)
 (k0 false)
 (Zq73_l0 N k0 k1 K vars1 bits1 (IntKind.i64.wrap (i + 1)))))))
 (k1 vars1 bits1))
noncomputable def Zq73_l0_again {R : Type} (N : Nat) (ks : KS Zq73_l0_ex R) (k : Nat) (x : Zq73_l0_sh.T) : Option R :=
 Zq73_l0 N (fun y0 => ks 0 ((y0, ()), ())) (fun y0 y1 => ks 1 ((y0, y1, ()), ())) k x.1.1 x.1.2.1 x.1.2.2.1
noncomputable def Zq73_l0_s (N : Nat) : LSum := ⟨Zq73_l0_sh, Zq73_l0_ex, fun x ks => Zq73_l0_again N ks N x⟩
theorem Zq73_l0_ok (N : Nat) : LoopOk Tryz.prog Tryz.f62.ntmps (Zq73_l0_s N) (loopAt Zq73_code 0) := loopQ (sh := Zq73_l0_sh) (ex := Zq73_l0_ex) (N := N) (L := []) (fun R k x ks => Zq73_l0_again N ks k x) (Zq73_gok N) (fun _ _ _ => rfl) (fun R k x ks => by kernel_rfl) trivial (by kernel_rfl)
noncomputable def Zq73 (N : Nat) (vars : Int) (bits : (List Int)) : Option ((Bool × Unit) × (Unit)) :=
 Zq73_l0 N (fun x => some ((x, ()), ())) (fun vars1 bits1 => some (((ieq (tLen bits1) vars1), ()), ())) N vars bits 0
noncomputable def Zq73_S (N : Nat) : FSum := ⟨Zq73_ps, Zq73_rs, fun x => Zq73 N x.1 x.2.1⟩
theorem Zq73_pc (N : Nat) : PC Tryz.prog 62 (Zq73_S N) := pcQ (L := [Zq73_l0_s N]) (Zq73_gok N) Tryz.call62 Tryz.func62 (fun x => by kernel_rfl) ⟨Zq73_l0_ok N, trivial⟩ (by kernel_rfl)

abbrev Zq69_ps : List (PV.Mode × Ty) := [(.ro, LI), (.ro, LI)]
abbrev Zq69_rs : List (Bool × Ty) := [(true, .bool)]
noncomputable def Zq69_G (N : Nat) : GTab := gOf []
theorem Zq69_gok (N : Nat) : GOk Tryz.prog (Zq69_G N) := gOf_ok trivial
noncomputable def Zq69_code : Code := (Tryz.f122.body).getD .skip
noncomputable def Zq69_l0_sh : Sh := ⟨[(0, .one (.ro LI)), (1, .one (.ro LI)), (5, .one (.ro I))], []⟩
noncomputable def Zq69_l0_ex : List (Ex × Sh) := [(.ret, ⟨[(4, .one (.ro .bool))], []⟩), (.exit 0, ⟨[], []⟩)]
noncomputable def Zq69_l0 {R : Type} (N : Nat) (k0 : Bool → Option R) (k1 : Unit → Option R) : Nat → (List Int) → (List Int) → Int → Option R
 | 0, _, _, _ => none
 | K + 1, a1, b1, i =>
 (br (ilt i (tLen a1))
 ((chk (inb a1 i)
 (chk (inb b1 i)
 (br (ine (rdI a1 i) (rdI b1 i))
 (k0 false)
 (Zq69_l0 N k0 k1 K a1 b1 (IntKind.i64.wrap (i + 1)))))))
 (k1 ()))
noncomputable def Zq69_l0_again {R : Type} (N : Nat) (ks : KS Zq69_l0_ex R) (k : Nat) (x : Zq69_l0_sh.T) : Option R :=
 Zq69_l0 N (fun y0 => ks 0 ((y0, ()), ())) (fun (_ : Unit) => ks 1 ((), ())) k x.1.1 x.1.2.1 x.1.2.2.1
noncomputable def Zq69_l0_s (N : Nat) : LSum := ⟨Zq69_l0_sh, Zq69_l0_ex, fun x ks => Zq69_l0_again N ks N x⟩
theorem Zq69_l0_ok (N : Nat) : LoopOk Tryz.prog Tryz.f122.ntmps (Zq69_l0_s N) (loopAt Zq69_code 0) := loopQ (sh := Zq69_l0_sh) (ex := Zq69_l0_ex) (N := N) (L := []) (fun R k x ks => Zq69_l0_again N ks k x) (Zq69_gok N) (fun _ _ _ => rfl) (fun R k x ks => by kernel_rfl) trivial (by kernel_rfl)
noncomputable def Zq69 (N : Nat) (a : (List Int)) (b : (List Int)) : Option ((Bool × Unit) × (Unit)) :=
 (br (ine (tLen a) (tLen b))
 (some ((false, ()), ()))
 (Zq69_l0 N (fun x => some ((x, ()), ())) (fun (_ : Unit) => some ((true, ()), ())) N a b 0))
noncomputable def Zq69_S (N : Nat) : FSum := ⟨Zq69_ps, Zq69_rs, fun x => Zq69 N x.1 x.2.1⟩
theorem Zq69_pc (N : Nat) : PC Tryz.prog 122 (Zq69_S N) := pcQ (L := [Zq69_l0_s N]) (Zq69_gok N) Tryz.call122 Tryz.func122 (fun x => by kernel_rfl) ⟨Zq69_l0_ok N, trivial⟩ (by kernel_rfl)

abbrev Zq76_ps : List (PV.Mode × Ty) := [(.ro, LLI), (.ro, LI)]
abbrev Zq76_rs : List (Bool × Ty) := [(true, .bool)]
noncomputable def Zq76_G (N : Nat) : GTab := gOf [(122, Zq69_S N)]
theorem Zq76_gok (N : Nat) : GOk Tryz.prog (Zq76_G N) := gOf_ok ⟨Zq69_pc N, trivial⟩
noncomputable def Zq76_code : Code := (Tryz.f94.body).getD .skip
noncomputable def Zq76_l0_sh : Sh := ⟨[(0, .one (.ro LLI)), (1, .one (.ro LI)), (5, .one (.ro I))], []⟩
noncomputable def Zq76_l0_ex : List (Ex × Sh) := [(.ret, ⟨[(4, .one (.ro .bool))], []⟩), (.exit 0, ⟨[], []⟩)]
noncomputable def Zq76_l0 {R : Type} (N : Nat) (k0 : Bool → Option R) (k1 : Unit → Option R) : Nat → (List (List Int)) → (List Int) → Int → Option R
 | 0, _, _, _ => none
 | K + 1, list1, bits1, i =>
 (br (ilt i (tLen list1))
 ((chk (inb list1 i)
 ((Zq69 N (rdL list1 i) bits1).bind fun r =>
 (br r.1.1
 (k0 true)
 (Zq76_l0 N k0 k1 K list1 bits1 (IntKind.i64.wrap (i + 1)))))))
 (k1 ()))
noncomputable def Zq76_l0_again {R : Type} (N : Nat) (ks : KS Zq76_l0_ex R) (k : Nat) (x : Zq76_l0_sh.T) : Option R :=
 Zq76_l0 N (fun y0 => ks 0 ((y0, ()), ())) (fun (_ : Unit) => ks 1 ((), ())) k x.1.1 x.1.2.1 x.1.2.2.1
noncomputable def Zq76_l0_s (N : Nat) : LSum := ⟨Zq76_l0_sh, Zq76_l0_ex, fun x ks => Zq76_l0_again N ks N x⟩
theorem Zq76_l0_ok (N : Nat) : LoopOk Tryz.prog Tryz.f94.ntmps (Zq76_l0_s N) (loopAt Zq76_code 0) := loopQ (sh := Zq76_l0_sh) (ex := Zq76_l0_ex) (N := N) (L := []) (fun R k x ks => Zq76_l0_again N ks k x) (Zq76_gok N) (fun _ _ _ => rfl) (fun R k x ks => by kernel_rfl) trivial (by kernel_rfl)
noncomputable def Zq76 (N : Nat) (list : (List (List Int))) (bits : (List Int)) : Option ((Bool × Unit) × (Unit)) :=
 Zq76_l0 N (fun x => some ((x, ()), ())) (fun (_ : Unit) => some ((false, ()), ())) N list bits 0
noncomputable def Zq76_S (N : Nat) : FSum := ⟨Zq76_ps, Zq76_rs, fun x => Zq76 N x.1 x.2.1⟩
theorem Zq76_pc (N : Nat) : PC Tryz.prog 94 (Zq76_S N) := pcQ (L := [Zq76_l0_s N]) (Zq76_gok N) Tryz.call94 Tryz.func94 (fun x => by kernel_rfl) ⟨Zq76_l0_ok N, trivial⟩ (by kernel_rfl)

abbrev Zq74_ps : List (PV.Mode × Ty) := [(.ro, I), (.ro, LLI)]
abbrev Zq74_rs : List (Bool × Ty) := [(true, QILLI)]
noncomputable def Zq74_G (N : Nat) : GTab := gOf [(81, Zq71_S N), (94, Zq76_S N)]
theorem Zq74_gok (N : Nat) : GOk Tryz.prog (Zq74_G N) := gOf_ok ⟨Zq71_pc N, Zq76_pc N, trivial⟩
noncomputable def Zq74_code : Code := (Tryz.f63.body).getD .skip
noncomputable def Zq74_l0_0_sh : Sh := ⟨[(0, .one (.ro I)), (1, .one (.ro LLI)), (4, .one (.adr 0 0)), (5, .one (.adr 1 0)), (6, .one (.ro LLI)), (7, .one (.ro I)), (8, .one (.ref 2)), (9, .one (.ro I))], [.box [.ro I, .nilsl], .box [.ro I, .ref 3], .sl 3 I .own, .sl 33 LI .deep]⟩
noncomputable def Zq74_l0_0_ex : List (Ex × Sh) := [(.exit 2, ⟨[(0, .one (.ro I)), (1, .one (.ro LLI)), (4, .one (.adr 0 0)), (5, .one (.adr 1 0)), (6, .one (.ro LLI)), (7, .one (.ro I)), (8, .one (.ref 2))], [.box [.ro I, .nilsl], .box [.ro I, .ref 3], .sl 3 I .own, .sl 33 LI .deep]⟩)]
noncomputable def Zq74_l0_0 {R : Type} (N : Nat) (k0 : Int → (List (List Int)) → (List (List Int)) → Int → Int → Int → (List Int) → (List (List Int)) → Option R) : Nat → Int → (List (List Int)) → (List (List Int)) → Int → Int → Int → Int → (List Int) → (List (List Int)) → Option R
 | 0, _, _, _, _, _, _, _, _, _ => none
 | K + 1, x4, x5, x6, x7, x8, o3, o4, o5, o6 =>
 (br (ile 0 x8)
 ((chk (inb x6 x7)
 (chk (inb (rdL x6 x7) x8)
 (br (ieq (rdI (rdL x6 x7) x8) 1)
 ((chk (room o5 [(IntKind.i64.wrap ((-1) - x8))])
 (Zq74_l0_0 N k0 K x4 x5 x6 x7 (IntKind.i64.wrap (x8 - 1)) o3 o4 (tApp o5 [(IntKind.i64.wrap ((-1) - x8))]) o6)))
 (Zq74_l0_0 N k0 K x4 x5 x6 x7 (IntKind.i64.wrap (x8 - 1)) o3 o4 o5 o6)))))
 (k0 x4 x5 x6 x7 o3 o4 o5 o6))
noncomputable def Zq74_l0_0_again {R : Type} (N : Nat) (ks : KS Zq74_l0_0_ex R) (k : Nat) (x : Zq74_l0_0_sh.T) : Option R :=
 Zq74_l0_0 N (fun y0 y1 y2 y3 y4 y5 y6 y7 => ks 0 ((y0, y1, (), (), y2, y3, (), ()), ((y4, (), ()), (y5, (), ()), y6, y7, ()))) k x.1.1 x.1.2.1 x.1.2.2.2.2.1 x.1.2.2.2.2.2.1 x.1.2.2.2.2.2.2.2.1 x.2.1.1 x.2.2.1.1 x.2.2.2.1 x.2.2.2.2.1
noncomputable def Zq74_l0_0_s (N : Nat) : LSum := ⟨Zq74_l0_0_sh, Zq74_l0_0_ex, fun x ks => Zq74_l0_0_again N ks N x⟩
theorem Zq74_l0_0_ok (N : Nat) : LoopOk Tryz.prog Tryz.f63.ntmps (Zq74_l0_0_s N) (loopAt (loopAt Zq74_code 0) 0) := loopQ (sh := Zq74_l0_0_sh) (ex := Zq74_l0_0_ex) (N := N) (L := []) (fun R k x ks => Zq74_l0_0_again N ks k x) (Zq74_gok N) (fun _ _ _ => rfl) (fun R k x ks => by kernel_rfl) trivial (by kernel_rfl)
noncomputable def Zq74_l0_1_sh : Sh := ⟨[(0, .one (.ro I)), (1, .one (.ro LLI)), (4, .one (.adr 0 0)), (5, .one (.adr 1 0)), (6, .one (.ro LLI)), (7, .one (.ro I)), (8, .one (.ref 2)), (10, .one (.ro I))], [.box [.ro I, .nilsl], .box [.ro I, .ref 3], .sl 3 I .own, .sl 33 LI .deep]⟩
noncomputable def Zq74_l0_1_ex : List (Ex × Sh) := [(.exit 4, ⟨[(0, .one (.ro I)), (1, .one (.ro LLI)), (4, .one (.adr 0 0)), (5, .one (.adr 1 0)), (6, .one (.ro LLI)), (7, .one (.ro I)), (8, .one (.ref 2))], [.box [.ro I, .nilsl], .box [.ro I, .ref 3], .sl 3 I .own, .sl 33 LI .deep]⟩)]
noncomputable def Zq74_l0_1 {R : Type} (N : Nat) (k0 : Int → (List (List Int)) → (List (List Int)) → Int → Int → Int → (List Int) → (List (List Int)) → Option R) : Nat → Int → (List (List Int)) → (List (List Int)) → Int → Int → Int → Int → (List Int) → (List (List Int)) → Option R
 | 0, _, _, _, _, _, _, _, _, _ => none
 | K + 1, x8, x9, x10, x11, x12, o7, o8, o9, o10 =>
 (br (ilt x12 x8)
 ((chk (inb x10 x11)
 (chk (inb (rdL x10 x11) x12)
 (br (ieq (rdI (rdL x10 x11) x12) 0)
 ((chk (room o9 [(IntKind.i64.wrap (x12 + 1))])
 (Zq74_l0_1 N k0 K x8 x9 x10 x11 (IntKind.i64.wrap (x12 + 1)) o7 o8 (tApp o9 [(IntKind.i64.wrap (x12 + 1))]) o10)))
 (Zq74_l0_1 N k0 K x8 x9 x10 x11 (IntKind.i64.wrap (x12 + 1)) o7 o8 o9 o10)))))
 (k0 x8 x9 x10 x11 o7 o8 o9 o10))
noncomputable def Zq74_l0_1_again {R : Type} (N : Nat) (ks : KS Zq74_l0_1_ex R) (k : Nat) (x : Zq74_l0_1_sh.T) : Option R :=
 Zq74_l0_1 N (fun y0 y1 y2 y3 y4 y5 y6 y7 => ks 0 ((y0, y1, (), (), y2, y3, (), ()), ((y4, (), ()), (y5, (), ()), y6, y7, ()))) k x.1.1 x.1.2.1 x.1.2.2.2.2.1 x.1.2.2.2.2.2.1 x.1.2.2.2.2.2.2.2.1 x.2.1.1 x.2.2.1.1 x.2.2.2.1 x.2.2.2.2.1
noncomputable def Zq74_l0_1_s (N : Nat) : LSum := ⟨Zq74_l0_1_sh, Zq74_l0_1_ex, fun x ks => Zq74_l0_1_again N ks N x⟩
theorem Zq74_l0_1_ok (N : Nat) : LoopOk Tryz.prog Tryz.f63.ntmps (Zq74_l0_1_s N) (loopAt (loopAt Zq74_code 0) 1) := loopQ (sh := Zq74_l0_1_sh) (ex := Zq74_l0_1_ex) (N := N) (L := []) (fun R k x ks => Zq74_l0_1_again N ks k x) (Zq74_gok N) (fun _ _ _ => rfl) (fun R k x ks => by kernel_rfl) trivial (by kernel_rfl)
noncomputable def Zq74_l0_sh : Sh := ⟨[(0, .one (.ro I)), (1, .one (.ro LLI)), (4, .one (.adr 0 0)), (5, .one (.adr 1 0)), (6, .one (.ro LLI)), (7, .one (.ro I))], [.box [.ro I, .nilsl], .box [.ro I, .ref 2], .sl 33 LI .deep]⟩
noncomputable def Zq74_l0_ex : List (Ex × Sh) := [(.exit 0, ⟨[(4, .one (.adr 0 0)), (5, .one (.adr 1 0))], [.box [.ro I, .nilsl], .box [.ro I, .ref 2], .sl 33 LI .deep]⟩)]
noncomputable def Zq74_l0 {R : Type} (N : Nat) (k0 : Int → Int → (List (List Int)) → Option R) : Nat → Int → (List (List Int)) → (List (List Int)) → Int → Int → Int → (List (List Int)) → Option R
 | 0, _, _, _, _, _, _, _ => none
 | K + 1, x, x1, x2, x3, o, o1, o2 =>
 (br (ilt x3 (tLen x2))
 ((chk (inb x2 x3)
 ((Zq76 N x1 (rdL x2 x3)).bind fun r1 =>
 (br r1.1.1
 (Zq74_l0 N k0 K x x1 x2 (IntKind.i64.wrap (x3 + 1)) o o1 o2)
 (Zq74_l0_0 N (fun x4 x5 x6 x7 o3 o4 o5 o6 => Zq74_l0_1 N (fun x8 x9 x10 x11 o7 o8 o9 o10 => (chk (room o10 [o9])
 (Zq74_l0 N k0 K x8 x9 x10 (IntKind.i64.wrap (x11 + 1)) o7 o8 (tApp o10 [o9])))) N x4 x5 x6 x7 0 o3 o4 o5 o6) N x x1 x2 x3 (IntKind.i64.wrap (x - 1)) o o1 [] o2)))))
 (k0 o o1 o2))
noncomputable def Zq74_l0_again {R : Type} (N : Nat) (ks : KS Zq74_l0_ex R) (k : Nat) (x : Zq74_l0_sh.T) : Option R :=
 Zq74_l0 N (fun y0 y1 y2 => ks 0 (((), (), ()), ((y0, (), ()), (y1, (), ()), y2, ()))) k x.1.1 x.1.2.1 x.1.2.2.2.2.1 x.1.2.2.2.2.2.1 x.2.1.1 x.2.2.1.1 x.2.2.2.1
noncomputable def Zq74_l0_s (N : Nat) : LSum := ⟨Zq74_l0_sh, Zq74_l0_ex, fun x ks => Zq74_l0_again N ks N x⟩
theorem Zq74_l0_ok (N : Nat) : LoopOk Tryz.prog Tryz.f63.ntmps (Zq74_l0_s N) (loopAt Zq74_code 0) := loopQ (sh := Zq74_l0_sh) (ex := Zq74_l0_ex) (N := N) (L := [Zq74_l0_0_s N, Zq74_l0_1_s N]) (fun R k x ks => Zq74_l0_again N ks k x) (Zq74_gok N) (fun _ _ _ => rfl) (fun R k x ks => by kernel_rfl) ⟨Zq74_l0_0_ok N, Zq74_l0_1_ok N, trivial⟩ (by kernel_rfl)
noncomputable def Zq74 (N : Nat) (c : Int) (c1 : (List (List Int))) : Option (((Int × (List (List Int))) × Unit) × (Unit)) :=
 ((Zq71 N c).bind fun r =>
 Zq74_l0 N (fun o o1 o2 => some (((o1, o2), ()), ())) N c c1 r.1.1 0 0 c [])
noncomputable def Zq74_S (N : Nat) : FSum := ⟨Zq74_ps, Zq74_rs, fun x => Zq74 N x.1 x.2.1⟩
theorem Zq74_pc (N : Nat) : PC Tryz.prog 63 (Zq74_S N) := pcQ (L := [Zq74_l0_s N]) (Zq74_gok N) Tryz.call63 Tryz.func63 (fun x => by kernel_rfl) ⟨Zq74_l0_ok N, trivial⟩ (by kernel_rfl)

abbrev Zq54_ps : List (PV.Mode × Ty) := [(.ro, I), (.ro, LLI)]
abbrev Zq54_rs : List (Bool × Ty) := [(true, QILLI), (true, .bool)]
noncomputable def Zq54_G (N : Nat) : GTab := gOf [(42, Zq63_S N), (62, Zq73_S N), (63, Zq74_S N)]
theorem Zq54_gok (N : Nat) : GOk Tryz.prog (Zq54_G N) := gOf_ok ⟨Zq63_pc N, Zq73_pc N, Zq74_pc N, trivial⟩
noncomputable def Zq54_code : Code := (Tryz.f16.body).getD .skip
noncomputable def Zq54_l0_sh : Sh := ⟨[(0, .one (.ro I)), (1, .one (.ro LLI)), (4, .one (.adr 0 0)), (6, .one (.ro I))], [.box [.ro I, .nilsl]]⟩
noncomputable def Zq54_l0_ex : List (Ex × Sh) := [(.ret, ⟨[(4, .one (.adr 0 0)), (5, .one (.ro .bool))], [.box [.ro I, .nilsl]]⟩), (.exit 0, ⟨[(0, .one (.ro I)), (1, .one (.ro LLI)), (4, .one (.adr 0 0))], [.box [.ro I, .nilsl]]⟩)]
noncomputable def Zq54_l0 {R : Type} (N : Nat) (k0 : Bool → Int → Option R) (k1 : Int → (List (List Int)) → Int → Option R) : Nat → Int → (List (List Int)) → Int → Int → Option R
 | 0, _, _, _, _ => none
 | K + 1, vars1, solutions1, i, o =>
 (br (ilt i (tLen solutions1))
 ((chk (inb solutions1 i)
 ((Zq73 N vars1 (rdL solutions1 i)).bind fun r1 =>
 (br (!r1.1.1)
 (k0 false 0)
 (Zq54_l0 N k0 k1 K vars1 solutions1 (IntKind.i64.wrap (i + 1)) o)))))
 (k1 vars1 solutions1 o))
noncomputable def Zq54_l0_again {R : Type} (N : Nat) (ks : KS Zq54_l0_ex R) (k : Nat) (x : Zq54_l0_sh.T) : Option R :=
 Zq54_l0 N (fun y0 y1 => ks 0 (((), y0, ()), ((y1, (), ()), ()))) (fun y0 y1 y2 => ks 1 ((y0, y1, (), ()), ((y2, (), ()), ()))) k x.1.1 x.1.2.1 x.1.2.2.2.1 x.2.1.1
noncomputable def Zq54_l0_s (N : Nat) : LSum := ⟨Zq54_l0_sh, Zq54_l0_ex, fun x ks => Zq54_l0_again N ks N x⟩
theorem Zq54_l0_ok (N : Nat) : LoopOk Tryz.prog Tryz.f16.ntmps (Zq54_l0_s N) (loopAt Zq54_code 0) := loopQ (sh := Zq54_l0_sh) (ex := Zq54_l0_ex) (N := N) (L := []) (fun R k x ks => Zq54_l0_again N ks k x) (Zq54_gok N) (fun _ _ _ => rfl) (fun R k x ks => by kernel_rfl) trivial (by kernel_rfl)
noncomputable def Zq54 (N : Nat) (vars : Int) (solutions : (List (List Int))) : Option (((Int × (List (List Int))) × Bool × Unit) × (Unit)) :=
 ((Zq63 N vars 0 6).bind fun r =>
 (br (!r.1.1)
 (some (((0, []), false, ()), ()))
 (Zq54_l0 N (fun x o => some (((o, []), x, ()), ())) (fun vars1 solutions1 o1 => ((Zq74 N vars1 solutions1).bind fun r1 =>
 some (((r1.1.1.1, r1.1.1.2), true, ()), ()))) N vars solutions 0 0)))
noncomputable def Zq54_S (N : Nat) : FSum := ⟨Zq54_ps, Zq54_rs, fun x => Zq54 N x.1 x.2.1⟩
theorem Zq54_pc (N : Nat) : PC Tryz.prog 16 (Zq54_S N) := pcQ (L := [Zq54_l0_s N]) (Zq54_gok N) Tryz.call16 Tryz.func16 (fun x => by kernel_rfl) ⟨Zq54_l0_ok N, trivial⟩ (by kernel_rfl)

abbrev Zq1_ps : List (PV.Mode × Ty) := [(.ro, I)]
abbrev Zq1_rs : List (Bool × Ty) := [(true, .bool)]
noncomputable def Zq1_G (N : Nat) : GTab := gOf []
theorem Zq1_gok (N : Nat) : GOk Tryz.prog (Zq1_G N) := gOf_ok trivial
noncomputable def Zq1_code : Code := (Tryz.f136.body).getD .skip
noncomputable def Zq1 (N : Nat) (x : Int) : Option ((Bool × Unit) × (Unit)) :=
 some (((ine x x), ()), ())
noncomputable def Zq1_S (N : Nat) : FSum := ⟨Zq1_ps, Zq1_rs, fun x => Zq1 N x.1⟩
theorem Zq1_pc (N : Nat) : PC Tryz.prog 136 (Zq1_S N) := pcQ (L := []) (Zq1_gok N) Tryz.call136 Tryz.func136 (fun x => by kernel_rfl) trivial (by kernel_rfl)

abbrev Zq0_ps : List (PV.Mode × Ty) := [(.ro, I), (.ro, I)]
abbrev Zq0_rs : List (Bool × Ty) := [(true, I)]
noncomputable def Zq0_G (N : Nat) : GTab := gOf [(136, Zq1_S N)]
theorem Zq0_gok (N : Nat) : GOk Tryz.prog (Zq0_G N) := gOf_ok ⟨Zq1_pc N, trivial⟩
noncomputable def Zq0_code : Code := (Tryz.f124.body).getD .skip
noncomputable def Zq0 (N : Nat) (x : Int) (y : Int) : Option ((Int × Unit) × (Unit)) :=
 ((Zq1 N x).bind fun r =>
 ((Zq1 N y).bind fun r1 =>
 (br r.1.1
 ((br r1.1.1
 (some ((0, ()), ()))
 (some (((-1), ()), ()))))
 ((br r1.1.1
 (some ((1, ()), ()))
 ((br (ilt x y)
 (some (((-1), ()), ()))
 ((br (ilt y x)
 (some ((1, ()), ()))
 (some ((0, ()), ())))))))))))
noncomputable def Zq0_S (N : Nat) : FSum := ⟨Zq0_ps, Zq0_rs, fun x => Zq0 N x.1 x.2.1⟩
theorem Zq0_pc (N : Nat) : PC Tryz.prog 124 (Zq0_S N) := pcQ (L := []) (Zq0_gok N) Tryz.call124 Tryz.func124 (fun x => by kernel_rfl) trivial (by kernel_rfl)

abbrev Zq38_ps : List (PV.Mode × Ty) := [(.ro, LI), (.ro, LI)]
abbrev Zq38_rs : List (Bool × Ty) := [(true, I)]
noncomputable def Zq38_G (N : Nat) : GTab := gOf [(124, Zq0_S N)]
theorem Zq38_gok (N : Nat) : GOk Tryz.prog (Zq38_G N) := gOf_ok ⟨Zq0_pc N, trivial⟩
noncomputable def Zq38_code : Code := (Tryz.f98.body).getD .skip
noncomputable def Zq38_l0_sh : Sh := ⟨[(0, .one (.ro LI)), (1, .one (.ro LI)), (9, .one (.ro LI)), (10, .one (.ro I)), (11, .one (.ro I))], []⟩
noncomputable def Zq38_l0_ex : List (Ex × Sh) := [(.ret, ⟨[(4, .one (.ro I))], []⟩), (.exit 0, ⟨[(0, .one (.ro LI)), (1, .one (.ro LI))], []⟩)]
noncomputable def Zq38_l0 {R : Type} (N : Nat) (k0 : Int → Option R) (k1 : (List Int) → (List Int) → Option R) : Nat → (List Int) → (List Int) → (List Int) → Int → Int → Option R
 | 0, _, _, _, _, _ => none
 | K + 1, s11, s21, x, x1, x2 =>
 (br (ilt x2 x1)
 ((chk (inb x x2)
 (br (ile (tLen s21) x2)
 (k0 1)
 ((chk (inb s21 x2)
 ((Zq0 N (rdI x x2) (rdI s21 x2)).bind fun r =>
 (br (ine r.1.1 0)
 (k0 r.1.1)
 (Zq38_l0 N k0 k1 K s11 s21 x x1 (IntKind.i64.wrap (x2 + 1))))))))))
 (k1 s11 s21))
noncomputable def Zq38_l0_again {R : Type} (N : Nat) (ks : KS Zq38_l0_ex R) (k : Nat) (x : Zq38_l0_sh.T) : Option R :=
 Zq38_l0 N (fun y0 => ks 0 ((y0, ()), ())) (fun y0 y1 => ks 1 ((y0, y1, ()), ())) k x.1.1 x.1.2.1 x.1.2.2.1 x.1.2.2.2.1 x.1.2.2.2.2.1
noncomputable def Zq38_l0_s (N : Nat) : LSum := ⟨Zq38_l0_sh, Zq38_l0_ex, fun x ks => Zq38_l0_again N ks N x⟩
theorem Zq38_l0_ok (N : Nat) : LoopOk Tryz.prog Tryz.f98.ntmps (Zq38_l0_s N) (loopAt Zq38_code 0) := loopQ (sh := Zq38_l0_sh) (ex := Zq38_l0_ex) (N := N) (L := []) (fun R k x ks => Zq38_l0_again N ks k x) (Zq38_gok N) (fun _ _ _ => rfl) (fun R k x ks => by kernel_rfl) trivial (by kernel_rfl)
noncomputable def Zq38 (N : Nat) (s1 : (List Int)) (s2 : (List Int)) : Option ((Int × Unit) × (Unit)) :=
 Zq38_l0 N (fun x => some ((x, ()), ())) (fun s11 s21 => (br (ilt (tLen s11) (tLen s21))
 (some (((-1), ()), ()))
 (some ((0, ()), ())))) N s1 s2 s1 (tLen s1) 0
noncomputable def Zq38_S (N : Nat) : FSum := ⟨Zq38_ps, Zq38_rs, fun x => Zq38 N x.1 x.2.1⟩
theorem Zq38_pc (N : Nat) : PC Tryz.prog 98 (Zq38_S N) := pcQ (L := [Zq38_l0_s N]) (Zq38_gok N) Tryz.call98 Tryz.func98 (fun x => by kernel_rfl) ⟨Zq38_l0_ok N, trivial⟩ (by kernel_rfl)

abbrev Zq46_ps : List (PV.Mode × Ty) := [(.mut, LLI), (.own, K98Un)]
abbrev Zq46_rs : List (Bool × Ty) := []
noncomputable def Zq46 (N : Nat) (x : List (List Int)) (_ : Unit) : Option (Unit × (List (List Int) × Unit)) := sortF (fun a b => (Zq38 N a b).map fun z => z.1.1) x
noncomputable def Zq46_S (N : Nat) : FSum := ⟨Zq46_ps, Zq46_rs, fun x => Zq46 N x.1 x.2.1⟩
theorem Zq46_pc (N : Nat) : PC Tryz.prog 97 (Zq46_S N) := sortRows_pc (fc := fun a b => Zq38 N a b) (sortsAt Tryz.sortL) (sortsNone Tryz.sortL) Tryz.call97 (Zq38_pc N)

abbrev Zq29_ps : List (PV.Mode × Ty) := [(.own, LLI), (.ro, GLILIBo)]
abbrev Zq29_rs : List (Bool × Ty) := [(true, QLLILQII)]
noncomputable def Zq29_G (N : Nat) : GTab := gOf [(97, Zq46_S N)]
theorem Zq29_gok (N : Nat) : GOk Tryz.prog (Zq29_G N) := gOf_ok ⟨Zq46_pc N, trivial⟩
noncomputable def Zq29_code : Code := (Tryz.f69.body).getD .skip
noncomputable def Zq29_l0_0_sh : Sh := ⟨[(1, .one (.ro GLILIBo)), (4, .one (.adr 0 0)), (5, .one (.adr 1 0)), (6, .one (.ro I)), (7, .one (.el 2)), (16, .one (.ref 2)), (17, .one (.ro I)), (18, .one (.ro I)), (27, .one (.sub 2 1)), (28, .one (.ro I)), (29, .one (.ro I))], [.box [.nilsl, .nilsl], .box [.ref 2, .ref 3], .sl 33 LI .deep, .sl 108 QII .own]⟩
noncomputable def Zq29_l0_0_ex : List (Ex × Sh) := [(.exit 2, ⟨[(1, .one (.ro GLILIBo)), (4, .one (.adr 0 0)), (5, .one (.adr 1 0)), (16, .one (.ref 2)), (17, .one (.ro I)), (18, .one (.ro I))], [.box [.nilsl, .nilsl], .box [.ref 2, .ref 3], .sl 33 LI .deep, .sl 108 QII .own]⟩)]
noncomputable def Zq29_l0_0 {R : Type} (N : Nat) (k0 : ((List Int) → (List Int) → Option Bool) → Int → Int → (List (List Int)) → (List (Int × Int)) → Option R) : Nat → ((List Int) → (List Int) → Option Bool) → Int → Int → Int → Int → Int → Int → Int → Int → (List (List Int)) → (List (Int × Int)) → Option R
 | 0, _, _, _, _, _, _, _, _, _, _, _ => none
 | K + 1, isStep2, i, a, x2, x3, x4, x5, x6, x7, o2, o3 =>
 (br (ilt x7 x6)
 ((chk (ile 0 x7 && ilt x7 (x5 - x4))
 ((isStep2 (rdL o2 a) (rdL o2 (x4 + x7))).bind fun v =>
 (br v
 ((chk (room o3 [(i, (IntKind.i64.wrap ((IntKind.i64.wrap (i + 1)) + x7)))])
 (Zq29_l0_0 N k0 K isStep2 i a x2 x3 x4 x5 x6 (IntKind.i64.wrap (x7 + 1)) o2 (tApp o3 [(i, (IntKind.i64.wrap ((IntKind.i64.wrap (i + 1)) + x7)))]))))
 (Zq29_l0_0 N k0 K isStep2 i a x2 x3 x4 x5 x6 (IntKind.i64.wrap (x7 + 1)) o2 o3)))))
 (k0 isStep2 x2 x3 o2 o3))
noncomputable def Zq29_l0_0_again {R : Type} (N : Nat) (ks : KS Zq29_l0_0_ex R) (k : Nat) (x : Zq29_l0_0_sh.T) : Option R :=
 Zq29_l0_0 N (fun y0 y1 y2 y3 y4 => ks 0 ((y0, (), (), (), y1, y2, ()), (((), (), ()), ((), (), ()), y3, y4, ()))) k x.1.1 x.1.2.2.2.1 x.1.2.2.2.2.1 x.1.2.2.2.2.2.2.1 x.1.2.2.2.2.2.2.2.1 x.1.2.2.2.2.2.2.2.2.1.1 x.1.2.2.2.2.2.2.2.2.1.2 x.1.2.2.2.2.2.2.2.2.2.1 x.1.2.2.2.2.2.2.2.2.2.2.1 x.2.2.2.1 x.2.2.2.2.1
noncomputable def Zq29_l0_0_s (N : Nat) : LSum := ⟨Zq29_l0_0_sh, Zq29_l0_0_ex, fun x ks => Zq29_l0_0_again N ks N x⟩
theorem Zq29_l0_0_ok (N : Nat) : LoopOk Tryz.prog Tryz.f69.ntmps (Zq29_l0_0_s N) (loopAt (loopAt Zq29_code 0) 0) := loopQ (sh := Zq29_l0_0_sh) (ex := Zq29_l0_0_ex) (N := N) (L := []) (fun R k x ks => Zq29_l0_0_again N ks k x) (Zq29_gok N) (fun _ _ _ => rfl) (fun R k x ks => by kernel_rfl) trivial (by kernel_rfl)
noncomputable def Zq29_l0_sh : Sh := ⟨[(1, .one (.ro GLILIBo)), (4, .one (.adr 0 0)), (5, .one (.adr 1 0)), (16, .one (.ref 2)), (17, .one (.ro I)), (18, .one (.ro I))], [.box [.nilsl, .nilsl], .box [.ref 2, .ref 3], .sl 33 LI .deep, .sl 108 QII .own]⟩
noncomputable def Zq29_l0_ex : List (Ex × Sh) := [(.exit 0, ⟨[(4, .one (.adr 0 0)), (5, .one (.adr 1 0))], [.box [.nilsl, .nilsl], .box [.ref 2, .ref 3], .sl 33 LI .deep, .sl 108 QII .own]⟩)]
noncomputable def Zq29_l0 {R : Type} (N : Nat) (k0 : (List (List Int)) → (List (Int × Int)) → Option R) : Nat → ((List Int) → (List Int) → Option Bool) → Int → Int → (List (List Int)) → (List (Int × Int)) → Option R
 | 0, _, _, _, _, _ => none
 | K + 1, isStep1, x, x1, o, o1 =>
 (br (ilt x1 x)
 ((chk (inb o x1)
 (chk (ile 0 (IntKind.i64.wrap (x1 + 1)) && ile (IntKind.i64.wrap (x1 + 1)) (tLen o) && ile (tLen o) (tLen o))
 (Zq29_l0_0 N (fun isStep2 x2 x3 o2 o3 => Zq29_l0 N k0 K isStep2 x2 (IntKind.i64.wrap (x3 + 1)) o2 o3) N isStep1 x1 x1 x x1 (IntKind.i64.wrap (x1 + 1)) (tLen o) ((tLen o) - (IntKind.i64.wrap (x1 + 1))) 0 o o1))))
 (k0 o o1))
noncomputable def Zq29_l0_again {R : Type} (N : Nat) (ks : KS Zq29_l0_ex R) (k : Nat) (x : Zq29_l0_sh.T) : Option R :=
 Zq29_l0 N (fun y0 y1 => ks 0 (((), (), ()), (((), (), ()), ((), (), ()), y0, y1, ()))) k x.1.1 x.1.2.2.2.2.1 x.1.2.2.2.2.2.1 x.2.2.2.1 x.2.2.2.2.1
noncomputable def Zq29_l0_s (N : Nat) : LSum := ⟨Zq29_l0_sh, Zq29_l0_ex, fun x ks => Zq29_l0_again N ks N x⟩
theorem Zq29_l0_ok (N : Nat) : LoopOk Tryz.prog Tryz.f69.ntmps (Zq29_l0_s N) (loopAt Zq29_code 0) := loopQ (sh := Zq29_l0_sh) (ex := Zq29_l0_ex) (N := N) (L := [Zq29_l0_0_s N]) (fun R k x ks => Zq29_l0_again N ks k x) (Zq29_gok N) (fun _ _ _ => rfl) (fun R k x ks => by kernel_rfl) ⟨Zq29_l0_0_ok N, trivial⟩ (by kernel_rfl)
noncomputable def Zq29 (N : Nat) (states : (List (List Int))) (isStep : ((List Int) → (List Int) → Option Bool)) : Option ((((List (List Int)) × (List (Int × Int))) × Unit) × (Unit)) :=
 ((Zq46 N states ()).bind fun r =>
 Zq29_l0 N (fun o o1 => some (((o, o1), ()), ())) N isStep (tLen r.2.1) 0 r.2.1 [])
noncomputable def Zq29_S (N : Nat) : FSum := ⟨Zq29_ps, Zq29_rs, fun x => Zq29 N x.1 x.2.1⟩
theorem Zq29_pc (N : Nat) : PC Tryz.prog 69 (Zq29_S N) := pcQ (L := [Zq29_l0_s N]) (Zq29_gok N) Tryz.call69 Tryz.func69 (fun x => by kernel_rfl) ⟨Zq29_l0_ok N, trivial⟩ (by kernel_rfl)

abbrev Zq28_ps : List (PV.Mode × Ty) := [(.ro, LI), (.ro, LI)]
abbrev Zq28_rs : List (Bool × Ty) := [(true, LI)]
noncomputable def Zq28_G (N : Nat) : GTab := gOf []
theorem Zq28_gok (N : Nat) : GOk Tryz.prog (Zq28_G N) := gOf_ok trivial
noncomputable def Zq28_code : Code := (Tryz.f100.body).getD .skip
noncomputable def Zq28_l0_sh : Sh := ⟨[(1, .one (.ro LI)), (5, .one (.ref 0)), (9, .one (.ro LI)), (10, .one (.ro I)), (11, .one (.ro I))], [.sl 3 I .own]⟩
noncomputable def Zq28_l0_ex : List (Ex × Sh) := [(.exit 0, ⟨[(5, .one (.ref 0))], [.sl 3 I .own]⟩)]
noncomputable def Zq28_l0 {R : Type} (N : Nat) (k0 : (List Int) → Option R) : Nat → (List Int) → (List Int) → Int → Int → (List Int) → Option R
 | 0, _, _, _, _, _ => none
 | K + 1, b1, x, x1, x2, o =>
 (br (ilt x2 x1)
 ((chk (inb x x2)
 (chk (inb b1 x2)
 (br (ine (rdI b1 x2) (rdI x x2))
 ((chk (room o [x2])
 (Zq28_l0 N k0 K b1 x x1 (IntKind.i64.wrap (x2 + 1)) (tApp o [x2]))))
 (Zq28_l0 N k0 K b1 x x1 (IntKind.i64.wrap (x2 + 1)) o)))))
 (k0 o))
noncomputable def Zq28_l0_again {R : Type} (N : Nat) (ks : KS Zq28_l0_ex R) (k : Nat) (x : Zq28_l0_sh.T) : Option R :=
 Zq28_l0 N (fun y0 => ks 0 (((), ()), (y0, ()))) k x.1.1 x.1.2.2.1 x.1.2.2.2.1 x.1.2.2.2.2.1 x.2.1
noncomputable def Zq28_l0_s (N : Nat) : LSum := ⟨Zq28_l0_sh, Zq28_l0_ex, fun x ks => Zq28_l0_again N ks N x⟩
theorem Zq28_l0_ok (N : Nat) : LoopOk Tryz.prog Tryz.f100.ntmps (Zq28_l0_s N) (loopAt Zq28_code 0) := loopQ (sh := Zq28_l0_sh) (ex := Zq28_l0_ex) (N := N) (L := []) (fun R k x ks => Zq28_l0_again N ks k x) (Zq28_gok N) (fun _ _ _ => rfl) (fun R k x ks => by kernel_rfl) trivial (by kernel_rfl)
noncomputable def Zq28 (N : Nat) (a : (List Int)) (b : (List Int)) : Option (((List Int) × Unit) × (Unit)) :=
 Zq28_l0 N (fun o => some ((o, ()), ())) N b a (tLen a) 0 []
noncomputable def Zq28_S (N : Nat) : FSum := ⟨Zq28_ps, Zq28_rs, fun x => Zq28 N x.1 x.2.1⟩
theorem Zq28_pc (N : Nat) : PC Tryz.prog 100 (Zq28_S N) := pcQ (L := [Zq28_l0_s N]) (Zq28_gok N) Tryz.call100 Tryz.func100 (fun x => by kernel_rfl) ⟨Zq28_l0_ok N, trivial⟩ (by kernel_rfl)

abbrev Zq25_ps : List (PV.Mode × Ty) := [(.ro, LI), (.ro, LI)]
abbrev Zq25_rs : List (Bool × Ty) := [(true, .bool)]
noncomputable def Zq25_G (N : Nat) : GTab := gOf [(100, Zq28_S N)]
theorem Zq25_gok (N : Nat) : GOk Tryz.prog (Zq25_G N) := gOf_ok ⟨Zq28_pc N, trivial⟩
noncomputable def Zq25_code : Code := (Tryz.f71.body).getD .skip
noncomputable def Zq25 (N : Nat) (a : (List Int)) (b : (List Int)) : Option ((Bool × Unit) × (Unit)) :=
 ((Zq28 N a b).bind fun r =>
 some (((ieq (tLen r.1.1) 1), ()), ()))
noncomputable def Zq25_S (N : Nat) : FSum := ⟨Zq25_ps, Zq25_rs, fun x => Zq25 N x.1 x.2.1⟩
theorem Zq25_pc (N : Nat) : PC Tryz.prog 71 (Zq25_S N) := pcQ (L := []) (Zq25_gok N) Tryz.call71 Tryz.func71 (fun x => by kernel_rfl) trivial (by kernel_rfl)

abbrev Zq7_ps : List (PV.Mode × Ty) := [(.ro, QILLI)]
abbrev Zq7_rs : List (Bool × Ty) := [(true, QLLILQII)]
noncomputable def Zq7_G (N : Nat) : GTab := gOf [(40, Zq8_S N), (69, Zq29_S N), (71, Zq25_S N)]
theorem Zq7_gok (N : Nat) : GOk Tryz.prog (Zq7_G N) := gOf_ok ⟨Zq8_pc N, Zq29_pc N, Zq25_pc N, trivial⟩
noncomputable def Zq7_code : Code := (Tryz.f64.body).getD .skip
noncomputable def Zq7 (N : Nat) (f : (Int × (List (List Int)))) : Option ((((List (List Int)) × (List (Int × Int))) × Unit) × (Unit)) :=
 ((Zq8 N (f.1, f.2)).bind fun r =>
 ((Zq29 N r.1.1 (fun y0 y1 => (Zq25 N y0 y1).bind fun z => some z.1.1)).bind fun r1 =>
 some (((r1.1.1.1, r1.1.1.2), ()), ())))
noncomputable def Zq7_S (N : Nat) : FSum := ⟨Zq7_ps, Zq7_rs, fun x => Zq7 N x.1⟩
theorem Zq7_pc (N : Nat) : PC Tryz.prog 64 (Zq7_S N) := pcQ (L := []) (Zq7_gok N) Tryz.call64 Tryz.func64 (fun x => by kernel_rfl) trivial (by kernel_rfl)

abbrev Zq4_ps : List (PV.Mode × Ty) := [(.ro, QILLI)]
abbrev Zq4_rs : List (Bool × Ty) := [(true, QLLILQII), (true, .bool)]
noncomputable def Zq4_G (N : Nat) : GTab := gOf [(38, Zq13_S N), (64, Zq7_S N)]
theorem Zq4_gok (N : Nat) : GOk Tryz.prog (Zq4_G N) := gOf_ok ⟨Zq13_pc N, Zq7_pc N, trivial⟩
noncomputable def Zq4_code : Code := (Tryz.f17.body).getD .skip
noncomputable def Zq4 (N : Nat) (f : (Int × (List (List Int)))) : Option ((((List (List Int)) × (List (Int × Int))) × Bool × Unit) × (Unit)) :=
 ((Zq13 N (f.1, f.2)).bind fun r =>
 (br (!r.1.1)
 (some ((([], []), false, ()), ()))
 (((Zq7 N (f.1, f.2)).bind fun r1 =>
 some (((r1.1.1.1, r1.1.1.2), true, ()), ())))))
noncomputable def Zq4_S (N : Nat) : FSum := ⟨Zq4_ps, Zq4_rs, fun x => Zq4 N x.1⟩
theorem Zq4_pc (N : Nat) : PC Tryz.prog 17 (Zq4_S N) := pcQ (L := []) (Zq4_gok N) Tryz.call17 Tryz.func17 (fun x => by kernel_rfl) trivial (by kernel_rfl)

abbrev Zq72_ps : List (PV.Mode × Ty) := [(.ro, LI), (.ro, LI)]
abbrev Zq72_rs : List (Bool × Ty) := [(true, I)]
noncomputable def Zq72_G (N : Nat) : GTab := gOf []
theorem Zq72_gok (N : Nat) : GOk Tryz.prog (Zq72_G N) := gOf_ok trivial
noncomputable def Zq72_code : Code := (Tryz.f95.body).getD .skip
noncomputable def Zq72_l0_sh : Sh := ⟨[(0, .one (.ro LI)), (1, .one (.ro LI)), (5, .one (.ro I)), (6, .one (.ro I))], []⟩
noncomputable def Zq72_l0_ex : List (Ex × Sh) := [(.exit 0, ⟨[(5, .one (.ro I))], []⟩)]
noncomputable def Zq72_l0 {R : Type} (N : Nat) (k0 : Int → Option R) : Nat → (List Int) → (List Int) → Int → Int → Option R
 | 0, _, _, _, _ => none
 | K + 1, a1, b1, count, i =>
 (br (ilt i (tLen a1))
 ((chk (inb a1 i)
 (chk (inb b1 i)
 (br (ine (rdI a1 i) (rdI b1 i))
 (Zq72_l0 N k0 K a1 b1 (IntKind.i64.wrap (count + 1)) (IntKind.i64.wrap (i + 1)))
 (Zq72_l0 N k0 K a1 b1 count (IntKind.i64.wrap (i + 1)))))))
 (k0 count))
noncomputable def Zq72_l0_again {R : Type} (N : Nat) (ks : KS Zq72_l0_ex R) (k : Nat) (x : Zq72_l0_sh.T) : Option R :=
 Zq72_l0 N (fun y0 => ks 0 ((y0, ()), ())) k x.1.1 x.1.2.1 x.1.2.2.1 x.1.2.2.2.1
noncomputable def Zq72_l0_s (N : Nat) : LSum := ⟨Zq72_l0_sh, Zq72_l0_ex, fun x ks => Zq72_l0_again N ks N x⟩
theorem Zq72_l0_ok (N : Nat) : LoopOk Tryz.prog Tryz.f95.ntmps (Zq72_l0_s N) (loopAt Zq72_code 0) := loopQ (sh := Zq72_l0_sh) (ex := Zq72_l0_ex) (N := N) (L := []) (fun R k x ks => Zq72_l0_again N ks k x) (Zq72_gok N) (fun _ _ _ => rfl) (fun R k x ks => by kernel_rfl) trivial (by kernel_rfl)
noncomputable def Zq72 (N : Nat) (a : (List Int)) (b : (List Int)) : Option ((Int × Unit) × (Unit)) :=
 Zq72_l0 N (fun count => some ((count, ()), ())) N a b 0 0
noncomputable def Zq72_S (N : Nat) : FSum := ⟨Zq72_ps, Zq72_rs, fun x => Zq72 N x.1 x.2.1⟩
theorem Zq72_pc (N : Nat) : PC Tryz.prog 95 (Zq72_S N) := pcQ (L := [Zq72_l0_s N]) (Zq72_gok N) Tryz.call95 Tryz.func95 (fun x => by kernel_rfl) ⟨Zq72_l0_ok N, trivial⟩ (by kernel_rfl)

abbrev Zq82_ps : List (PV.Mode × Ty) := [(.ro, LLI)]
abbrev Zq82_rs : List (Bool × Ty) := [(false, QLLILQII)]
noncomputable def Zq82_G (N : Nat) : GTab := gOf [(95, Zq72_S N)]
theorem Zq82_gok (N : Nat) : GOk Tryz.prog (Zq82_G N) := gOf_ok ⟨Zq72_pc N, trivial⟩
noncomputable def Zq82_code : Code := (Tryz.f65.body).getD .skip
noncomputable def Zq82_l0_0_sh : Sh := ⟨[(0, .one (.ro LLI)), (2, .one (.adr 0 0)), (3, .one (.adr 1 0)), (4, .one (.ro I)), (5, .one (.ro I))], [.box [.nilsl, .nilsl], .box [.ro LLI, .ref 2], .sl 108 QII .own]⟩
noncomputable def Zq82_l0_0_ex : List (Ex × Sh) := [(.exit 2, ⟨[(0, .one (.ro LLI)), (2, .one (.adr 0 0)), (3, .one (.adr 1 0)), (4, .one (.ro I))], [.box [.nilsl, .nilsl], .box [.ro LLI, .ref 2], .sl 108 QII .own]⟩)]
noncomputable def Zq82_l0_0 {R : Type} (N : Nat) (k0 : (List (List Int)) → Int → (List (List Int)) → (List (Int × Int)) → Option R) : Nat → (List (List Int)) → Int → Int → (List (List Int)) → (List (Int × Int)) → Option R
 | 0, _, _, _, _, _ => none
 | K + 1, states2, i1, j, o2, o3 =>
 (br (ilt j (tLen states2))
 ((chk (inb states2 i1)
 (chk (inb states2 j)
 ((Zq72 N (rdL states2 i1) (rdL states2 j)).bind fun r =>
 (br (ieq r.1.1 1)
 ((chk (room o3 [(i1, j)])
 (Zq82_l0_0 N k0 K states2 i1 (IntKind.i64.wrap (j + 1)) o2 (tApp o3 [(i1, j)]))))
 (Zq82_l0_0 N k0 K states2 i1 (IntKind.i64.wrap (j + 1)) o2 o3))))))
 (k0 states2 i1 o2 o3))
noncomputable def Zq82_l0_0_again {R : Type} (N : Nat) (ks : KS Zq82_l0_0_ex R) (k : Nat) (x : Zq82_l0_0_sh.T) : Option R :=
 Zq82_l0_0 N (fun y0 y1 y2 y3 => ks 0 ((y0, (), (), y1, ()), (((), (), ()), (y2, (), ()), y3, ()))) k x.1.1 x.1.2.2.2.1 x.1.2.2.2.2.1 x.2.2.1.1 x.2.2.2.1
noncomputable def Zq82_l0_0_s (N : Nat) : LSum := ⟨Zq82_l0_0_sh, Zq82_l0_0_ex, fun x ks => Zq82_l0_0_again N ks N x⟩
theorem Zq82_l0_0_ok (N : Nat) : LoopOk Tryz.prog Tryz.f65.ntmps (Zq82_l0_0_s N) (loopAt (loopAt Zq82_code 0) 0) := loopQ (sh := Zq82_l0_0_sh) (ex := Zq82_l0_0_ex) (N := N) (L := []) (fun R k x ks => Zq82_l0_0_again N ks k x) (Zq82_gok N) (fun _ _ _ => rfl) (fun R k x ks => by kernel_rfl) trivial (by kernel_rfl)
noncomputable def Zq82_l0_sh : Sh := ⟨[(0, .one (.ro LLI)), (2, .one (.adr 0 0)), (3, .one (.adr 1 0)), (4, .one (.ro I))], [.box [.nilsl, .nilsl], .box [.ro LLI, .ref 2], .sl 108 QII .own]⟩
noncomputable def Zq82_l0_ex : List (Ex × Sh) := [(.exit 0, ⟨[(2, .one (.adr 0 0)), (3, .one (.adr 1 0))], [.box [.nilsl, .nilsl], .box [.ro LLI, .ref 2], .sl 108 QII .own]⟩)]
noncomputable def Zq82_l0 {R : Type} (N : Nat) (k0 : (List (List Int)) → (List (Int × Int)) → Option R) : Nat → (List (List Int)) → Int → (List (List Int)) → (List (Int × Int)) → Option R
 | 0, _, _, _, _ => none
 | K + 1, states1, i, o, o1 =>
 (br (ilt i (tLen states1))
 (Zq82_l0_0 N (fun states2 i1 o2 o3 => Zq82_l0 N k0 K states2 (IntKind.i64.wrap (i1 + 1)) o2 o3) N states1 i (IntKind.i64.wrap (i + 1)) o o1)
 (k0 o o1))
noncomputable def Zq82_l0_again {R : Type} (N : Nat) (ks : KS Zq82_l0_ex R) (k : Nat) (x : Zq82_l0_sh.T) : Option R :=
 Zq82_l0 N (fun y0 y1 => ks 0 (((), (), ()), (((), (), ()), (y0, (), ()), y1, ()))) k x.1.1 x.1.2.2.2.1 x.2.2.1.1 x.2.2.2.1
noncomputable def Zq82_l0_s (N : Nat) : LSum := ⟨Zq82_l0_sh, Zq82_l0_ex, fun x ks => Zq82_l0_again N ks N x⟩
theorem Zq82_l0_ok (N : Nat) : LoopOk Tryz.prog Tryz.f65.ntmps (Zq82_l0_s N) (loopAt Zq82_code 0) := loopQ (sh := Zq82_l0_sh) (ex := Zq82_l0_ex) (N := N) (L := [Zq82_l0_0_s N]) (fun R k x ks => Zq82_l0_again N ks k x) (Zq82_gok N) (fun _ _ _ => rfl) (fun R k x ks => by kernel_rfl) ⟨Zq82_l0_0_ok N, trivial⟩ (by kernel_rfl)
noncomputable def Zq82 (N : Nat) (states : (List (List Int))) : Option ((((List (List Int)) × (List (Int × Int))) × Unit) × (Unit)) :=
 Zq82_l0 N (fun o o1 => some (((o, o1), ()), ())) N states 0 states []
noncomputable def Zq82_S (N : Nat) : FSum := ⟨Zq82_ps, Zq82_rs, fun x => Zq82 N x.1⟩
theorem Zq82_pc (N : Nat) : PC Tryz.prog 65 (Zq82_S N) := pcQ (L := [Zq82_l0_s N]) (Zq82_gok N) Tryz.call65 Tryz.func65 (fun x => by kernel_rfl) ⟨Zq82_l0_ok N, trivial⟩ (by kernel_rfl)

abbrev Zq53_ps : List (PV.Mode × Ty) := [(.ro, QILLI)]
abbrev Zq53_rs : List (Bool × Ty) := [(false, QLLILQII), (true, .bool)]
noncomputable def Zq53_G (N : Nat) : GTab := gOf [(36, Zq75_S N), (43, Zq80_S N), (65, Zq82_S N)]
theorem Zq53_gok (N : Nat) : GOk Tryz.prog (Zq53_G N) := gOf_ok ⟨Zq75_pc N, Zq80_pc N, Zq82_pc N, trivial⟩
noncomputable def Zq53_code : Code := (Tryz.f18.body).getD .skip
noncomputable def Zq53 (N : Nat) (f : (Int × (List (List Int)))) : Option ((((List (List Int)) × (List (Int × Int))) × Bool × Unit) × (Unit)) :=
 ((Zq75 N (f.1, f.2)).bind fun r =>
 (br (!r.1.1)
 (some ((([], []), false, ()), ()))
 (((Zq80 N (f.1, f.2)).bind fun r1 =>
 ((Zq82 N r1.1.1).bind fun r2 =>
 some (((r2.1.1.1, r2.1.1.2), true, ()), ()))))))
noncomputable def Zq53_S (N : Nat) : FSum := ⟨Zq53_ps, Zq53_rs, fun x => Zq53 N x.1⟩
theorem Zq53_pc (N : Nat) : PC Tryz.prog 18 (Zq53_S N) := pcQ (L := []) (Zq53_gok N) Tryz.call18 Tryz.func18 (fun x => by kernel_rfl) trivial (by kernel_rfl)
end Go.Proofs.YtfilchmabmfmaaaGreat
