/- Functions of the program as functions on data. -/
import Derived.Test.YtahehkidnfmfnaaGreatExchangesFb
set_option linter.all false
namespace Go.Proofs.YtahehkidnfmfnaaGreat
open Go Go.PV
abbrev Zq9_ps : List (PV.Mode × Ty) := [(.ro, QILQII), (.ro, I), (.ro, I)]
abbrev Zq9_rs : List (Bool × Ty) := [(true, .bool)]
noncomputable def Zq9_G (N : Nat) : GTab := gOf [(48, Zq48_S N), (117, Zq68_S N)]
theorem Zq9_gok (N : Nat) : GOk Tryz.prog (Zq9_G N) := gOf_ok ⟨Zq48_pc N, Zq68_pc N, trivial⟩
noncomputable def Zq9_code : Code := (Tryz.f84.body).getD .skip
noncomputable def Zq9 (N : Nat) (g : (Int × (List (Int × Int)))) (a : Int) (b : Int) : Option ((Bool × Unit) × (Unit)) :=
 ((Zq48 N a b).bind fun r =>
 ((Zq68 N g.2 (r.1.1.1, r.1.1.2)).bind fun r1 =>
 some ((r1.1.1, ()), ())))
noncomputable def Zq9_S (N : Nat) : FSum := ⟨Zq9_ps, Zq9_rs, fun x => Zq9 N x.1 x.2.1 x.2.2.1⟩
theorem Zq9_pc (N : Nat) : PC Tryz.prog 84 (Zq9_S N) := pcQ (L := []) (Zq9_gok N) Tryz.call84 Tryz.func84 (fun x => by kernel_rfl) trivial (by kernel_rfl)

abbrev Zq14_ps : List (PV.Mode × Ty) := [(.ro, QILQII), (.ro, I)]
abbrev Zq14_rs : List (Bool × Ty) := [(true, LI)]
noncomputable def Zq14_G (N : Nat) : GTab := gOf [(84, Zq9_S N)]
theorem Zq14_gok (N : Nat) : GOk Tryz.prog (Zq14_G N) := gOf_ok ⟨Zq9_pc N, trivial⟩
noncomputable def Zq14_code : Code := (Tryz.f104.body).getD .skip
noncomputable def Zq14_l0_sh : Sh := ⟨[(1, .one (.ro I)), (2, .one (.adr 0 0)), (5, .one (.ref 1)), (9, .one (.ro I)), (10, .one (.ro I))], [.box [.ro I, .ro LQII], .sl 3 I .own]⟩
noncomputable def Zq14_l0_ex : List (Ex × Sh) := [(.exit 0, ⟨[(5, .one (.ref 0))], [.sl 3 I .own]⟩)]
noncomputable def Zq14_l0 {R : Type} (N : Nat) (k0 : (List Int) → Option R) : Nat → Int → Int → Int → Int → (List (Int × Int)) → (List Int) → Option R
 | 0, _, _, _, _, _, _ => none
 | K + 1, x1, x2, x3, o, o1, o2 =>
 (br (ilt x3 x2)
 ((br (ine x3 x1)
 (((Zq9 N (o, o1) x1 x3).bind fun r =>
 (br r.1.1
 ((chk (room o2 [x3])
 (Zq14_l0 N k0 K x1 x2 (IntKind.i64.wrap (x3 + 1)) o o1 (tApp o2 [x3]))))
 (Zq14_l0 N k0 K x1 x2 (IntKind.i64.wrap (x3 + 1)) o o1 o2))))
 (Zq14_l0 N k0 K x1 x2 (IntKind.i64.wrap (x3 + 1)) o o1 o2)))
 (k0 o2))
noncomputable def Zq14_l0_again {R : Type} (N : Nat) (ks : KS Zq14_l0_ex R) (k : Nat) (x : Zq14_l0_sh.T) : Option R :=
 Zq14_l0 N (fun y0 => ks 0 (((), ()), (y0, ()))) k x.1.1 x.1.2.2.2.1 x.1.2.2.2.2.1 x.2.1.1 x.2.1.2.1 x.2.2.1
noncomputable def Zq14_l0_s (N : Nat) : LSum := ⟨Zq14_l0_sh, Zq14_l0_ex, fun x ks => Zq14_l0_again N ks N x⟩
theorem Zq14_l0_ok (N : Nat) : LoopOk Tryz.prog Tryz.f104.ntmps (Zq14_l0_s N) (loopAt Zq14_code 0) := loopQ (sh := Zq14_l0_sh) (ex := Zq14_l0_ex) (N := N) (L := []) (fun R k x ks => Zq14_l0_again N ks k x) (Zq14_gok N) (fun _ _ _ => rfl) (fun R k x ks => by kernel_rfl) trivial (by kernel_rfl)
noncomputable def Zq14 (N : Nat) (g : (Int × (List (Int × Int)))) (x : Int) : Option (((List Int) × Unit) × (Unit)) :=
 Zq14_l0 N (fun o => some ((o, ()), ())) N x g.1 0 g.1 g.2 []
noncomputable def Zq14_S (N : Nat) : FSum := ⟨Zq14_ps, Zq14_rs, fun x => Zq14 N x.1 x.2.1⟩
theorem Zq14_pc (N : Nat) : PC Tryz.prog 104 (Zq14_S N) := pcQ (L := [Zq14_l0_s N]) (Zq14_gok N) Tryz.call104 Tryz.func104 (fun x => by kernel_rfl) ⟨Zq14_l0_ok N, trivial⟩ (by kernel_rfl)

abbrev Zq10_ps : List (PV.Mode × Ty) := [(.ro, QILQII), (.ro, I), (.ro, U64)]
abbrev Zq10_rs : List (Bool × Ty) := [(true, .bool)]
noncomputable def Zq10_G (N : Nat) : GTab := gOf [(102, Zq6_S N), (101, Zq11_S N), (85, Zq32_S N), (84, Zq9_S N), (103, Zq31_S N), (104, Zq14_S N), (57, Zq30_S N)]
theorem Zq10_gok (N : Nat) : GOk Tryz.prog (Zq10_G N) := gOf_ok ⟨Zq6_pc N, Zq11_pc N, Zq32_pc N, Zq9_pc N, Zq31_pc N, Zq14_pc N, Zq30_pc N, trivial⟩
noncomputable def Zq10_code : Code := (Tryz.f56.body).getD .skip
noncomputable def Zq10_l0_0_sh : Sh := ⟨[(3, .one (.adr 0 0)), (7, .one (.ref 1)), (9, .one (.ro I)), (26, .one (.ref 1)), (27, .one (.ro I)), (28, .one (.ro I)), (35, .one (.sub 1 1)), (36, .one (.ro I)), (37, .one (.ro I))], [.box [.ro I, .ro LQII], .sl 3 I .own]⟩
noncomputable def Zq10_l0_0_ex : List (Ex × Sh) := [(.ret, ⟨[(6, .one (.ro .bool))], []⟩), (.exit 3, ⟨[(3, .one (.adr 0 0)), (7, .one (.ref 1)), (26, .one (.ref 1)), (27, .one (.ro I)), (28, .one (.ro I))], [.box [.ro I, .ro LQII], .sl 3 I .own]⟩)]
noncomputable def Zq10_l0_0 {R : Type} (N : Nat) (k0 : Bool → Option R) (k1 : Int → Int → Int → (List (Int × Int)) → (List Int) → Option R) : Nat → Int → Int → Int → Int → Int → Int → Int → Int → (List (Int × Int)) → (List Int) → Option R
 | 0, _, _, _, _, _, _, _, _, _, _ => none
 | K + 1, x2, x3, x4, x5, x6, x7, x8, o3, o4, o5 =>
 (br (ilt x8 x7)
 ((chk (ile 0 x8 && ilt x8 (x6 - x5))
 ((Zq9 N (o3, o4) x2 (rdI o5 (x5 + x8))).bind fun r3 =>
 (br (!r3.1.1)
 (k0 false)
 (Zq10_l0_0 N k0 k1 K x2 x3 x4 x5 x6 x7 (IntKind.i64.wrap (x8 + 1)) o3 o4 o5)))))
 (k1 x3 x4 o3 o4 o5))
noncomputable def Zq10_l0_0_again {R : Type} (N : Nat) (ks : KS Zq10_l0_0_ex R) (k : Nat) (x : Zq10_l0_0_sh.T) : Option R :=
 Zq10_l0_0 N (fun y0 => ks 0 ((y0, ()), ())) (fun y0 y1 y2 y3 y4 => ks 1 (((), (), (), y0, y1, ()), ((y2, y3, ()), y4, ()))) k x.1.2.2.1 x.1.2.2.2.2.1 x.1.2.2.2.2.2.1 x.1.2.2.2.2.2.2.1.1 x.1.2.2.2.2.2.2.1.2 x.1.2.2.2.2.2.2.2.1 x.1.2.2.2.2.2.2.2.2.1 x.2.1.1 x.2.1.2.1 x.2.2.1
noncomputable def Zq10_l0_0_s (N : Nat) : LSum := ⟨Zq10_l0_0_sh, Zq10_l0_0_ex, fun x ks => Zq10_l0_0_again N ks N x⟩
theorem Zq10_l0_0_ok (N : Nat) : LoopOk Tryz.prog Tryz.f56.ntmps (Zq10_l0_0_s N) (loopAt (loopAt Zq10_code 0) 0) := loopQ (sh := Zq10_l0_0_sh) (ex := Zq10_l0_0_ex) (N := N) (L := []) (fun R k x ks => Zq10_l0_0_again N ks k x) (Zq10_gok N) (fun _ _ _ => rfl) (fun R k x ks => by kernel_rfl) trivial (by kernel_rfl)
noncomputable def Zq10_l0_sh : Sh := ⟨[(3, .one (.adr 0 0)), (7, .one (.ref 1)), (26, .one (.ref 1)), (27, .one (.ro I)), (28, .one (.ro I))], [.box [.ro I, .ro LQII], .sl 3 I .own]⟩
noncomputable def Zq10_l0_ex : List (Ex × Sh) := [(.ret, ⟨[(6, .one (.ro .bool))], []⟩), (.exit 1, ⟨[], []⟩)]
noncomputable def Zq10_l0 {R : Type} (N : Nat) (k0 : Bool → Option R) (k1 : Unit → Option R) : Nat → Int → Int → Int → (List (Int × Int)) → (List Int) → Option R
 | 0, _, _, _, _, _ => none
 | K + 1, x, x1, o, o1, o2 =>
 (br (ilt x1 x)
 ((chk (inb o2 x1)
 (chk (ile 0 0 && ile 0 x1 && ile x1 (tLen o2))
 (Zq10_l0_0 N (fun x2 => k0 x2) (fun x3 x4 o3 o4 o5 => Zq10_l0 N k0 k1 K x3 (IntKind.i64.wrap (x4 + 1)) o3 o4 o5) N (rdI o2 x1) x x1 0 x1 (x1 - 0) 0 o o1 o2))))
 (k1 ()))
noncomputable def Zq10_l0_again {R : Type} (N : Nat) (ks : KS Zq10_l0_ex R) (k : Nat) (x : Zq10_l0_sh.T) : Option R :=
 Zq10_l0 N (fun y0 => ks 0 ((y0, ()), ())) (fun (_ : Unit) => ks 1 ((), ())) k x.1.2.2.2.1 x.1.2.2.2.2.1 x.2.1.1 x.2.1.2.1 x.2.2.1
noncomputable def Zq10_l0_s (N : Nat) : LSum := ⟨Zq10_l0_sh, Zq10_l0_ex, fun x ks => Zq10_l0_again N ks N x⟩
theorem Zq10_l0_ok (N : Nat) : LoopOk Tryz.prog Tryz.f56.ntmps (Zq10_l0_s N) (loopAt Zq10_code 0) := loopQ (sh := Zq10_l0_sh) (ex := Zq10_l0_ex) (N := N) (L := [Zq10_l0_0_s N]) (fun R k x ks => Zq10_l0_again N ks k x) (Zq10_gok N) (fun _ _ _ => rfl) (fun R k x ks => by kernel_rfl) ⟨Zq10_l0_0_ok N, trivial⟩ (by kernel_rfl)
noncomputable def Zq10_l1_sh : Sh := ⟨[(2, .one (.ro U64)), (3, .one (.adr 0 0)), (49, .one (.ro I)), (50, .one (.ro I))], [.box [.ro I, .ro LQII]]⟩
noncomputable def Zq10_l1_ex : List (Ex × Sh) := [(.ret, ⟨[(6, .one (.ro .bool))], []⟩), (.exit 5, ⟨[], []⟩)]
noncomputable def Zq10_l1 {R : Type} (N : Nat) (k0 : Bool → Option R) (k1 : Unit → Option R) : Nat → Int → Int → Int → Int → (List (Int × Int)) → Option R
 | 0, _, _, _, _, _ => none
 | K + 1, x1, x2, x3, o, o1 =>
 (br (ilt x3 x2)
 (((Zq31 N x1 x3).bind fun r3 =>
 (br (!r3.1.1)
 (((Zq14 N (o, o1) x3).bind fun r4 =>
 ((Zq30 N r4.1.1).bind fun r5 =>
 (br (ieq (bitop .and .u64 r5.1.1 x1) 0)
 (k0 false)
 (Zq10_l1 N k0 k1 K x1 x2 (IntKind.i64.wrap (x3 + 1)) o o1)))))
 (Zq10_l1 N k0 k1 K x1 x2 (IntKind.i64.wrap (x3 + 1)) o o1))))
 (k1 ()))
noncomputable def Zq10_l1_again {R : Type} (N : Nat) (ks : KS Zq10_l1_ex R) (k : Nat) (x : Zq10_l1_sh.T) : Option R :=
 Zq10_l1 N (fun y0 => ks 0 ((y0, ()), ())) (fun (_ : Unit) => ks 1 ((), ())) k x.1.1 x.1.2.2.1 x.1.2.2.2.1 x.2.1.1 x.2.1.2.1
noncomputable def Zq10_l1_s (N : Nat) : LSum := ⟨Zq10_l1_sh, Zq10_l1_ex, fun x ks => Zq10_l1_again N ks N x⟩
theorem Zq10_l1_ok (N : Nat) : LoopOk Tryz.prog Tryz.f56.ntmps (Zq10_l1_s N) (loopAt Zq10_code 1) := loopQ (sh := Zq10_l1_sh) (ex := Zq10_l1_ex) (N := N) (L := []) (fun R k x ks => Zq10_l1_again N ks k x) (Zq10_gok N) (fun _ _ _ => rfl) (fun R k x ks => by kernel_rfl) trivial (by kernel_rfl)
noncomputable def Zq10 (N : Nat) (c : (Int × (List (Int × Int)))) (c1 : Int) (c2 : Int) : Option ((Bool × Unit) × (Unit)) :=
 (br (ieq c1 1)
 (((Zq6 N (c.1, c.2)).bind fun r =>
 ((Zq11 N (c.1, c.2) (bitop .andNot .u64 r.1.1 c2)).bind fun r1 =>
 some ((r1.1.1, ()), ()))))
 ((br (ieq c1 2)
 (((Zq32 N c2).bind fun r2 =>
 Zq10_l0 N (fun x => some ((x, ()), ())) (fun (_ : Unit) => some ((true, ()), ())) N (tLen r2.1.1) 0 c.1 c.2 r2.1.1))
 (Zq10_l1 N (fun x1 => some ((x1, ()), ())) (fun (_ : Unit) => some ((true, ()), ())) N c2 c.1 0 c.1 c.2))))
noncomputable def Zq10_S (N : Nat) : FSum := ⟨Zq10_ps, Zq10_rs, fun x => Zq10 N x.1 x.2.1 x.2.2.1⟩
theorem Zq10_pc (N : Nat) : PC Tryz.prog 56 (Zq10_S N) := pcQ (L := [Zq10_l0_s N, Zq10_l1_s N]) (Zq10_gok N) Tryz.call56 Tryz.func56 (fun x => by kernel_rfl) ⟨Zq10_l0_ok N, Zq10_l1_ok N, trivial⟩ (by kernel_rfl)

abbrev Zq18_ps : List (PV.Mode × Ty) := [(.ro, QILQII), (.ro, I), (.ro, LI)]
abbrev Zq18_rs : List (Bool × Ty) := [(true, .bool), (true, .bool)]
noncomputable def Zq18_G (N : Nat) : GTab := gOf [(55, Zq43_S N), (57, Zq30_S N), (56, Zq10_S N)]
theorem Zq18_gok (N : Nat) : GOk Tryz.prog (Zq18_G N) := gOf_ok ⟨Zq43_pc N, Zq30_pc N, Zq10_pc N, trivial⟩
noncomputable def Zq18_code : Code := (Tryz.f19.body).getD .skip
noncomputable def Zq18 (N : Nat) (g : (Int × (List (Int × Int)))) (kind : Int) (setv : (List Int)) : Option ((Bool × Bool × Unit) × (Unit)) :=
 ((Zq43 N (g.1, g.2) kind setv).bind fun r =>
 (br (!r.1.1)
 (some ((false, false, ()), ()))
 (((Zq30 N setv).bind fun r1 =>
 ((Zq10 N (g.1, g.2) kind r1.1.1).bind fun r2 =>
 some ((r2.1.1, true, ()), ()))))))
noncomputable def Zq18_S (N : Nat) : FSum := ⟨Zq18_ps, Zq18_rs, fun x => Zq18 N x.1 x.2.1 x.2.2.1⟩
theorem Zq18_pc (N : Nat) : PC Tryz.prog 19 (Zq18_S N) := pcQ (L := []) (Zq18_gok N) Tryz.call19 Tryz.func19 (fun x => by kernel_rfl) trivial (by kernel_rfl)

abbrev Zq40_ps : List (PV.Mode × Ty) := [(.ro, QILQII), (.ro, I), (.ro, LI)]
abbrev Zq40_rs : List (Bool × Ty) := [(true, .bool)]
noncomputable def Zq40_G (N : Nat) : GTab := gOf [(19, Zq18_S N)]
theorem Zq40_gok (N : Nat) : GOk Tryz.prog (Zq40_G N) := gOf_ok ⟨Zq18_pc N, trivial⟩
noncomputable def Zq40_code : Code := (Tryz.f27.body).getD .skip
noncomputable def Zq40 (N : Nat) (g : (Int × (List (Int × Int)))) (kind : Int) (setv : (List Int)) : Option ((Bool × Unit) × (Unit)) :=
 ((Zq18 N (g.1, g.2) kind setv).bind fun r =>
 some ((r.1.1, ()), ()))
noncomputable def Zq40_S (N : Nat) : FSum := ⟨Zq40_ps, Zq40_rs, fun x => Zq40 N x.1 x.2.1 x.2.2.1⟩
theorem Zq40_pc (N : Nat) : PC Tryz.prog 27 (Zq40_S N) := pcQ (L := []) (Zq40_gok N) Tryz.call27 Tryz.func27 (fun x => by kernel_rfl) trivial (by kernel_rfl)

abbrev Zq46_ps : List (PV.Mode × Ty) := [(.ro, QILQII), (.ro, I), (.ro, I)]
abbrev Zq46_rs : List (Bool × Ty) := [(true, .bool)]
noncomputable def Zq46_G (N : Nat) : GTab := gOf [(76, Zq19_S N), (77, Zq39_S N), (78, Zq34_S N)]
theorem Zq46_gok (N : Nat) : GOk Tryz.prog (Zq46_G N) := gOf_ok ⟨Zq19_pc N, Zq39_pc N, Zq34_pc N, trivial⟩
noncomputable def Zq46_code : Code := (Tryz.f34.body).getD .skip
noncomputable def Zq46 (N : Nat) (g : (Int × (List (Int × Int)))) (kind : Int) (kv : Int) : Option ((Bool × Unit) × (Unit)) :=
 ((Zq19 N (g.1, g.2)).bind fun r =>
 (br r.1.1
 (((Zq39 N kind).bind fun r1 =>
 (br r1.1.1
 (((Zq34 N kv 0 g.1).bind fun r2 =>
 some ((r2.1.1, ()), ())))
 (some ((false, ()), ())))))
 (some ((false, ()), ()))))
noncomputable def Zq46_S (N : Nat) : FSum := ⟨Zq46_ps, Zq46_rs, fun x => Zq46 N x.1 x.2.1 x.2.2.1⟩
theorem Zq46_pc (N : Nat) : PC Tryz.prog 34 (Zq46_S N) := pcQ (L := []) (Zq46_gok N) Tryz.call34 Tryz.func34 (fun x => by kernel_rfl) trivial (by kernel_rfl)

abbrev Zq65_ps : List (PV.Mode × Ty) := [(.ro, LI), (.ro, LI)]
abbrev Zq65_rs : List (Bool × Ty) := [(true, I)]
noncomputable def Zq65_G (N : Nat) : GTab := gOf [(90, Zq0_S N)]
theorem Zq65_gok (N : Nat) : GOk Tryz.prog (Zq65_G N) := gOf_ok ⟨Zq0_pc N, trivial⟩
noncomputable def Zq65_code : Code := (Tryz.f44.body).getD .skip
noncomputable def Zq65_l0_sh : Sh := ⟨[(0, .one (.ro LI)), (1, .one (.ro LI)), (9, .one (.ro LI)), (10, .one (.ro I)), (11, .one (.ro I))], []⟩
noncomputable def Zq65_l0_ex : List (Ex × Sh) := [(.ret, ⟨[(4, .one (.ro I))], []⟩), (.exit 0, ⟨[(0, .one (.ro LI)), (1, .one (.ro LI))], []⟩)]
noncomputable def Zq65_l0 {R : Type} (N : Nat) (k0 : Int → Option R) (k1 : (List Int) → (List Int) → Option R) : Nat → (List Int) → (List Int) → (List Int) → Int → Int → Option R
 | 0, _, _, _, _, _ => none
 | K + 1, s11, s21, x, x1, x2 =>
 (br (ilt x2 x1)
 ((chk (inb x x2)
 (br (ile (tLen s21) x2)
 (k0 1)
 ((chk (inb s21 x2)
 ((Zq0 N (rdI x x2) (rdI s21 x2)).bind fun r =>
 (br (ine r.1.1 0)
 (k0 r.1.1)
 (Zq65_l0 N k0 k1 K s11 s21 x x1 (IntKind.i64.wrap (x2 + 1))))))))))
 (k1 s11 s21))
noncomputable def Zq65_l0_again {R : Type} (N : Nat) (ks : KS Zq65_l0_ex R) (k : Nat) (x : Zq65_l0_sh.T) : Option R :=
 Zq65_l0 N (fun y0 => ks 0 ((y0, ()), ())) (fun y0 y1 => ks 1 ((y0, y1, ()), ())) k x.1.1 x.1.2.1 x.1.2.2.1 x.1.2.2.2.1 x.1.2.2.2.2.1
noncomputable def Zq65_l0_s (N : Nat) : LSum := ⟨Zq65_l0_sh, Zq65_l0_ex, fun x ks => Zq65_l0_again N ks N x⟩
theorem Zq65_l0_ok (N : Nat) : LoopOk Tryz.prog Tryz.f44.ntmps (Zq65_l0_s N) (loopAt Zq65_code 0) := loopQ (sh := Zq65_l0_sh) (ex := Zq65_l0_ex) (N := N) (L := []) (fun R k x ks => Zq65_l0_again N ks k x) (Zq65_gok N) (fun _ _ _ => rfl) (fun R k x ks => by kernel_rfl) trivial (by kernel_rfl)
noncomputable def Zq65 (N : Nat) (s1 : (List Int)) (s2 : (List Int)) : Option ((Int × Unit) × (Unit)) :=
 Zq65_l0 N (fun x => some ((x, ()), ())) (fun s11 s21 => (br (ilt (tLen s11) (tLen s21))
 (some (((-1), ()), ()))
 (some ((0, ()), ())))) N s1 s2 s1 (tLen s1) 0
noncomputable def Zq65_S (N : Nat) : FSum := ⟨Zq65_ps, Zq65_rs, fun x => Zq65 N x.1 x.2.1⟩
theorem Zq65_pc (N : Nat) : PC Tryz.prog 44 (Zq65_S N) := pcQ (L := [Zq65_l0_s N]) (Zq65_gok N) Tryz.call44 Tryz.func44 (fun x => by kernel_rfl) ⟨Zq65_l0_ok N, trivial⟩ (by kernel_rfl)

abbrev Zq74_ps : List (PV.Mode × Ty) := [(.mut, LLI), (.own, K44Un)]
abbrev Zq74_rs : List (Bool × Ty) := []
noncomputable def Zq74 (N : Nat) (x : List (List Int)) (_ : Unit) : Option (Unit × (List (List Int) × Unit)) := sortF (fun a b => (Zq65 N a b).map fun z => z.1.1) x
noncomputable def Zq74_S (N : Nat) : FSum := ⟨Zq74_ps, Zq74_rs, fun x => Zq74 N x.1 x.2.1⟩
theorem Zq74_pc (N : Nat) : PC Tryz.prog 43 (Zq74_S N) := sortRows_pc (fc := fun a b => Zq65 N a b) (sortsAt Tryz.sortL) (sortsNone Tryz.sortL) Tryz.call43 (Zq65_pc N)

abbrev Zq15_ps : List (PV.Mode × Ty) := [(.ro, QILQII), (.ro, FU64Bo)]
abbrev Zq15_rs : List (Bool × Ty) := [(true, LLI)]
noncomputable def Zq15_G (N : Nat) : GTab := gOf [(102, Zq6_S N), (85, Zq32_S N), (43, Zq74_S N)]
theorem Zq15_gok (N : Nat) : GOk Tryz.prog (Zq15_G N) := gOf_ok ⟨Zq6_pc N, Zq32_pc N, Zq74_pc N, trivial⟩
noncomputable def Zq15_code : Code := (Tryz.f79.body).getD .skip
noncomputable def Zq15_l0_sh : Sh := ⟨[(1, .one (.ro FU64Bo)), (2, .one (.adr 0 0)), (5, .one (.ref 1)), (6, .one (.ro U64))], [.box [.ro I, .ro LQII], .sl 27 LI .deep]⟩
noncomputable def Zq15_l0_ex : List (Ex × Sh) := [(.exit 0, ⟨[(5, .one (.ref 0))], [.sl 27 LI .deep]⟩)]
noncomputable def Zq15_l0 {R : Type} (N : Nat) (k0 : (List (List Int)) → Option R) : Nat → (Int → Option Bool) → Int → Int → (List (Int × Int)) → (List (List Int)) → Option R
 | 0, _, _, _, _, _ => none
 | K + 1, is1, b, o, o1, o2 =>
 ((Zq6 N (o, o1)).bind fun r =>
 (br (ile b r.1.1)
 (((is1 b).bind fun v =>
 (br v
 (((Zq32 N b).bind fun r1 =>
 (chk (room o2 [r1.1.1])
 (Zq15_l0 N k0 K is1 (IntKind.u64.wrap (b + 1)) o o1 (tApp o2 [r1.1.1])))))
 (Zq15_l0 N k0 K is1 (IntKind.u64.wrap (b + 1)) o o1 o2))))
 (k0 o2)))
noncomputable def Zq15_l0_again {R : Type} (N : Nat) (ks : KS Zq15_l0_ex R) (k : Nat) (x : Zq15_l0_sh.T) : Option R :=
 Zq15_l0 N (fun y0 => ks 0 (((), ()), (y0, ()))) k x.1.1 x.1.2.2.2.1 x.2.1.1 x.2.1.2.1 x.2.2.1
noncomputable def Zq15_l0_s (N : Nat) : LSum := ⟨Zq15_l0_sh, Zq15_l0_ex, fun x ks => Zq15_l0_again N ks N x⟩
theorem Zq15_l0_ok (N : Nat) : LoopOk Tryz.prog Tryz.f79.ntmps (Zq15_l0_s N) (loopAt Zq15_code 0) := loopQ (sh := Zq15_l0_sh) (ex := Zq15_l0_ex) (N := N) (L := []) (fun R k x ks => Zq15_l0_again N ks k x) (Zq15_gok N) (fun _ _ _ => rfl) (fun R k x ks => by kernel_rfl) trivial (by kernel_rfl)
noncomputable def Zq15 (N : Nat) (g : (Int × (List (Int × Int)))) (is : (Int → Option Bool)) : Option (((List (List Int)) × Unit) × (Unit)) :=
 Zq15_l0 N (fun o => ((Zq74 N o ()).bind fun r =>
 some ((r.2.1, ()), ()))) N is 0 g.1 g.2 []
noncomputable def Zq15_S (N : Nat) : FSum := ⟨Zq15_ps, Zq15_rs, fun x => Zq15 N x.1 x.2.1⟩
theorem Zq15_pc (N : Nat) : PC Tryz.prog 79 (Zq15_S N) := pcQ (L := [Zq15_l0_s N]) (Zq15_gok N) Tryz.call79 Tryz.func79 (fun x => by kernel_rfl) ⟨Zq15_l0_ok N, trivial⟩ (by kernel_rfl)

abbrev Zq60_ps : List (PV.Mode × Ty) := [(.ro, U64)]
abbrev Zq60_rs : List (Bool × Ty) := [(true, I)]
noncomputable def Zq60_G (N : Nat) : GTab := gOf []
theorem Zq60_gok (N : Nat) : GOk Tryz.prog (Zq60_G N) := gOf_ok trivial
noncomputable def Zq60_code : Code := (Tryz.f148.body).getD .skip
noncomputable def Zq60 (N : Nat) (x : Int) : Option ((Int × Unit) × (Unit)) :=
 some (((bitop .and .i64 (IntKind.i64.wrap ((IntKind.u64.wrap ((IntKind.u64.wrap ((IntKind.u64.wrap ((bitop .and .u64 (IntKind.u64.wrap ((shrI .u64 (IntKind.u64.wrap ((bitop .and .u64 (shrI .u64 (IntKind.u64.wrap ((bitop .and .u64 (shrI .u64 x 1) 6148914691236517205) + (bitop .and .u64 x 6148914691236517205))) 2) 3689348814741910323) + (bitop .and .u64 (IntKind.u64.wrap ((bitop .and .u64 (shrI .u64 x 1) 6148914691236517205) + (bitop .and .u64 x 6148914691236517205))) 3689348814741910323))) 4) + (IntKind.u64.wrap ((bitop .and .u64 (shrI .u64 (IntKind.u64.wrap ((bitop .and .u64 (shrI .u64 x 1) 6148914691236517205) + (bitop .and .u64 x 6148914691236517205))) 2) 3689348814741910323) + (bitop .and .u64 (IntKind.u64.wrap ((bitop .and .u64 (shrI .u64 x 1) 6148914691236517205) + (bitop .and .u64 x 6148914691236517205))) 3689348814741910323))))) 1085102592571150095) + (shrI .u64 (bitop .and .u64 (IntKind.u64.wrap ((shrI .u64 (IntKind.u64.wrap ((bitop .and .u64 (shrI .u64 (IntKind.u64.wrap ((bitop .and .u64 (shrI .u64 x 1) 6148914691236517205) + (bitop .and .u64 x 6148914691236517205))) 2) 3689348814741910323) + (bitop .and .u64 (IntKind.u64.wrap ((bitop .and .u64 (shrI .u64 x 1) 6148914691236517205) + (bitop .and .u64 x 6148914691236517205))) 3689348814741910323))) 4) + (IntKind.u64.wrap ((bitop .and .u64 (shrI .u64 (IntKind.u64.wrap ((bitop .and .u64 (shrI .u64 x 1) 6148914691236517205) + (bitop .and .u64 x 6148914691236517205))) 2) 3689348814741910323) + (bitop .and .u64 (IntKind.u64.wrap ((bitop .and .u64 (shrI .u64 x 1) 6148914691236517205) + (bitop .and .u64 x 6148914691236517205))) 3689348814741910323))))) 1085102592571150095) 8))) + (shrI .u64 (IntKind.u64.wrap ((bitop .and .u64 (IntKind.u64.wrap ((shrI .u64 (IntKind.u64.wrap ((bitop .and .u64 (shrI .u64 (IntKind.u64.wrap ((bitop .and .u64 (shrI .u64 x 1) 6148914691236517205) + (bitop .and .u64 x 6148914691236517205))) 2) 3689348814741910323) + (bitop .and .u64 (IntKind.u64.wrap ((bitop .and .u64 (shrI .u64 x 1) 6148914691236517205) + (bitop .and .u64 x 6148914691236517205))) 3689348814741910323))) 4) + (IntKind.u64.wrap ((bitop .and .u64 (shrI .u64 (IntKind.u64.wrap ((bitop .and .u64 (shrI .u64 x 1) 6148914691236517205) + (bitop .and .u64 x 6148914691236517205))) 2) 3689348814741910323) + (bitop .and .u64 (IntKind.u64.wrap ((bitop .and .u64 (shrI .u64 x 1) 6148914691236517205) + (bitop .and .u64 x 6148914691236517205))) 3689348814741910323))))) 1085102592571150095) + (shrI .u64 (bitop .and .u64 (IntKind.u64.wrap ((shrI .u64 (IntKind.u64.wrap ((bitop .and .u64 (shrI .u64 (IntKind.u64.wrap ((bitop .and .u64 (shrI .u64 x 1) 6148914691236517205) + (bitop .and .u64 x 6148914691236517205))) 2) 3689348814741910323) + (bitop .and .u64 (IntKind.u64.wrap ((bitop .and .u64 (shrI .u64 x 1) 6148914691236517205) + (bitop .and .u64 x 6148914691236517205))) 3689348814741910323))) 4) + (IntKind.u64.wrap ((bitop .and .u64 (shrI .u64 (IntKind.u64.wrap ((bitop .and .u64 (shrI .u64 x 1) 6148914691236517205) + (bitop .and .u64 x 6148914691236517205))) 2) 3689348814741910323) + (bitop .and .u64 (IntKind.u64.wrap ((bitop .and .u64 (shrI .u64 x 1) 6148914691236517205) + (bitop .and .u64 x 6148914691236517205))) 3689348814741910323))))) 1085102592571150095) 8))) 16))) + (shrI .u64 (IntKind.u64.wrap ((IntKind.u64.wrap ((bitop .and .u64 (IntKind.u64.wrap ((shrI .u64 (IntKind.u64.wrap ((bitop .and .u64 (shrI .u64 (IntKind.u64.wrap ((bitop .and .u64 (shrI .u64 x 1) 6148914691236517205) + (bitop .and .u64 x 6148914691236517205))) 2) 3689348814741910323) + (bitop .and .u64 (IntKind.u64.wrap ((bitop .and .u64 (shrI .u64 x 1) 6148914691236517205) + (bitop .and .u64 x 6148914691236517205))) 3689348814741910323))) 4) + (IntKind.u64.wrap ((bitop .and .u64 (shrI .u64 (IntKind.u64.wrap ((bitop .and .u64 (shrI .u64 x 1) 6148914691236517205) + (bitop .and .u64 x 6148914691236517205))) 2) 3689348814741910323) + (bitop .and .u64 (IntKind.u64.wrap ((bitop .and .u64 (shrI .u64 x 1) 6148914691236517205) + (bitop .and .u64 x 6148914691236517205))) 3689348814741910323))))) 1085102592571150095) + (shrI .u64 (bitop .and .u64 (IntKind.u64.wrap ((shrI .u64 (IntKind.u64.wrap ((bitop .and .u64 (shrI .u64 (IntKind.u64.wrap ((bitop .and .u64 (shrI .u64 x 1) 6148914691236517205) + (bitop .and .u64 x 6148914691236517205))) 2) 3689348814741910323) + (bitop .and .u64 (IntKind.u64.wrap ((bitop .and .u64 (shrI .u64 x 1) 6148914691236517205) + (bitop .and .u64 x 6148914691236517205))) 3689348814741910323))) 4) + (IntKind.u64.wrap ((bitop .and .u64 (shrI .u64 (IntKind.u64.wrap ((bitop .and .u64 (shrI .u64 x 1) 6148914691236517205) + (bitop .and .u64 x 6148914691236517205))) 2) 3689348814741910323) + (bitop .and .u64 (IntKind.u64.wrap ((bitop .and .u64 (shrI .u64 x 1) 6148914691236517205) + (bitop .and .u64 x 6148914691236517205))) 3689348814741910323))))) 1085102592571150095) 8))) + (shrI .u64 (IntKind.u64.wrap ((bitop .and .u64 (IntKind.u64.wrap ((shrI .u64 (IntKind.u64.wrap ((bitop .and .u64 (shrI .u64 (IntKind.u64.wrap ((bitop .and .u64 (shrI .u64 x 1) 6148914691236517205) + (bitop .and .u64 x 6148914691236517205))) 2) 3689348814741910323) + (bitop .and .u64 (IntKind.u64.wrap ((bitop .and .u64 (shrI .u64 x 1) 6148914691236517205) + (bitop .and .u64 x 6148914691236517205))) 3689348814741910323))) 4) + (IntKind.u64.wrap ((bitop .and .u64 (shrI .u64 (IntKind.u64.wrap ((bitop .and .u64 (shrI .u64 x 1) 6148914691236517205) + (bitop .and .u64 x 6148914691236517205))) 2) 3689348814741910323) + (bitop .and .u64 (IntKind.u64.wrap ((bitop .and .u64 (shrI .u64 x 1) 6148914691236517205) + (bitop .and .u64 x 6148914691236517205))) 3689348814741910323))))) 1085102592571150095) + (shrI .u64 (bitop .and .u64 (IntKind.u64.wrap ((shrI .u64 (IntKind.u64.wrap ((bitop .and .u64 (shrI .u64 (IntKind.u64.wrap ((bitop .and .u64 (shrI .u64 x 1) 6148914691236517205) + (bitop .and .u64 x 6148914691236517205))) 2) 3689348814741910323) + (bitop .and .u64 (IntKind.u64.wrap ((bitop .and .u64 (shrI .u64 x 1) 6148914691236517205) + (bitop .and .u64 x 6148914691236517205))) 3689348814741910323))) 4) + (IntKind.u64.wrap ((bitop .and .u64 (shrI .u64 (IntKind.u64.wrap ((bitop .and .u64 (shrI .u64 x 1) 6148914691236517205) + (bitop .and .u64 x 6148914691236517205))) 2) 3689348814741910323) + (bitop .and .u64 (IntKind.u64.wrap ((bitop .and .u64 (shrI .u64 x 1) 6148914691236517205) + (bitop .and .u64 x 6148914691236517205))) 3689348814741910323))))) 1085102592571150095) 8))) 16))) 32))))) 127), ()), ())
noncomputable def Zq60_S (N : Nat) : FSum := ⟨Zq60_ps, Zq60_rs, fun x => Zq60 N x.1⟩
theorem Zq60_pc (N : Nat) : PC Tryz.prog 148 (Zq60_S N) := pcQ (L := []) (Zq60_gok N) Tryz.call148 Tryz.func148 (fun x => by kernel_rfl) trivial (by kernel_rfl)

abbrev Zq59_ps : List (PV.Mode × Ty) := [(.ro, U64)]
abbrev Zq59_rs : List (Bool × Ty) := [(true, I)]
noncomputable def Zq59_G (N : Nat) : GTab := gOf [(148, Zq60_S N)]
theorem Zq59_gok (N : Nat) : GOk Tryz.prog (Zq59_G N) := gOf_ok ⟨Zq60_pc N, trivial⟩
noncomputable def Zq59_code : Code := (Tryz.f116.body).getD .skip
noncomputable def Zq59 (N : Nat) (x : Int) : Option ((Int × Unit) × (Unit)) :=
 ((Zq60 N x).bind fun r =>
 some ((r.1.1, ()), ()))
noncomputable def Zq59_S (N : Nat) : FSum := ⟨Zq59_ps, Zq59_rs, fun x => Zq59 N x.1⟩
theorem Zq59_pc (N : Nat) : PC Tryz.prog 116 (Zq59_S N) := pcQ (L := []) (Zq59_gok N) Tryz.call116 Tryz.func116 (fun x => by kernel_rfl) trivial (by kernel_rfl)

abbrev Zq33_ps : List (PV.Mode × Ty) := [(.ro, U64)]
abbrev Zq33_rs : List (Bool × Ty) := [(true, I)]
noncomputable def Zq33_G (N : Nat) : GTab := gOf [(116, Zq59_S N)]
theorem Zq33_gok (N : Nat) : GOk Tryz.prog (Zq33_G N) := gOf_ok ⟨Zq59_pc N, trivial⟩
noncomputable def Zq33_code : Code := (Tryz.f81.body).getD .skip
noncomputable def Zq33 (N : Nat) (b : Int) : Option ((Int × Unit) × (Unit)) :=
 ((Zq59 N b).bind fun r =>
 some ((r.1.1, ()), ()))
noncomputable def Zq33_S (N : Nat) : FSum := ⟨Zq33_ps, Zq33_rs, fun x => Zq33 N x.1⟩
theorem Zq33_pc (N : Nat) : PC Tryz.prog 81 (Zq33_S N) := pcQ (L := []) (Zq33_gok N) Tryz.call81 Tryz.func81 (fun x => by kernel_rfl) trivial (by kernel_rfl)

abbrev Zq8_ps : List (PV.Mode × Ty) := [(.ro, U64), (.ro, AI), (.ro, AQILQII), (.ro, AI)]
abbrev Zq8_rs : List (Bool × Ty) := [(true, .bool)]
noncomputable def Zq8_G (N : Nat) : GTab := gOf [(81, Zq33_S N), (56, Zq10_S N)]
theorem Zq8_gok (N : Nat) : GOk Tryz.prog (Zq8_G N) := gOf_ok ⟨Zq33_pc N, Zq10_pc N, trivial⟩
noncomputable def Zq8_code : Code := (Tryz.f80.body).getD .skip
noncomputable def Zq8 (N : Nat) (b : Int) (c : Int) (c1 : (Int × (List (Int × Int)))) (c2 : Int) : Option ((Bool × Unit) × (Unit)) :=
 ((Zq33 N b).bind fun r =>
 (br (ieq r.1.1 c)
 (((Zq10 N c1 c2 b).bind fun r1 =>
 some ((r1.1.1, ()), ())))
 (some ((false, ()), ()))))
noncomputable def Zq8_S (N : Nat) : FSum := ⟨Zq8_ps, Zq8_rs, fun x => Zq8 N x.1 x.2.1 x.2.2.1 x.2.2.2.1⟩
theorem Zq8_pc (N : Nat) : PC Tryz.prog 80 (Zq8_S N) := pcQ (L := []) (Zq8_gok N) Tryz.call80 Tryz.func80 (fun x => by kernel_rfl) trivial (by kernel_rfl)

abbrev Zq7_ps : List (PV.Mode × Ty) := [(.ro, QILQII), (.ro, I), (.ro, I)]
abbrev Zq7_rs : List (Bool × Ty) := [(true, LLI)]
noncomputable def Zq7_G (N : Nat) : GTab := gOf [(79, Zq15_S N), (80, Zq8_S N)]
theorem Zq7_gok (N : Nat) : GOk Tryz.prog (Zq7_G N) := gOf_ok ⟨Zq15_pc N, Zq8_pc N, trivial⟩
noncomputable def Zq7_code : Code := (Tryz.f36.body).getD .skip
noncomputable def Zq7 (N : Nat) (g : (Int × (List (Int × Int)))) (kind : Int) (kv : Int) : Option (((List (List Int)) × Unit) × (Unit)) :=
 ((Zq15 N (g.1, g.2) (fun y0 => (Zq8 N y0 kv (g.1, g.2) kind).bind fun z => some z.1.1)).bind fun r =>
 some ((r.1.1, ()), ()))
noncomputable def Zq7_S (N : Nat) : FSum := ⟨Zq7_ps, Zq7_rs, fun x => Zq7 N x.1 x.2.1 x.2.2.1⟩
theorem Zq7_pc (N : Nat) : PC Tryz.prog 36 (Zq7_S N) := pcQ (L := []) (Zq7_gok N) Tryz.call36 Tryz.func36 (fun x => by kernel_rfl) trivial (by kernel_rfl)

abbrev Zq49_ps : List (PV.Mode × Ty) := [(.own, LLI), (.ro, GLILIBo)]
abbrev Zq49_rs : List (Bool × Ty) := [(true, QLLILQII)]
noncomputable def Zq49_G (N : Nat) : GTab := gOf [(43, Zq74_S N)]
theorem Zq49_gok (N : Nat) : GOk Tryz.prog (Zq49_G N) := gOf_ok ⟨Zq74_pc N, trivial⟩
noncomputable def Zq49_code : Code := (Tryz.f35.body).getD .skip
noncomputable def Zq49_l0_0_sh : Sh := ⟨[(1, .one (.ro GLILIBo)), (4, .one (.adr 0 0)), (5, .one (.adr 1 0)), (6, .one (.ro I)), (7, .one (.el 2)), (16, .one (.ref 2)), (17, .one (.ro I)), (18, .one (.ro I)), (27, .one (.sub 2 1)), (28, .one (.ro I)), (29, .one (.ro I))], [.box [.nilsl, .nilsl], .box [.ref 2, .ref 3], .sl 27 LI .deep, .sl 73 QII .own]⟩
noncomputable def Zq49_l0_0_ex : List (Ex × Sh) := [(.exit 2, ⟨[(1, .one (.ro GLILIBo)), (4, .one (.adr 0 0)), (5, .one (.adr 1 0)), (16, .one (.ref 2)), (17, .one (.ro I)), (18, .one (.ro I))], [.box [.nilsl, .nilsl], .box [.ref 2, .ref 3], .sl 27 LI .deep, .sl 73 QII .own]⟩)]
noncomputable def Zq49_l0_0 {R : Type} (N : Nat) (k0 : ((List Int) → (List Int) → Option Bool) → Int → Int → (List (List Int)) → (List (Int × Int)) → Option R) : Nat → ((List Int) → (List Int) → Option Bool) → Int → Int → Int → Int → Int → Int → Int → Int → (List (List Int)) → (List (Int × Int)) → Option R
 | 0, _, _, _, _, _, _, _, _, _, _, _ => none
 | K + 1, isStep2, i, a, x2, x3, x4, x5, x6, x7, o2, o3 =>
 (br (ilt x7 x6)
 ((chk (ile 0 x7 && ilt x7 (x5 - x4))
 ((isStep2 (rdL o2 a) (rdL o2 (x4 + x7))).bind fun v =>
 (br v
 ((chk (room o3 [(i, (IntKind.i64.wrap ((IntKind.i64.wrap (i + 1)) + x7)))])
 (Zq49_l0_0 N k0 K isStep2 i a x2 x3 x4 x5 x6 (IntKind.i64.wrap (x7 + 1)) o2 (tApp o3 [(i, (IntKind.i64.wrap ((IntKind.i64.wrap (i + 1)) + x7)))]))))
 (Zq49_l0_0 N k0 K isStep2 i a x2 x3 x4 x5 x6 (IntKind.i64.wrap (x7 + 1)) o2 o3)))))
 (k0 isStep2 x2 x3 o2 o3))
noncomputable def Zq49_l0_0_again {R : Type} (N : Nat) (ks : KS Zq49_l0_0_ex R) (k : Nat) (x : Zq49_l0_0_sh.T) : Option R :=
 Zq49_l0_0 N (fun y0 y1 y2 y3 y4 => ks 0 ((y0, (), (), (), y1, y2, ()), (((), (), ()), ((), (), ()), y3, y4, ()))) k x.1.1 x.1.2.2.2.1 x.1.2.2.2.2.1 x.1.2.2.2.2.2.2.1 x.1.2.2.2.2.2.2.2.1 x.1.2.2.2.2.2.2.2.2.1.1 x.1.2.2.2.2.2.2.2.2.1.2 x.1.2.2.2.2.2.2.2.2.2.1 x.1.2.2.2.2.2.2.2.2.2.2.1 x.2.2.2.1 x.2.2.2.2.1
noncomputable def Zq49_l0_0_s (N : Nat) : LSum := ⟨Zq49_l0_0_sh, Zq49_l0_0_ex, fun x ks => Zq49_l0_0_again N ks N x⟩
theorem Zq49_l0_0_ok (N : Nat) : LoopOk Tryz.prog Tryz.f35.ntmps (Zq49_l0_0_s N) (loopAt (loopAt Zq49_code 0) 0) := loopQ (sh := Zq49_l0_0_sh) (ex := Zq49_l0_0_ex) (N := N) (L := []) (fun R k x ks => Zq49_l0_0_again N ks k x) (Zq49_gok N) (fun _ _ _ => rfl) (fun R k x ks => by kernel_rfl) trivial (by kernel_rfl)
noncomputable def Zq49_l0_sh : Sh := ⟨[(1, .one (.ro GLILIBo)), (4, .one (.adr 0 0)), (5, .one (.adr 1 0)), (16, .one (.ref 2)), (17, .one (.ro I)), (18, .one (.ro I))], [.box [.nilsl, .nilsl], .box [.ref 2, .ref 3], .sl 27 LI .deep, .sl 73 QII .own]⟩
noncomputable def Zq49_l0_ex : List (Ex × Sh) := [(.exit 0, ⟨[(4, .one (.adr 0 0)), (5, .one (.adr 1 0))], [.box [.nilsl, .nilsl], .box [.ref 2, .ref 3], .sl 27 LI .deep, .sl 73 QII .own]⟩)]
noncomputable def Zq49_l0 {R : Type} (N : Nat) (k0 : (List (List Int)) → (List (Int × Int)) → Option R) : Nat → ((List Int) → (List Int) → Option Bool) → Int → Int → (List (List Int)) → (List (Int × Int)) → Option R
 | 0, _, _, _, _, _ => none
 | K + 1, isStep1, x, x1, o, o1 =>
 (br (ilt x1 x)
 ((chk (inb o x1)
 (chk (ile 0 (IntKind.i64.wrap (x1 + 1)) && ile (IntKind.i64.wrap (x1 + 1)) (tLen o) && ile (tLen o) (tLen o))
 (Zq49_l0_0 N (fun isStep2 x2 x3 o2 o3 => Zq49_l0 N k0 K isStep2 x2 (IntKind.i64.wrap (x3 + 1)) o2 o3) N isStep1 x1 x1 x x1 (IntKind.i64.wrap (x1 + 1)) (tLen o) ((tLen o) - (IntKind.i64.wrap (x1 + 1))) 0 o o1))))
 (k0 o o1))
noncomputable def Zq49_l0_again {R : Type} (N : Nat) (ks : KS Zq49_l0_ex R) (k : Nat) (x : Zq49_l0_sh.T) : Option R :=
 Zq49_l0 N (fun y0 y1 => ks 0 (((), (), ()), (((), (), ()), ((), (), ()), y0, y1, ()))) k x.1.1 x.1.2.2.2.2.1 x.1.2.2.2.2.2.1 x.2.2.2.1 x.2.2.2.2.1
noncomputable def Zq49_l0_s (N : Nat) : LSum := ⟨Zq49_l0_sh, Zq49_l0_ex, fun x ks => Zq49_l0_again N ks N x⟩
theorem Zq49_l0_ok (N : Nat) : LoopOk Tryz.prog Tryz.f35.ntmps (Zq49_l0_s N) (loopAt Zq49_code 0) := loopQ (sh := Zq49_l0_sh) (ex := Zq49_l0_ex) (N := N) (L := [Zq49_l0_0_s N]) (fun R k x ks => Zq49_l0_again N ks k x) (Zq49_gok N) (fun _ _ _ => rfl) (fun R k x ks => by kernel_rfl) ⟨Zq49_l0_0_ok N, trivial⟩ (by kernel_rfl)
noncomputable def Zq49 (N : Nat) (states : (List (List Int))) (isStep : ((List Int) → (List Int) → Option Bool)) : Option ((((List (List Int)) × (List (Int × Int))) × Unit) × (Unit)) :=
 ((Zq74 N states ()).bind fun r =>
 Zq49_l0 N (fun o o1 => some (((o, o1), ()), ())) N isStep (tLen r.2.1) 0 r.2.1 [])
noncomputable def Zq49_S (N : Nat) : FSum := ⟨Zq49_ps, Zq49_rs, fun x => Zq49 N x.1 x.2.1⟩
theorem Zq49_pc (N : Nat) : PC Tryz.prog 35 (Zq49_S N) := pcQ (L := [Zq49_l0_s N]) (Zq49_gok N) Tryz.call35 Tryz.func35 (fun x => by kernel_rfl) ⟨Zq49_l0_ok N, trivial⟩ (by kernel_rfl)

abbrev Zq47_ps : List (PV.Mode × Ty) := [(.ro, LI), (.ro, LI)]
abbrev Zq47_rs : List (Bool × Ty) := [(true, U64), (true, U64)]
noncomputable def Zq47_G (N : Nat) : GTab := gOf [(57, Zq30_S N)]
theorem Zq47_gok (N : Nat) : GOk Tryz.prog (Zq47_G N) := gOf_ok ⟨Zq30_pc N, trivial⟩
noncomputable def Zq47_code : Code := (Tryz.f82.body).getD .skip
noncomputable def Zq47 (N : Nat) (a : (List Int)) (b : (List Int)) : Option ((Int × Int × Unit) × (Unit)) :=
 ((Zq30 N a).bind fun r =>
 ((Zq30 N b).bind fun r1 =>
 some (((bitop .andNot .u64 r.1.1 r1.1.1), (bitop .andNot .u64 r1.1.1 r.1.1), ()), ())))
noncomputable def Zq47_S (N : Nat) : FSum := ⟨Zq47_ps, Zq47_rs, fun x => Zq47 N x.1 x.2.1⟩
theorem Zq47_pc (N : Nat) : PC Tryz.prog 82 (Zq47_S N) := pcQ (L := []) (Zq47_gok N) Tryz.call82 Tryz.func82 (fun x => by kernel_rfl) trivial (by kernel_rfl)

abbrev Zq38_ps : List (PV.Mode × Ty) := [(.ro, LI), (.ro, LI)]
abbrev Zq38_rs : List (Bool × Ty) := [(true, .bool)]
noncomputable def Zq38_G (N : Nat) : GTab := gOf [(82, Zq47_S N), (81, Zq33_S N)]
theorem Zq38_gok (N : Nat) : GOk Tryz.prog (Zq38_G N) := gOf_ok ⟨Zq47_pc N, Zq33_pc N, trivial⟩
noncomputable def Zq38_code : Code := (Tryz.f37.body).getD .skip
noncomputable def Zq38 (N : Nat) (a : (List Int)) (b : (List Int)) : Option ((Bool × Unit) × (Unit)) :=
 ((Zq47 N a b).bind fun r =>
 ((Zq33 N r.1.1).bind fun r1 =>
 (br (ieq r1.1.1 1)
 (((Zq33 N r.1.2.1).bind fun r2 =>
 some (((ieq r2.1.1 1), ()), ())))
 (some ((false, ()), ())))))
noncomputable def Zq38_S (N : Nat) : FSum := ⟨Zq38_ps, Zq38_rs, fun x => Zq38 N x.1 x.2.1⟩
theorem Zq38_pc (N : Nat) : PC Tryz.prog 37 (Zq38_S N) := pcQ (L := []) (Zq38_gok N) Tryz.call37 Tryz.func37 (fun x => by kernel_rfl) trivial (by kernel_rfl)

abbrev Zq3_ps : List (PV.Mode × Ty) := [(.ro, QILQII), (.ro, I), (.ro, I)]
abbrev Zq3_rs : List (Bool × Ty) := [(true, QLLILQII), (true, .bool)]
noncomputable def Zq3_G (N : Nat) : GTab := gOf [(34, Zq46_S N), (36, Zq7_S N), (35, Zq49_S N), (37, Zq38_S N)]
theorem Zq3_gok (N : Nat) : GOk Tryz.prog (Zq3_G N) := gOf_ok ⟨Zq46_pc N, Zq7_pc N, Zq49_pc N, Zq38_pc N, trivial⟩
noncomputable def Zq3_code : Code := (Tryz.f10.body).getD .skip
noncomputable def Zq3 (N : Nat) (g : (Int × (List (Int × Int)))) (kind : Int) (kv : Int) : Option ((((List (List Int)) × (List (Int × Int))) × Bool × Unit) × (Unit)) :=
 ((Zq46 N (g.1, g.2) kind kv).bind fun r =>
 (br (!r.1.1)
 (some ((([], []), false, ()), ()))
 (((Zq7 N (g.1, g.2) kind kv).bind fun r1 =>
 ((Zq49 N r1.1.1 (fun y0 y1 => (Zq38 N y0 y1).bind fun z => some z.1.1)).bind fun r2 =>
 some (((r2.1.1.1, r2.1.1.2), true, ()), ()))))))
noncomputable def Zq3_S (N : Nat) : FSum := ⟨Zq3_ps, Zq3_rs, fun x => Zq3 N x.1 x.2.1 x.2.2.1⟩
theorem Zq3_pc (N : Nat) : PC Tryz.prog 10 (Zq3_S N) := pcQ (L := []) (Zq3_gok N) Tryz.call10 Tryz.func10 (fun x => by kernel_rfl) trivial (by kernel_rfl)

abbrev Zq61_ps : List (PV.Mode × Ty) := [(.ro, LLI), (.ro, LI), (.ro, GLILII)]
abbrev Zq61_rs : List (Bool × Ty) := [(true, I), (true, .bool)]
noncomputable def Zq61_G (N : Nat) : GTab := gOf []
theorem Zq61_gok (N : Nat) : GOk Tryz.prog (Zq61_G N) := gOf_ok trivial
noncomputable def Zq61_code : Code := (Tryz.f91.body).getD .skip
noncomputable def Zq61_l0_sh : Sh := ⟨[(0, .one (.ro LLI)), (1, .one (.ro LI)), (2, .one (.ro GLILII)), (8, .one (.ro I)), (9, .one (.ro I)), (10, .one (.ro I))], []⟩
noncomputable def Zq61_l0_ex : List (Ex × Sh) := [(.exit 0, ⟨[(0, .one (.ro LLI)), (1, .one (.ro LI)), (2, .one (.ro GLILII)), (8, .one (.ro I)), (9, .one (.ro I))], []⟩)]
noncomputable def Zq61_l0 {R : Type} (N : Nat) (k0 : (List (List Int)) → (List Int) → ((List Int) → (List Int) → Option Int) → Int → Int → Option R) : Nat → (List (List Int)) → (List Int) → ((List Int) → (List Int) → Option Int) → Int → Int → Int → Option R
 | 0, _, _, _, _, _, _ => none
 | K + 1, x1, target1, cmp1, n, i, j =>
 (br (ilt i j)
 ((chk (inb x1 (IntKind.i64.wrap ((shrI .u64 (IntKind.u64.wrap ((IntKind.i64.wrap (i + j)))) 1))))
 ((cmp1 (rdL x1 (IntKind.i64.wrap ((shrI .u64 (IntKind.u64.wrap ((IntKind.i64.wrap (i + j)))) 1)))) target1).bind fun v =>
 (br (ilt v 0)
 (Zq61_l0 N k0 K x1 target1 cmp1 n (IntKind.i64.wrap ((IntKind.i64.wrap ((shrI .u64 (IntKind.u64.wrap ((IntKind.i64.wrap (i + j)))) 1))) + 1)) j)
 (Zq61_l0 N k0 K x1 target1 cmp1 n i (IntKind.i64.wrap ((shrI .u64 (IntKind.u64.wrap ((IntKind.i64.wrap (i + j)))) 1))))))))
 (k0 x1 target1 cmp1 n i))
noncomputable def Zq61_l0_again {R : Type} (N : Nat) (ks : KS Zq61_l0_ex R) (k : Nat) (x : Zq61_l0_sh.T) : Option R :=
 Zq61_l0 N (fun y0 y1 y2 y3 y4 => ks 0 ((y0, y1, y2, y3, y4, ()), ())) k x.1.1 x.1.2.1 x.1.2.2.1 x.1.2.2.2.1 x.1.2.2.2.2.1 x.1.2.2.2.2.2.1
noncomputable def Zq61_l0_s (N : Nat) : LSum := ⟨Zq61_l0_sh, Zq61_l0_ex, fun x ks => Zq61_l0_again N ks N x⟩
theorem Zq61_l0_ok (N : Nat) : LoopOk Tryz.prog Tryz.f91.ntmps (Zq61_l0_s N) (loopAt Zq61_code 0) := loopQ (sh := Zq61_l0_sh) (ex := Zq61_l0_ex) (N := N) (L := []) (fun R k x ks => Zq61_l0_again N ks k x) (Zq61_gok N) (fun _ _ _ => rfl) (fun R k x ks => by kernel_rfl) trivial (by kernel_rfl)
noncomputable def Zq61 (N : Nat) (x : (List (List Int))) (target : (List Int)) (cmp : ((List Int) → (List Int) → Option Int)) : Option ((Int × Bool × Unit) × (Unit)) :=
 Zq61_l0 N (fun x1 target1 cmp1 n i => (br (ilt i n)
 ((chk (inb x1 i)
 ((cmp1 (rdL x1 i) target1).bind fun v =>
 some ((i, (ieq v 0), ()), ()))))
 (some ((i, false, ()), ())))) N x target cmp (tLen x) 0 (tLen x)
noncomputable def Zq61_S (N : Nat) : FSum := ⟨Zq61_ps, Zq61_rs, fun x => Zq61 N x.1 x.2.1 x.2.2.1⟩
theorem Zq61_pc (N : Nat) : PC Tryz.prog 91 (Zq61_S N) := pcQ (L := [Zq61_l0_s N]) (Zq61_gok N) Tryz.call91 Tryz.func91 (fun x => by kernel_rfl) ⟨Zq61_l0_ok N, trivial⟩ (by kernel_rfl)

abbrev Zq26_ps : List (PV.Mode × Ty) := [(.ro, QLLILQII), (.ro, LI)]
abbrev Zq26_rs : List (Bool × Ty) := [(true, I), (true, .bool)]
noncomputable def Zq26_G (N : Nat) : GTab := gOf [(91, Zq61_S N), (44, Zq65_S N)]
theorem Zq26_gok (N : Nat) : GOk Tryz.prog (Zq26_G N) := gOf_ok ⟨Zq61_pc N, Zq65_pc N, trivial⟩
noncomputable def Zq26_code : Code := (Tryz.f47.body).getD .skip
noncomputable def Zq26 (N : Nat) (x : ((List (List Int)) × (List (Int × Int)))) (state : (List Int)) : Option ((Int × Bool × Unit) × (Unit)) :=
 ((Zq61 N x.1 state (fun y0 y1 => (Zq65 N y0 y1).bind fun z => some z.1.1)).bind fun r =>
 some ((r.1.1, r.1.2.1, ()), ()))
noncomputable def Zq26_S (N : Nat) : FSum := ⟨Zq26_ps, Zq26_rs, fun x => Zq26 N x.1 x.2.1⟩
theorem Zq26_pc (N : Nat) : PC Tryz.prog 47 (Zq26_S N) := pcQ (L := []) (Zq26_gok N) Tryz.call47 Tryz.func47 (fun x => by kernel_rfl) trivial (by kernel_rfl)

abbrev Zq76_ps : List (PV.Mode × Ty) := [(.mut, LI)]
abbrev Zq76_rs : List (Bool × Ty) := []
noncomputable def Zq76 (N : Nat) (x : List Int) : Option (Unit × (List Int × Unit)) := sortIF x
noncomputable def Zq76_S (N : Nat) : FSum := ⟨Zq76_ps, Zq76_rs, fun x => Zq76 N x.1⟩
theorem Zq76_pc (N : Nat) : PC Tryz.prog 143 (Zq76_S N) := sortInts_pc (sortsI Tryz.sortIL) (sortsINone Tryz.sortIL) Tryz.call143

abbrev Zq27_ps : List (PV.Mode × Ty) := [(.ro, QLLILQII)]
abbrev Zq27_rs : List (Bool × Ty) := [(true, LLI)]
noncomputable def Zq27_G (N : Nat) : GTab := gOf [(143, Zq76_S N)]
theorem Zq27_gok (N : Nat) : GOk Tryz.prog (Zq27_G N) := gOf_ok ⟨Zq76_pc N, trivial⟩
noncomputable def Zq27_code : Code := (Tryz.f105.body).getD .skip
noncomputable def Zq27_l0_sh : Sh := ⟨[(3, .one (.ref 0)), (13, .one (.ro LQII)), (14, .one (.ro I)), (15, .one (.ro I))], [.sl 27 LI .deep]⟩
noncomputable def Zq27_l0_ex : List (Ex × Sh) := [(.exit 0, ⟨[(3, .one (.ref 0))], [.sl 27 LI .deep]⟩)]
noncomputable def Zq27_l0 {R : Type} (N : Nat) (k0 : (List (List Int)) → Option R) : Nat → (List (Int × Int)) → Int → Int → (List (List Int)) → Option R
 | 0, _, _, _, _ => none
 | K + 1, x1, x2, x3, o =>
 (br (ilt x3 x2)
 ((chk (inb x1 x3)
 (chk (inb o ((rdP x1 x3).1))
 (chk (room (rdL o ((rdP x1 x3).1)) [(rdP x1 x3).2])
 (chk (inb o ((rdP x1 x3).1))
 (chk (ieq ((rdP x1 x3).1) ((rdP x1 x3).1))
 (chk (inb (tSet o ((rdP x1 x3).1) (tApp (rdL o ((rdP x1 x3).1)) [(rdP x1 x3).2])) ((rdP x1 x3).2))
 (chk (room (rdL (tSet o ((rdP x1 x3).1) (tApp (rdL o ((rdP x1 x3).1)) [(rdP x1 x3).2])) ((rdP x1 x3).2)) [(rdP x1 x3).1])
 (chk (inb (tSet o ((rdP x1 x3).1) (tApp (rdL o ((rdP x1 x3).1)) [(rdP x1 x3).2])) ((rdP x1 x3).2))
 (chk (ieq ((rdP x1 x3).2) ((rdP x1 x3).2))
 (Zq27_l0 N k0 K x1 x2 (IntKind.i64.wrap (x3 + 1)) (tSet (tSet o ((rdP x1 x3).1) (tApp (rdL o ((rdP x1 x3).1)) [(rdP x1 x3).2])) ((rdP x1 x3).2) (tApp (rdL (tSet o ((rdP x1 x3).1) (tApp (rdL o ((rdP x1 x3).1)) [(rdP x1 x3).2])) ((rdP x1 x3).2)) [(rdP x1 x3).1])))))))))))))
 (k0 o))
noncomputable def Zq27_l0_again {R : Type} (N : Nat) (ks : KS Zq27_l0_ex R) (k : Nat) (x : Zq27_l0_sh.T) : Option R :=
 Zq27_l0 N (fun y0 => ks 0 (((), ()), (y0, ()))) k x.1.2.1 x.1.2.2.1 x.1.2.2.2.1 x.2.1
noncomputable def Zq27_l0_s (N : Nat) : LSum := ⟨Zq27_l0_sh, Zq27_l0_ex, fun x ks => Zq27_l0_again N ks N x⟩
theorem Zq27_l0_ok (N : Nat) : LoopOk Tryz.prog Tryz.f105.ntmps (Zq27_l0_s N) (loopAt Zq27_code 0) := loopQ (sh := Zq27_l0_sh) (ex := Zq27_l0_ex) (N := N) (L := []) (fun R k x ks => Zq27_l0_again N ks k x) (Zq27_gok N) (fun _ _ _ => rfl) (fun R k x ks => by kernel_rfl) trivial (by kernel_rfl)
noncomputable def Zq27_l1_sh : Sh := ⟨[(3, .one (.ref 0)), (46, .one (.ref 0)), (47, .one (.ro I)), (48, .one (.ro I))], [.sl 27 LI .deep]⟩
noncomputable def Zq27_l1_ex : List (Ex × Sh) := [(.exit 2, ⟨[(3, .one (.ref 0))], [.sl 27 LI .deep]⟩)]
noncomputable def Zq27_l1 {R : Type} (N : Nat) (k0 : (List (List Int)) → Option R) : Nat → Int → Int → (List (List Int)) → Option R
 | 0, _, _, _ => none
 | K + 1, x1, x2, o1 =>
 (br (ilt x2 x1)
 ((chk (inb o1 x2)
 ((Zq76 N (rdL o1 x2)).bind fun r =>
 Zq27_l1 N k0 K x1 (IntKind.i64.wrap (x2 + 1)) (tSet o1 x2 r.2.1))))
 (k0 o1))
noncomputable def Zq27_l1_again {R : Type} (N : Nat) (ks : KS Zq27_l1_ex R) (k : Nat) (x : Zq27_l1_sh.T) : Option R :=
 Zq27_l1 N (fun y0 => ks 0 (((), ()), (y0, ()))) k x.1.2.2.1 x.1.2.2.2.1 x.2.1
noncomputable def Zq27_l1_s (N : Nat) : LSum := ⟨Zq27_l1_sh, Zq27_l1_ex, fun x ks => Zq27_l1_again N ks N x⟩
theorem Zq27_l1_ok (N : Nat) : LoopOk Tryz.prog Tryz.f105.ntmps (Zq27_l1_s N) (loopAt Zq27_code 1) := loopQ (sh := Zq27_l1_sh) (ex := Zq27_l1_ex) (N := N) (L := []) (fun R k x ks => Zq27_l1_again N ks k x) (Zq27_gok N) (fun _ _ _ => rfl) (fun R k x ks => by kernel_rfl) trivial (by kernel_rfl)
noncomputable def Zq27 (N : Nat) (x : ((List (List Int)) × (List (Int × Int)))) : Option (((List (List Int)) × Unit) × (Unit)) :=
 (chk (ile 0 (tLen x.1) && ile (tLen x.1) (tLen x.1) && fits (tLen x.1))
 (Zq27_l0 N (fun o => Zq27_l1 N (fun o1 => some ((o1, ()), ())) N (tLen o) 0 o) N x.2 (tLen x.2) 0 (tRep (tLen x.1) [])))
noncomputable def Zq27_S (N : Nat) : FSum := ⟨Zq27_ps, Zq27_rs, fun x => Zq27 N x.1⟩
theorem Zq27_pc (N : Nat) : PC Tryz.prog 105 (Zq27_S N) := pcQ (L := [Zq27_l0_s N, Zq27_l1_s N]) (Zq27_gok N) Tryz.call105 Tryz.func105 (fun x => by kernel_rfl) ⟨Zq27_l0_ok N, Zq27_l1_ok N, trivial⟩ (by kernel_rfl)

abbrev Zq58_ps : List (PV.Mode × Ty) := [(.ro, U64), (.ro, U64)]
abbrev Zq58_rs : List (Bool × Ty) := [(true, U64), (true, U64)]
noncomputable def Zq58_G (N : Nat) : GTab := gOf []
theorem Zq58_gok (N : Nat) : GOk Tryz.prog (Zq58_G N) := gOf_ok trivial
noncomputable def Zq58_code : Code := (Tryz.f174.body).getD .skip
noncomputable def Zq58 (N : Nat) (x : Int) (y : Int) : Option ((Int × Int × Unit) × (Unit)) :=
 some (((IntKind.u64.wrap ((IntKind.u64.wrap ((IntKind.u64.wrap ((shrI .u64 x 32) * (shrI .u64 y 32))) + (shrI .u64 (IntKind.u64.wrap ((IntKind.u64.wrap ((shrI .u64 x 32) * (bitop .and .u64 y 4294967295))) + (shrI .u64 (IntKind.u64.wrap ((bitop .and .u64 x 4294967295) * (bitop .and .u64 y 4294967295))) 32))) 32))) + (shrI .u64 (IntKind.u64.wrap ((bitop .and .u64 (IntKind.u64.wrap ((IntKind.u64.wrap ((shrI .u64 x 32) * (bitop .and .u64 y 4294967295))) + (shrI .u64 (IntKind.u64.wrap ((bitop .and .u64 x 4294967295) * (bitop .and .u64 y 4294967295))) 32))) 4294967295) + (IntKind.u64.wrap ((bitop .and .u64 x 4294967295) * (shrI .u64 y 32))))) 32))), (IntKind.u64.wrap (x * y)), ()), ())
noncomputable def Zq58_S (N : Nat) : FSum := ⟨Zq58_ps, Zq58_rs, fun x => Zq58 N x.1 x.2.1⟩
theorem Zq58_pc (N : Nat) : PC Tryz.prog 174 (Zq58_S N) := pcQ (L := []) (Zq58_gok N) Tryz.call174 Tryz.func174 (fun x => by kernel_rfl) trivial (by kernel_rfl)

abbrev Zq57_ps : List (PV.Mode × Ty) := [(.ro, U64), (.ro, U64)]
abbrev Zq57_rs : List (Bool × Ty) := [(true, U64), (true, U64)]
noncomputable def Zq57_G (N : Nat) : GTab := gOf [(174, Zq58_S N)]
theorem Zq57_gok (N : Nat) : GOk Tryz.prog (Zq57_G N) := gOf_ok ⟨Zq58_pc N, trivial⟩
noncomputable def Zq57_code : Code := (Tryz.f161.body).getD .skip
noncomputable def Zq57 (N : Nat) (x : Int) (y : Int) : Option ((Int × Int × Unit) × (Unit)) :=
 ((Zq58 N x y).bind fun r =>
 some ((r.1.1, r.1.2.1, ()), ()))
noncomputable def Zq57_S (N : Nat) : FSum := ⟨Zq57_ps, Zq57_rs, fun x => Zq57 N x.1 x.2.1⟩
theorem Zq57_pc (N : Nat) : PC Tryz.prog 161 (Zq57_S N) := pcQ (L := []) (Zq57_gok N) Tryz.call161 Tryz.func161 (fun x => by kernel_rfl) trivial (by kernel_rfl)

abbrev Zq73_ps : List (PV.Mode × Ty) := [(.ro, LI), (.ro, I)]
abbrev Zq73_rs : List (Bool × Ty) := [(true, LI)]
noncomputable def Zq73_G (N : Nat) : GTab := gOf [(161, Zq57_S N)]
theorem Zq73_gok (N : Nat) : GOk Tryz.prog (Zq73_G N) := gOf_ok ⟨Zq57_pc N, trivial⟩
noncomputable def Zq73_code : Code := (Tryz.f144.body).getD .skip
noncomputable def Zq73_l0_sh : Sh := ⟨[(7, .one (.ref 0)), (8, .one (.ro I))], [.sl 3 I .own]⟩
noncomputable def Zq73_l0_ex : List (Ex × Sh) := [(.exit 0, ⟨[(7, .one (.ref 0))], [.sl 3 I .own]⟩)]
noncomputable def Zq73_l0 {R : Type} (N : Nat) (k0 : (List Int) → Option R) : Nat → Int → (List Int) → Option R
 | 0, _, _ => none
 | K + 1, n, o =>
 (br (ilt n (tLen o))
 ((chk (ile 0 n && ile n (tLen o) && ile (tLen o) (tLen o))
 (chk (ile 0 0 && ile 0 n && ile n (tLen o))
 (Zq73_l0 N k0 K (IntKind.i64.wrap (n + (tMin ((tLen o) - n) (tLen (tCut o 0 n))))) (tPut o n (tCut (tCut o 0 n) 0 (tMin ((tLen o) - n) (tLen (tCut o 0 n)))))))))
 (k0 o))
noncomputable def Zq73_l0_again {R : Type} (N : Nat) (ks : KS Zq73_l0_ex R) (k : Nat) (x : Zq73_l0_sh.T) : Option R :=
 Zq73_l0 N (fun y0 => ks 0 (((), ()), (y0, ()))) k x.1.2.1 x.2.1
noncomputable def Zq73_l0_s (N : Nat) : LSum := ⟨Zq73_l0_sh, Zq73_l0_ex, fun x ks => Zq73_l0_again N ks N x⟩
theorem Zq73_l0_ok (N : Nat) : LoopOk Tryz.prog Tryz.f144.ntmps (Zq73_l0_s N) (loopAt Zq73_code 0) := loopQ (sh := Zq73_l0_sh) (ex := Zq73_l0_ex) (N := N) (L := []) (fun R k x ks => Zq73_l0_again N ks k x) (Zq73_gok N) (fun _ _ _ => rfl) (fun R k x ks => by kernel_rfl) trivial (by kernel_rfl)
noncomputable def Zq73 (N : Nat) (x : (List Int)) (count : Int) : Option (((List Int) × Unit) × (Unit)) :=
 (br (ilt count 0)
 (none)
 (((Zq57 N (IntKind.u64.wrap ((tLen x))) (IntKind.u64.wrap (count))).bind fun r =>
 (br (ilt 0 r.1.1)
 (none)
 ((br (ilt 9223372036854775807 r.1.2.1)
 (none)
 ((chk (ile 0 (IntKind.i64.wrap (r.1.2.1)) && ile (IntKind.i64.wrap (r.1.2.1)) (IntKind.i64.wrap (r.1.2.1)) && fits (IntKind.i64.wrap (r.1.2.1)))
 (Zq73_l0 N (fun o => some ((o, ()), ())) N (tMin (tLen (tRep (IntKind.i64.wrap (r.1.2.1)) (0 : Int))) (tLen x)) (tPut (tRep (IntKind.i64.wrap (r.1.2.1)) (0 : Int)) 0 (tCut x 0 (tMin (tLen (tRep (IntKind.i64.wrap (r.1.2.1)) (0 : Int))) (tLen x)))))))))))))
noncomputable def Zq73_S (N : Nat) : FSum := ⟨Zq73_ps, Zq73_rs, fun x => Zq73 N x.1 x.2.1⟩
theorem Zq73_pc (N : Nat) : PC Tryz.prog 144 (Zq73_S N) := pcQ (L := [Zq73_l0_s N]) (Zq73_gok N) Tryz.call144 Tryz.func144 (fun x => by kernel_rfl) ⟨Zq73_l0_ok N, trivial⟩ (by kernel_rfl)
end Go.Proofs.YtahehkidnfmfnaaGreat
