/- Functions of the program as functions on data. -/
import Derived.Test.YtffeokcchabclaaGreatThresholdsFb
set_option linter.all false
namespace Go.Proofs.YtffeokcchabclaaGreat
open Go Go.PV
abbrev Zq70_ps : List (PV.Mode × Ty) := [(.ro, LQII), (.ro, QII)]
abbrev Zq70_rs : List (Bool × Ty) := [(true, .bool)]
noncomputable def Zq70_G (N : Nat) : GTab := gOf [(170, Zq75_S N)]
theorem Zq70_gok (N : Nat) : GOk Tryz.prog (Zq70_G N) := gOf_ok ⟨Zq75_pc N, trivial⟩
noncomputable def Zq70_code : Code := (Tryz.f139.body).getD .skip
noncomputable def Zq70 (N : Nat) (s : (List (Int × Int))) (v : (Int × Int)) : Option ((Bool × Unit) × (Unit)) :=
 ((Zq75 N s (v.1, v.2)).bind fun r =>
 some (((ile 0 r.1.1), ()), ()))
noncomputable def Zq70_S (N : Nat) : FSum := ⟨Zq70_ps, Zq70_rs, fun x => Zq70 N x.1 x.2.1⟩
theorem Zq70_pc (N : Nat) : PC Tryz.prog 139 (Zq70_S N) := pcQ (L := []) (Zq70_gok N) Tryz.call139 Tryz.func139 (fun x => by kernel_rfl) trivial (by kernel_rfl)

abbrev Zq6_ps : List (PV.Mode × Ty) := [(.ro, QILQII), (.ro, I), (.ro, I)]
abbrev Zq6_rs : List (Bool × Ty) := [(true, .bool)]
noncomputable def Zq6_G (N : Nat) : GTab := gOf [(106, Zq51_S N), (139, Zq70_S N)]
theorem Zq6_gok (N : Nat) : GOk Tryz.prog (Zq6_G N) := gOf_ok ⟨Zq51_pc N, Zq70_pc N, trivial⟩
noncomputable def Zq6_code : Code := (Tryz.f84.body).getD .skip
noncomputable def Zq6 (N : Nat) (g : (Int × (List (Int × Int)))) (a : Int) (b : Int) : Option ((Bool × Unit) × (Unit)) :=
 ((Zq51 N a b).bind fun r =>
 ((Zq70 N g.2 (r.1.1.1, r.1.1.2)).bind fun r1 =>
 some ((r1.1.1, ()), ())))
noncomputable def Zq6_S (N : Nat) : FSum := ⟨Zq6_ps, Zq6_rs, fun x => Zq6 N x.1 x.2.1 x.2.2.1⟩
theorem Zq6_pc (N : Nat) : PC Tryz.prog 84 (Zq6_S N) := pcQ (L := []) (Zq6_gok N) Tryz.call84 Tryz.func84 (fun x => by kernel_rfl) trivial (by kernel_rfl)

abbrev Zq11_ps : List (PV.Mode × Ty) := [(.ro, QILQII), (.ro, I)]
abbrev Zq11_rs : List (Bool × Ty) := [(true, LI)]
noncomputable def Zq11_G (N : Nat) : GTab := gOf [(84, Zq6_S N)]
theorem Zq11_gok (N : Nat) : GOk Tryz.prog (Zq11_G N) := gOf_ok ⟨Zq6_pc N, trivial⟩
noncomputable def Zq11_code : Code := (Tryz.f125.body).getD .skip
noncomputable def Zq11_l0_sh : Sh := ⟨[(1, .one (.ro I)), (2, .one (.adr 0 0)), (5, .one (.ref 1)), (9, .one (.ro I)), (10, .one (.ro I))], [.box [.ro I, .ro LQII], .sl 3 I .own]⟩
noncomputable def Zq11_l0_ex : List (Ex × Sh) := [(.exit 0, ⟨[(5, .one (.ref 0))], [.sl 3 I .own]⟩)]
noncomputable def Zq11_l0 {R : Type} (N : Nat) (k0 : (List Int) → Option R) : Nat → Int → Int → Int → Int → (List (Int × Int)) → (List Int) → Option R
 | 0, _, _, _, _, _, _ => none
 | K + 1, x1, x2, x3, o, o1, o2 =>
 (br (ilt x3 x2)
 ((br (ine x3 x1)
 (((Zq6 N (o, o1) x1 x3).bind fun r =>
 (br r.1.1
 ((chk (room o2 [x3])
 (Zq11_l0 N k0 K x1 x2 (IntKind.i64.wrap (x3 + 1)) o o1 (tApp o2 [x3]))))
 (Zq11_l0 N k0 K x1 x2 (IntKind.i64.wrap (x3 + 1)) o o1 o2))))
 (Zq11_l0 N k0 K x1 x2 (IntKind.i64.wrap (x3 + 1)) o o1 o2)))
 (k0 o2))
noncomputable def Zq11_l0_again {R : Type} (N : Nat) (ks : KS Zq11_l0_ex R) (k : Nat) (x : Zq11_l0_sh.T) : Option R :=
 Zq11_l0 N (fun y0 => ks 0 (((), ()), (y0, ()))) k x.1.1 x.1.2.2.2.1 x.1.2.2.2.2.1 x.2.1.1 x.2.1.2.1 x.2.2.1
noncomputable def Zq11_l0_s (N : Nat) : LSum := ⟨Zq11_l0_sh, Zq11_l0_ex, fun x ks => Zq11_l0_again N ks N x⟩
theorem Zq11_l0_ok (N : Nat) : LoopOk Tryz.prog Tryz.f125.ntmps (Zq11_l0_s N) (loopAt Zq11_code 0) := loopQ (sh := Zq11_l0_sh) (ex := Zq11_l0_ex) (N := N) (L := []) (fun R k x ks => Zq11_l0_again N ks k x) (Zq11_gok N) (fun _ _ _ => rfl) (fun R k x ks => by kernel_rfl) trivial (by kernel_rfl)
noncomputable def Zq11 (N : Nat) (g : (Int × (List (Int × Int)))) (x : Int) : Option (((List Int) × Unit) × (Unit)) :=
 Zq11_l0 N (fun o => some ((o, ()), ())) N x g.1 0 g.1 g.2 []
noncomputable def Zq11_S (N : Nat) : FSum := ⟨Zq11_ps, Zq11_rs, fun x => Zq11 N x.1 x.2.1⟩
theorem Zq11_pc (N : Nat) : PC Tryz.prog 125 (Zq11_S N) := pcQ (L := [Zq11_l0_s N]) (Zq11_gok N) Tryz.call125 Tryz.func125 (fun x => by kernel_rfl) ⟨Zq11_l0_ok N, trivial⟩ (by kernel_rfl)

abbrev Zq7_ps : List (PV.Mode × Ty) := [(.ro, QILQII), (.ro, I), (.ro, U64)]
abbrev Zq7_rs : List (Bool × Ty) := [(true, .bool)]
noncomputable def Zq7_G (N : Nat) : GTab := gOf [(81, Zq4_S N), (124, Zq8_S N), (70, Zq36_S N), (84, Zq6_S N), (69, Zq35_S N), (125, Zq11_S N), (60, Zq34_S N)]
theorem Zq7_gok (N : Nat) : GOk Tryz.prog (Zq7_G N) := gOf_ok ⟨Zq4_pc N, Zq8_pc N, Zq36_pc N, Zq6_pc N, Zq35_pc N, Zq11_pc N, Zq34_pc N, trivial⟩
noncomputable def Zq7_code : Code := (Tryz.f64.body).getD .skip
noncomputable def Zq7_l0_0_sh : Sh := ⟨[(3, .one (.adr 0 0)), (7, .one (.ref 1)), (9, .one (.ro I)), (26, .one (.ref 1)), (27, .one (.ro I)), (28, .one (.ro I)), (35, .one (.sub 1 1)), (36, .one (.ro I)), (37, .one (.ro I))], [.box [.ro I, .ro LQII], .sl 3 I .own]⟩
noncomputable def Zq7_l0_0_ex : List (Ex × Sh) := [(.ret, ⟨[(6, .one (.ro .bool))], []⟩), (.exit 3, ⟨[(3, .one (.adr 0 0)), (7, .one (.ref 1)), (26, .one (.ref 1)), (27, .one (.ro I)), (28, .one (.ro I))], [.box [.ro I, .ro LQII], .sl 3 I .own]⟩)]
noncomputable def Zq7_l0_0 {R : Type} (N : Nat) (k0 : Bool → Option R) (k1 : Int → Int → Int → (List (Int × Int)) → (List Int) → Option R) : Nat → Int → Int → Int → Int → Int → Int → Int → Int → (List (Int × Int)) → (List Int) → Option R
 | 0, _, _, _, _, _, _, _, _, _, _ => none
 | K + 1, x2, x3, x4, x5, x6, x7, x8, o3, o4, o5 =>
 (br (ilt x8 x7)
 ((chk (ile 0 x8 && ilt x8 (x6 - x5))
 ((Zq6 N (o3, o4) x2 (rdI o5 (x5 + x8))).bind fun r3 =>
 (br (!r3.1.1)
 (k0 false)
 (Zq7_l0_0 N k0 k1 K x2 x3 x4 x5 x6 x7 (IntKind.i64.wrap (x8 + 1)) o3 o4 o5)))))
 (k1 x3 x4 o3 o4 o5))
noncomputable def Zq7_l0_0_again {R : Type} (N : Nat) (ks : KS Zq7_l0_0_ex R) (k : Nat) (x : Zq7_l0_0_sh.T) : Option R :=
 Zq7_l0_0 N (fun y0 => ks 0 ((y0, ()), ())) (fun y0 y1 y2 y3 y4 => ks 1 (((), (), (), y0, y1, ()), ((y2, y3, ()), y4, ()))) k x.1.2.2.1 x.1.2.2.2.2.1 x.1.2.2.2.2.2.1 x.1.2.2.2.2.2.2.1.1 x.1.2.2.2.2.2.2.1.2 x.1.2.2.2.2.2.2.2.1 x.1.2.2.2.2.2.2.2.2.1 x.2.1.1 x.2.1.2.1 x.2.2.1
noncomputable def Zq7_l0_0_s (N : Nat) : LSum := ⟨Zq7_l0_0_sh, Zq7_l0_0_ex, fun x ks => Zq7_l0_0_again N ks N x⟩
theorem Zq7_l0_0_ok (N : Nat) : LoopOk Tryz.prog Tryz.f64.ntmps (Zq7_l0_0_s N) (loopAt (loopAt Zq7_code 0) 0) := loopQ (sh := Zq7_l0_0_sh) (ex := Zq7_l0_0_ex) (N := N) (L := []) (fun R k x ks => Zq7_l0_0_again N ks k x) (Zq7_gok N) (fun _ _ _ => rfl) (fun R k x ks => by kernel_rfl) trivial (by kernel_rfl)
noncomputable def Zq7_l0_sh : Sh := ⟨[(3, .one (.adr 0 0)), (7, .one (.ref 1)), (26, .one (.ref 1)), (27, .one (.ro I)), (28, .one (.ro I))], [.box [.ro I, .ro LQII], .sl 3 I .own]⟩
noncomputable def Zq7_l0_ex : List (Ex × Sh) := [(.ret, ⟨[(6, .one (.ro .bool))], []⟩), (.exit 1, ⟨[], []⟩)]
noncomputable def Zq7_l0 {R : Type} (N : Nat) (k0 : Bool → Option R) (k1 : Unit → Option R) : Nat → Int → Int → Int → (List (Int × Int)) → (List Int) → Option R
 | 0, _, _, _, _, _ => none
 | K + 1, x, x1, o, o1, o2 =>
 (br (ilt x1 x)
 ((chk (inb o2 x1)
 (chk (ile 0 0 && ile 0 x1 && ile x1 (tLen o2))
 (Zq7_l0_0 N (fun x2 => k0 x2) (fun x3 x4 o3 o4 o5 => Zq7_l0 N k0 k1 K x3 (IntKind.i64.wrap (x4 + 1)) o3 o4 o5) N (rdI o2 x1) x x1 0 x1 (x1 - 0) 0 o o1 o2))))
 (k1 ()))
noncomputable def Zq7_l0_again {R : Type} (N : Nat) (ks : KS Zq7_l0_ex R) (k : Nat) (x : Zq7_l0_sh.T) : Option R :=
 Zq7_l0 N (fun y0 => ks 0 ((y0, ()), ())) (fun (_ : Unit) => ks 1 ((), ())) k x.1.2.2.2.1 x.1.2.2.2.2.1 x.2.1.1 x.2.1.2.1 x.2.2.1
noncomputable def Zq7_l0_s (N : Nat) : LSum := ⟨Zq7_l0_sh, Zq7_l0_ex, fun x ks => Zq7_l0_again N ks N x⟩
theorem Zq7_l0_ok (N : Nat) : LoopOk Tryz.prog Tryz.f64.ntmps (Zq7_l0_s N) (loopAt Zq7_code 0) := loopQ (sh := Zq7_l0_sh) (ex := Zq7_l0_ex) (N := N) (L := [Zq7_l0_0_s N]) (fun R k x ks => Zq7_l0_again N ks k x) (Zq7_gok N) (fun _ _ _ => rfl) (fun R k x ks => by kernel_rfl) ⟨Zq7_l0_0_ok N, trivial⟩ (by kernel_rfl)
noncomputable def Zq7_l1_sh : Sh := ⟨[(2, .one (.ro U64)), (3, .one (.adr 0 0)), (49, .one (.ro I)), (50, .one (.ro I))], [.box [.ro I, .ro LQII]]⟩
noncomputable def Zq7_l1_ex : List (Ex × Sh) := [(.ret, ⟨[(6, .one (.ro .bool))], []⟩), (.exit 5, ⟨[], []⟩)]
noncomputable def Zq7_l1 {R : Type} (N : Nat) (k0 : Bool → Option R) (k1 : Unit → Option R) : Nat → Int → Int → Int → Int → (List (Int × Int)) → Option R
 | 0, _, _, _, _, _ => none
 | K + 1, x1, x2, x3, o, o1 =>
 (br (ilt x3 x2)
 (((Zq35 N x1 x3).bind fun r3 =>
 (br (!r3.1.1)
 (((Zq11 N (o, o1) x3).bind fun r4 =>
 ((Zq34 N r4.1.1).bind fun r5 =>
 (br (ieq (bitop .and .u64 r5.1.1 x1) 0)
 (k0 false)
 (Zq7_l1 N k0 k1 K x1 x2 (IntKind.i64.wrap (x3 + 1)) o o1)))))
 (Zq7_l1 N k0 k1 K x1 x2 (IntKind.i64.wrap (x3 + 1)) o o1))))
 (k1 ()))
noncomputable def Zq7_l1_again {R : Type} (N : Nat) (ks : KS Zq7_l1_ex R) (k : Nat) (x : Zq7_l1_sh.T) : Option R :=
 Zq7_l1 N (fun y0 => ks 0 ((y0, ()), ())) (fun (_ : Unit) => ks 1 ((), ())) k x.1.1 x.1.2.2.1 x.1.2.2.2.1 x.2.1.1 x.2.1.2.1
noncomputable def Zq7_l1_s (N : Nat) : LSum := ⟨Zq7_l1_sh, Zq7_l1_ex, fun x ks => Zq7_l1_again N ks N x⟩
theorem Zq7_l1_ok (N : Nat) : LoopOk Tryz.prog Tryz.f64.ntmps (Zq7_l1_s N) (loopAt Zq7_code 1) := loopQ (sh := Zq7_l1_sh) (ex := Zq7_l1_ex) (N := N) (L := []) (fun R k x ks => Zq7_l1_again N ks k x) (Zq7_gok N) (fun _ _ _ => rfl) (fun R k x ks => by kernel_rfl) trivial (by kernel_rfl)
noncomputable def Zq7 (N : Nat) (c : (Int × (List (Int × Int)))) (c1 : Int) (c2 : Int) : Option ((Bool × Unit) × (Unit)) :=
 (br (ieq c1 1)
 (((Zq4 N (c.1, c.2)).bind fun r =>
 ((Zq8 N (c.1, c.2) (bitop .andNot .u64 r.1.1 c2)).bind fun r1 =>
 some ((r1.1.1, ()), ()))))
 ((br (ieq c1 2)
 (((Zq36 N c2).bind fun r2 =>
 Zq7_l0 N (fun x => some ((x, ()), ())) (fun (_ : Unit) => some ((true, ()), ())) N (tLen r2.1.1) 0 c.1 c.2 r2.1.1))
 (Zq7_l1 N (fun x1 => some ((x1, ()), ())) (fun (_ : Unit) => some ((true, ()), ())) N c2 c.1 0 c.1 c.2))))
noncomputable def Zq7_S (N : Nat) : FSum := ⟨Zq7_ps, Zq7_rs, fun x => Zq7 N x.1 x.2.1 x.2.2.1⟩
theorem Zq7_pc (N : Nat) : PC Tryz.prog 64 (Zq7_S N) := pcQ (L := [Zq7_l0_s N, Zq7_l1_s N]) (Zq7_gok N) Tryz.call64 Tryz.func64 (fun x => by kernel_rfl) ⟨Zq7_l0_ok N, Zq7_l1_ok N, trivial⟩ (by kernel_rfl)

abbrev Zq20_ps : List (PV.Mode × Ty) := [(.ro, QILQII), (.ro, I), (.ro, LI)]
abbrev Zq20_rs : List (Bool × Ty) := [(true, .bool), (true, .bool)]
noncomputable def Zq20_G (N : Nat) : GTab := gOf [(63, Zq46_S N), (60, Zq34_S N), (64, Zq7_S N)]
theorem Zq20_gok (N : Nat) : GOk Tryz.prog (Zq20_G N) := gOf_ok ⟨Zq46_pc N, Zq34_pc N, Zq7_pc N, trivial⟩
noncomputable def Zq20_code : Code := (Tryz.f10.body).getD .skip
noncomputable def Zq20 (N : Nat) (g : (Int × (List (Int × Int)))) (kind : Int) (setv : (List Int)) : Option ((Bool × Bool × Unit) × (Unit)) :=
 ((Zq46 N (g.1, g.2) kind setv).bind fun r =>
 (br (!r.1.1)
 (some ((false, false, ()), ()))
 (((Zq34 N setv).bind fun r1 =>
 ((Zq7 N (g.1, g.2) kind r1.1.1).bind fun r2 =>
 some ((r2.1.1, true, ()), ()))))))
noncomputable def Zq20_S (N : Nat) : FSum := ⟨Zq20_ps, Zq20_rs, fun x => Zq20 N x.1 x.2.1 x.2.2.1⟩
theorem Zq20_pc (N : Nat) : PC Tryz.prog 10 (Zq20_S N) := pcQ (L := []) (Zq20_gok N) Tryz.call10 Tryz.func10 (fun x => by kernel_rfl) trivial (by kernel_rfl)

abbrev Zq43_ps : List (PV.Mode × Ty) := [(.ro, QILQII), (.ro, I), (.ro, LI)]
abbrev Zq43_rs : List (Bool × Ty) := [(true, .bool)]
noncomputable def Zq43_G (N : Nat) : GTab := gOf [(10, Zq20_S N)]
theorem Zq43_gok (N : Nat) : GOk Tryz.prog (Zq43_G N) := gOf_ok ⟨Zq20_pc N, trivial⟩
noncomputable def Zq43_code : Code := (Tryz.f58.body).getD .skip
noncomputable def Zq43 (N : Nat) (g : (Int × (List (Int × Int)))) (kind : Int) (setv : (List Int)) : Option ((Bool × Unit) × (Unit)) :=
 ((Zq20 N (g.1, g.2) kind setv).bind fun r =>
 some ((r.1.1, ()), ()))
noncomputable def Zq43_S (N : Nat) : FSum := ⟨Zq43_ps, Zq43_rs, fun x => Zq43 N x.1 x.2.1 x.2.2.1⟩
theorem Zq43_pc (N : Nat) : PC Tryz.prog 58 (Zq43_S N) := pcQ (L := []) (Zq43_gok N) Tryz.call58 Tryz.func58 (fun x => by kernel_rfl) trivial (by kernel_rfl)

abbrev Zq67_ps : List (PV.Mode × Ty) := [(.ro, LI), (.ro, LI)]
abbrev Zq67_rs : List (Bool × Ty) := [(true, I)]
noncomputable def Zq67_G (N : Nat) : GTab := gOf [(153, Zq0_S N)]
theorem Zq67_gok (N : Nat) : GOk Tryz.prog (Zq67_G N) := gOf_ok ⟨Zq0_pc N, trivial⟩
noncomputable def Zq67_code : Code := (Tryz.f102.body).getD .skip
noncomputable def Zq67_l0_sh : Sh := ⟨[(0, .one (.ro LI)), (1, .one (.ro LI)), (9, .one (.ro LI)), (10, .one (.ro I)), (11, .one (.ro I))], []⟩
noncomputable def Zq67_l0_ex : List (Ex × Sh) := [(.ret, ⟨[(4, .one (.ro I))], []⟩), (.exit 0, ⟨[(0, .one (.ro LI)), (1, .one (.ro LI))], []⟩)]
noncomputable def Zq67_l0 {R : Type} (N : Nat) (k0 : Int → Option R) (k1 : (List Int) → (List Int) → Option R) : Nat → (List Int) → (List Int) → (List Int) → Int → Int → Option R
 | 0, _, _, _, _, _ => none
 | K + 1, s11, s21, x, x1, x2 =>
 (br (ilt x2 x1)
 ((chk (inb x x2)
 (br (ile (tLen s21) x2)
 (k0 1)
 ((chk (inb s21 x2)
 ((Zq0 N (rdI x x2) (rdI s21 x2)).bind fun r =>
 (br (ine r.1.1 0)
 (k0 r.1.1)
 (Zq67_l0 N k0 k1 K s11 s21 x x1 (IntKind.i64.wrap (x2 + 1))))))))))
 (k1 s11 s21))
noncomputable def Zq67_l0_again {R : Type} (N : Nat) (ks : KS Zq67_l0_ex R) (k : Nat) (x : Zq67_l0_sh.T) : Option R :=
 Zq67_l0 N (fun y0 => ks 0 ((y0, ()), ())) (fun y0 y1 => ks 1 ((y0, y1, ()), ())) k x.1.1 x.1.2.1 x.1.2.2.1 x.1.2.2.2.1 x.1.2.2.2.2.1
noncomputable def Zq67_l0_s (N : Nat) : LSum := ⟨Zq67_l0_sh, Zq67_l0_ex, fun x ks => Zq67_l0_again N ks N x⟩
theorem Zq67_l0_ok (N : Nat) : LoopOk Tryz.prog Tryz.f102.ntmps (Zq67_l0_s N) (loopAt Zq67_code 0) := loopQ (sh := Zq67_l0_sh) (ex := Zq67_l0_ex) (N := N) (L := []) (fun R k x ks => Zq67_l0_again N ks k x) (Zq67_gok N) (fun _ _ _ => rfl) (fun R k x ks => by kernel_rfl) trivial (by kernel_rfl)
noncomputable def Zq67 (N : Nat) (s1 : (List Int)) (s2 : (List Int)) : Option ((Int × Unit) × (Unit)) :=
 Zq67_l0 N (fun x => some ((x, ()), ())) (fun s11 s21 => (br (ilt (tLen s11) (tLen s21))
 (some (((-1), ()), ()))
 (some ((0, ()), ())))) N s1 s2 s1 (tLen s1) 0
noncomputable def Zq67_S (N : Nat) : FSum := ⟨Zq67_ps, Zq67_rs, fun x => Zq67 N x.1 x.2.1⟩
theorem Zq67_pc (N : Nat) : PC Tryz.prog 102 (Zq67_S N) := pcQ (L := [Zq67_l0_s N]) (Zq67_gok N) Tryz.call102 Tryz.func102 (fun x => by kernel_rfl) ⟨Zq67_l0_ok N, trivial⟩ (by kernel_rfl)

abbrev Zq78_ps : List (PV.Mode × Ty) := [(.mut, LLI), (.own, K102Un)]
abbrev Zq78_rs : List (Bool × Ty) := []
noncomputable def Zq78 (N : Nat) (x : List (List Int)) (_ : Unit) : Option (Unit × (List (List Int) × Unit)) := sortF (fun a b => (Zq67 N a b).map fun z => z.1.1) x
noncomputable def Zq78_S (N : Nat) : FSum := ⟨Zq78_ps, Zq78_rs, fun x => Zq78 N x.1 x.2.1⟩
theorem Zq78_pc (N : Nat) : PC Tryz.prog 101 (Zq78_S N) := sortRows_pc (fc := fun a b => Zq67 N a b) (sortsAt Tryz.sortL) (sortsNone Tryz.sortL) Tryz.call101 (Zq67_pc N)

abbrev Zq15_ps : List (PV.Mode × Ty) := [(.ro, QILQII), (.ro, FU64Bo)]
abbrev Zq15_rs : List (Bool × Ty) := [(true, LLI)]
noncomputable def Zq15_G (N : Nat) : GTab := gOf [(81, Zq4_S N), (70, Zq36_S N), (101, Zq78_S N)]
theorem Zq15_gok (N : Nat) : GOk Tryz.prog (Zq15_G N) := gOf_ok ⟨Zq4_pc N, Zq36_pc N, Zq78_pc N, trivial⟩
noncomputable def Zq15_code : Code := (Tryz.f146.body).getD .skip
noncomputable def Zq15_l0_sh : Sh := ⟨[(1, .one (.ro FU64Bo)), (2, .one (.adr 0 0)), (5, .one (.ref 1)), (6, .one (.ro U64))], [.box [.ro I, .ro LQII], .sl 27 LI .deep]⟩
noncomputable def Zq15_l0_ex : List (Ex × Sh) := [(.exit 0, ⟨[(5, .one (.ref 0))], [.sl 27 LI .deep]⟩)]
noncomputable def Zq15_l0 {R : Type} (N : Nat) (k0 : (List (List Int)) → Option R) : Nat → (Int → Option Bool) → Int → Int → (List (Int × Int)) → (List (List Int)) → Option R
 | 0, _, _, _, _, _ => none
 | K + 1, is1, b, o, o1, o2 =>
 ((Zq4 N (o, o1)).bind fun r =>
 (br (ile b r.1.1)
 (((is1 b).bind fun v =>
 (br v
 (((Zq36 N b).bind fun r1 =>
 (chk (room o2 [r1.1.1])
 (Zq15_l0 N k0 K is1 (IntKind.u64.wrap (b + 1)) o o1 (tApp o2 [r1.1.1])))))
 (Zq15_l0 N k0 K is1 (IntKind.u64.wrap (b + 1)) o o1 o2))))
 (k0 o2)))
noncomputable def Zq15_l0_again {R : Type} (N : Nat) (ks : KS Zq15_l0_ex R) (k : Nat) (x : Zq15_l0_sh.T) : Option R :=
 Zq15_l0 N (fun y0 => ks 0 (((), ()), (y0, ()))) k x.1.1 x.1.2.2.2.1 x.2.1.1 x.2.1.2.1 x.2.2.1
noncomputable def Zq15_l0_s (N : Nat) : LSum := ⟨Zq15_l0_sh, Zq15_l0_ex, fun x ks => Zq15_l0_again N ks N x⟩
theorem Zq15_l0_ok (N : Nat) : LoopOk Tryz.prog Tryz.f146.ntmps (Zq15_l0_s N) (loopAt Zq15_code 0) := loopQ (sh := Zq15_l0_sh) (ex := Zq15_l0_ex) (N := N) (L := []) (fun R k x ks => Zq15_l0_again N ks k x) (Zq15_gok N) (fun _ _ _ => rfl) (fun R k x ks => by kernel_rfl) trivial (by kernel_rfl)
noncomputable def Zq15 (N : Nat) (g : (Int × (List (Int × Int)))) (is : (Int → Option Bool)) : Option (((List (List Int)) × Unit) × (Unit)) :=
 Zq15_l0 N (fun o => ((Zq78 N o ()).bind fun r =>
 some ((r.2.1, ()), ()))) N is 0 g.1 g.2 []
noncomputable def Zq15_S (N : Nat) : FSum := ⟨Zq15_ps, Zq15_rs, fun x => Zq15 N x.1 x.2.1⟩
theorem Zq15_pc (N : Nat) : PC Tryz.prog 146 (Zq15_S N) := pcQ (L := [Zq15_l0_s N]) (Zq15_gok N) Tryz.call146 Tryz.func146 (fun x => by kernel_rfl) ⟨Zq15_l0_ok N, trivial⟩ (by kernel_rfl)

abbrev Zq64_ps : List (PV.Mode × Ty) := [(.ro, U64)]
abbrev Zq64_rs : List (Bool × Ty) := [(true, I)]
noncomputable def Zq64_G (N : Nat) : GTab := gOf []
theorem Zq64_gok (N : Nat) : GOk Tryz.prog (Zq64_G N) := gOf_ok trivial
noncomputable def Zq64_code : Code := (Tryz.f197.body).getD .skip
noncomputable def Zq64 (N : Nat) (x : Int) : Option ((Int × Unit) × (Unit)) :=
 some (((bitop .and .i64 (IntKind.i64.wrap ((IntKind.u64.wrap ((IntKind.u64.wrap ((IntKind.u64.wrap ((bitop .and .u64 (IntKind.u64.wrap ((shrI .u64 (IntKind.u64.wrap ((bitop .and .u64 (shrI .u64 (IntKind.u64.wrap ((bitop .and .u64 (shrI .u64 x 1) 6148914691236517205) + (bitop .and .u64 x 6148914691236517205))) 2) 3689348814741910323) + (bitop .and .u64 (IntKind.u64.wrap ((bitop .and .u64 (shrI .u64 x 1) 6148914691236517205) + (bitop .and .u64 x 6148914691236517205))) 3689348814741910323))) 4) + (IntKind.u64.wrap ((bitop .and .u64 (shrI .u64 (IntKind.u64.wrap ((bitop .and .u64 (shrI .u64 x 1) 6148914691236517205) + (bitop .and .u64 x 6148914691236517205))) 2) 3689348814741910323) + (bitop .and .u64 (IntKind.u64.wrap ((bitop .and .u64 (shrI .u64 x 1) 6148914691236517205) + (bitop .and .u64 x 6148914691236517205))) 3689348814741910323))))) 1085102592571150095) + (shrI .u64 (bitop .and .u64 (IntKind.u64.wrap ((shrI .u64 (IntKind.u64.wrap ((bitop .and .u64 (shrI .u64 (IntKind.u64.wrap ((bitop .and .u64 (shrI .u64 x 1) 6148914691236517205) + (bitop .and .u64 x 6148914691236517205))) 2) 3689348814741910323) + (bitop .and .u64 (IntKind.u64.wrap ((bitop .and .u64 (shrI .u64 x 1) 6148914691236517205) + (bitop .and .u64 x 6148914691236517205))) 3689348814741910323))) 4) + (IntKind.u64.wrap ((bitop .and .u64 (shrI .u64 (IntKind.u64.wrap ((bitop .and .u64 (shrI .u64 x 1) 6148914691236517205) + (bitop .and .u64 x 6148914691236517205))) 2) 3689348814741910323) + (bitop .and .u64 (IntKind.u64.wrap ((bitop .and .u64 (shrI .u64 x 1) 6148914691236517205) + (bitop .and .u64 x 6148914691236517205))) 3689348814741910323))))) 1085102592571150095) 8))) + (shrI .u64 (IntKind.u64.wrap ((bitop .and .u64 (IntKind.u64.wrap ((shrI .u64 (IntKind.u64.wrap ((bitop .and .u64 (shrI .u64 (IntKind.u64.wrap ((bitop .and .u64 (shrI .u64 x 1) 6148914691236517205) + (bitop .and .u64 x 6148914691236517205))) 2) 3689348814741910323) + (bitop .and .u64 (IntKind.u64.wrap ((bitop .and .u64 (shrI .u64 x 1) 6148914691236517205) + (bitop .and .u64 x 6148914691236517205))) 3689348814741910323))) 4) + (IntKind.u64.wrap ((bitop .and .u64 (shrI .u64 (IntKind.u64.wrap ((bitop .and .u64 (shrI .u64 x 1) 6148914691236517205) + (bitop .and .u64 x 6148914691236517205))) 2) 3689348814741910323) + (bitop .and .u64 (IntKind.u64.wrap ((bitop .and .u64 (shrI .u64 x 1) 6148914691236517205) + (bitop .and .u64 x 6148914691236517205))) 3689348814741910323))))) 1085102592571150095) + (shrI .u64 (bitop .and .u64 (IntKind.u64.wrap ((shrI .u64 (IntKind.u64.wrap ((bitop .and .u64 (shrI .u64 (IntKind.u64.wrap ((bitop .and .u64 (shrI .u64 x 1) 6148914691236517205) + (bitop .and .u64 x 6148914691236517205))) 2) 3689348814741910323) + (bitop .and .u64 (IntKind.u64.wrap ((bitop .and .u64 (shrI .u64 x 1) 6148914691236517205) + (bitop .and .u64 x 6148914691236517205))) 3689348814741910323))) 4) + (IntKind.u64.wrap ((bitop .and .u64 (shrI .u64 (IntKind.u64.wrap ((bitop .and .u64 (shrI .u64 x 1) 6148914691236517205) + (bitop .and .u64 x 6148914691236517205))) 2) 3689348814741910323) + (bitop .and .u64 (IntKind.u64.wrap ((bitop .and .u64 (shrI .u64 x 1) 6148914691236517205) + (bitop .and .u64 x 6148914691236517205))) 3689348814741910323))))) 1085102592571150095) 8))) 16))) + (shrI .u64 (IntKind.u64.wrap ((IntKind.u64.wrap ((bitop .and .u64 (IntKind.u64.wrap ((shrI .u64 (IntKind.u64.wrap ((bitop .and .u64 (shrI .u64 (IntKind.u64.wrap ((bitop .and .u64 (shrI .u64 x 1) 6148914691236517205) + (bitop .and .u64 x 6148914691236517205))) 2) 3689348814741910323) + (bitop .and .u64 (IntKind.u64.wrap ((bitop .and .u64 (shrI .u64 x 1) 6148914691236517205) + (bitop .and .u64 x 6148914691236517205))) 3689348814741910323))) 4) + (IntKind.u64.wrap ((bitop .and .u64 (shrI .u64 (IntKind.u64.wrap ((bitop .and .u64 (shrI .u64 x 1) 6148914691236517205) + (bitop .and .u64 x 6148914691236517205))) 2) 3689348814741910323) + (bitop .and .u64 (IntKind.u64.wrap ((bitop .and .u64 (shrI .u64 x 1) 6148914691236517205) + (bitop .and .u64 x 6148914691236517205))) 3689348814741910323))))) 1085102592571150095) + (shrI .u64 (bitop .and .u64 (IntKind.u64.wrap ((shrI .u64 (IntKind.u64.wrap ((bitop .and .u64 (shrI .u64 (IntKind.u64.wrap ((bitop .and .u64 (shrI .u64 x 1) 6148914691236517205) + (bitop .and .u64 x 6148914691236517205))) 2) 3689348814741910323) + (bitop .and .u64 (IntKind.u64.wrap ((bitop .and .u64 (shrI .u64 x 1) 6148914691236517205) + (bitop .and .u64 x 6148914691236517205))) 3689348814741910323))) 4) + (IntKind.u64.wrap ((bitop .and .u64 (shrI .u64 (IntKind.u64.wrap ((bitop .and .u64 (shrI .u64 x 1) 6148914691236517205) + (bitop .and .u64 x 6148914691236517205))) 2) 3689348814741910323) + (bitop .and .u64 (IntKind.u64.wrap ((bitop .and .u64 (shrI .u64 x 1) 6148914691236517205) + (bitop .and .u64 x 6148914691236517205))) 3689348814741910323))))) 1085102592571150095) 8))) + (shrI .u64 (IntKind.u64.wrap ((bitop .and .u64 (IntKind.u64.wrap ((shrI .u64 (IntKind.u64.wrap ((bitop .and .u64 (shrI .u64 (IntKind.u64.wrap ((bitop .and .u64 (shrI .u64 x 1) 6148914691236517205) + (bitop .and .u64 x 6148914691236517205))) 2) 3689348814741910323) + (bitop .and .u64 (IntKind.u64.wrap ((bitop .and .u64 (shrI .u64 x 1) 6148914691236517205) + (bitop .and .u64 x 6148914691236517205))) 3689348814741910323))) 4) + (IntKind.u64.wrap ((bitop .and .u64 (shrI .u64 (IntKind.u64.wrap ((bitop .and .u64 (shrI .u64 x 1) 6148914691236517205) + (bitop .and .u64 x 6148914691236517205))) 2) 3689348814741910323) + (bitop .and .u64 (IntKind.u64.wrap ((bitop .and .u64 (shrI .u64 x 1) 6148914691236517205) + (bitop .and .u64 x 6148914691236517205))) 3689348814741910323))))) 1085102592571150095) + (shrI .u64 (bitop .and .u64 (IntKind.u64.wrap ((shrI .u64 (IntKind.u64.wrap ((bitop .and .u64 (shrI .u64 (IntKind.u64.wrap ((bitop .and .u64 (shrI .u64 x 1) 6148914691236517205) + (bitop .and .u64 x 6148914691236517205))) 2) 3689348814741910323) + (bitop .and .u64 (IntKind.u64.wrap ((bitop .and .u64 (shrI .u64 x 1) 6148914691236517205) + (bitop .and .u64 x 6148914691236517205))) 3689348814741910323))) 4) + (IntKind.u64.wrap ((bitop .and .u64 (shrI .u64 (IntKind.u64.wrap ((bitop .and .u64 (shrI .u64 x 1) 6148914691236517205) + (bitop .and .u64 x 6148914691236517205))) 2) 3689348814741910323) + (bitop .and .u64 (IntKind.u64.wrap ((bitop .and .u64 (shrI .u64 x 1) 6148914691236517205) + (bitop .and .u64 x 6148914691236517205))) 3689348814741910323))))) 1085102592571150095) 8))) 16))) 32))))) 127), ()), ())
noncomputable def Zq64_S (N : Nat) : FSum := ⟨Zq64_ps, Zq64_rs, fun x => Zq64 N x.1⟩
theorem Zq64_pc (N : Nat) : PC Tryz.prog 197 (Zq64_S N) := pcQ (L := []) (Zq64_gok N) Tryz.call197 Tryz.func197 (fun x => by kernel_rfl) trivial (by kernel_rfl)

abbrev Zq63_ps : List (PV.Mode × Ty) := [(.ro, U64)]
abbrev Zq63_rs : List (Bool × Ty) := [(true, I)]
noncomputable def Zq63_G (N : Nat) : GTab := gOf [(197, Zq64_S N)]
theorem Zq63_gok (N : Nat) : GOk Tryz.prog (Zq63_G N) := gOf_ok ⟨Zq64_pc N, trivial⟩
noncomputable def Zq63_code : Code := (Tryz.f171.body).getD .skip
noncomputable def Zq63 (N : Nat) (x : Int) : Option ((Int × Unit) × (Unit)) :=
 ((Zq64 N x).bind fun r =>
 some ((r.1.1, ()), ()))
noncomputable def Zq63_S (N : Nat) : FSum := ⟨Zq63_ps, Zq63_rs, fun x => Zq63 N x.1⟩
theorem Zq63_pc (N : Nat) : PC Tryz.prog 171 (Zq63_S N) := pcQ (L := []) (Zq63_gok N) Tryz.call171 Tryz.func171 (fun x => by kernel_rfl) trivial (by kernel_rfl)

abbrev Zq37_ps : List (PV.Mode × Ty) := [(.ro, U64)]
abbrev Zq37_rs : List (Bool × Ty) := [(true, I)]
noncomputable def Zq37_G (N : Nat) : GTab := gOf [(171, Zq63_S N)]
theorem Zq37_gok (N : Nat) : GOk Tryz.prog (Zq37_G N) := gOf_ok ⟨Zq63_pc N, trivial⟩
noncomputable def Zq37_code : Code := (Tryz.f148.body).getD .skip
noncomputable def Zq37 (N : Nat) (b : Int) : Option ((Int × Unit) × (Unit)) :=
 ((Zq63 N b).bind fun r =>
 some ((r.1.1, ()), ()))
noncomputable def Zq37_S (N : Nat) : FSum := ⟨Zq37_ps, Zq37_rs, fun x => Zq37 N x.1⟩
theorem Zq37_pc (N : Nat) : PC Tryz.prog 148 (Zq37_S N) := pcQ (L := []) (Zq37_gok N) Tryz.call148 Tryz.func148 (fun x => by kernel_rfl) trivial (by kernel_rfl)

abbrev Zq17_ps : List (PV.Mode × Ty) := [(.ro, U64), (.ro, AI), (.ro, AI), (.ro, AQILQII)]
abbrev Zq17_rs : List (Bool × Ty) := [(true, .bool)]
noncomputable def Zq17_G (N : Nat) : GTab := gOf [(148, Zq37_S N), (64, Zq7_S N)]
theorem Zq17_gok (N : Nat) : GOk Tryz.prog (Zq17_G N) := gOf_ok ⟨Zq37_pc N, Zq7_pc N, trivial⟩
noncomputable def Zq17_code : Code := (Tryz.f157.body).getD .skip
noncomputable def Zq17 (N : Nat) (b : Int) (c : Int) (c1 : Int) (c2 : (Int × (List (Int × Int)))) : Option ((Bool × Unit) × (Unit)) :=
 (br (ieq c 2)
 (((Zq37 N b).bind fun r =>
 (br (ilt r.1.1 c1)
 (some ((false, ()), ()))
 ((br (ine c 2)
 (((Zq37 N b).bind fun r1 =>
 (br (ilt c1 r1.1.1)
 (some ((false, ()), ()))
 (((Zq7 N c2 c b).bind fun r2 =>
 some ((r2.1.1, ()), ()))))))
 (((Zq7 N c2 c b).bind fun r3 =>
 some ((r3.1.1, ()), ()))))))))
 ((br (ine c 2)
 (((Zq37 N b).bind fun r4 =>
 (br (ilt c1 r4.1.1)
 (some ((false, ()), ()))
 (((Zq7 N c2 c b).bind fun r5 =>
 some ((r5.1.1, ()), ()))))))
 (((Zq7 N c2 c b).bind fun r6 =>
 some ((r6.1.1, ()), ()))))))
noncomputable def Zq17_S (N : Nat) : FSum := ⟨Zq17_ps, Zq17_rs, fun x => Zq17 N x.1 x.2.1 x.2.2.1 x.2.2.2.1⟩
theorem Zq17_pc (N : Nat) : PC Tryz.prog 157 (Zq17_S N) := pcQ (L := []) (Zq17_gok N) Tryz.call157 Tryz.func157 (fun x => by kernel_rfl) trivial (by kernel_rfl)

abbrev Zq53_ps : List (PV.Mode × Ty) := [(.own, LLI), (.ro, GLILIBo)]
abbrev Zq53_rs : List (Bool × Ty) := [(true, QLLILQII)]
noncomputable def Zq53_G (N : Nat) : GTab := gOf [(101, Zq78_S N)]
theorem Zq53_gok (N : Nat) : GOk Tryz.prog (Zq53_G N) := gOf_ok ⟨Zq78_pc N, trivial⟩
noncomputable def Zq53_code : Code := (Tryz.f94.body).getD .skip
noncomputable def Zq53_l0_0_sh : Sh := ⟨[(1, .one (.ro GLILIBo)), (4, .one (.adr 0 0)), (5, .one (.adr 1 0)), (6, .one (.ro I)), (7, .one (.el 2)), (16, .one (.ref 2)), (17, .one (.ro I)), (18, .one (.ro I)), (27, .one (.sub 2 1)), (28, .one (.ro I)), (29, .one (.ro I))], [.box [.nilsl, .nilsl], .box [.ref 2, .ref 3], .sl 27 LI .deep, .sl 90 QII .own]⟩
noncomputable def Zq53_l0_0_ex : List (Ex × Sh) := [(.exit 2, ⟨[(1, .one (.ro GLILIBo)), (4, .one (.adr 0 0)), (5, .one (.adr 1 0)), (16, .one (.ref 2)), (17, .one (.ro I)), (18, .one (.ro I))], [.box [.nilsl, .nilsl], .box [.ref 2, .ref 3], .sl 27 LI .deep, .sl 90 QII .own]⟩)]
noncomputable def Zq53_l0_0 {R : Type} (N : Nat) (k0 : ((List Int) → (List Int) → Option Bool) → Int → Int → (List (List Int)) → (List (Int × Int)) → Option R) : Nat → ((List Int) → (List Int) → Option Bool) → Int → Int → Int → Int → Int → Int → Int → Int → (List (List Int)) → (List (Int × Int)) → Option R
 | 0, _, _, _, _, _, _, _, _, _, _, _ => none
 | K + 1, isStep2, i, a, x2, x3, x4, x5, x6, x7, o2, o3 =>
 (br (ilt x7 x6)
 ((chk (ile 0 x7 && ilt x7 (x5 - x4))
 ((isStep2 (rdL o2 a) (rdL o2 (x4 + x7))).bind fun v =>
 (br v
 ((chk (room o3 [(i, (IntKind.i64.wrap ((IntKind.i64.wrap (i + 1)) + x7)))])
 (Zq53_l0_0 N k0 K isStep2 i a x2 x3 x4 x5 x6 (IntKind.i64.wrap (x7 + 1)) o2 (tApp o3 [(i, (IntKind.i64.wrap ((IntKind.i64.wrap (i + 1)) + x7)))]))))
 (Zq53_l0_0 N k0 K isStep2 i a x2 x3 x4 x5 x6 (IntKind.i64.wrap (x7 + 1)) o2 o3)))))
 (k0 isStep2 x2 x3 o2 o3))
noncomputable def Zq53_l0_0_again {R : Type} (N : Nat) (ks : KS Zq53_l0_0_ex R) (k : Nat) (x : Zq53_l0_0_sh.T) : Option R :=
 Zq53_l0_0 N (fun y0 y1 y2 y3 y4 => ks 0 ((y0, (), (), (), y1, y2, ()), (((), (), ()), ((), (), ()), y3, y4, ()))) k x.1.1 x.1.2.2.2.1 x.1.2.2.2.2.1 x.1.2.2.2.2.2.2.1 x.1.2.2.2.2.2.2.2.1 x.1.2.2.2.2.2.2.2.2.1.1 x.1.2.2.2.2.2.2.2.2.1.2 x.1.2.2.2.2.2.2.2.2.2.1 x.1.2.2.2.2.2.2.2.2.2.2.1 x.2.2.2.1 x.2.2.2.2.1
noncomputable def Zq53_l0_0_s (N : Nat) : LSum := ⟨Zq53_l0_0_sh, Zq53_l0_0_ex, fun x ks => Zq53_l0_0_again N ks N x⟩
theorem Zq53_l0_0_ok (N : Nat) : LoopOk Tryz.prog Tryz.f94.ntmps (Zq53_l0_0_s N) (loopAt (loopAt Zq53_code 0) 0) := loopQ (sh := Zq53_l0_0_sh) (ex := Zq53_l0_0_ex) (N := N) (L := []) (fun R k x ks => Zq53_l0_0_again N ks k x) (Zq53_gok N) (fun _ _ _ => rfl) (fun R k x ks => by kernel_rfl) trivial (by kernel_rfl)
noncomputable def Zq53_l0_sh : Sh := ⟨[(1, .one (.ro GLILIBo)), (4, .one (.adr 0 0)), (5, .one (.adr 1 0)), (16, .one (.ref 2)), (17, .one (.ro I)), (18, .one (.ro I))], [.box [.nilsl, .nilsl], .box [.ref 2, .ref 3], .sl 27 LI .deep, .sl 90 QII .own]⟩
noncomputable def Zq53_l0_ex : List (Ex × Sh) := [(.exit 0, ⟨[(4, .one (.adr 0 0)), (5, .one (.adr 1 0))], [.box [.nilsl, .nilsl], .box [.ref 2, .ref 3], .sl 27 LI .deep, .sl 90 QII .own]⟩)]
noncomputable def Zq53_l0 {R : Type} (N : Nat) (k0 : (List (List Int)) → (List (Int × Int)) → Option R) : Nat → ((List Int) → (List Int) → Option Bool) → Int → Int → (List (List Int)) → (List (Int × Int)) → Option R
 | 0, _, _, _, _, _ => none
 | K + 1, isStep1, x, x1, o, o1 =>
 (br (ilt x1 x)
 ((chk (inb o x1)
 (chk (ile 0 (IntKind.i64.wrap (x1 + 1)) && ile (IntKind.i64.wrap (x1 + 1)) (tLen o) && ile (tLen o) (tLen o))
 (Zq53_l0_0 N (fun isStep2 x2 x3 o2 o3 => Zq53_l0 N k0 K isStep2 x2 (IntKind.i64.wrap (x3 + 1)) o2 o3) N isStep1 x1 x1 x x1 (IntKind.i64.wrap (x1 + 1)) (tLen o) ((tLen o) - (IntKind.i64.wrap (x1 + 1))) 0 o o1))))
 (k0 o o1))
noncomputable def Zq53_l0_again {R : Type} (N : Nat) (ks : KS Zq53_l0_ex R) (k : Nat) (x : Zq53_l0_sh.T) : Option R :=
 Zq53_l0 N (fun y0 y1 => ks 0 (((), (), ()), (((), (), ()), ((), (), ()), y0, y1, ()))) k x.1.1 x.1.2.2.2.2.1 x.1.2.2.2.2.2.1 x.2.2.2.1 x.2.2.2.2.1
noncomputable def Zq53_l0_s (N : Nat) : LSum := ⟨Zq53_l0_sh, Zq53_l0_ex, fun x ks => Zq53_l0_again N ks N x⟩
theorem Zq53_l0_ok (N : Nat) : LoopOk Tryz.prog Tryz.f94.ntmps (Zq53_l0_s N) (loopAt Zq53_code 0) := loopQ (sh := Zq53_l0_sh) (ex := Zq53_l0_ex) (N := N) (L := [Zq53_l0_0_s N]) (fun R k x ks => Zq53_l0_again N ks k x) (Zq53_gok N) (fun _ _ _ => rfl) (fun R k x ks => by kernel_rfl) ⟨Zq53_l0_0_ok N, trivial⟩ (by kernel_rfl)
noncomputable def Zq53 (N : Nat) (states : (List (List Int))) (isStep : ((List Int) → (List Int) → Option Bool)) : Option ((((List (List Int)) × (List (Int × Int))) × Unit) × (Unit)) :=
 ((Zq78 N states ()).bind fun r =>
 Zq53_l0 N (fun o o1 => some (((o, o1), ()), ())) N isStep (tLen r.2.1) 0 r.2.1 [])
noncomputable def Zq53_S (N : Nat) : FSum := ⟨Zq53_ps, Zq53_rs, fun x => Zq53 N x.1 x.2.1⟩
theorem Zq53_pc (N : Nat) : PC Tryz.prog 94 (Zq53_S N) := pcQ (L := [Zq53_l0_s N]) (Zq53_gok N) Tryz.call94 Tryz.func94 (fun x => by kernel_rfl) ⟨Zq53_l0_ok N, trivial⟩ (by kernel_rfl)

abbrev Zq50_ps : List (PV.Mode × Ty) := [(.ro, LI), (.ro, LI)]
abbrev Zq50_rs : List (Bool × Ty) := [(true, U64), (true, U64)]
noncomputable def Zq50_G (N : Nat) : GTab := gOf [(60, Zq34_S N)]
theorem Zq50_gok (N : Nat) : GOk Tryz.prog (Zq50_G N) := gOf_ok ⟨Zq34_pc N, trivial⟩
noncomputable def Zq50_code : Code := (Tryz.f149.body).getD .skip
noncomputable def Zq50 (N : Nat) (a : (List Int)) (b : (List Int)) : Option ((Int × Int × Unit) × (Unit)) :=
 ((Zq34 N a).bind fun r =>
 ((Zq34 N b).bind fun r1 =>
 some (((bitop .andNot .u64 r.1.1 r1.1.1), (bitop .andNot .u64 r1.1.1 r.1.1), ()), ())))
noncomputable def Zq50_S (N : Nat) : FSum := ⟨Zq50_ps, Zq50_rs, fun x => Zq50 N x.1 x.2.1⟩
theorem Zq50_pc (N : Nat) : PC Tryz.prog 149 (Zq50_S N) := pcQ (L := []) (Zq50_gok N) Tryz.call149 Tryz.func149 (fun x => by kernel_rfl) trivial (by kernel_rfl)

abbrev Zq41_ps : List (PV.Mode × Ty) := [(.ro, LI), (.ro, LI)]
abbrev Zq41_rs : List (Bool × Ty) := [(true, .bool)]
noncomputable def Zq41_G (N : Nat) : GTab := gOf [(149, Zq50_S N), (148, Zq37_S N)]
theorem Zq41_gok (N : Nat) : GOk Tryz.prog (Zq41_G N) := gOf_ok ⟨Zq50_pc N, Zq37_pc N, trivial⟩
noncomputable def Zq41_code : Code := (Tryz.f158.body).getD .skip
noncomputable def Zq41 (N : Nat) (a : (List Int)) (b : (List Int)) : Option ((Bool × Unit) × (Unit)) :=
 ((Zq50 N a b).bind fun r =>
 ((Zq37 N r.1.1).bind fun r1 =>
 ((Zq37 N r.1.2.1).bind fun r2 =>
 some (((ieq (IntKind.i64.wrap (r1.1.1 + r2.1.1)) 1), ()), ()))))
noncomputable def Zq41_S (N : Nat) : FSum := ⟨Zq41_ps, Zq41_rs, fun x => Zq41 N x.1 x.2.1⟩
theorem Zq41_pc (N : Nat) : PC Tryz.prog 158 (Zq41_S N) := pcQ (L := []) (Zq41_gok N) Tryz.call158 Tryz.func158 (fun x => by kernel_rfl) trivial (by kernel_rfl)

abbrev Zq16_ps : List (PV.Mode × Ty) := [(.ro, QILQII), (.ro, I), (.ro, I)]
abbrev Zq16_rs : List (Bool × Ty) := [(true, QLLILQII)]
noncomputable def Zq16_G (N : Nat) : GTab := gOf [(146, Zq15_S N), (157, Zq17_S N), (94, Zq53_S N), (158, Zq41_S N)]
theorem Zq16_gok (N : Nat) : GOk Tryz.prog (Zq16_G N) := gOf_ok ⟨Zq15_pc N, Zq17_pc N, Zq53_pc N, Zq41_pc N, trivial⟩
noncomputable def Zq16_code : Code := (Tryz.f111.body).getD .skip
noncomputable def Zq16 (N : Nat) (g : (Int × (List (Int × Int)))) (kind : Int) (kv : Int) : Option ((((List (List Int)) × (List (Int × Int))) × Unit) × (Unit)) :=
 ((Zq15 N (g.1, g.2) (fun y0 => (Zq17 N y0 kind kv (g.1, g.2)).bind fun z => some z.1.1)).bind fun r =>
 ((Zq53 N r.1.1 (fun y0 y1 => (Zq41 N y0 y1).bind fun z => some z.1.1)).bind fun r1 =>
 some (((r1.1.1.1, r1.1.1.2), ()), ())))
noncomputable def Zq16_S (N : Nat) : FSum := ⟨Zq16_ps, Zq16_rs, fun x => Zq16 N x.1 x.2.1 x.2.2.1⟩
theorem Zq16_pc (N : Nat) : PC Tryz.prog 111 (Zq16_S N) := pcQ (L := []) (Zq16_gok N) Tryz.call111 Tryz.func111 (fun x => by kernel_rfl) trivial (by kernel_rfl)

abbrev Zq65_ps : List (PV.Mode × Ty) := [(.ro, LLI), (.ro, LI), (.ro, GLILII)]
abbrev Zq65_rs : List (Bool × Ty) := [(true, I), (true, .bool)]
noncomputable def Zq65_G (N : Nat) : GTab := gOf []
theorem Zq65_gok (N : Nat) : GOk Tryz.prog (Zq65_G N) := gOf_ok trivial
noncomputable def Zq65_code : Code := (Tryz.f154.body).getD .skip
noncomputable def Zq65_l0_sh : Sh := ⟨[(0, .one (.ro LLI)), (1, .one (.ro LI)), (2, .one (.ro GLILII)), (8, .one (.ro I)), (9, .one (.ro I)), (10, .one (.ro I))], []⟩
noncomputable def Zq65_l0_ex : List (Ex × Sh) := [(.exit 0, ⟨[(0, .one (.ro LLI)), (1, .one (.ro LI)), (2, .one (.ro GLILII)), (8, .one (.ro I)), (9, .one (.ro I))], []⟩)]
noncomputable def Zq65_l0 {R : Type} (N : Nat) (k0 : (List (List Int)) → (List Int) → ((List Int) → (List Int) → Option Int) → Int → Int → Option R) : Nat → (List (List Int)) → (List Int) → ((List Int) → (List Int) → Option Int) → Int → Int → Int → Option R
 | 0, _, _, _, _, _, _ => none
 | K + 1, x1, target1, cmp1, n, i, j =>
 (br (ilt i j)
 ((chk (inb x1 (IntKind.i64.wrap ((shrI .u64 (IntKind.u64.wrap ((IntKind.i64.wrap (i + j)))) 1))))
 ((cmp1 (rdL x1 (IntKind.i64.wrap ((shrI .u64 (IntKind.u64.wrap ((IntKind.i64.wrap (i + j)))) 1)))) target1).bind fun v =>
 (br (ilt v 0)
 (Zq65_l0 N k0 K x1 target1 cmp1 n (IntKind.i64.wrap ((IntKind.i64.wrap ((shrI .u64 (IntKind.u64.wrap ((IntKind.i64.wrap (i + j)))) 1))) + 1)) j)
 (Zq65_l0 N k0 K x1 target1 cmp1 n i (IntKind.i64.wrap ((shrI .u64 (IntKind.u64.wrap ((IntKind.i64.wrap (i + j)))) 1))))))))
 (k0 x1 target1 cmp1 n i))
noncomputable def Zq65_l0_again {R : Type} (N : Nat) (ks : KS Zq65_l0_ex R) (k : Nat) (x : Zq65_l0_sh.T) : Option R :=
 Zq65_l0 N (fun y0 y1 y2 y3 y4 => ks 0 ((y0, y1, y2, y3, y4, ()), ())) k x.1.1 x.1.2.1 x.1.2.2.1 x.1.2.2.2.1 x.1.2.2.2.2.1 x.1.2.2.2.2.2.1
noncomputable def Zq65_l0_s (N : Nat) : LSum := ⟨Zq65_l0_sh, Zq65_l0_ex, fun x ks => Zq65_l0_again N ks N x⟩
theorem Zq65_l0_ok (N : Nat) : LoopOk Tryz.prog Tryz.f154.ntmps (Zq65_l0_s N) (loopAt Zq65_code 0) := loopQ (sh := Zq65_l0_sh) (ex := Zq65_l0_ex) (N := N) (L := []) (fun R k x ks => Zq65_l0_again N ks k x) (Zq65_gok N) (fun _ _ _ => rfl) (fun R k x ks => by kernel_rfl) trivial (by kernel_rfl)
noncomputable def Zq65 (N : Nat) (x : (List (List Int))) (target : (List Int)) (cmp : ((List Int) → (List Int) → Option Int)) : Option ((Int × Bool × Unit) × (Unit)) :=
 Zq65_l0 N (fun x1 target1 cmp1 n i => (br (ilt i n)
 ((chk (inb x1 i)
 ((cmp1 (rdL x1 i) target1).bind fun v =>
 some ((i, (ieq v 0), ()), ()))))
 (some ((i, false, ()), ())))) N x target cmp (tLen x) 0 (tLen x)
noncomputable def Zq65_S (N : Nat) : FSum := ⟨Zq65_ps, Zq65_rs, fun x => Zq65 N x.1 x.2.1 x.2.2.1⟩
theorem Zq65_pc (N : Nat) : PC Tryz.prog 154 (Zq65_S N) := pcQ (L := [Zq65_l0_s N]) (Zq65_gok N) Tryz.call154 Tryz.func154 (fun x => by kernel_rfl) ⟨Zq65_l0_ok N, trivial⟩ (by kernel_rfl)

abbrev Zq27_ps : List (PV.Mode × Ty) := [(.ro, QLLILQII), (.ro, LI)]
abbrev Zq27_rs : List (Bool × Ty) := [(true, I), (true, .bool)]
noncomputable def Zq27_G (N : Nat) : GTab := gOf [(154, Zq65_S N), (102, Zq67_S N)]
theorem Zq27_gok (N : Nat) : GOk Tryz.prog (Zq27_G N) := gOf_ok ⟨Zq65_pc N, Zq67_pc N, trivial⟩
noncomputable def Zq27_code : Code := (Tryz.f105.body).getD .skip
noncomputable def Zq27 (N : Nat) (x : ((List (List Int)) × (List (Int × Int)))) (state : (List Int)) : Option ((Int × Bool × Unit) × (Unit)) :=
 ((Zq65 N x.1 state (fun y0 y1 => (Zq67 N y0 y1).bind fun z => some z.1.1)).bind fun r =>
 some ((r.1.1, r.1.2.1, ()), ()))
noncomputable def Zq27_S (N : Nat) : FSum := ⟨Zq27_ps, Zq27_rs, fun x => Zq27 N x.1 x.2.1⟩
theorem Zq27_pc (N : Nat) : PC Tryz.prog 105 (Zq27_S N) := pcQ (L := []) (Zq27_gok N) Tryz.call105 Tryz.func105 (fun x => by kernel_rfl) trivial (by kernel_rfl)

abbrev Zq79_ps : List (PV.Mode × Ty) := [(.mut, LI)]
abbrev Zq79_rs : List (Bool × Ty) := []
noncomputable def Zq79 (N : Nat) (x : List Int) : Option (Unit × (List Int × Unit)) := sortIF x
noncomputable def Zq79_S (N : Nat) : FSum := ⟨Zq79_ps, Zq79_rs, fun x => Zq79 N x.1⟩
theorem Zq79_pc (N : Nat) : PC Tryz.prog 161 (Zq79_S N) := sortInts_pc (sortsI Tryz.sortIL) (sortsINone Tryz.sortIL) Tryz.call161

abbrev Zq28_ps : List (PV.Mode × Ty) := [(.ro, QLLILQII)]
abbrev Zq28_rs : List (Bool × Ty) := [(true, LLI)]
noncomputable def Zq28_G (N : Nat) : GTab := gOf [(161, Zq79_S N)]
theorem Zq28_gok (N : Nat) : GOk Tryz.prog (Zq28_G N) := gOf_ok ⟨Zq79_pc N, trivial⟩
noncomputable def Zq28_code : Code := (Tryz.f120.body).getD .skip
noncomputable def Zq28_l0_sh : Sh := ⟨[(3, .one (.ref 0)), (13, .one (.ro LQII)), (14, .one (.ro I)), (15, .one (.ro I))], [.sl 27 LI .deep]⟩
noncomputable def Zq28_l0_ex : List (Ex × Sh) := [(.exit 0, ⟨[(3, .one (.ref 0))], [.sl 27 LI .deep]⟩)]
noncomputable def Zq28_l0 {R : Type} (N : Nat) (k0 : (List (List Int)) → Option R) : Nat → (List (Int × Int)) → Int → Int → (List (List Int)) → Option R
 | 0, _, _, _, _ => none
 | K + 1, x1, x2, x3, o =>
 (br (ilt x3 x2)
 ((chk (inb x1 x3)
 (chk (inb o ((rdP x1 x3).1))
 (chk (room (rdL o ((rdP x1 x3).1)) [(rdP x1 x3).2])
 (chk (inb o ((rdP x1 x3).1))
 (chk (ieq ((rdP x1 x3).1) ((rdP x1 x3).1))
 (chk (inb (tSet o ((rdP x1 x3).1) (tApp (rdL o ((rdP x1 x3).1)) [(rdP x1 x3).2])) ((rdP x1 x3).2))
 (chk (room (rdL (tSet o ((rdP x1 x3).1) (tApp (rdL o ((rdP x1 x3).1)) [(rdP x1 x3).2])) ((rdP x1 x3).2)) [(rdP x1 x3).1])
 (chk (inb (tSet o ((rdP x1 x3).1) (tApp (rdL o ((rdP x1 x3).1)) [(rdP x1 x3).2])) ((rdP x1 x3).2))
 (chk (ieq ((rdP x1 x3).2) ((rdP x1 x3).2))
 (Zq28_l0 N k0 K x1 x2 (IntKind.i64.wrap (x3 + 1)) (tSet (tSet o ((rdP x1 x3).1) (tApp (rdL o ((rdP x1 x3).1)) [(rdP x1 x3).2])) ((rdP x1 x3).2) (tApp (rdL (tSet o ((rdP x1 x3).1) (tApp (rdL o ((rdP x1 x3).1)) [(rdP x1 x3).2])) ((rdP x1 x3).2)) [(rdP x1 x3).1])))))))))))))
 (k0 o))
noncomputable def Zq28_l0_again {R : Type} (N : Nat) (ks : KS Zq28_l0_ex R) (k : Nat) (x : Zq28_l0_sh.T) : Option R :=
 Zq28_l0 N (fun y0 => ks 0 (((), ()), (y0, ()))) k x.1.2.1 x.1.2.2.1 x.1.2.2.2.1 x.2.1
noncomputable def Zq28_l0_s (N : Nat) : LSum := ⟨Zq28_l0_sh, Zq28_l0_ex, fun x ks => Zq28_l0_again N ks N x⟩
theorem Zq28_l0_ok (N : Nat) : LoopOk Tryz.prog Tryz.f120.ntmps (Zq28_l0_s N) (loopAt Zq28_code 0) := loopQ (sh := Zq28_l0_sh) (ex := Zq28_l0_ex) (N := N) (L := []) (fun R k x ks => Zq28_l0_again N ks k x) (Zq28_gok N) (fun _ _ _ => rfl) (fun R k x ks => by kernel_rfl) trivial (by kernel_rfl)
noncomputable def Zq28_l1_sh : Sh := ⟨[(3, .one (.ref 0)), (46, .one (.ref 0)), (47, .one (.ro I)), (48, .one (.ro I))], [.sl 27 LI .deep]⟩
noncomputable def Zq28_l1_ex : List (Ex × Sh) := [(.exit 2, ⟨[(3, .one (.ref 0))], [.sl 27 LI .deep]⟩)]
noncomputable def Zq28_l1 {R : Type} (N : Nat) (k0 : (List (List Int)) → Option R) : Nat → Int → Int → (List (List Int)) → Option R
 | 0, _, _, _ => none
 | K + 1, x1, x2, o1 =>
 (br (ilt x2 x1)
 ((chk (inb o1 x2)
 ((Zq79 N (rdL o1 x2)).bind fun r =>
 Zq28_l1 N k0 K x1 (IntKind.i64.wrap (x2 + 1)) (tSet o1 x2 r.2.1))))
 (k0 o1))
noncomputable def Zq28_l1_again {R : Type} (N : Nat) (ks : KS Zq28_l1_ex R) (k : Nat) (x : Zq28_l1_sh.T) : Option R :=
 Zq28_l1 N (fun y0 => ks 0 (((), ()), (y0, ()))) k x.1.2.2.1 x.1.2.2.2.1 x.2.1
noncomputable def Zq28_l1_s (N : Nat) : LSum := ⟨Zq28_l1_sh, Zq28_l1_ex, fun x ks => Zq28_l1_again N ks N x⟩
theorem Zq28_l1_ok (N : Nat) : LoopOk Tryz.prog Tryz.f120.ntmps (Zq28_l1_s N) (loopAt Zq28_code 1) := loopQ (sh := Zq28_l1_sh) (ex := Zq28_l1_ex) (N := N) (L := []) (fun R k x ks => Zq28_l1_again N ks k x) (Zq28_gok N) (fun _ _ _ => rfl) (fun R k x ks => by kernel_rfl) trivial (by kernel_rfl)
noncomputable def Zq28 (N : Nat) (x : ((List (List Int)) × (List (Int × Int)))) : Option (((List (List Int)) × Unit) × (Unit)) :=
 (chk (ile 0 (tLen x.1) && ile (tLen x.1) (tLen x.1) && fits (tLen x.1))
 (Zq28_l0 N (fun o => Zq28_l1 N (fun o1 => some ((o1, ()), ())) N (tLen o) 0 o) N x.2 (tLen x.2) 0 (tRep (tLen x.1) [])))
noncomputable def Zq28_S (N : Nat) : FSum := ⟨Zq28_ps, Zq28_rs, fun x => Zq28 N x.1⟩
theorem Zq28_pc (N : Nat) : PC Tryz.prog 120 (Zq28_S N) := pcQ (L := [Zq28_l0_s N, Zq28_l1_s N]) (Zq28_gok N) Tryz.call120 Tryz.func120 (fun x => by kernel_rfl) ⟨Zq28_l0_ok N, Zq28_l1_ok N, trivial⟩ (by kernel_rfl)

abbrev Zq62_ps : List (PV.Mode × Ty) := [(.ro, U64), (.ro, U64)]
abbrev Zq62_rs : List (Bool × Ty) := [(true, U64), (true, U64)]
noncomputable def Zq62_G (N : Nat) : GTab := gOf []
theorem Zq62_gok (N : Nat) : GOk Tryz.prog (Zq62_G N) := gOf_ok trivial
noncomputable def Zq62_code : Code := (Tryz.f220.body).getD .skip
noncomputable def Zq62 (N : Nat) (x : Int) (y : Int) : Option ((Int × Int × Unit) × (Unit)) :=
 some (((IntKind.u64.wrap ((IntKind.u64.wrap ((IntKind.u64.wrap ((shrI .u64 x 32) * (shrI .u64 y 32))) + (shrI .u64 (IntKind.u64.wrap ((IntKind.u64.wrap ((shrI .u64 x 32) * (bitop .and .u64 y 4294967295))) + (shrI .u64 (IntKind.u64.wrap ((bitop .and .u64 x 4294967295) * (bitop .and .u64 y 4294967295))) 32))) 32))) + (shrI .u64 (IntKind.u64.wrap ((bitop .and .u64 (IntKind.u64.wrap ((IntKind.u64.wrap ((shrI .u64 x 32) * (bitop .and .u64 y 4294967295))) + (shrI .u64 (IntKind.u64.wrap ((bitop .and .u64 x 4294967295) * (bitop .and .u64 y 4294967295))) 32))) 4294967295) + (IntKind.u64.wrap ((bitop .and .u64 x 4294967295) * (shrI .u64 y 32))))) 32))), (IntKind.u64.wrap (x * y)), ()), ())
noncomputable def Zq62_S (N : Nat) : FSum := ⟨Zq62_ps, Zq62_rs, fun x => Zq62 N x.1 x.2.1⟩
theorem Zq62_pc (N : Nat) : PC Tryz.prog 220 (Zq62_S N) := pcQ (L := []) (Zq62_gok N) Tryz.call220 Tryz.func220 (fun x => by kernel_rfl) trivial (by kernel_rfl)

abbrev Zq61_ps : List (PV.Mode × Ty) := [(.ro, U64), (.ro, U64)]
abbrev Zq61_rs : List (Bool × Ty) := [(true, U64), (true, U64)]
noncomputable def Zq61_G (N : Nat) : GTab := gOf [(220, Zq62_S N)]
theorem Zq61_gok (N : Nat) : GOk Tryz.prog (Zq61_G N) := gOf_ok ⟨Zq62_pc N, trivial⟩
noncomputable def Zq61_code : Code := (Tryz.f207.body).getD .skip
noncomputable def Zq61 (N : Nat) (x : Int) (y : Int) : Option ((Int × Int × Unit) × (Unit)) :=
 ((Zq62 N x y).bind fun r =>
 some ((r.1.1, r.1.2.1, ()), ()))
noncomputable def Zq61_S (N : Nat) : FSum := ⟨Zq61_ps, Zq61_rs, fun x => Zq61 N x.1 x.2.1⟩
theorem Zq61_pc (N : Nat) : PC Tryz.prog 207 (Zq61_S N) := pcQ (L := []) (Zq61_gok N) Tryz.call207 Tryz.func207 (fun x => by kernel_rfl) trivial (by kernel_rfl)

abbrev Zq76_ps : List (PV.Mode × Ty) := [(.ro, LI), (.ro, I)]
abbrev Zq76_rs : List (Bool × Ty) := [(true, LI)]
noncomputable def Zq76_G (N : Nat) : GTab := gOf [(207, Zq61_S N)]
theorem Zq76_gok (N : Nat) : GOk Tryz.prog (Zq76_G N) := gOf_ok ⟨Zq61_pc N, trivial⟩
noncomputable def Zq76_code : Code := (Tryz.f193.body).getD .skip
noncomputable def Zq76_l0_sh : Sh := ⟨[(7, .one (.ref 0)), (8, .one (.ro I))], [.sl 3 I .own]⟩
noncomputable def Zq76_l0_ex : List (Ex × Sh) := [(.exit 0, ⟨[(7, .one (.ref 0))], [.sl 3 I .own]⟩)]
noncomputable def Zq76_l0 {R : Type} (N : Nat) (k0 : (List Int) → Option R) : Nat → Int → (List Int) → Option R
 | 0, _, _ => none
 | K + 1, n, o =>
 (br (ilt n (tLen o))
 ((chk (ile 0 n && ile n (tLen o) && ile (tLen o) (tLen o))
 (chk (ile 0 0 && ile 0 n && ile n (tLen o))
 (Zq76_l0 N k0 K (IntKind.i64.wrap (n + (tMin ((tLen o) - n) (tLen (tCut o 0 n))))) (tPut o n (tCut (tCut o 0 n) 0 (tMin ((tLen o) - n) (tLen (tCut o 0 n)))))))))
 (k0 o))
noncomputable def Zq76_l0_again {R : Type} (N : Nat) (ks : KS Zq76_l0_ex R) (k : Nat) (x : Zq76_l0_sh.T) : Option R :=
 Zq76_l0 N (fun y0 => ks 0 (((), ()), (y0, ()))) k x.1.2.1 x.2.1
noncomputable def Zq76_l0_s (N : Nat) : LSum := ⟨Zq76_l0_sh, Zq76_l0_ex, fun x ks => Zq76_l0_again N ks N x⟩
theorem Zq76_l0_ok (N : Nat) : LoopOk Tryz.prog Tryz.f193.ntmps (Zq76_l0_s N) (loopAt Zq76_code 0) := loopQ (sh := Zq76_l0_sh) (ex := Zq76_l0_ex) (N := N) (L := []) (fun R k x ks => Zq76_l0_again N ks k x) (Zq76_gok N) (fun _ _ _ => rfl) (fun R k x ks => by kernel_rfl) trivial (by kernel_rfl)
noncomputable def Zq76 (N : Nat) (x : (List Int)) (count : Int) : Option (((List Int) × Unit) × (Unit)) :=
 (br (ilt count 0)
 (none)
 (((Zq61 N (IntKind.u64.wrap ((tLen x))) (IntKind.u64.wrap (count))).bind fun r =>
 (br (ilt 0 r.1.1)
 (none)
 ((br (ilt 9223372036854775807 r.1.2.1)
 (none)
 ((chk (ile 0 (IntKind.i64.wrap (r.1.2.1)) && ile (IntKind.i64.wrap (r.1.2.1)) (IntKind.i64.wrap (r.1.2.1)) && fits (IntKind.i64.wrap (r.1.2.1)))
 (Zq76_l0 N (fun o => some ((o, ()), ())) N (tMin (tLen (tRep (IntKind.i64.wrap (r.1.2.1)) (0 : Int))) (tLen x)) (tPut (tRep (IntKind.i64.wrap (r.1.2.1)) (0 : Int)) 0 (tCut x 0 (tMin (tLen (tRep (IntKind.i64.wrap (r.1.2.1)) (0 : Int))) (tLen x)))))))))))))
noncomputable def Zq76_S (N : Nat) : FSum := ⟨Zq76_ps, Zq76_rs, fun x => Zq76 N x.1 x.2.1⟩
theorem Zq76_pc (N : Nat) : PC Tryz.prog 193 (Zq76_S N) := pcQ (L := [Zq76_l0_s N]) (Zq76_gok N) Tryz.call193 Tryz.func193 (fun x => by kernel_rfl) ⟨Zq76_l0_ok N, trivial⟩ (by kernel_rfl)

abbrev Zq54_ps : List (PV.Mode × Ty) := [(.ro, LLI), (.ro, I)]
abbrev Zq54_rs : List (Bool × Ty) := [(true, LI)]
noncomputable def Zq54_G (N : Nat) : GTab := gOf [(193, Zq76_S N)]
theorem Zq54_gok (N : Nat) : GOk Tryz.prog (Zq54_G N) := gOf_ok ⟨Zq76_pc N, trivial⟩
noncomputable def Zq54_code : Code := (Tryz.f160.body).getD .skip
noncomputable def Zq54_l0_0_sh : Sh := ⟨[(0, .one (.ro LLI)), (5, .one (.ref 0)), (6, .one (.sub 1 1)), (7, .one (.ro I)), (30, .one (.ro LI)), (31, .one (.ro I)), (32, .one (.ro I))], [.sl 3 I .own, .sl 3 I .own]⟩
noncomputable def Zq54_l0_0_ex : List (Ex × Sh) := [(.exit 2, ⟨[(0, .one (.ro LLI)), (5, .one (.ref 0)), (6, .one (.sub 1 1))], [.sl 3 I .own, .sl 3 I .own]⟩)]
noncomputable def Zq54_l0_0 {R : Type} (N : Nat) (k0 : (List (List Int)) → Int → Int → (List Int) → (List Int) → Option R) : Nat → (List (List Int)) → Int → Int → Int → (List Int) → Int → Int → (List Int) → (List Int) → Option R
 | 0, _, _, _, _, _, _, _, _, _ => none
 | K + 1, roads2, queue2, queue3, i, x, x1, x2, o2, o3 =>
 (br (ilt x2 x1)
 ((chk (inb x x2)
 (chk (inb o2 (rdI x x2))
 (br (ilt (rdI o2 (rdI x x2)) 0)
 ((chk (inb o2 i)
 (chk (inb o2 (rdI x x2))
 (chk (room (tCut o3 queue2 queue3) [(rdI x x2)])
 (Zq54_l0_0 N k0 K roads2 0 (tLen (tApp (tCut o3 queue2 queue3) [(rdI x x2)])) i x x1 (IntKind.i64.wrap (x2 + 1)) (tSet o2 (rdI x x2) (IntKind.i64.wrap ((rdI o2 i) + 1))) (tApp (tCut o3 queue2 queue3) [(rdI x x2)]))))))
 (Zq54_l0_0 N k0 K roads2 queue2 queue3 i x x1 (IntKind.i64.wrap (x2 + 1)) o2 o3)))))
 (k0 roads2 queue2 queue3 o2 o3))
noncomputable def Zq54_l0_0_again {R : Type} (N : Nat) (ks : KS Zq54_l0_0_ex R) (k : Nat) (x : Zq54_l0_0_sh.T) : Option R :=
 Zq54_l0_0 N (fun y0 y1 y2 y3 y4 => ks 0 ((y0, (), (y1, y2), ()), (y3, y4, ()))) k x.1.1 x.1.2.2.1.1 x.1.2.2.1.2 x.1.2.2.2.1 x.1.2.2.2.2.1 x.1.2.2.2.2.2.1 x.1.2.2.2.2.2.2.1 x.2.1 x.2.2.1
noncomputable def Zq54_l0_0_s (N : Nat) : LSum := ⟨Zq54_l0_0_sh, Zq54_l0_0_ex, fun x ks => Zq54_l0_0_again N ks N x⟩
theorem Zq54_l0_0_ok (N : Nat) : LoopOk Tryz.prog Tryz.f160.ntmps (Zq54_l0_0_s N) (loopAt (loopAt Zq54_code 0) 0) := loopQ (sh := Zq54_l0_0_sh) (ex := Zq54_l0_0_ex) (N := N) (L := []) (fun R k x ks => Zq54_l0_0_again N ks k x) (Zq54_gok N) (fun _ _ _ => rfl) (fun R k x ks => by kernel_rfl) trivial (by kernel_rfl)
noncomputable def Zq54_l0_sh : Sh := ⟨[(0, .one (.ro LLI)), (5, .one (.ref 0)), (6, .one (.sub 1 1))], [.sl 3 I .own, .sl 3 I .own]⟩
noncomputable def Zq54_l0_ex : List (Ex × Sh) := [(.exit 0, ⟨[(5, .one (.ref 0))], [.sl 3 I .own]⟩)]
noncomputable def Zq54_l0 {R : Type} (N : Nat) (k0 : (List Int) → Option R) : Nat → (List (List Int)) → Int → Int → (List Int) → (List Int) → Option R
 | 0, _, _, _, _, _ => none
 | K + 1, roads1, queue, queue1, o, o1 =>
 (br (ilt 0 (queue1 - queue))
 ((chk (ile 0 0 && ilt 0 (queue1 - queue))
 (chk (ile 0 1 && ile 1 (queue1 - queue) && ile (queue1 - queue) (queue1 - queue))
 (chk (inb roads1 (rdI o1 (queue + 0)))
 (Zq54_l0_0 N (fun roads2 queue2 queue3 o2 o3 => Zq54_l0 N k0 K roads2 queue2 queue3 o2 o3) N roads1 (queue + 1) (queue + (queue1 - queue)) (rdI o1 (queue + 0)) (rdL roads1 (rdI o1 (queue + 0))) (tLen (rdL roads1 (rdI o1 (queue + 0)))) 0 o o1)))))
 (k0 o))
noncomputable def Zq54_l0_again {R : Type} (N : Nat) (ks : KS Zq54_l0_ex R) (k : Nat) (x : Zq54_l0_sh.T) : Option R :=
 Zq54_l0 N (fun y0 => ks 0 (((), ()), (y0, ()))) k x.1.1 x.1.2.2.1.1 x.1.2.2.1.2 x.2.1 x.2.2.1
noncomputable def Zq54_l0_s (N : Nat) : LSum := ⟨Zq54_l0_sh, Zq54_l0_ex, fun x ks => Zq54_l0_again N ks N x⟩
theorem Zq54_l0_ok (N : Nat) : LoopOk Tryz.prog Tryz.f160.ntmps (Zq54_l0_s N) (loopAt Zq54_code 0) := loopQ (sh := Zq54_l0_sh) (ex := Zq54_l0_ex) (N := N) (L := [Zq54_l0_0_s N]) (fun R k x ks => Zq54_l0_again N ks k x) (Zq54_gok N) (fun _ _ _ => rfl) (fun R k x ks => by kernel_rfl) ⟨Zq54_l0_0_ok N, trivial⟩ (by kernel_rfl)
noncomputable def Zq54 (N : Nat) (roads : (List (List Int))) (fromv : Int) : Option (((List Int) × Unit) × (Unit)) :=
 ((Zq76 N [(-1)] (tLen roads)).bind fun r =>
 (chk (inb r.1.1 fromv)
 (Zq54_l0 N (fun o => some ((o, ()), ())) N roads 0 (tLen [fromv]) (tSet r.1.1 fromv 0) [fromv])))
noncomputable def Zq54_S (N : Nat) : FSum := ⟨Zq54_ps, Zq54_rs, fun x => Zq54 N x.1 x.2.1⟩
theorem Zq54_pc (N : Nat) : PC Tryz.prog 160 (Zq54_S N) := pcQ (L := [Zq54_l0_s N]) (Zq54_gok N) Tryz.call160 Tryz.func160 (fun x => by kernel_rfl) ⟨Zq54_l0_ok N, trivial⟩ (by kernel_rfl)
end Go.Proofs.YtffeokcchabclaaGreat
