/- Functions of the program as functions on data. -/
import Derived.Test.YtffeokcchabclaaGreatKindsFb
set_option linter.all false
namespace Go.Proofs.YtffeokcchabclaaGreat
open Go Go.PV
abbrev Zq50_ps : List (PV.Mode × Ty) := [(.ro, LQII), (.ro, FQIIBo)]
abbrev Zq50_rs : List (Bool × Ty) := [(true, I)]
noncomputable def Zq50_G (N : Nat) : GTab := gOf []
theorem Zq50_gok (N : Nat) : GOk Tryz.prog (Zq50_G N) := gOf_ok trivial
noncomputable def Zq50_code : Code := (Tryz.f195.body).getD .skip
noncomputable def Zq50_l0_sh : Sh := ⟨[(0, .one (.ro LQII)), (1, .one (.ro FQIIBo)), (7, .one (.ro I)), (8, .one (.ro I))], []⟩
noncomputable def Zq50_l0_ex : List (Ex × Sh) := [(.ret, ⟨[(4, .one (.ro I))], []⟩), (.exit 0, ⟨[], []⟩)]
noncomputable def Zq50_l0 {R : Type} (N : Nat) (k0 : Int → Option R) (k1 : Unit → Option R) : Nat → (List (Int × Int)) → ((Int × Int) → Option Bool) → Int → Int → Option R
 | 0, _, _, _, _ => none
 | K + 1, s1, f1, x, x1 =>
 (br (ilt x1 x)
 ((chk (inb s1 x1)
 ((f1 (rdP s1 x1)).bind fun v =>
 (br v
 (k0 x1)
 (Zq50_l0 N k0 k1 K s1 f1 x (IntKind.i64.wrap (x1 + 1)))))))
 (k1 ()))
noncomputable def Zq50_l0_again {R : Type} (N : Nat) (ks : KS Zq50_l0_ex R) (k : Nat) (x : Zq50_l0_sh.T) : Option R :=
 Zq50_l0 N (fun y0 => ks 0 ((y0, ()), ())) (fun (_ : Unit) => ks 1 ((), ())) k x.1.1 x.1.2.1 x.1.2.2.1 x.1.2.2.2.1
noncomputable def Zq50_l0_s (N : Nat) : LSum := ⟨Zq50_l0_sh, Zq50_l0_ex, fun x ks => Zq50_l0_again N ks N x⟩
theorem Zq50_l0_ok (N : Nat) : LoopOk Tryz.prog Tryz.f195.ntmps (Zq50_l0_s N) (loopAt Zq50_code 0) := loopQ (sh := Zq50_l0_sh) (ex := Zq50_l0_ex) (N := N) (L := []) (fun R k x ks => Zq50_l0_again N ks k x) (Zq50_gok N) (fun _ _ _ => rfl) (fun R k x ks => by kernel_rfl) trivial (by kernel_rfl)
noncomputable def Zq50 (N : Nat) (s : (List (Int × Int))) (f : ((Int × Int) → Option Bool)) : Option ((Int × Unit) × (Unit)) :=
 Zq50_l0 N (fun x => some ((x, ()), ())) (fun (_ : Unit) => some (((-1), ()), ())) N s f (tLen s) 0
noncomputable def Zq50_S (N : Nat) : FSum := ⟨Zq50_ps, Zq50_rs, fun x => Zq50 N x.1 x.2.1⟩
theorem Zq50_pc (N : Nat) : PC Tryz.prog 195 (Zq50_S N) := pcQ (L := [Zq50_l0_s N]) (Zq50_gok N) Tryz.call195 Tryz.func195 (fun x => by kernel_rfl) ⟨Zq50_l0_ok N, trivial⟩ (by kernel_rfl)

abbrev Zq46_ps : List (PV.Mode × Ty) := [(.ro, LQII), (.ro, FQIIBo)]
abbrev Zq46_rs : List (Bool × Ty) := [(true, .bool)]
noncomputable def Zq46_G (N : Nat) : GTab := gOf [(195, Zq50_S N)]
theorem Zq46_gok (N : Nat) : GOk Tryz.prog (Zq46_G N) := gOf_ok ⟨Zq50_pc N, trivial⟩
noncomputable def Zq46_code : Code := (Tryz.f163.body).getD .skip
noncomputable def Zq46 (N : Nat) (s : (List (Int × Int))) (f : ((Int × Int) → Option Bool)) : Option ((Bool × Unit) × (Unit)) :=
 ((Zq50 N s f).bind fun r =>
 some (((ile 0 r.1.1), ()), ()))
noncomputable def Zq46_S (N : Nat) : FSum := ⟨Zq46_ps, Zq46_rs, fun x => Zq46 N x.1 x.2.1⟩
theorem Zq46_pc (N : Nat) : PC Tryz.prog 163 (Zq46_S N) := pcQ (L := []) (Zq46_gok N) Tryz.call163 Tryz.func163 (fun x => by kernel_rfl) trivial (by kernel_rfl)

abbrev Zq26_ps : List (PV.Mode × Ty) := [(.ro, U64), (.ro, I)]
abbrev Zq26_rs : List (Bool × Ty) := [(true, .bool)]
noncomputable def Zq26_G (N : Nat) : GTab := gOf []
theorem Zq26_gok (N : Nat) : GOk Tryz.prog (Zq26_G N) := gOf_ok trivial
noncomputable def Zq26_code : Code := (Tryz.f69.body).getD .skip
noncomputable def Zq26 (N : Nat) (b : Int) (x : Int) : Option ((Bool × Unit) × (Unit)) :=
 (chk (ile 0 x)
 (some (((ieq (bitop .and .u64 (shrI .u64 b x) 1) 1), ()), ())))
noncomputable def Zq26_S (N : Nat) : FSum := ⟨Zq26_ps, Zq26_rs, fun x => Zq26 N x.1 x.2.1⟩
theorem Zq26_pc (N : Nat) : PC Tryz.prog 69 (Zq26_S N) := pcQ (L := []) (Zq26_gok N) Tryz.call69 Tryz.func69 (fun x => by kernel_rfl) trivial (by kernel_rfl)

abbrev Zq10_ps : List (PV.Mode × Ty) := [(.ro, QII), (.ro, AU64)]
abbrev Zq10_rs : List (Bool × Ty) := [(true, .bool)]
noncomputable def Zq10_G (N : Nat) : GTab := gOf [(69, Zq26_S N)]
theorem Zq10_gok (N : Nat) : GOk Tryz.prog (Zq10_G N) := gOf_ok ⟨Zq26_pc N, trivial⟩
noncomputable def Zq10_code : Code := (Tryz.f164.body).getD .skip
noncomputable def Zq10 (N : Nat) (e : (Int × Int)) (c : Int) : Option ((Bool × Unit) × (Unit)) :=
 ((Zq26 N c e.1).bind fun r =>
 (br r.1.1
 (((Zq26 N c e.2).bind fun r1 =>
 some ((r1.1.1, ()), ())))
 (some ((false, ()), ()))))
noncomputable def Zq10_S (N : Nat) : FSum := ⟨Zq10_ps, Zq10_rs, fun x => Zq10 N x.1 x.2.1⟩
theorem Zq10_pc (N : Nat) : PC Tryz.prog 164 (Zq10_S N) := pcQ (L := []) (Zq10_gok N) Tryz.call164 Tryz.func164 (fun x => by kernel_rfl) trivial (by kernel_rfl)

abbrev Zq9_ps : List (PV.Mode × Ty) := [(.ro, QILQII), (.ro, U64)]
abbrev Zq9_rs : List (Bool × Ty) := [(true, .bool)]
noncomputable def Zq9_G (N : Nat) : GTab := gOf [(163, Zq46_S N), (164, Zq10_S N)]
theorem Zq9_gok (N : Nat) : GOk Tryz.prog (Zq9_G N) := gOf_ok ⟨Zq46_pc N, Zq10_pc N, trivial⟩
noncomputable def Zq9_code : Code := (Tryz.f124.body).getD .skip
noncomputable def Zq9 (N : Nat) (g : (Int × (List (Int × Int)))) (b : Int) : Option ((Bool × Unit) × (Unit)) :=
 ((Zq46 N g.2 (fun y0 => (Zq10 N y0 b).bind fun z => some z.1.1)).bind fun r =>
 some (((!r.1.1), ()), ()))
noncomputable def Zq9_S (N : Nat) : FSum := ⟨Zq9_ps, Zq9_rs, fun x => Zq9 N x.1 x.2.1⟩
theorem Zq9_pc (N : Nat) : PC Tryz.prog 124 (Zq9_S N) := pcQ (L := []) (Zq9_gok N) Tryz.call124 Tryz.func124 (fun x => by kernel_rfl) trivial (by kernel_rfl)

abbrev Zq27_ps : List (PV.Mode × Ty) := [(.ro, U64)]
abbrev Zq27_rs : List (Bool × Ty) := [(true, LI)]
noncomputable def Zq27_G (N : Nat) : GTab := gOf []
theorem Zq27_gok (N : Nat) : GOk Tryz.prog (Zq27_G N) := gOf_ok trivial
noncomputable def Zq27_code : Code := (Tryz.f70.body).getD .skip
noncomputable def Zq27_l0_sh : Sh := ⟨[(0, .one (.ro U64)), (3, .one (.ref 0)), (6, .one (.ro I))], [.sl 3 I .own]⟩
noncomputable def Zq27_l0_ex : List (Ex × Sh) := [(.exit 0, ⟨[(3, .one (.ref 0))], [.sl 3 I .own]⟩)]
noncomputable def Zq27_l0 {R : Type} (N : Nat) (k0 : (List Int) → Option R) : Nat → Int → Int → (List Int) → Option R
 | 0, _, _, _ => none
 | K + 1, b1, x, o =>
 (br (ilt x 8)
 ((chk (ile 0 x)
 (br (ieq (bitop .and .u64 (shrI .u64 b1 x) 1) 1)
 ((chk (room o [x])
 (Zq27_l0 N k0 K b1 (IntKind.i64.wrap (x + 1)) (tApp o [x]))))
 (Zq27_l0 N k0 K b1 (IntKind.i64.wrap (x + 1)) o))))
 (k0 o))
noncomputable def Zq27_l0_again {R : Type} (N : Nat) (ks : KS Zq27_l0_ex R) (k : Nat) (x : Zq27_l0_sh.T) : Option R :=
 Zq27_l0 N (fun y0 => ks 0 (((), ()), (y0, ()))) k x.1.1 x.1.2.2.1 x.2.1
noncomputable def Zq27_l0_s (N : Nat) : LSum := ⟨Zq27_l0_sh, Zq27_l0_ex, fun x ks => Zq27_l0_again N ks N x⟩
theorem Zq27_l0_ok (N : Nat) : LoopOk Tryz.prog Tryz.f70.ntmps (Zq27_l0_s N) (loopAt Zq27_code 0) := loopQ (sh := Zq27_l0_sh) (ex := Zq27_l0_ex) (N := N) (L := []) (fun R k x ks => Zq27_l0_again N ks k x) (Zq27_gok N) (fun _ _ _ => rfl) (fun R k x ks => by kernel_rfl) trivial (by kernel_rfl)
noncomputable def Zq27 (N : Nat) (b : Int) : Option (((List Int) × Unit) × (Unit)) :=
 Zq27_l0 N (fun o => some ((o, ()), ())) N b 0 []
noncomputable def Zq27_S (N : Nat) : FSum := ⟨Zq27_ps, Zq27_rs, fun x => Zq27 N x.1⟩
theorem Zq27_pc (N : Nat) : PC Tryz.prog 70 (Zq27_S N) := pcQ (L := [Zq27_l0_s N]) (Zq27_gok N) Tryz.call70 Tryz.func70 (fun x => by kernel_rfl) ⟨Zq27_l0_ok N, trivial⟩ (by kernel_rfl)

abbrev Zq36_ps : List (PV.Mode × Ty) := [(.ro, I), (.ro, I)]
abbrev Zq36_rs : List (Bool × Ty) := [(true, QII)]
noncomputable def Zq36_G (N : Nat) : GTab := gOf []
theorem Zq36_gok (N : Nat) : GOk Tryz.prog (Zq36_G N) := gOf_ok trivial
noncomputable def Zq36_code : Code := (Tryz.f106.body).getD .skip
noncomputable def Zq36 (N : Nat) (a : Int) (b : Int) : Option (((Int × Int) × Unit) × (Unit)) :=
 some ((((if b < a then b else a), (if b > a then b else a)), ()), ())
noncomputable def Zq36_S (N : Nat) : FSum := ⟨Zq36_ps, Zq36_rs, fun x => Zq36 N x.1 x.2.1⟩
theorem Zq36_pc (N : Nat) : PC Tryz.prog 106 (Zq36_S N) := pcQ (L := []) (Zq36_gok N) Tryz.call106 Tryz.func106 (fun x => by kernel_rfl) trivial (by kernel_rfl)

abbrev Zq51_ps : List (PV.Mode × Ty) := [(.ro, LQII), (.ro, QII)]
abbrev Zq51_rs : List (Bool × Ty) := [(true, I)]
noncomputable def Zq51_G (N : Nat) : GTab := gOf []
theorem Zq51_gok (N : Nat) : GOk Tryz.prog (Zq51_G N) := gOf_ok trivial
noncomputable def Zq51_code : Code := (Tryz.f170.body).getD .skip
noncomputable def Zq51_l0_sh : Sh := ⟨[(0, .one (.ro LQII)), (3, .one (.adr 0 0)), (7, .one (.ro I)), (8, .one (.ro I))], [.box [.ro I, .ro I]]⟩
noncomputable def Zq51_l0_ex : List (Ex × Sh) := [(.ret, ⟨[(4, .one (.ro I))], []⟩), (.exit 0, ⟨[], []⟩)]
noncomputable def Zq51_l0 {R : Type} (N : Nat) (k0 : Int → Option R) (k1 : Unit → Option R) : Nat → (List (Int × Int)) → Int → Int → Int → Int → Option R
 | 0, _, _, _, _, _ => none
 | K + 1, s1, x, x1, o, o1 =>
 (br (ilt x1 x)
 ((chk (inb s1 x1)
 (br (ieq o ((rdP s1 x1).1) && ieq o1 ((rdP s1 x1).2))
 (k0 x1)
 (Zq51_l0 N k0 k1 K s1 x (IntKind.i64.wrap (x1 + 1)) o o1))))
 (k1 ()))
noncomputable def Zq51_l0_again {R : Type} (N : Nat) (ks : KS Zq51_l0_ex R) (k : Nat) (x : Zq51_l0_sh.T) : Option R :=
 Zq51_l0 N (fun y0 => ks 0 ((y0, ()), ())) (fun (_ : Unit) => ks 1 ((), ())) k x.1.1 x.1.2.2.1 x.1.2.2.2.1 x.2.1.1 x.2.1.2.1
noncomputable def Zq51_l0_s (N : Nat) : LSum := ⟨Zq51_l0_sh, Zq51_l0_ex, fun x ks => Zq51_l0_again N ks N x⟩
theorem Zq51_l0_ok (N : Nat) : LoopOk Tryz.prog Tryz.f170.ntmps (Zq51_l0_s N) (loopAt Zq51_code 0) := loopQ (sh := Zq51_l0_sh) (ex := Zq51_l0_ex) (N := N) (L := []) (fun R k x ks => Zq51_l0_again N ks k x) (Zq51_gok N) (fun _ _ _ => rfl) (fun R k x ks => by kernel_rfl) trivial (by kernel_rfl)
noncomputable def Zq51 (N : Nat) (s : (List (Int × Int))) (v : (Int × Int)) : Option ((Int × Unit) × (Unit)) :=
 Zq51_l0 N (fun x => some ((x, ()), ())) (fun (_ : Unit) => some (((-1), ()), ())) N s (tLen s) 0 v.1 v.2
noncomputable def Zq51_S (N : Nat) : FSum := ⟨Zq51_ps, Zq51_rs, fun x => Zq51 N x.1 x.2.1⟩
theorem Zq51_pc (N : Nat) : PC Tryz.prog 170 (Zq51_S N) := pcQ (L := [Zq51_l0_s N]) (Zq51_gok N) Tryz.call170 Tryz.func170 (fun x => by kernel_rfl) ⟨Zq51_l0_ok N, trivial⟩ (by kernel_rfl)

abbrev Zq47_ps : List (PV.Mode × Ty) := [(.ro, LQII), (.ro, QII)]
abbrev Zq47_rs : List (Bool × Ty) := [(true, .bool)]
noncomputable def Zq47_G (N : Nat) : GTab := gOf [(170, Zq51_S N)]
theorem Zq47_gok (N : Nat) : GOk Tryz.prog (Zq47_G N) := gOf_ok ⟨Zq51_pc N, trivial⟩
noncomputable def Zq47_code : Code := (Tryz.f139.body).getD .skip
noncomputable def Zq47 (N : Nat) (s : (List (Int × Int))) (v : (Int × Int)) : Option ((Bool × Unit) × (Unit)) :=
 ((Zq51 N s (v.1, v.2)).bind fun r =>
 some (((ile 0 r.1.1), ()), ()))
noncomputable def Zq47_S (N : Nat) : FSum := ⟨Zq47_ps, Zq47_rs, fun x => Zq47 N x.1 x.2.1⟩
theorem Zq47_pc (N : Nat) : PC Tryz.prog 139 (Zq47_S N) := pcQ (L := []) (Zq47_gok N) Tryz.call139 Tryz.func139 (fun x => by kernel_rfl) trivial (by kernel_rfl)

abbrev Zq7_ps : List (PV.Mode × Ty) := [(.ro, QILQII), (.ro, I), (.ro, I)]
abbrev Zq7_rs : List (Bool × Ty) := [(true, .bool)]
noncomputable def Zq7_G (N : Nat) : GTab := gOf [(106, Zq36_S N), (139, Zq47_S N)]
theorem Zq7_gok (N : Nat) : GOk Tryz.prog (Zq7_G N) := gOf_ok ⟨Zq36_pc N, Zq47_pc N, trivial⟩
noncomputable def Zq7_code : Code := (Tryz.f84.body).getD .skip
noncomputable def Zq7 (N : Nat) (g : (Int × (List (Int × Int)))) (a : Int) (b : Int) : Option ((Bool × Unit) × (Unit)) :=
 ((Zq36 N a b).bind fun r =>
 ((Zq47 N g.2 (r.1.1.1, r.1.1.2)).bind fun r1 =>
 some ((r1.1.1, ()), ())))
noncomputable def Zq7_S (N : Nat) : FSum := ⟨Zq7_ps, Zq7_rs, fun x => Zq7 N x.1 x.2.1 x.2.2.1⟩
theorem Zq7_pc (N : Nat) : PC Tryz.prog 84 (Zq7_S N) := pcQ (L := []) (Zq7_gok N) Tryz.call84 Tryz.func84 (fun x => by kernel_rfl) trivial (by kernel_rfl)

abbrev Zq12_ps : List (PV.Mode × Ty) := [(.ro, QILQII), (.ro, I)]
abbrev Zq12_rs : List (Bool × Ty) := [(true, LI)]
noncomputable def Zq12_G (N : Nat) : GTab := gOf [(84, Zq7_S N)]
theorem Zq12_gok (N : Nat) : GOk Tryz.prog (Zq12_G N) := gOf_ok ⟨Zq7_pc N, trivial⟩
noncomputable def Zq12_code : Code := (Tryz.f125.body).getD .skip
noncomputable def Zq12_l0_sh : Sh := ⟨[(1, .one (.ro I)), (2, .one (.adr 0 0)), (5, .one (.ref 1)), (9, .one (.ro I)), (10, .one (.ro I))], [.box [.ro I, .ro LQII], .sl 3 I .own]⟩
noncomputable def Zq12_l0_ex : List (Ex × Sh) := [(.exit 0, ⟨[(5, .one (.ref 0))], [.sl 3 I .own]⟩)]
noncomputable def Zq12_l0 {R : Type} (N : Nat) (k0 : (List Int) → Option R) : Nat → Int → Int → Int → Int → (List (Int × Int)) → (List Int) → Option R
 | 0, _, _, _, _, _, _ => none
 | K + 1, x1, x2, x3, o, o1, o2 =>
 (br (ilt x3 x2)
 ((br (ine x3 x1)
 (((Zq7 N (o, o1) x1 x3).bind fun r =>
 (br r.1.1
 ((chk (room o2 [x3])
 (Zq12_l0 N k0 K x1 x2 (IntKind.i64.wrap (x3 + 1)) o o1 (tApp o2 [x3]))))
 (Zq12_l0 N k0 K x1 x2 (IntKind.i64.wrap (x3 + 1)) o o1 o2))))
 (Zq12_l0 N k0 K x1 x2 (IntKind.i64.wrap (x3 + 1)) o o1 o2)))
 (k0 o2))
noncomputable def Zq12_l0_again {R : Type} (N : Nat) (ks : KS Zq12_l0_ex R) (k : Nat) (x : Zq12_l0_sh.T) : Option R :=
 Zq12_l0 N (fun y0 => ks 0 (((), ()), (y0, ()))) k x.1.1 x.1.2.2.2.1 x.1.2.2.2.2.1 x.2.1.1 x.2.1.2.1 x.2.2.1
noncomputable def Zq12_l0_s (N : Nat) : LSum := ⟨Zq12_l0_sh, Zq12_l0_ex, fun x ks => Zq12_l0_again N ks N x⟩
theorem Zq12_l0_ok (N : Nat) : LoopOk Tryz.prog Tryz.f125.ntmps (Zq12_l0_s N) (loopAt Zq12_code 0) := loopQ (sh := Zq12_l0_sh) (ex := Zq12_l0_ex) (N := N) (L := []) (fun R k x ks => Zq12_l0_again N ks k x) (Zq12_gok N) (fun _ _ _ => rfl) (fun R k x ks => by kernel_rfl) trivial (by kernel_rfl)
noncomputable def Zq12 (N : Nat) (g : (Int × (List (Int × Int)))) (x : Int) : Option (((List Int) × Unit) × (Unit)) :=
 Zq12_l0 N (fun o => some ((o, ()), ())) N x g.1 0 g.1 g.2 []
noncomputable def Zq12_S (N : Nat) : FSum := ⟨Zq12_ps, Zq12_rs, fun x => Zq12 N x.1 x.2.1⟩
theorem Zq12_pc (N : Nat) : PC Tryz.prog 125 (Zq12_S N) := pcQ (L := [Zq12_l0_s N]) (Zq12_gok N) Tryz.call125 Tryz.func125 (fun x => by kernel_rfl) ⟨Zq12_l0_ok N, trivial⟩ (by kernel_rfl)

abbrev Zq8_ps : List (PV.Mode × Ty) := [(.ro, QILQII), (.ro, I), (.ro, U64)]
abbrev Zq8_rs : List (Bool × Ty) := [(true, .bool)]
noncomputable def Zq8_G (N : Nat) : GTab := gOf [(81, Zq5_S N), (124, Zq9_S N), (70, Zq27_S N), (84, Zq7_S N), (69, Zq26_S N), (125, Zq12_S N), (60, Zq25_S N)]
theorem Zq8_gok (N : Nat) : GOk Tryz.prog (Zq8_G N) := gOf_ok ⟨Zq5_pc N, Zq9_pc N, Zq27_pc N, Zq7_pc N, Zq26_pc N, Zq12_pc N, Zq25_pc N, trivial⟩
noncomputable def Zq8_code : Code := (Tryz.f64.body).getD .skip
noncomputable def Zq8_l0_0_sh : Sh := ⟨[(3, .one (.adr 0 0)), (7, .one (.ref 1)), (9, .one (.ro I)), (26, .one (.ref 1)), (27, .one (.ro I)), (28, .one (.ro I)), (35, .one (.sub 1 1)), (36, .one (.ro I)), (37, .one (.ro I))], [.box [.ro I, .ro LQII], .sl 3 I .own]⟩
noncomputable def Zq8_l0_0_ex : List (Ex × Sh) := [(.ret, ⟨[(6, .one (.ro .bool))], []⟩), (.exit 3, ⟨[(3, .one (.adr 0 0)), (7, .one (.ref 1)), (26, .one (.ref 1)), (27, .one (.ro I)), (28, .one (.ro I))], [.box [.ro I, .ro LQII], .sl 3 I .own]⟩)]
noncomputable def Zq8_l0_0 {R : Type} (N : Nat) (k0 : Bool → Option R) (k1 : Int → Int → Int → (List (Int × Int)) → (List Int) → Option R) : Nat → Int → Int → Int → Int → Int → Int → Int → Int → (List (Int × Int)) → (List Int) → Option R
 | 0, _, _, _, _, _, _, _, _, _, _ => none
 | K + 1, x2, x3, x4, x5, x6, x7, x8, o3, o4, o5 =>
 (br (ilt x8 x7)
 ((chk (ile 0 x8 && ilt x8 (x6 - x5))
 ((Zq7 N (o3, o4) x2 (rdI o5 (x5 + x8))).bind fun r3 =>
 (br (!r3.1.1)
 (k0 false)
 (Zq8_l0_0 N k0 k1 K x2 x3 x4 x5 x6 x7 (IntKind.i64.wrap (x8 + 1)) o3 o4 o5)))))
 (k1 x3 x4 o3 o4 o5))
noncomputable def Zq8_l0_0_again {R : Type} (N : Nat) (ks : KS Zq8_l0_0_ex R) (k : Nat) (x : Zq8_l0_0_sh.T) : Option R :=
 Zq8_l0_0 N (fun y0 => ks 0 ((y0, ()), ())) (fun y0 y1 y2 y3 y4 => ks 1 (((), (), (), y0, y1, ()), ((y2, y3, ()), y4, ()))) k x.1.2.2.1 x.1.2.2.2.2.1 x.1.2.2.2.2.2.1 x.1.2.2.2.2.2.2.1.1 x.1.2.2.2.2.2.2.1.2 x.1.2.2.2.2.2.2.2.1 x.1.2.2.2.2.2.2.2.2.1 x.2.1.1 x.2.1.2.1 x.2.2.1
noncomputable def Zq8_l0_0_s (N : Nat) : LSum := ⟨Zq8_l0_0_sh, Zq8_l0_0_ex, fun x ks => Zq8_l0_0_again N ks N x⟩
theorem Zq8_l0_0_ok (N : Nat) : LoopOk Tryz.prog Tryz.f64.ntmps (Zq8_l0_0_s N) (loopAt (loopAt Zq8_code 0) 0) := loopQ (sh := Zq8_l0_0_sh) (ex := Zq8_l0_0_ex) (N := N) (L := []) (fun R k x ks => Zq8_l0_0_again N ks k x) (Zq8_gok N) (fun _ _ _ => rfl) (fun R k x ks => by kernel_rfl) trivial (by kernel_rfl)
noncomputable def Zq8_l0_sh : Sh := ⟨[(3, .one (.adr 0 0)), (7, .one (.ref 1)), (26, .one (.ref 1)), (27, .one (.ro I)), (28, .one (.ro I))], [.box [.ro I, .ro LQII], .sl 3 I .own]⟩
noncomputable def Zq8_l0_ex : List (Ex × Sh) := [(.ret, ⟨[(6, .one (.ro .bool))], []⟩), (.exit 1, ⟨[], []⟩)]
noncomputable def Zq8_l0 {R : Type} (N : Nat) (k0 : Bool → Option R) (k1 : Unit → Option R) : Nat → Int → Int → Int → (List (Int × Int)) → (List Int) → Option R
 | 0, _, _, _, _, _ => none
 | K + 1, x, x1, o, o1, o2 =>
 (br (ilt x1 x)
 ((chk (inb o2 x1)
 (chk (ile 0 0 && ile 0 x1 && ile x1 (tLen o2))
 (Zq8_l0_0 N (fun x2 => k0 x2) (fun x3 x4 o3 o4 o5 => Zq8_l0 N k0 k1 K x3 (IntKind.i64.wrap (x4 + 1)) o3 o4 o5) N (rdI o2 x1) x x1 0 x1 (x1 - 0) 0 o o1 o2))))
 (k1 ()))
noncomputable def Zq8_l0_again {R : Type} (N : Nat) (ks : KS Zq8_l0_ex R) (k : Nat) (x : Zq8_l0_sh.T) : Option R :=
 Zq8_l0 N (fun y0 => ks 0 ((y0, ()), ())) (fun (_ : Unit) => ks 1 ((), ())) k x.1.2.2.2.1 x.1.2.2.2.2.1 x.2.1.1 x.2.1.2.1 x.2.2.1
noncomputable def Zq8_l0_s (N : Nat) : LSum := ⟨Zq8_l0_sh, Zq8_l0_ex, fun x ks => Zq8_l0_again N ks N x⟩
theorem Zq8_l0_ok (N : Nat) : LoopOk Tryz.prog Tryz.f64.ntmps (Zq8_l0_s N) (loopAt Zq8_code 0) := loopQ (sh := Zq8_l0_sh) (ex := Zq8_l0_ex) (N := N) (L := [Zq8_l0_0_s N]) (fun R k x ks => Zq8_l0_again N ks k x) (Zq8_gok N) (fun _ _ _ => rfl) (fun R k x ks => by kernel_rfl) ⟨Zq8_l0_0_ok N, trivial⟩ (by kernel_rfl)
noncomputable def Zq8_l1_sh : Sh := ⟨[(2, .one (.ro U64)), (3, .one (.adr 0 0)), (49, .one (.ro I)), (50, .one (.ro I))], [.box [.ro I, .ro LQII]]⟩
noncomputable def Zq8_l1_ex : List (Ex × Sh) := [(.ret, ⟨[(6, .one (.ro .bool))], []⟩), (.exit 5, ⟨[], []⟩)]
noncomputable def Zq8_l1 {R : Type} (N : Nat) (k0 : Bool → Option R) (k1 : Unit → Option R) : Nat → Int → Int → Int → Int → (List (Int × Int)) → Option R
 | 0, _, _, _, _, _ => none
 | K + 1, x1, x2, x3, o, o1 =>
 (br (ilt x3 x2)
 (((Zq26 N x1 x3).bind fun r3 =>
 (br (!r3.1.1)
 (((Zq12 N (o, o1) x3).bind fun r4 =>
 ((Zq25 N r4.1.1).bind fun r5 =>
 (br (ieq (bitop .and .u64 r5.1.1 x1) 0)
 (k0 false)
 (Zq8_l1 N k0 k1 K x1 x2 (IntKind.i64.wrap (x3 + 1)) o o1)))))
 (Zq8_l1 N k0 k1 K x1 x2 (IntKind.i64.wrap (x3 + 1)) o o1))))
 (k1 ()))
noncomputable def Zq8_l1_again {R : Type} (N : Nat) (ks : KS Zq8_l1_ex R) (k : Nat) (x : Zq8_l1_sh.T) : Option R :=
 Zq8_l1 N (fun y0 => ks 0 ((y0, ()), ())) (fun (_ : Unit) => ks 1 ((), ())) k x.1.1 x.1.2.2.1 x.1.2.2.2.1 x.2.1.1 x.2.1.2.1
noncomputable def Zq8_l1_s (N : Nat) : LSum := ⟨Zq8_l1_sh, Zq8_l1_ex, fun x ks => Zq8_l1_again N ks N x⟩
theorem Zq8_l1_ok (N : Nat) : LoopOk Tryz.prog Tryz.f64.ntmps (Zq8_l1_s N) (loopAt Zq8_code 1) := loopQ (sh := Zq8_l1_sh) (ex := Zq8_l1_ex) (N := N) (L := []) (fun R k x ks => Zq8_l1_again N ks k x) (Zq8_gok N) (fun _ _ _ => rfl) (fun R k x ks => by kernel_rfl) trivial (by kernel_rfl)
noncomputable def Zq8 (N : Nat) (c : (Int × (List (Int × Int)))) (c1 : Int) (c2 : Int) : Option ((Bool × Unit) × (Unit)) :=
 (br (ieq c1 1)
 (((Zq5 N (c.1, c.2)).bind fun r =>
 ((Zq9 N (c.1, c.2) (bitop .andNot .u64 r.1.1 c2)).bind fun r1 =>
 some ((r1.1.1, ()), ()))))
 ((br (ieq c1 2)
 (((Zq27 N c2).bind fun r2 =>
 Zq8_l0 N (fun x => some ((x, ()), ())) (fun (_ : Unit) => some ((true, ()), ())) N (tLen r2.1.1) 0 c.1 c.2 r2.1.1))
 (Zq8_l1 N (fun x1 => some ((x1, ()), ())) (fun (_ : Unit) => some ((true, ()), ())) N c2 c.1 0 c.1 c.2))))
noncomputable def Zq8_S (N : Nat) : FSum := ⟨Zq8_ps, Zq8_rs, fun x => Zq8 N x.1 x.2.1 x.2.2.1⟩
theorem Zq8_pc (N : Nat) : PC Tryz.prog 64 (Zq8_S N) := pcQ (L := [Zq8_l0_s N, Zq8_l1_s N]) (Zq8_gok N) Tryz.call64 Tryz.func64 (fun x => by kernel_rfl) ⟨Zq8_l0_ok N, Zq8_l1_ok N, trivial⟩ (by kernel_rfl)

abbrev Zq19_ps : List (PV.Mode × Ty) := [(.ro, QILQII), (.ro, I), (.ro, LI)]
abbrev Zq19_rs : List (Bool × Ty) := [(true, .bool), (true, .bool)]
noncomputable def Zq19_G (N : Nat) : GTab := gOf [(63, Zq35_S N), (60, Zq25_S N), (64, Zq8_S N)]
theorem Zq19_gok (N : Nat) : GOk Tryz.prog (Zq19_G N) := gOf_ok ⟨Zq35_pc N, Zq25_pc N, Zq8_pc N, trivial⟩
noncomputable def Zq19_code : Code := (Tryz.f10.body).getD .skip
noncomputable def Zq19 (N : Nat) (g : (Int × (List (Int × Int)))) (kind : Int) (setv : (List Int)) : Option ((Bool × Bool × Unit) × (Unit)) :=
 ((Zq35 N (g.1, g.2) kind setv).bind fun r =>
 (br (!r.1.1)
 (some ((false, false, ()), ()))
 (((Zq25 N setv).bind fun r1 =>
 ((Zq8 N (g.1, g.2) kind r1.1.1).bind fun r2 =>
 some ((r2.1.1, true, ()), ()))))))
noncomputable def Zq19_S (N : Nat) : FSum := ⟨Zq19_ps, Zq19_rs, fun x => Zq19 N x.1 x.2.1 x.2.2.1⟩
theorem Zq19_pc (N : Nat) : PC Tryz.prog 10 (Zq19_S N) := pcQ (L := []) (Zq19_gok N) Tryz.call10 Tryz.func10 (fun x => by kernel_rfl) trivial (by kernel_rfl)

abbrev Zq32_ps : List (PV.Mode × Ty) := [(.ro, QILQII), (.ro, I), (.ro, LI)]
abbrev Zq32_rs : List (Bool × Ty) := [(true, .bool)]
noncomputable def Zq32_G (N : Nat) : GTab := gOf [(10, Zq19_S N)]
theorem Zq32_gok (N : Nat) : GOk Tryz.prog (Zq32_G N) := gOf_ok ⟨Zq19_pc N, trivial⟩
noncomputable def Zq32_code : Code := (Tryz.f58.body).getD .skip
noncomputable def Zq32 (N : Nat) (g : (Int × (List (Int × Int)))) (kind : Int) (setv : (List Int)) : Option ((Bool × Unit) × (Unit)) :=
 ((Zq19 N (g.1, g.2) kind setv).bind fun r =>
 some ((r.1.1, ()), ()))
noncomputable def Zq32_S (N : Nat) : FSum := ⟨Zq32_ps, Zq32_rs, fun x => Zq32 N x.1 x.2.1 x.2.2.1⟩
theorem Zq32_pc (N : Nat) : PC Tryz.prog 58 (Zq32_S N) := pcQ (L := []) (Zq32_gok N) Tryz.call58 Tryz.func58 (fun x => by kernel_rfl) trivial (by kernel_rfl)

abbrev Zq11_ps : List (PV.Mode × Ty) := [(.ro, QILQII), (.ro, I), (.ro, U64)]
abbrev Zq11_rs : List (Bool × Ty) := [(true, .bool)]
noncomputable def Zq11_G (N : Nat) : GTab := gOf [(69, Zq26_S N), (64, Zq8_S N)]
theorem Zq11_gok (N : Nat) : GOk Tryz.prog (Zq11_G N) := gOf_ok ⟨Zq26_pc N, Zq8_pc N, trivial⟩
noncomputable def Zq11_code : Code := (Tryz.f59.body).getD .skip
noncomputable def Zq11_l0_sh : Sh := ⟨[(1, .one (.ro I)), (2, .one (.ro U64)), (3, .one (.adr 0 0)), (9, .one (.ro I)), (10, .one (.ro I))], [.box [.ro I, .ro LQII]]⟩
noncomputable def Zq11_l0_ex : List (Ex × Sh) := [(.ret, ⟨[(6, .one (.ro .bool))], []⟩), (.exit 0, ⟨[], []⟩)]
noncomputable def Zq11_l0 {R : Type} (N : Nat) (k0 : Bool → Option R) (k1 : Unit → Option R) : Nat → Int → Int → Int → Int → Int → (List (Int × Int)) → Option R
 | 0, _, _, _, _, _, _ => none
 | K + 1, kind1, b1, x, x1, o, o1 =>
 (br (ilt x1 x)
 (((Zq26 N b1 x1).bind fun r =>
 (br (!(r.1.1 == (ieq kind1 2)))
 ((chk (ile 0 x1)
 ((Zq8 N (o, o1) kind1 (bitop .xor .u64 b1 (shlI .u64 1 x1))).bind fun r1 =>
 (br r1.1.1
 (k0 false)
 (Zq11_l0 N k0 k1 K kind1 b1 x (IntKind.i64.wrap (x1 + 1)) o o1)))))
 (Zq11_l0 N k0 k1 K kind1 b1 x (IntKind.i64.wrap (x1 + 1)) o o1))))
 (k1 ()))
noncomputable def Zq11_l0_again {R : Type} (N : Nat) (ks : KS Zq11_l0_ex R) (k : Nat) (x : Zq11_l0_sh.T) : Option R :=
 Zq11_l0 N (fun y0 => ks 0 ((y0, ()), ())) (fun (_ : Unit) => ks 1 ((), ())) k x.1.1 x.1.2.1 x.1.2.2.2.1 x.1.2.2.2.2.1 x.2.1.1 x.2.1.2.1
noncomputable def Zq11_l0_s (N : Nat) : LSum := ⟨Zq11_l0_sh, Zq11_l0_ex, fun x ks => Zq11_l0_again N ks N x⟩
theorem Zq11_l0_ok (N : Nat) : LoopOk Tryz.prog Tryz.f59.ntmps (Zq11_l0_s N) (loopAt Zq11_code 0) := loopQ (sh := Zq11_l0_sh) (ex := Zq11_l0_ex) (N := N) (L := []) (fun R k x ks => Zq11_l0_again N ks k x) (Zq11_gok N) (fun _ _ _ => rfl) (fun R k x ks => by kernel_rfl) trivial (by kernel_rfl)
noncomputable def Zq11 (N : Nat) (g : (Int × (List (Int × Int)))) (kind : Int) (b : Int) : Option ((Bool × Unit) × (Unit)) :=
 Zq11_l0 N (fun x => some ((x, ()), ())) (fun (_ : Unit) => some ((true, ()), ())) N kind b g.1 0 g.1 g.2
noncomputable def Zq11_S (N : Nat) : FSum := ⟨Zq11_ps, Zq11_rs, fun x => Zq11 N x.1 x.2.1 x.2.2.1⟩
theorem Zq11_pc (N : Nat) : PC Tryz.prog 59 (Zq11_S N) := pcQ (L := [Zq11_l0_s N]) (Zq11_gok N) Tryz.call59 Tryz.func59 (fun x => by kernel_rfl) ⟨Zq11_l0_ok N, trivial⟩ (by kernel_rfl)

abbrev Zq21_ps : List (PV.Mode × Ty) := [(.ro, QILQII), (.ro, I), (.ro, LI)]
abbrev Zq21_rs : List (Bool × Ty) := [(true, .bool), (true, .bool)]
noncomputable def Zq21_G (N : Nat) : GTab := gOf [(58, Zq32_S N), (60, Zq25_S N), (59, Zq11_S N)]
theorem Zq21_gok (N : Nat) : GOk Tryz.prog (Zq21_G N) := gOf_ok ⟨Zq32_pc N, Zq25_pc N, Zq11_pc N, trivial⟩
noncomputable def Zq21_code : Code := (Tryz.f8.body).getD .skip
noncomputable def Zq21 (N : Nat) (g : (Int × (List (Int × Int)))) (kind : Int) (setv : (List Int)) : Option ((Bool × Bool × Unit) × (Unit)) :=
 ((Zq32 N (g.1, g.2) kind setv).bind fun r =>
 (br (!r.1.1)
 (some ((false, false, ()), ()))
 (((Zq25 N setv).bind fun r1 =>
 ((Zq11 N (g.1, g.2) kind r1.1.1).bind fun r2 =>
 some ((r2.1.1, true, ()), ()))))))
noncomputable def Zq21_S (N : Nat) : FSum := ⟨Zq21_ps, Zq21_rs, fun x => Zq21 N x.1 x.2.1 x.2.2.1⟩
theorem Zq21_pc (N : Nat) : PC Tryz.prog 8 (Zq21_S N) := pcQ (L := []) (Zq21_gok N) Tryz.call8 Tryz.func8 (fun x => by kernel_rfl) trivial (by kernel_rfl)

abbrev Zq99_ps : List (PV.Mode × Ty) := [(.ro, QILQII), (.ro, I), (.ro, LI)]
abbrev Zq99_rs : List (Bool × Ty) := [(true, .bool)]
noncomputable def Zq99_G (N : Nat) : GTab := gOf [(72, Zq74_S N), (68, Zq100_S N), (67, Zq94_S N)]
theorem Zq99_gok (N : Nat) : GOk Tryz.prog (Zq99_G N) := gOf_ok ⟨Zq74_pc N, Zq100_pc N, Zq94_pc N, trivial⟩
noncomputable def Zq99_code : Code := (Tryz.f62.body).getD .skip
noncomputable def Zq99_l0_sh : Sh := ⟨[(1, .one (.ro I)), (2, .one (.ro LI)), (3, .one (.adr 0 0)), (7, .one (.ro I))], [.box [.ro I, .ro LQII]]⟩
noncomputable def Zq99_l0_ex : List (Ex × Sh) := [(.ret, ⟨[(6, .one (.ro .bool))], []⟩), (.exit 0, ⟨[], []⟩)]
noncomputable def Zq99_l0 {R : Type} (N : Nat) (k0 : Bool → Option R) (k1 : Unit → Option R) : Nat → Int → (List Int) → Int → Int → (List (Int × Int)) → Option R
 | 0, _, _, _, _, _ => none
 | K + 1, kind1, setv1, x, o, o1 =>
 (br (ilt x o)
 (((Zq74 N setv1 x).bind fun r =>
 (br (r.1.1 == (ine kind1 2))
 (((Zq100 N setv1 x).bind fun r1 =>
 ((Zq94 N (o, o1) kind1 r1.1.1).bind fun r2 =>
 (br r2.1.1
 (k0 false)
 (Zq99_l0 N k0 k1 K kind1 setv1 (IntKind.i64.wrap (x + 1)) o o1)))))
 (Zq99_l0 N k0 k1 K kind1 setv1 (IntKind.i64.wrap (x + 1)) o o1))))
 (k1 ()))
noncomputable def Zq99_l0_again {R : Type} (N : Nat) (ks : KS Zq99_l0_ex R) (k : Nat) (x : Zq99_l0_sh.T) : Option R :=
 Zq99_l0 N (fun y0 => ks 0 ((y0, ()), ())) (fun (_ : Unit) => ks 1 ((), ())) k x.1.1 x.1.2.1 x.1.2.2.2.1 x.2.1.1 x.2.1.2.1
noncomputable def Zq99_l0_s (N : Nat) : LSum := ⟨Zq99_l0_sh, Zq99_l0_ex, fun x ks => Zq99_l0_again N ks N x⟩
theorem Zq99_l0_ok (N : Nat) : LoopOk Tryz.prog Tryz.f62.ntmps (Zq99_l0_s N) (loopAt Zq99_code 0) := loopQ (sh := Zq99_l0_sh) (ex := Zq99_l0_ex) (N := N) (L := []) (fun R k x ks => Zq99_l0_again N ks k x) (Zq99_gok N) (fun _ _ _ => rfl) (fun R k x ks => by kernel_rfl) trivial (by kernel_rfl)
noncomputable def Zq99 (N : Nat) (g : (Int × (List (Int × Int)))) (kind : Int) (setv : (List Int)) : Option ((Bool × Unit) × (Unit)) :=
 Zq99_l0 N (fun x => some ((x, ()), ())) (fun (_ : Unit) => some ((true, ()), ())) N kind setv 0 g.1 g.2
noncomputable def Zq99_S (N : Nat) : FSum := ⟨Zq99_ps, Zq99_rs, fun x => Zq99 N x.1 x.2.1 x.2.2.1⟩
theorem Zq99_pc (N : Nat) : PC Tryz.prog 62 (Zq99_S N) := pcQ (L := [Zq99_l0_s N]) (Zq99_gok N) Tryz.call62 Tryz.func62 (fun x => by kernel_rfl) ⟨Zq99_l0_ok N, trivial⟩ (by kernel_rfl)

abbrev Zq61_ps : List (PV.Mode × Ty) := [(.ro, QILQII), (.ro, I), (.ro, LI)]
abbrev Zq61_rs : List (Bool × Ty) := [(true, .bool), (true, .bool)]
noncomputable def Zq61_G (N : Nat) : GTab := gOf [(61, Zq96_S N), (62, Zq99_S N)]
theorem Zq61_gok (N : Nat) : GOk Tryz.prog (Zq61_G N) := gOf_ok ⟨Zq96_pc N, Zq99_pc N, trivial⟩
noncomputable def Zq61_code : Code := (Tryz.f9.body).getD .skip
noncomputable def Zq61 (N : Nat) (g : (Int × (List (Int × Int)))) (kind : Int) (setv : (List Int)) : Option ((Bool × Bool × Unit) × (Unit)) :=
 ((Zq96 N (g.1, g.2) kind setv).bind fun r =>
 (br (!r.1.1)
 (some ((false, false, ()), ()))
 (((Zq99 N (g.1, g.2) kind setv).bind fun r1 =>
 some ((r1.1.1, true, ()), ())))))
noncomputable def Zq61_S (N : Nat) : FSum := ⟨Zq61_ps, Zq61_rs, fun x => Zq61 N x.1 x.2.1 x.2.2.1⟩
theorem Zq61_pc (N : Nat) : PC Tryz.prog 9 (Zq61_S N) := pcQ (L := []) (Zq61_gok N) Tryz.call9 Tryz.func9 (fun x => by kernel_rfl) trivial (by kernel_rfl)

abbrev Zq22_ps : List (PV.Mode × Ty) := [(.ro, QILQII), (.ro, I), (.ro, LI)]
abbrev Zq22_rs : List (Bool × Ty) := [(true, LI), (true, .bool)]
noncomputable def Zq22_G (N : Nat) : GTab := gOf [(58, Zq32_S N), (60, Zq25_S N), (64, Zq8_S N)]
theorem Zq22_gok (N : Nat) : GOk Tryz.prog (Zq22_G N) := gOf_ok ⟨Zq32_pc N, Zq25_pc N, Zq8_pc N, trivial⟩
noncomputable def Zq22_code : Code := (Tryz.f12.body).getD .skip
noncomputable def Zq22_l0_sh : Sh := ⟨[(1, .one (.ro I)), (2, .one (.ro LI)), (3, .one (.adr 0 0)), (8, .one (.ref 1)), (17, .one (.ro I)), (18, .one (.ro I))], [.box [.ro I, .ro LQII], .sl 3 I .own]⟩
noncomputable def Zq22_l0_ex : List (Ex × Sh) := [(.exit 0, ⟨[(8, .one (.ref 0))], [.sl 3 I .own]⟩)]
noncomputable def Zq22_l0 {R : Type} (N : Nat) (k0 : (List Int) → Option R) : Nat → Int → (List Int) → Int → Int → Int → (List (Int × Int)) → (List Int) → Option R
 | 0, _, _, _, _, _, _, _ => none
 | K + 1, kind1, setv1, x, x1, o, o1, o2 =>
 (br (ilt x1 x)
 (((Zq25 N setv1).bind fun r1 =>
 (chk (ile 0 x1)
 ((Zq8 N (o, o1) kind1 (bitop .xor .u64 r1.1.1 (shlI .u64 1 x1))).bind fun r2 =>
 (br r2.1.1
 ((chk (room o2 [x1])
 (Zq22_l0 N k0 K kind1 setv1 x (IntKind.i64.wrap (x1 + 1)) o o1 (tApp o2 [x1]))))
 (Zq22_l0 N k0 K kind1 setv1 x (IntKind.i64.wrap (x1 + 1)) o o1 o2))))))
 (k0 o2))
noncomputable def Zq22_l0_again {R : Type} (N : Nat) (ks : KS Zq22_l0_ex R) (k : Nat) (x : Zq22_l0_sh.T) : Option R :=
 Zq22_l0 N (fun y0 => ks 0 (((), ()), (y0, ()))) k x.1.1 x.1.2.1 x.1.2.2.2.2.1 x.1.2.2.2.2.2.1 x.2.1.1 x.2.1.2.1 x.2.2.1
noncomputable def Zq22_l0_s (N : Nat) : LSum := ⟨Zq22_l0_sh, Zq22_l0_ex, fun x ks => Zq22_l0_again N ks N x⟩
theorem Zq22_l0_ok (N : Nat) : LoopOk Tryz.prog Tryz.f12.ntmps (Zq22_l0_s N) (loopAt Zq22_code 0) := loopQ (sh := Zq22_l0_sh) (ex := Zq22_l0_ex) (N := N) (L := []) (fun R k x ks => Zq22_l0_again N ks k x) (Zq22_gok N) (fun _ _ _ => rfl) (fun R k x ks => by kernel_rfl) trivial (by kernel_rfl)
noncomputable def Zq22 (N : Nat) (g : (Int × (List (Int × Int)))) (kind : Int) (setv : (List Int)) : Option (((List Int) × Bool × Unit) × (Unit)) :=
 ((Zq32 N (g.1, g.2) kind setv).bind fun r =>
 (br (!r.1.1)
 (some (([], false, ()), ()))
 (Zq22_l0 N (fun o => some ((o, true, ()), ())) N kind setv g.1 0 g.1 g.2 [])))
noncomputable def Zq22_S (N : Nat) : FSum := ⟨Zq22_ps, Zq22_rs, fun x => Zq22 N x.1 x.2.1 x.2.2.1⟩
theorem Zq22_pc (N : Nat) : PC Tryz.prog 12 (Zq22_S N) := pcQ (L := [Zq22_l0_s N]) (Zq22_gok N) Tryz.call12 Tryz.func12 (fun x => by kernel_rfl) ⟨Zq22_l0_ok N, trivial⟩ (by kernel_rfl)

abbrev Zq62_ps : List (PV.Mode × Ty) := [(.ro, QILQII), (.ro, I), (.ro, LI)]
abbrev Zq62_rs : List (Bool × Ty) := [(true, LI), (true, .bool)]
noncomputable def Zq62_G (N : Nat) : GTab := gOf [(61, Zq96_S N), (68, Zq100_S N), (67, Zq94_S N)]
theorem Zq62_gok (N : Nat) : GOk Tryz.prog (Zq62_G N) := gOf_ok ⟨Zq96_pc N, Zq100_pc N, Zq94_pc N, trivial⟩
noncomputable def Zq62_code : Code := (Tryz.f13.body).getD .skip
noncomputable def Zq62_l0_sh : Sh := ⟨[(1, .one (.ro I)), (2, .one (.ro LI)), (3, .one (.adr 0 0)), (8, .one (.ref 1)), (9, .one (.ro I))], [.box [.ro I, .ro LQII], .sl 3 I .own]⟩
noncomputable def Zq62_l0_ex : List (Ex × Sh) := [(.exit 0, ⟨[(8, .one (.ref 0))], [.sl 3 I .own]⟩)]
noncomputable def Zq62_l0 {R : Type} (N : Nat) (k0 : (List Int) → Option R) : Nat → Int → (List Int) → Int → Int → (List (Int × Int)) → (List Int) → Option R
 | 0, _, _, _, _, _, _ => none
 | K + 1, kind1, setv1, x, o, o1, o2 =>
 (br (ilt x o)
 (((Zq100 N setv1 x).bind fun r1 =>
 ((Zq94 N (o, o1) kind1 r1.1.1).bind fun r2 =>
 (br r2.1.1
 ((chk (room o2 [x])
 (Zq62_l0 N k0 K kind1 setv1 (IntKind.i64.wrap (x + 1)) o o1 (tApp o2 [x]))))
 (Zq62_l0 N k0 K kind1 setv1 (IntKind.i64.wrap (x + 1)) o o1 o2)))))
 (k0 o2))
noncomputable def Zq62_l0_again {R : Type} (N : Nat) (ks : KS Zq62_l0_ex R) (k : Nat) (x : Zq62_l0_sh.T) : Option R :=
 Zq62_l0 N (fun y0 => ks 0 (((), ()), (y0, ()))) k x.1.1 x.1.2.1 x.1.2.2.2.2.1 x.2.1.1 x.2.1.2.1 x.2.2.1
noncomputable def Zq62_l0_s (N : Nat) : LSum := ⟨Zq62_l0_sh, Zq62_l0_ex, fun x ks => Zq62_l0_again N ks N x⟩
theorem Zq62_l0_ok (N : Nat) : LoopOk Tryz.prog Tryz.f13.ntmps (Zq62_l0_s N) (loopAt Zq62_code 0) := loopQ (sh := Zq62_l0_sh) (ex := Zq62_l0_ex) (N := N) (L := []) (fun R k x ks => Zq62_l0_again N ks k x) (Zq62_gok N) (fun _ _ _ => rfl) (fun R k x ks => by kernel_rfl) trivial (by kernel_rfl)
noncomputable def Zq62 (N : Nat) (g : (Int × (List (Int × Int)))) (kind : Int) (setv : (List Int)) : Option (((List Int) × Bool × Unit) × (Unit)) :=
 ((Zq96 N (g.1, g.2) kind setv).bind fun r =>
 (br (!r.1.1)
 (some (([], false, ()), ()))
 (Zq62_l0 N (fun o => some ((o, true, ()), ())) N kind setv 0 g.1 g.2 [])))
noncomputable def Zq62_S (N : Nat) : FSum := ⟨Zq62_ps, Zq62_rs, fun x => Zq62 N x.1 x.2.1 x.2.2.1⟩
theorem Zq62_pc (N : Nat) : PC Tryz.prog 13 (Zq62_S N) := pcQ (L := [Zq62_l0_s N]) (Zq62_gok N) Tryz.call13 Tryz.func13 (fun x => by kernel_rfl) ⟨Zq62_l0_ok N, trivial⟩ (by kernel_rfl)

abbrev Zq42_ps : List (PV.Mode × Ty) := [(.ro, LI), (.ro, LI)]
abbrev Zq42_rs : List (Bool × Ty) := [(true, .bool)]
noncomputable def Zq42_G (N : Nat) : GTab := gOf []
theorem Zq42_gok (N : Nat) : GOk Tryz.prog (Zq42_G N) := gOf_ok trivial
noncomputable def Zq42_code : Code := (Tryz.f14.body).getD .skip
noncomputable def Zq42_l0_sh : Sh := ⟨[(0, .one (.ro LI)), (1, .one (.ro LI)), (5, .one (.ro I))], []⟩
noncomputable def Zq42_l0_ex : List (Ex × Sh) := [(.ret, ⟨[(4, .one (.ro .bool))], []⟩), (.exit 0, ⟨[], []⟩)]
noncomputable def Zq42_l0 {R : Type} (N : Nat) (k0 : Bool → Option R) (k1 : Unit → Option R) : Nat → (List Int) → (List Int) → Int → Option R
 | 0, _, _, _ => none
 | K + 1, a1, b1, i =>
 (br (ilt i (tLen a1))
 ((chk (inb a1 i)
 (chk (inb b1 i)
 (br (ine (rdI a1 i) (rdI b1 i))
 (k0 false)
 (Zq42_l0 N k0 k1 K a1 b1 (IntKind.i64.wrap (i + 1)))))))
 (k1 ()))
noncomputable def Zq42_l0_again {R : Type} (N : Nat) (ks : KS Zq42_l0_ex R) (k : Nat) (x : Zq42_l0_sh.T) : Option R :=
 Zq42_l0 N (fun y0 => ks 0 ((y0, ()), ())) (fun (_ : Unit) => ks 1 ((), ())) k x.1.1 x.1.2.1 x.1.2.2.1
noncomputable def Zq42_l0_s (N : Nat) : LSum := ⟨Zq42_l0_sh, Zq42_l0_ex, fun x ks => Zq42_l0_again N ks N x⟩
theorem Zq42_l0_ok (N : Nat) : LoopOk Tryz.prog Tryz.f14.ntmps (Zq42_l0_s N) (loopAt Zq42_code 0) := loopQ (sh := Zq42_l0_sh) (ex := Zq42_l0_ex) (N := N) (L := []) (fun R k x ks => Zq42_l0_again N ks k x) (Zq42_gok N) (fun _ _ _ => rfl) (fun R k x ks => by kernel_rfl) trivial (by kernel_rfl)
noncomputable def Zq42 (N : Nat) (a : (List Int)) (b : (List Int)) : Option ((Bool × Unit) × (Unit)) :=
 (br (ine (tLen a) (tLen b))
 (some ((false, ()), ()))
 (Zq42_l0 N (fun x => some ((x, ()), ())) (fun (_ : Unit) => some ((true, ()), ())) N a b 0))
noncomputable def Zq42_S (N : Nat) : FSum := ⟨Zq42_ps, Zq42_rs, fun x => Zq42 N x.1 x.2.1⟩
theorem Zq42_pc (N : Nat) : PC Tryz.prog 14 (Zq42_S N) := pcQ (L := [Zq42_l0_s N]) (Zq42_gok N) Tryz.call14 Tryz.func14 (fun x => by kernel_rfl) ⟨Zq42_l0_ok N, trivial⟩ (by kernel_rfl)

abbrev Zq18_ps : List (PV.Mode × Ty) := [(.ro, QILQII), (.ro, I), (.ro, LI)]
abbrev Zq18_rs : List (Bool × Ty) := [(true, LI), (true, .bool)]
noncomputable def Zq18_G (N : Nat) : GTab := gOf [(58, Zq32_S N), (60, Zq25_S N), (69, Zq26_S N), (64, Zq8_S N), (70, Zq27_S N)]
theorem Zq18_gok (N : Nat) : GOk Tryz.prog (Zq18_G N) := gOf_ok ⟨Zq32_pc N, Zq25_pc N, Zq26_pc N, Zq8_pc N, Zq27_pc N, trivial⟩
noncomputable def Zq18_code : Code := (Tryz.f15.body).getD .skip
noncomputable def Zq18_l0_sh : Sh := ⟨[(1, .one (.ro I)), (3, .one (.adr 0 0)), (8, .one (.ro U64)), (18, .one (.ro I)), (19, .one (.ro I))], [.box [.ro I, .ro LQII]]⟩
noncomputable def Zq18_l0_ex : List (Ex × Sh) := [(.exit 0, ⟨[(8, .one (.ro U64))], []⟩)]
noncomputable def Zq18_l0 {R : Type} (N : Nat) (k0 : Int → Option R) : Nat → Int → Int → Int → Int → Int → (List (Int × Int)) → Option R
 | 0, _, _, _, _, _, _ => none
 | K + 1, kind1, b, x, x1, o, o1 =>
 (br (ilt x1 x)
 (((Zq26 N b x1).bind fun r2 =>
 (br (!(r2.1.1 == (ieq kind1 2)))
 ((chk (ile 0 x1)
 ((Zq8 N (o, o1) kind1 (bitop .xor .u64 b (shlI .u64 1 x1))).bind fun r3 =>
 (br r3.1.1
 ((chk (ile 0 x1)
 (Zq18_l0 N k0 K kind1 (bitop .xor .u64 b (shlI .u64 1 x1)) x (IntKind.i64.wrap (x1 + 1)) o o1)))
 (Zq18_l0 N k0 K kind1 b x (IntKind.i64.wrap (x1 + 1)) o o1)))))
 (Zq18_l0 N k0 K kind1 b x (IntKind.i64.wrap (x1 + 1)) o o1))))
 (k0 b))
noncomputable def Zq18_l0_again {R : Type} (N : Nat) (ks : KS Zq18_l0_ex R) (k : Nat) (x : Zq18_l0_sh.T) : Option R :=
 Zq18_l0 N (fun y0 => ks 0 ((y0, ()), ())) k x.1.1 x.1.2.2.1 x.1.2.2.2.1 x.1.2.2.2.2.1 x.2.1.1 x.2.1.2.1
noncomputable def Zq18_l0_s (N : Nat) : LSum := ⟨Zq18_l0_sh, Zq18_l0_ex, fun x ks => Zq18_l0_again N ks N x⟩
theorem Zq18_l0_ok (N : Nat) : LoopOk Tryz.prog Tryz.f15.ntmps (Zq18_l0_s N) (loopAt Zq18_code 0) := loopQ (sh := Zq18_l0_sh) (ex := Zq18_l0_ex) (N := N) (L := []) (fun R k x ks => Zq18_l0_again N ks k x) (Zq18_gok N) (fun _ _ _ => rfl) (fun R k x ks => by kernel_rfl) trivial (by kernel_rfl)
noncomputable def Zq18 (N : Nat) (g : (Int × (List (Int × Int)))) (kind : Int) (setv : (List Int)) : Option (((List Int) × Bool × Unit) × (Unit)) :=
 ((Zq32 N (g.1, g.2) kind setv).bind fun r =>
 (br (!r.1.1)
 (some (([], false, ()), ()))
 (((Zq25 N setv).bind fun r1 =>
 Zq18_l0 N (fun b => ((Zq27 N b).bind fun r2 =>
 some ((r2.1.1, true, ()), ()))) N kind r1.1.1 g.1 0 g.1 g.2))))
noncomputable def Zq18_S (N : Nat) : FSum := ⟨Zq18_ps, Zq18_rs, fun x => Zq18 N x.1 x.2.1 x.2.2.1⟩
theorem Zq18_pc (N : Nat) : PC Tryz.prog 15 (Zq18_S N) := pcQ (L := [Zq18_l0_s N]) (Zq18_gok N) Tryz.call15 Tryz.func15 (fun x => by kernel_rfl) ⟨Zq18_l0_ok N, trivial⟩ (by kernel_rfl)

abbrev Zq56_ps : List (PV.Mode × Ty) := [(.ro, LU8)]
abbrev Zq56_rs : List (Bool × Ty) := [(false, QILQII), (false, I)]
noncomputable def Zq56_G (N : Nat) : GTab := gOf [(54, Zq66_S N), (55, Zq67_S N)]
theorem Zq56_gok (N : Nat) : GOk Tryz.prog (Zq56_G N) := gOf_ok ⟨Zq66_pc N, Zq67_pc N, trivial⟩
noncomputable def Zq56_code : Code := (Tryz.f73.body).getD .skip
noncomputable def Zq56 (N : Nat) (code : (List Int)) : Option (((Int × (List (Int × Int))) × Int × Unit) × (Unit)) :=
 ((Zq66 N (code, (0, 0))).bind fun r =>
 ((Zq67 N (r.2.1.1, (r.2.1.2.1, r.2.1.2.2))).bind fun r1 =>
 some (((r.1.1.1, r.1.1.2), r1.1.1, ()), ())))
noncomputable def Zq56_S (N : Nat) : FSum := ⟨Zq56_ps, Zq56_rs, fun x => Zq56 N x.1⟩
theorem Zq56_pc (N : Nat) : PC Tryz.prog 73 (Zq56_S N) := pcQ (L := []) (Zq56_gok N) Tryz.call73 Tryz.func73 (fun x => by kernel_rfl) trivial (by kernel_rfl)

abbrev Zq58_ps : List (PV.Mode × Ty) := [(.ro, LU8)]
abbrev Zq58_rs : List (Bool × Ty) := [(false, QILQII), (false, I)]
noncomputable def Zq58_G (N : Nat) : GTab := gOf [(73, Zq56_S N)]
theorem Zq58_gok (N : Nat) : GOk Tryz.prog (Zq58_G N) := gOf_ok ⟨Zq56_pc N, trivial⟩
noncomputable def Zq58_code : Code := (Tryz.f17.body).getD .skip
noncomputable def Zq58 (N : Nat) (code : (List Int)) : Option (((Int × (List (Int × Int))) × Int × Unit) × (Unit)) :=
 ((Zq56 N code).bind fun r =>
 some (((r.1.1.1, r.1.1.2), r.1.2.1, ()), ()))
noncomputable def Zq58_S (N : Nat) : FSum := ⟨Zq58_ps, Zq58_rs, fun x => Zq58 N x.1⟩
theorem Zq58_pc (N : Nat) : PC Tryz.prog 17 (Zq58_S N) := pcQ (L := []) (Zq58_gok N) Tryz.call17 Tryz.func17 (fun x => by kernel_rfl) trivial (by kernel_rfl)

abbrev Zq45_ps : List (PV.Mode × Ty) := [(.ro, LI), (.ro, LI)]
abbrev Zq45_rs : List (Bool × Ty) := [(true, I)]
noncomputable def Zq45_G (N : Nat) : GTab := gOf [(153, Zq0_S N)]
theorem Zq45_gok (N : Nat) : GOk Tryz.prog (Zq45_G N) := gOf_ok ⟨Zq0_pc N, trivial⟩
noncomputable def Zq45_code : Code := (Tryz.f102.body).getD .skip
noncomputable def Zq45_l0_sh : Sh := ⟨[(0, .one (.ro LI)), (1, .one (.ro LI)), (9, .one (.ro LI)), (10, .one (.ro I)), (11, .one (.ro I))], []⟩
noncomputable def Zq45_l0_ex : List (Ex × Sh) := [(.ret, ⟨[(4, .one (.ro I))], []⟩), (.exit 0, ⟨[(0, .one (.ro LI)), (1, .one (.ro LI))], []⟩)]
noncomputable def Zq45_l0 {R : Type} (N : Nat) (k0 : Int → Option R) (k1 : (List Int) → (List Int) → Option R) : Nat → (List Int) → (List Int) → (List Int) → Int → Int → Option R
 | 0, _, _, _, _, _ => none
 | K + 1, s11, s21, x, x1, x2 =>
 (br (ilt x2 x1)
 ((chk (inb x x2)
 (br (ile (tLen s21) x2)
 (k0 1)
 ((chk (inb s21 x2)
 ((Zq0 N (rdI x x2) (rdI s21 x2)).bind fun r =>
 (br (ine r.1.1 0)
 (k0 r.1.1)
 (Zq45_l0 N k0 k1 K s11 s21 x x1 (IntKind.i64.wrap (x2 + 1))))))))))
 (k1 s11 s21))
noncomputable def Zq45_l0_again {R : Type} (N : Nat) (ks : KS Zq45_l0_ex R) (k : Nat) (x : Zq45_l0_sh.T) : Option R :=
 Zq45_l0 N (fun y0 => ks 0 ((y0, ()), ())) (fun y0 y1 => ks 1 ((y0, y1, ()), ())) k x.1.1 x.1.2.1 x.1.2.2.1 x.1.2.2.2.1 x.1.2.2.2.2.1
noncomputable def Zq45_l0_s (N : Nat) : LSum := ⟨Zq45_l0_sh, Zq45_l0_ex, fun x ks => Zq45_l0_again N ks N x⟩
theorem Zq45_l0_ok (N : Nat) : LoopOk Tryz.prog Tryz.f102.ntmps (Zq45_l0_s N) (loopAt Zq45_code 0) := loopQ (sh := Zq45_l0_sh) (ex := Zq45_l0_ex) (N := N) (L := []) (fun R k x ks => Zq45_l0_again N ks k x) (Zq45_gok N) (fun _ _ _ => rfl) (fun R k x ks => by kernel_rfl) trivial (by kernel_rfl)
noncomputable def Zq45 (N : Nat) (s1 : (List Int)) (s2 : (List Int)) : Option ((Int × Unit) × (Unit)) :=
 Zq45_l0 N (fun x => some ((x, ()), ())) (fun s11 s21 => (br (ilt (tLen s11) (tLen s21))
 (some (((-1), ()), ()))
 (some ((0, ()), ())))) N s1 s2 s1 (tLen s1) 0
noncomputable def Zq45_S (N : Nat) : FSum := ⟨Zq45_ps, Zq45_rs, fun x => Zq45 N x.1 x.2.1⟩
theorem Zq45_pc (N : Nat) : PC Tryz.prog 102 (Zq45_S N) := pcQ (L := [Zq45_l0_s N]) (Zq45_gok N) Tryz.call102 Tryz.func102 (fun x => by kernel_rfl) ⟨Zq45_l0_ok N, trivial⟩ (by kernel_rfl)
end Go.Proofs.YtffeokcchabclaaGreat
