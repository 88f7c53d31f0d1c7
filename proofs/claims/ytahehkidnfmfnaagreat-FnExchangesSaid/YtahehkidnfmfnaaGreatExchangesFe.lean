/- Functions of the program as functions on data. -/
import Derived.Test.YtahehkidnfmfnaaGreatExchangesFd
set_option linter.all false
namespace Go.Proofs.YtahehkidnfmfnaaGreat
open Go Go.PV
abbrev Zq54_ps : List (PV.Mode × Ty) := [(.ro, LQII), (.ro, LQII)]
abbrev Zq54_rs : List (Bool × Ty) := [(true, .bool)]
noncomputable def Zq54_G (N : Nat) : GTab := gOf []
theorem Zq54_gok (N : Nat) : GOk Tryz.prog (Zq54_G N) := gOf_ok trivial
noncomputable def Zq54_code : Code := (Tryz.f39.body).getD .skip
noncomputable def Zq54_l0_sh : Sh := ⟨[(0, .one (.ro LQII)), (1, .one (.ro LQII)), (5, .one (.ro I))], []⟩
noncomputable def Zq54_l0_ex : List (Ex × Sh) := [(.ret, ⟨[(4, .one (.ro .bool))], []⟩), (.exit 0, ⟨[], []⟩)]
noncomputable def Zq54_l0 {R : Type} (N : Nat) (k0 : Bool → Option R) (k1 : Unit → Option R) : Nat → (List (Int × Int)) → (List (Int × Int)) → Int → Option R
 | 0, _, _, _ => none
 | K + 1, a1, b1, i =>
 (br (ilt i (tLen a1))
 ((chk (inb a1 i)
 (chk (inb b1 i)
 (br (!(ieq ((rdP a1 i).1) ((rdP b1 i).1) && ieq ((rdP a1 i).2) ((rdP b1 i).2)))
 (k0 false)
 (Zq54_l0 N k0 k1 K a1 b1 (IntKind.i64.wrap (i + 1)))))))
 (k1 ()))
noncomputable def Zq54_l0_again {R : Type} (N : Nat) (ks : KS Zq54_l0_ex R) (k : Nat) (x : Zq54_l0_sh.T) : Option R :=
 Zq54_l0 N (fun y0 => ks 0 ((y0, ()), ())) (fun (_ : Unit) => ks 1 ((), ())) k x.1.1 x.1.2.1 x.1.2.2.1
noncomputable def Zq54_l0_s (N : Nat) : LSum := ⟨Zq54_l0_sh, Zq54_l0_ex, fun x ks => Zq54_l0_again N ks N x⟩
theorem Zq54_l0_ok (N : Nat) : LoopOk Tryz.prog Tryz.f39.ntmps (Zq54_l0_s N) (loopAt Zq54_code 0) := loopQ (sh := Zq54_l0_sh) (ex := Zq54_l0_ex) (N := N) (L := []) (fun R k x ks => Zq54_l0_again N ks k x) (Zq54_gok N) (fun _ _ _ => rfl) (fun R k x ks => by kernel_rfl) trivial (by kernel_rfl)
noncomputable def Zq54 (N : Nat) (a : (List (Int × Int))) (b : (List (Int × Int))) : Option ((Bool × Unit) × (Unit)) :=
 (br (ine (tLen a) (tLen b))
 (some ((false, ()), ()))
 (Zq54_l0 N (fun x => some ((x, ()), ())) (fun (_ : Unit) => some ((true, ()), ())) N a b 0))
noncomputable def Zq54_S (N : Nat) : FSum := ⟨Zq54_ps, Zq54_rs, fun x => Zq54 N x.1 x.2.1⟩
theorem Zq54_pc (N : Nat) : PC Tryz.prog 39 (Zq54_S N) := pcQ (L := [Zq54_l0_s N]) (Zq54_gok N) Tryz.call39 Tryz.func39 (fun x => by kernel_rfl) ⟨Zq54_l0_ok N, trivial⟩ (by kernel_rfl)

abbrev Zq55_ps : List (PV.Mode × Ty) := [(.ro, QLLILQII), (.ro, QLLILQII)]
abbrev Zq55_rs : List (Bool × Ty) := [(true, .bool)]
noncomputable def Zq55_G (N : Nat) : GTab := gOf [(8, Zq56_S N), (39, Zq54_S N)]
theorem Zq55_gok (N : Nat) : GOk Tryz.prog (Zq55_G N) := gOf_ok ⟨Zq56_pc N, Zq54_pc N, trivial⟩
noncomputable def Zq55_code : Code := (Tryz.f12.body).getD .skip
noncomputable def Zq55 (N : Nat) (a : ((List (List Int)) × (List (Int × Int)))) (b : ((List (List Int)) × (List (Int × Int)))) : Option ((Bool × Unit) × (Unit)) :=
 ((Zq56 N a.1 b.1).bind fun r =>
 (br r.1.1
 (((Zq54 N a.2 b.2).bind fun r1 =>
 some ((r1.1.1, ()), ())))
 (some ((false, ()), ()))))
noncomputable def Zq55_S (N : Nat) : FSum := ⟨Zq55_ps, Zq55_rs, fun x => Zq55 N x.1 x.2.1⟩
theorem Zq55_pc (N : Nat) : PC Tryz.prog 12 (Zq55_S N) := pcQ (L := []) (Zq55_gok N) Tryz.call12 Tryz.func12 (fun x => by kernel_rfl) trivial (by kernel_rfl)

abbrev Zq13_ps : List (PV.Mode × Ty) := [(.ro, QILQII), (.ro, LI), (.ro, LI)]
abbrev Zq13_rs : List (Bool × Ty) := [(true, .bool)]
noncomputable def Zq13_G (N : Nat) : GTab := gOf [(82, Zq47_S N), (81, Zq33_S N), (85, Zq32_S N), (84, Zq9_S N)]
theorem Zq13_gok (N : Nat) : GOk Tryz.prog (Zq13_G N) := gOf_ok ⟨Zq47_pc N, Zq33_pc N, Zq32_pc N, Zq9_pc N, trivial⟩
noncomputable def Zq13_code : Code := (Tryz.f40.body).getD .skip
noncomputable def Zq13 (N : Nat) (g : (Int × (List (Int × Int)))) (a : (List Int)) (b : (List Int)) : Option ((Bool × Unit) × (Unit)) :=
 ((Zq47 N a b).bind fun r =>
 ((Zq33 N r.1.1).bind fun r1 =>
 (br (ieq r1.1.1 1)
 (((Zq33 N r.1.2.1).bind fun r2 =>
 (br (ieq r2.1.1 1)
 (((Zq32 N r.1.1).bind fun r3 =>
 (chk (inb r3.1.1 0)
 ((Zq32 N r.1.2.1).bind fun r4 =>
 (chk (inb r4.1.1 0)
 ((Zq9 N (g.1, g.2) (rdI r3.1.1 0) (rdI r4.1.1 0)).bind fun r5 =>
 some ((r5.1.1, ()), ())))))))
 (some ((false, ()), ())))))
 (some ((false, ()), ())))))
noncomputable def Zq13_S (N : Nat) : FSum := ⟨Zq13_ps, Zq13_rs, fun x => Zq13 N x.1 x.2.1 x.2.2.1⟩
theorem Zq13_pc (N : Nat) : PC Tryz.prog 40 (Zq13_S N) := pcQ (L := []) (Zq13_gok N) Tryz.call40 Tryz.func40 (fun x => by kernel_rfl) trivial (by kernel_rfl)

abbrev Zq22_ps : List (PV.Mode × Ty) := [(.ro, QILQII), (.ro, I), (.ro, I)]
abbrev Zq22_rs : List (Bool × Ty) := [(true, QLLILQII), (true, .bool)]
noncomputable def Zq22_G (N : Nat) : GTab := gOf [(34, Zq46_S N), (36, Zq7_S N), (40, Zq13_S N), (35, Zq49_S N)]
theorem Zq22_gok (N : Nat) : GOk Tryz.prog (Zq22_G N) := gOf_ok ⟨Zq46_pc N, Zq7_pc N, Zq13_pc N, Zq49_pc N, trivial⟩
noncomputable def Zq22_code : Code := (Tryz.f13.body).getD .skip
noncomputable def Zq22 (N : Nat) (g : (Int × (List (Int × Int)))) (kind : Int) (kv : Int) : Option ((((List (List Int)) × (List (Int × Int))) × Bool × Unit) × (Unit)) :=
 ((Zq46 N (g.1, g.2) kind kv).bind fun r =>
 (br (!r.1.1)
 (some ((([], []), false, ()), ()))
 (((Zq7 N (g.1, g.2) kind kv).bind fun r1 =>
 ((Zq49 N r1.1.1 (fun y0 y1 => (Zq13 N (g.1, g.2) y0 y1).bind fun z => some z.1.1)).bind fun r2 =>
 some (((r2.1.1.1, r2.1.1.2), true, ()), ()))))))
noncomputable def Zq22_S (N : Nat) : FSum := ⟨Zq22_ps, Zq22_rs, fun x => Zq22 N x.1 x.2.1 x.2.2.1⟩
theorem Zq22_pc (N : Nat) : PC Tryz.prog 13 (Zq22_S N) := pcQ (L := []) (Zq22_gok N) Tryz.call13 Tryz.func13 (fun x => by kernel_rfl) trivial (by kernel_rfl)

abbrev Zq83_ps : List (PV.Mode × Ty) := [(.ro, QILQII), (.ro, I), (.ro, I)]
abbrev Zq83_rs : List (Bool × Ty) := [(false, QLLILQII), (true, .bool)]
noncomputable def Zq83_G (N : Nat) : GTab := gOf [(38, Zq121_S N), (30, Zq117_S N)]
theorem Zq83_gok (N : Nat) : GOk Tryz.prog (Zq83_G N) := gOf_ok ⟨Zq121_pc N, Zq117_pc N, trivial⟩
noncomputable def Zq83_code : Code := (Tryz.f14.body).getD .skip
noncomputable def Zq83 (N : Nat) (g : (Int × (List (Int × Int)))) (kind : Int) (kv : Int) : Option ((((List (List Int)) × (List (Int × Int))) × Bool × Unit) × (Unit)) :=
 ((Zq121 N (g.1, g.2) kind kv).bind fun r =>
 (br (!r.1.1)
 (some ((([], []), false, ()), ()))
 (((Zq117 N (g.1, g.2) kind kv true).bind fun r1 =>
 some (((r1.1.1.1, r1.1.1.2), true, ()), ())))))
noncomputable def Zq83_S (N : Nat) : FSum := ⟨Zq83_ps, Zq83_rs, fun x => Zq83 N x.1 x.2.1 x.2.2.1⟩
theorem Zq83_pc (N : Nat) : PC Tryz.prog 14 (Zq83_S N) := pcQ (L := []) (Zq83_gok N) Tryz.call14 Tryz.func14 (fun x => by kernel_rfl) trivial (by kernel_rfl)

abbrev Zq70_ps : List (PV.Mode × Ty) := [(.ro, LI), (.ro, FIBo)]
abbrev Zq70_rs : List (Bool × Ty) := [(true, I)]
noncomputable def Zq70_G (N : Nat) : GTab := gOf []
theorem Zq70_gok (N : Nat) : GOk Tryz.prog (Zq70_G N) := gOf_ok trivial
noncomputable def Zq70_code : Code := (Tryz.f150.body).getD .skip
noncomputable def Zq70_l0_sh : Sh := ⟨[(0, .one (.ro LI)), (1, .one (.ro FIBo)), (7, .one (.ro I)), (8, .one (.ro I))], []⟩
noncomputable def Zq70_l0_ex : List (Ex × Sh) := [(.ret, ⟨[(4, .one (.ro I))], []⟩), (.exit 0, ⟨[], []⟩)]
noncomputable def Zq70_l0 {R : Type} (N : Nat) (k0 : Int → Option R) (k1 : Unit → Option R) : Nat → (List Int) → (Int → Option Bool) → Int → Int → Option R
 | 0, _, _, _, _ => none
 | K + 1, s1, f1, x, x1 =>
 (br (ilt x1 x)
 ((chk (inb s1 x1)
 ((f1 (rdI s1 x1)).bind fun v =>
 (br v
 (k0 x1)
 (Zq70_l0 N k0 k1 K s1 f1 x (IntKind.i64.wrap (x1 + 1)))))))
 (k1 ()))
noncomputable def Zq70_l0_again {R : Type} (N : Nat) (ks : KS Zq70_l0_ex R) (k : Nat) (x : Zq70_l0_sh.T) : Option R :=
 Zq70_l0 N (fun y0 => ks 0 ((y0, ()), ())) (fun (_ : Unit) => ks 1 ((), ())) k x.1.1 x.1.2.1 x.1.2.2.1 x.1.2.2.2.1
noncomputable def Zq70_l0_s (N : Nat) : LSum := ⟨Zq70_l0_sh, Zq70_l0_ex, fun x ks => Zq70_l0_again N ks N x⟩
theorem Zq70_l0_ok (N : Nat) : LoopOk Tryz.prog Tryz.f150.ntmps (Zq70_l0_s N) (loopAt Zq70_code 0) := loopQ (sh := Zq70_l0_sh) (ex := Zq70_l0_ex) (N := N) (L := []) (fun R k x ks => Zq70_l0_again N ks k x) (Zq70_gok N) (fun _ _ _ => rfl) (fun R k x ks => by kernel_rfl) trivial (by kernel_rfl)
noncomputable def Zq70 (N : Nat) (s : (List Int)) (f : (Int → Option Bool)) : Option ((Int × Unit) × (Unit)) :=
 Zq70_l0 N (fun x => some ((x, ()), ())) (fun (_ : Unit) => some (((-1), ()), ())) N s f (tLen s) 0
noncomputable def Zq70_S (N : Nat) : FSum := ⟨Zq70_ps, Zq70_rs, fun x => Zq70 N x.1 x.2.1⟩
theorem Zq70_pc (N : Nat) : PC Tryz.prog 150 (Zq70_S N) := pcQ (L := [Zq70_l0_s N]) (Zq70_gok N) Tryz.call150 Tryz.func150 (fun x => by kernel_rfl) ⟨Zq70_l0_ok N, trivial⟩ (by kernel_rfl)

abbrev Zq66_ps : List (PV.Mode × Ty) := [(.ro, LI), (.ro, FIBo)]
abbrev Zq66_rs : List (Bool × Ty) := [(true, .bool)]
noncomputable def Zq66_G (N : Nat) : GTab := gOf [(150, Zq70_S N)]
theorem Zq66_gok (N : Nat) : GOk Tryz.prog (Zq66_G N) := gOf_ok ⟨Zq70_pc N, trivial⟩
noncomputable def Zq66_code : Code := (Tryz.f118.body).getD .skip
noncomputable def Zq66 (N : Nat) (s : (List Int)) (f : (Int → Option Bool)) : Option ((Bool × Unit) × (Unit)) :=
 ((Zq70 N s f).bind fun r =>
 some (((ile 0 r.1.1), ()), ()))
noncomputable def Zq66_S (N : Nat) : FSum := ⟨Zq66_ps, Zq66_rs, fun x => Zq66 N x.1 x.2.1⟩
theorem Zq66_pc (N : Nat) : PC Tryz.prog 118 (Zq66_S N) := pcQ (L := []) (Zq66_gok N) Tryz.call118 Tryz.func118 (fun x => by kernel_rfl) trivial (by kernel_rfl)

abbrev Zq45_ps : List (PV.Mode × Ty) := [(.ro, I)]
abbrev Zq45_rs : List (Bool × Ty) := [(true, .bool)]
noncomputable def Zq45_G (N : Nat) : GTab := gOf [(78, Zq34_S N)]
theorem Zq45_gok (N : Nat) : GOk Tryz.prog (Zq45_G N) := gOf_ok ⟨Zq34_pc N, trivial⟩
noncomputable def Zq45_code : Code := (Tryz.f119.body).getD .skip
noncomputable def Zq45 (N : Nat) (n : Int) : Option ((Bool × Unit) × (Unit)) :=
 ((Zq34 N n (-99) 99).bind fun r =>
 some (((!r.1.1), ()), ()))
noncomputable def Zq45_S (N : Nat) : FSum := ⟨Zq45_ps, Zq45_rs, fun x => Zq45 N x.1⟩
theorem Zq45_pc (N : Nat) : PC Tryz.prog 119 (Zq45_S N) := pcQ (L := []) (Zq45_gok N) Tryz.call119 Tryz.func119 (fun x => by kernel_rfl) trivial (by kernel_rfl)

abbrev Zq44_ps : List (PV.Mode × Ty) := [(.ro, LI)]
abbrev Zq44_rs : List (Bool × Ty) := [(true, .bool)]
noncomputable def Zq44_G (N : Nat) : GTab := gOf [(118, Zq66_S N), (119, Zq45_S N)]
theorem Zq44_gok (N : Nat) : GOk Tryz.prog (Zq44_G N) := gOf_ok ⟨Zq66_pc N, Zq45_pc N, trivial⟩
noncomputable def Zq44_code : Code := (Tryz.f86.body).getD .skip
noncomputable def Zq44 (N : Nat) (state : (List Int)) : Option ((Bool × Unit) × (Unit)) :=
 (br (ile (tLen state) 24)
 (((Zq66 N state (fun y0 => (Zq45 N y0).bind fun z => some z.1.1)).bind fun r =>
 some (((!r.1.1), ()), ())))
 (some ((false, ()), ())))
noncomputable def Zq44_S (N : Nat) : FSum := ⟨Zq44_ps, Zq44_rs, fun x => Zq44 N x.1⟩
theorem Zq44_pc (N : Nat) : PC Tryz.prog 86 (Zq44_S N) := pcQ (L := []) (Zq44_gok N) Tryz.call86 Tryz.func86 (fun x => by kernel_rfl) trivial (by kernel_rfl)

abbrev Zq20_ps : List (PV.Mode × Ty) := [(.ro, QLLILQII)]
abbrev Zq20_rs : List (Bool × Ty) := [(true, .bool)]
noncomputable def Zq20_G (N : Nat) : GTab := gOf [(86, Zq44_S N), (44, Zq65_S N), (87, Zq41_S N)]
theorem Zq20_gok (N : Nat) : GOk Tryz.prog (Zq20_G N) := gOf_ok ⟨Zq44_pc N, Zq65_pc N, Zq41_pc N, trivial⟩
noncomputable def Zq20_code : Code := (Tryz.f41.body).getD .skip
noncomputable def Zq20_l0_sh : Sh := ⟨[(1, .one (.adr 0 0)), (16, .one (.ro LLI)), (17, .one (.ro I)), (18, .one (.ro I))], [.box [.ro LLI, .ro LQII]]⟩
noncomputable def Zq20_l0_ex : List (Ex × Sh) := [(.ret, ⟨[(2, .one (.ro .bool))], []⟩), (.exit 0, ⟨[(1, .one (.adr 0 0))], [.box [.ro LLI, .ro LQII]]⟩)]
noncomputable def Zq20_l0 {R : Type} (N : Nat) (k0 : Bool → Option R) (k1 : (List (List Int)) → (List (Int × Int)) → Option R) : Nat → (List (List Int)) → Int → Int → (List (List Int)) → (List (Int × Int)) → Option R
 | 0, _, _, _, _, _ => none
 | K + 1, x1, x2, x3, o, o1 =>
 (br (ilt x3 x2)
 ((chk (inb x1 x3)
 ((Zq44 N (rdL x1 x3)).bind fun r =>
 (br (!r.1.1)
 (k0 false)
 ((br (ilt 0 x3)
 ((chk (inb o (IntKind.i64.wrap (x3 - 1)))
 ((Zq65 N (rdL o (IntKind.i64.wrap (x3 - 1))) (rdL x1 x3)).bind fun r1 =>
 (br (ile 0 r1.1.1)
 (k0 false)
 (Zq20_l0 N k0 k1 K x1 x2 (IntKind.i64.wrap (x3 + 1)) o o1)))))
 (Zq20_l0 N k0 k1 K x1 x2 (IntKind.i64.wrap (x3 + 1)) o o1)))))))
 (k1 o o1))
noncomputable def Zq20_l0_again {R : Type} (N : Nat) (ks : KS Zq20_l0_ex R) (k : Nat) (x : Zq20_l0_sh.T) : Option R :=
 Zq20_l0 N (fun y0 => ks 0 ((y0, ()), ())) (fun y0 y1 => ks 1 (((), ()), ((y0, y1, ()), ()))) k x.1.2.1 x.1.2.2.1 x.1.2.2.2.1 x.2.1.1 x.2.1.2.1
noncomputable def Zq20_l0_s (N : Nat) : LSum := ⟨Zq20_l0_sh, Zq20_l0_ex, fun x ks => Zq20_l0_again N ks N x⟩
theorem Zq20_l0_ok (N : Nat) : LoopOk Tryz.prog Tryz.f41.ntmps (Zq20_l0_s N) (loopAt Zq20_code 0) := loopQ (sh := Zq20_l0_sh) (ex := Zq20_l0_ex) (N := N) (L := []) (fun R k x ks => Zq20_l0_again N ks k x) (Zq20_gok N) (fun _ _ _ => rfl) (fun R k x ks => by kernel_rfl) trivial (by kernel_rfl)
noncomputable def Zq20 (N : Nat) (x : ((List (List Int)) × (List (Int × Int)))) : Option ((Bool × Unit) × (Unit)) :=
 (br (ilt 300 (tLen x.1))
 (some ((false, ()), ()))
 ((br (ilt 6000 (tLen x.2))
 (some ((false, ()), ()))
 (Zq20_l0 N (fun x1 => some ((x1, ()), ())) (fun o o1 => ((Zq41 N o1 (tLen o)).bind fun r =>
 some ((r.1.1, ()), ()))) N x.1 (tLen x.1) 0 x.1 x.2))))
noncomputable def Zq20_S (N : Nat) : FSum := ⟨Zq20_ps, Zq20_rs, fun x => Zq20 N x.1⟩
theorem Zq20_pc (N : Nat) : PC Tryz.prog 41 (Zq20_S N) := pcQ (L := [Zq20_l0_s N]) (Zq20_gok N) Tryz.call41 Tryz.func41 (fun x => by kernel_rfl) ⟨Zq20_l0_ok N, trivial⟩ (by kernel_rfl)

abbrev Zq36_ps : List (PV.Mode × Ty) := [(.ro, LLI)]
abbrev Zq36_rs : List (Bool × Ty) := [(true, LLI)]
noncomputable def Zq36_G (N : Nat) : GTab := gOf [(68, Zq62_S N)]
theorem Zq36_gok (N : Nat) : GOk Tryz.prog (Zq36_G N) := gOf_ok ⟨Zq62_pc N, trivial⟩
noncomputable def Zq36_code : Code := (Tryz.f42.body).getD .skip
noncomputable def Zq36_l0_sh : Sh := ⟨[(3, .one (.ref 0)), (7, .one (.ro LLI)), (8, .one (.ro I)), (9, .one (.ro I))], [.sl 27 LI .deep]⟩
noncomputable def Zq36_l0_ex : List (Ex × Sh) := [(.exit 0, ⟨[(3, .one (.ref 0))], [.sl 27 LI .deep]⟩)]
noncomputable def Zq36_l0 {R : Type} (N : Nat) (k0 : (List (List Int)) → Option R) : Nat → (List (List Int)) → Int → Int → (List (List Int)) → Option R
 | 0, _, _, _, _ => none
 | K + 1, x, x1, x2, o =>
 (br (ilt x2 x1)
 ((chk (inb x x2)
 ((Zq62 N (rdL x x2)).bind fun r =>
 (chk (room o [r.1.1])
 (Zq36_l0 N k0 K x x1 (IntKind.i64.wrap (x2 + 1)) (tApp o [r.1.1]))))))
 (k0 o))
noncomputable def Zq36_l0_again {R : Type} (N : Nat) (ks : KS Zq36_l0_ex R) (k : Nat) (x : Zq36_l0_sh.T) : Option R :=
 Zq36_l0 N (fun y0 => ks 0 (((), ()), (y0, ()))) k x.1.2.1 x.1.2.2.1 x.1.2.2.2.1 x.2.1
noncomputable def Zq36_l0_s (N : Nat) : LSum := ⟨Zq36_l0_sh, Zq36_l0_ex, fun x ks => Zq36_l0_again N ks N x⟩
theorem Zq36_l0_ok (N : Nat) : LoopOk Tryz.prog Tryz.f42.ntmps (Zq36_l0_s N) (loopAt Zq36_code 0) := loopQ (sh := Zq36_l0_sh) (ex := Zq36_l0_ex) (N := N) (L := []) (fun R k x ks => Zq36_l0_again N ks k x) (Zq36_gok N) (fun _ _ _ => rfl) (fun R k x ks => by kernel_rfl) trivial (by kernel_rfl)
noncomputable def Zq36 (N : Nat) (lists : (List (List Int))) : Option (((List (List Int)) × Unit) × (Unit)) :=
 Zq36_l0 N (fun o => some ((o, ()), ())) N lists (tLen lists) 0 []
noncomputable def Zq36_S (N : Nat) : FSum := ⟨Zq36_ps, Zq36_rs, fun x => Zq36 N x.1⟩
theorem Zq36_pc (N : Nat) : PC Tryz.prog 42 (Zq36_S N) := pcQ (L := [Zq36_l0_s N]) (Zq36_gok N) Tryz.call42 Tryz.func42 (fun x => by kernel_rfl) ⟨Zq36_l0_ok N, trivial⟩ (by kernel_rfl)

abbrev Zq63_ps : List (PV.Mode × Ty) := [(.own, RLI), (.ro, GLILIBo)]
abbrev Zq63_rs : List (Bool × Ty) := [(true, RLI)]
noncomputable def Zq63_G (N : Nat) : GTab := gOf []
theorem Zq63_gok (N : Nat) : GOk Tryz.prog (Zq63_G N) := gOf_ok trivial
noncomputable def Zq63_code : Code := (Tryz.f45.body).getD .skip
noncomputable def Zq63_l0_0_sh : Sh := ⟨[(0, .one (.ref 0)), (1, .one (.ro GLILIBo)), (5, .one (.ro I)), (6, .one (.sub 0 1)), (7, .one (.ro I))], [.sl 27 LI .own]⟩
noncomputable def Zq63_l0_0_ex : List (Ex × Sh) := [(.exit 2, ⟨[(0, .one (.ref 0)), (5, .one (.ro I))], [.sl 27 LI .own]⟩)]
noncomputable def Zq63_l0_0 {R : Type} (N : Nat) (k0 : Int → (List (List Int)) → Option R) : Nat → ((List Int) → (List Int) → Option Bool) → Int → Int → Int → Int → (List (List Int)) → Option R
 | 0, _, _, _, _, _, _ => none
 | K + 1, x2, x3, x4, x5, x6, o1 =>
 (br (ilt x6 (x5 - x4))
 ((chk (ile 0 x6 && ilt x6 (x5 - x4))
 (chk (ile 0 (IntKind.i64.wrap (x6 - 1)) && ilt (IntKind.i64.wrap (x6 - 1)) (x5 - x4))
 ((x2 (rdL o1 (x4 + x6)) (rdL o1 (x4 + (IntKind.i64.wrap (x6 - 1))))).bind fun v1 =>
 (br (!v1)
 ((chk (ile 0 x6 && ilt x6 (x5 - x4))
 (chk (inb o1 x3)
 (Zq63_l0_0 N k0 K x2 (IntKind.i64.wrap (x3 + 1)) x4 x5 (IntKind.i64.wrap (x6 + 1)) (tSet o1 x3 (rdL o1 (x4 + x6)))))))
 (Zq63_l0_0 N k0 K x2 x3 x4 x5 (IntKind.i64.wrap (x6 + 1)) o1))))))
 (k0 x3 o1))
noncomputable def Zq63_l0_0_again {R : Type} (N : Nat) (ks : KS Zq63_l0_0_ex R) (k : Nat) (x : Zq63_l0_0_sh.T) : Option R :=
 Zq63_l0_0 N (fun y0 y1 => ks 0 (((), y0, ()), (y1, ()))) k x.1.2.1 x.1.2.2.1 x.1.2.2.2.1.1 x.1.2.2.2.1.2 x.1.2.2.2.2.1 x.2.1
noncomputable def Zq63_l0_0_s (N : Nat) : LSum := ⟨Zq63_l0_0_sh, Zq63_l0_0_ex, fun x ks => Zq63_l0_0_again N ks N x⟩
theorem Zq63_l0_0_ok (N : Nat) : LoopOk Tryz.prog Tryz.f45.ntmps (Zq63_l0_0_s N) (loopAt (loopAt Zq63_code 0) 0) := loopQ (sh := Zq63_l0_0_sh) (ex := Zq63_l0_0_ex) (N := N) (L := []) (fun R k x ks => Zq63_l0_0_again N ks k x) (Zq63_gok N) (fun _ _ _ => rfl) (fun R k x ks => by kernel_rfl) trivial (by kernel_rfl)
noncomputable def Zq63_l0_sh : Sh := ⟨[(0, .one (.ref 0)), (1, .one (.ro GLILIBo)), (5, .one (.ro I))], [.sl 27 LI .own]⟩
noncomputable def Zq63_l0_ex : List (Ex × Sh) := [(.ret, ⟨[(4, .one (.sub 0 1))], [.sl 27 LI .own]⟩), (.exit 0, ⟨[(0, .one (.ref 0))], [.sl 27 LI .own]⟩)]
noncomputable def Zq63_l0 {R : Type} (N : Nat) (k0 : Int → Int → (List (List Int)) → Option R) (k1 : (List (List Int)) → Option R) : Nat → ((List Int) → (List Int) → Option Bool) → Int → (List (List Int)) → Option R
 | 0, _, _, _ => none
 | K + 1, x, x1, o =>
 (br (ilt x1 (tLen o))
 ((chk (inb o x1)
 (chk (inb o (IntKind.i64.wrap (x1 - 1)))
 ((x (rdL o x1) (rdL o (IntKind.i64.wrap (x1 - 1)))).bind fun v =>
 (br v
 ((chk (ile 0 x1 && ile x1 (tLen o) && ile (tLen o) (tLen o))
 (Zq63_l0_0 N (fun x2 o1 => (chk (ile 0 x2 && ile x2 (tLen o1) && ile (tLen o1) (tLen o1))
 (chk (ile 0 0 && ile 0 x2 && ile x2 (tLen (tPut o1 x2 (tRep ((tLen o1) - x2) []))))
 (k0 0 x2 (tPut o1 x2 (tRep ((tLen o1) - x2) [])))))) N x x1 x1 (tLen o) 1 o)))
 (Zq63_l0 N k0 k1 K x (IntKind.i64.wrap (x1 + 1)) o))))))
 (k1 o))
noncomputable def Zq63_l0_again {R : Type} (N : Nat) (ks : KS Zq63_l0_ex R) (k : Nat) (x : Zq63_l0_sh.T) : Option R :=
 Zq63_l0 N (fun y0 y1 y2 => ks 0 (((y0, y1), ()), (y2, ()))) (fun y0 => ks 1 (((), ()), (y0, ()))) k x.1.2.1 x.1.2.2.1 x.2.1
noncomputable def Zq63_l0_s (N : Nat) : LSum := ⟨Zq63_l0_sh, Zq63_l0_ex, fun x ks => Zq63_l0_again N ks N x⟩
theorem Zq63_l0_ok (N : Nat) : LoopOk Tryz.prog Tryz.f45.ntmps (Zq63_l0_s N) (loopAt Zq63_code 0) := loopQ (sh := Zq63_l0_sh) (ex := Zq63_l0_ex) (N := N) (L := [Zq63_l0_0_s N]) (fun R k x ks => Zq63_l0_again N ks k x) (Zq63_gok N) (fun _ _ _ => rfl) (fun R k x ks => by kernel_rfl) ⟨Zq63_l0_0_ok N, trivial⟩ (by kernel_rfl)
noncomputable def Zq63 (N : Nat) (c : (List (List Int))) (c1 : ((List Int) → (List Int) → Option Bool)) : Option (((List (List Int)) × Unit) × (Unit)) :=
 (br (ilt (tLen c) 2)
 (some ((c, ()), ()))
 (Zq63_l0 N (fun x x1 o => some (((tCut o x x1), ()), ())) (fun o1 => some ((o1, ()), ())) N c1 1 c))
noncomputable def Zq63_S (N : Nat) : FSum := ⟨Zq63_ps, Zq63_rs, fun x => Zq63 N x.1 x.2.1⟩
theorem Zq63_pc (N : Nat) : PC Tryz.prog 45 (Zq63_S N) := pcQ (L := [Zq63_l0_s N]) (Zq63_gok N) Tryz.call45 Tryz.func45 (fun x => by kernel_rfl) ⟨Zq63_l0_ok N, trivial⟩ (by kernel_rfl)

abbrev Zq69_ps : List (PV.Mode × Ty) := [(.ro, LI), (.ro, LI)]
abbrev Zq69_rs : List (Bool × Ty) := [(true, .bool)]
noncomputable def Zq69_G (N : Nat) : GTab := gOf []
theorem Zq69_gok (N : Nat) : GOk Tryz.prog (Zq69_G N) := gOf_ok trivial
noncomputable def Zq69_code : Code := (Tryz.f46.body).getD .skip
noncomputable def Zq69_l0_sh : Sh := ⟨[(0, .one (.ro LI)), (1, .one (.ro LI)), (12, .one (.ro I)), (13, .one (.ro I))], []⟩
noncomputable def Zq69_l0_ex : List (Ex × Sh) := [(.ret, ⟨[(4, .one (.ro .bool))], []⟩), (.exit 0, ⟨[], []⟩)]
noncomputable def Zq69_l0 {R : Type} (N : Nat) (k0 : Bool → Option R) (k1 : Unit → Option R) : Nat → (List Int) → (List Int) → Int → Int → Option R
 | 0, _, _, _, _ => none
 | K + 1, s11, s21, x, x1 =>
 (br (ilt x1 x)
 ((chk (inb s11 x1)
 (chk (inb s21 x1)
 (br (ine (rdI s11 x1) (rdI s21 x1))
 (k0 false)
 (Zq69_l0 N k0 k1 K s11 s21 x (IntKind.i64.wrap (x1 + 1)))))))
 (k1 ()))
noncomputable def Zq69_l0_again {R : Type} (N : Nat) (ks : KS Zq69_l0_ex R) (k : Nat) (x : Zq69_l0_sh.T) : Option R :=
 Zq69_l0 N (fun y0 => ks 0 ((y0, ()), ())) (fun (_ : Unit) => ks 1 ((), ())) k x.1.1 x.1.2.1 x.1.2.2.1 x.1.2.2.2.1
noncomputable def Zq69_l0_s (N : Nat) : LSum := ⟨Zq69_l0_sh, Zq69_l0_ex, fun x ks => Zq69_l0_again N ks N x⟩
theorem Zq69_l0_ok (N : Nat) : LoopOk Tryz.prog Tryz.f46.ntmps (Zq69_l0_s N) (loopAt Zq69_code 0) := loopQ (sh := Zq69_l0_sh) (ex := Zq69_l0_ex) (N := N) (L := []) (fun R k x ks => Zq69_l0_again N ks k x) (Zq69_gok N) (fun _ _ _ => rfl) (fun R k x ks => by kernel_rfl) trivial (by kernel_rfl)
noncomputable def Zq69 (N : Nat) (s1 : (List Int)) (s2 : (List Int)) : Option ((Bool × Unit) × (Unit)) :=
 (br (ine (tLen s1) (tLen s2))
 (some ((false, ()), ()))
 (Zq69_l0 N (fun x => some ((x, ()), ())) (fun (_ : Unit) => some ((true, ()), ())) N s1 s2 (tLen s1) 0))
noncomputable def Zq69_S (N : Nat) : FSum := ⟨Zq69_ps, Zq69_rs, fun x => Zq69 N x.1 x.2.1⟩
theorem Zq69_pc (N : Nat) : PC Tryz.prog 46 (Zq69_S N) := pcQ (L := [Zq69_l0_s N]) (Zq69_gok N) Tryz.call46 Tryz.func46 (fun x => by kernel_rfl) ⟨Zq69_l0_ok N, trivial⟩ (by kernel_rfl)

abbrev Zq75_ps : List (PV.Mode × Ty) := [(.mut, LQII), (.own, K50Un)]
abbrev Zq75_rs : List (Bool × Ty) := []
noncomputable def Zq75 (N : Nat) (x : List (Int × Int)) (_ : Unit) : Option (Unit × (List (Int × Int) × Unit)) := sortPF (fun a b => (Zq35 N a b).map fun z => z.1.1) x
noncomputable def Zq75_S (N : Nat) : FSum := ⟨Zq75_ps, Zq75_rs, fun x => Zq75 N x.1 x.2.1⟩
theorem Zq75_pc (N : Nat) : PC Tryz.prog 49 (Zq75_S N) := sortPairs_pc (fc := fun a b => Zq35 N a b) (sortsPAt Tryz.sortPL Tryz.sortPL_agg Tryz.sortPL_size) (sortsPNone Tryz.sortPL) Tryz.call49 (Zq35_pc N)

abbrev Zq64_ps : List (PV.Mode × Ty) := [(.own, LQII)]
abbrev Zq64_rs : List (Bool × Ty) := [(true, LQII)]
noncomputable def Zq64_G (N : Nat) : GTab := gOf []
theorem Zq64_gok (N : Nat) : GOk Tryz.prog (Zq64_G N) := gOf_ok trivial
noncomputable def Zq64_code : Code := (Tryz.f51.body).getD .skip
noncomputable def Zq64_l0_0_sh : Sh := ⟨[(0, .one (.ref 0)), (3, .one (.ro I)), (4, .one (.sub 0 2)), (5, .one (.ro I))], [.sl 73 QII .own]⟩
noncomputable def Zq64_l0_0_ex : List (Ex × Sh) := [(.exit 2, ⟨[(0, .one (.ref 0)), (3, .one (.ro I))], [.sl 73 QII .own]⟩)]
noncomputable def Zq64_l0_0 {R : Type} (N : Nat) (k0 : Int → (List (Int × Int)) → Option R) : Nat → Int → Int → Int → Int → (List (Int × Int)) → Option R
 | 0, _, _, _, _, _ => none
 | K + 1, kv1, s2, s21, k2, o1 =>
 (br (ilt k2 (s21 - s2))
 ((chk (ile 0 k2 && ilt k2 (s21 - s2))
 (chk (ile 0 (IntKind.i64.wrap (k2 - 1)) && ilt (IntKind.i64.wrap (k2 - 1)) (s21 - s2))
 (br (!(ieq ((rdP o1 (s2 + k2)).1) ((rdP o1 (s2 + (IntKind.i64.wrap (k2 - 1)))).1) && ieq ((rdP o1 (s2 + k2)).2) ((rdP o1 (s2 + (IntKind.i64.wrap (k2 - 1)))).2)))
 ((chk (ile 0 k2 && ilt k2 (s21 - s2))
 (chk (inb o1 kv1)
 (Zq64_l0_0 N k0 K (IntKind.i64.wrap (kv1 + 1)) s2 s21 (IntKind.i64.wrap (k2 + 1)) (tSet o1 kv1 (rdP o1 (s2 + k2)))))))
 (Zq64_l0_0 N k0 K kv1 s2 s21 (IntKind.i64.wrap (k2 + 1)) o1)))))
 (k0 kv1 o1))
noncomputable def Zq64_l0_0_again {R : Type} (N : Nat) (ks : KS Zq64_l0_0_ex R) (k : Nat) (x : Zq64_l0_0_sh.T) : Option R :=
 Zq64_l0_0 N (fun y0 y1 => ks 0 (((), y0, ()), (y1, ()))) k x.1.2.1 x.1.2.2.1.1 x.1.2.2.1.2 x.1.2.2.2.1 x.2.1
noncomputable def Zq64_l0_0_s (N : Nat) : LSum := ⟨Zq64_l0_0_sh, Zq64_l0_0_ex, fun x ks => Zq64_l0_0_again N ks N x⟩
theorem Zq64_l0_0_ok (N : Nat) : LoopOk Tryz.prog Tryz.f51.ntmps (Zq64_l0_0_s N) (loopAt (loopAt Zq64_code 0) 0) := loopQ (sh := Zq64_l0_0_sh) (ex := Zq64_l0_0_ex) (N := N) (L := []) (fun R k x ks => Zq64_l0_0_again N ks k x) (Zq64_gok N) (fun _ _ _ => rfl) (fun R k x ks => by kernel_rfl) trivial (by kernel_rfl)
noncomputable def Zq64_l0_sh : Sh := ⟨[(0, .one (.ref 0)), (3, .one (.ro I))], [.sl 73 QII .own]⟩
noncomputable def Zq64_l0_ex : List (Ex × Sh) := [(.ret, ⟨[(2, .one (.sub 0 2))], [.sl 73 QII .own]⟩), (.exit 0, ⟨[(0, .one (.ref 0))], [.sl 73 QII .own]⟩)]
noncomputable def Zq64_l0 {R : Type} (N : Nat) (k0 : Int → Int → (List (Int × Int)) → Option R) (k1 : (List (Int × Int)) → Option R) : Nat → Int → (List (Int × Int)) → Option R
 | 0, _, _ => none
 | K + 1, kv, o =>
 (br (ilt kv (tLen o))
 ((chk (inb o kv)
 (chk (inb o (IntKind.i64.wrap (kv - 1)))
 (br (ieq ((rdP o kv).1) ((rdP o (IntKind.i64.wrap (kv - 1))).1) && ieq ((rdP o kv).2) ((rdP o (IntKind.i64.wrap (kv - 1))).2))
 ((chk (ile 0 kv && ile kv (tLen o) && ile (tLen o) (tLen o))
 (Zq64_l0_0 N (fun kv1 o1 => (chk (ile 0 kv1 && ile kv1 (tLen o1) && ile (tLen o1) (tLen o1))
 (chk (ile 0 0 && ile 0 kv1 && ile kv1 (tLen (tPut o1 kv1 (tRep ((tLen o1) - kv1) (0, 0)))))
 (k0 0 kv1 (tPut o1 kv1 (tRep ((tLen o1) - kv1) (0, 0))))))) N kv kv (tLen o) 1 o)))
 (Zq64_l0 N k0 k1 K (IntKind.i64.wrap (kv + 1)) o)))))
 (k1 o))
noncomputable def Zq64_l0_again {R : Type} (N : Nat) (ks : KS Zq64_l0_ex R) (k : Nat) (x : Zq64_l0_sh.T) : Option R :=
 Zq64_l0 N (fun y0 y1 y2 => ks 0 (((y0, y1), ()), (y2, ()))) (fun y0 => ks 1 (((), ()), (y0, ()))) k x.1.2.1 x.2.1
noncomputable def Zq64_l0_s (N : Nat) : LSum := ⟨Zq64_l0_sh, Zq64_l0_ex, fun x ks => Zq64_l0_again N ks N x⟩
theorem Zq64_l0_ok (N : Nat) : LoopOk Tryz.prog Tryz.f51.ntmps (Zq64_l0_s N) (loopAt Zq64_code 0) := loopQ (sh := Zq64_l0_sh) (ex := Zq64_l0_ex) (N := N) (L := [Zq64_l0_0_s N]) (fun R k x ks => Zq64_l0_again N ks k x) (Zq64_gok N) (fun _ _ _ => rfl) (fun R k x ks => by kernel_rfl) ⟨Zq64_l0_0_ok N, trivial⟩ (by kernel_rfl)
noncomputable def Zq64 (N : Nat) (s : (List (Int × Int))) : Option (((List (Int × Int)) × Unit) × (Unit)) :=
 (br (ilt (tLen s) 2)
 (some ((s, ()), ()))
 (Zq64_l0 N (fun x x1 o => some (((tCut o x x1), ()), ())) (fun o1 => some ((o1, ()), ())) N 1 s))
noncomputable def Zq64_S (N : Nat) : FSum := ⟨Zq64_ps, Zq64_rs, fun x => Zq64 N x.1⟩
theorem Zq64_pc (N : Nat) : PC Tryz.prog 51 (Zq64_S N) := pcQ (L := [Zq64_l0_s N]) (Zq64_gok N) Tryz.call51 Tryz.func51 (fun x => by kernel_rfl) ⟨Zq64_l0_ok N, trivial⟩ (by kernel_rfl)

abbrev Zq21_ps : List (PV.Mode × Ty) := [(.ro, QLLILQII), (.ro, QLLILQII)]
abbrev Zq21_rs : List (Bool × Ty) := [(false, QLLILQII), (true, .bool)]
noncomputable def Zq21_G (N : Nat) : GTab := gOf [(41, Zq20_S N), (42, Zq36_S N), (43, Zq74_S N), (45, Zq63_S N), (46, Zq69_S N), (47, Zq26_S N), (48, Zq48_S N), (49, Zq75_S N), (51, Zq64_S N)]
theorem Zq21_gok (N : Nat) : GOk Tryz.prog (Zq21_G N) := gOf_ok ⟨Zq20_pc N, Zq36_pc N, Zq74_pc N, Zq63_pc N, Zq69_pc N, Zq26_pc N, Zq48_pc N, Zq75_pc N, Zq64_pc N, trivial⟩
noncomputable def Zq21_code : Code := (Tryz.f15.body).getD .skip
noncomputable def Zq21_l0_0_sh : Sh := ⟨[(4, .one (.adr 0 0)), (6, .one (.adr 1 0)), (8, .one (.adr 2 0)), (41, .one (.ref 3)), (42, .one (.ro I)), (43, .one (.ro I)), (48, .one (.ro LQII)), (49, .one (.ro I)), (50, .one (.ro I))], [.box [.nilsl, .nilsl], .box [.ref 4, .ref 5], .box [.ro LLI, .ro LQII], .sl 37 QLLILQII .own, .sl 27 LI .own, .sl 73 QII .own]⟩
noncomputable def Zq21_l0_0_ex : List (Ex × Sh) := [(.exit 2, ⟨[(4, .one (.adr 0 0)), (6, .one (.adr 1 0)), (41, .one (.ref 2)), (42, .one (.ro I)), (43, .one (.ro I))], [.box [.nilsl, .nilsl], .box [.ref 3, .ref 4], .sl 37 QLLILQII .own, .sl 27 LI .own, .sl 73 QII .own]⟩)]
noncomputable def Zq21_l0_0 {R : Type} (N : Nat) (k0 : Int → Int → (List ((List (List Int)) × (List (Int × Int)))) → (List (List Int)) → (List (Int × Int)) → Option R) : Nat → Int → Int → (List (Int × Int)) → Int → Int → (List (List Int)) → (List (Int × Int)) → (List ((List (List Int)) × (List (Int × Int)))) → (List (List Int)) → (List (Int × Int)) → Option R
 | 0, _, _, _, _, _, _, _, _, _, _ => none
 | K + 1, x2, x3, x4, x5, x6, o3, o4, o5, o6, o7 =>
 (br (ilt x6 x5)
 ((chk (inb x4 x6)
 (chk (inb o3 ((rdP x4 x6).1))
 ((Zq26 N (o6, o7) (rdL o3 ((rdP x4 x6).1))).bind fun r6 =>
 (chk (inb o3 ((rdP x4 x6).2))
 ((Zq26 N (o6, o7) (rdL o3 ((rdP x4 x6).2))).bind fun r7 =>
 ((Zq48 N r6.1.1 r7.1.1).bind fun r8 =>
 (chk (room o7 [(r8.1.1.1, r8.1.1.2)])
 (Zq21_l0_0 N k0 K x2 x3 x4 x5 (IntKind.i64.wrap (x6 + 1)) o3 o4 o5 o6 (tApp o7 [(r8.1.1.1, r8.1.1.2)]))))))))))
 (k0 x2 x3 o5 o6 o7))
noncomputable def Zq21_l0_0_again {R : Type} (N : Nat) (ks : KS Zq21_l0_0_ex R) (k : Nat) (x : Zq21_l0_0_sh.T) : Option R :=
 Zq21_l0_0 N (fun y0 y1 y2 y3 y4 => ks 0 (((), (), (), y0, y1, ()), (((), (), ()), ((), (), ()), y2, y3, y4, ()))) k x.1.2.2.2.2.1 x.1.2.2.2.2.2.1 x.1.2.2.2.2.2.2.1 x.1.2.2.2.2.2.2.2.1 x.1.2.2.2.2.2.2.2.2.1 x.2.2.2.1.1 x.2.2.2.1.2.1 x.2.2.2.2.1 x.2.2.2.2.2.1 x.2.2.2.2.2.2.1
noncomputable def Zq21_l0_0_s (N : Nat) : LSum := ⟨Zq21_l0_0_sh, Zq21_l0_0_ex, fun x ks => Zq21_l0_0_again N ks N x⟩
theorem Zq21_l0_0_ok (N : Nat) : LoopOk Tryz.prog Tryz.f15.ntmps (Zq21_l0_0_s N) (loopAt (loopAt Zq21_code 0) 0) := loopQ (sh := Zq21_l0_0_sh) (ex := Zq21_l0_0_ex) (N := N) (L := []) (fun R k x ks => Zq21_l0_0_again N ks k x) (Zq21_gok N) (fun _ _ _ => rfl) (fun R k x ks => by kernel_rfl) trivial (by kernel_rfl)
noncomputable def Zq21_l0_sh : Sh := ⟨[(4, .one (.adr 0 0)), (6, .one (.adr 1 0)), (41, .one (.ref 2)), (42, .one (.ro I)), (43, .one (.ro I))], [.box [.nilsl, .nilsl], .box [.ref 3, .ref 4], .sl 37 QLLILQII .own, .sl 27 LI .own, .sl 73 QII .own]⟩
noncomputable def Zq21_l0_ex : List (Ex × Sh) := [(.exit 0, ⟨[(4, .one (.adr 0 0)), (6, .one (.adr 1 0))], [.box [.nilsl, .nilsl], .box [.ref 2, .ref 3], .sl 27 LI .own, .sl 73 QII .own]⟩)]
noncomputable def Zq21_l0 {R : Type} (N : Nat) (k0 : (List (List Int)) → (List (Int × Int)) → Option R) : Nat → Int → Int → (List ((List (List Int)) × (List (Int × Int)))) → (List (List Int)) → (List (Int × Int)) → Option R
 | 0, _, _, _, _, _ => none
 | K + 1, x, x1, o, o1, o2 =>
 (br (ilt x1 x)
 ((chk (inb o x1)
 (Zq21_l0_0 N (fun x2 x3 o3 o4 o5 => Zq21_l0 N k0 K x2 (IntKind.i64.wrap (x3 + 1)) o3 o4 o5) N x x1 ((rd QLLILQII o x1).2) (tLen ((rd QLLILQII o x1).2)) 0 ((rd QLLILQII o x1).1) ((rd QLLILQII o x1).2) o o1 o2)))
 (k0 o1 o2))
noncomputable def Zq21_l0_again {R : Type} (N : Nat) (ks : KS Zq21_l0_ex R) (k : Nat) (x : Zq21_l0_sh.T) : Option R :=
 Zq21_l0 N (fun y0 y1 => ks 0 (((), (), ()), (((), (), ()), ((), (), ()), y0, y1, ()))) k x.1.2.2.2.1 x.1.2.2.2.2.1 x.2.2.2.1 x.2.2.2.2.1 x.2.2.2.2.2.1
noncomputable def Zq21_l0_s (N : Nat) : LSum := ⟨Zq21_l0_sh, Zq21_l0_ex, fun x ks => Zq21_l0_again N ks N x⟩
theorem Zq21_l0_ok (N : Nat) : LoopOk Tryz.prog Tryz.f15.ntmps (Zq21_l0_s N) (loopAt Zq21_code 0) := loopQ (sh := Zq21_l0_sh) (ex := Zq21_l0_ex) (N := N) (L := [Zq21_l0_0_s N]) (fun R k x ks => Zq21_l0_again N ks k x) (Zq21_gok N) (fun _ _ _ => rfl) (fun R k x ks => by kernel_rfl) ⟨Zq21_l0_0_ok N, trivial⟩ (by kernel_rfl)
noncomputable def Zq21 (N : Nat) (c : ((List (List Int)) × (List (Int × Int)))) (c1 : ((List (List Int)) × (List (Int × Int)))) : Option ((((List (List Int)) × (List (Int × Int))) × Bool × Unit) × (Unit)) :=
 ((Zq20 N (c.1, c.2)).bind fun r =>
 (br (!r.1.1)
 (some ((([], []), false, ()), ()))
 (((Zq20 N (c1.1, c1.2)).bind fun r1 =>
 (br (!r1.1.1)
 (some ((([], []), false, ()), ()))
 (((Zq36 N c.1).bind fun r2 =>
 ((Zq36 N c1.1).bind fun r3 =>
 (chk (room r2.1.1 r3.1.1)
 ((Zq74 N (tApp r2.1.1 r3.1.1) ()).bind fun r4 =>
 ((Zq63 N r4.2.1 (fun y0 y1 => (Zq69 N y0 y1).bind fun z => some z.1.1)).bind fun r5 =>
 Zq21_l0 N (fun o o1 => ((Zq75 N o1 ()).bind fun r6 =>
 ((Zq64 N r6.2.1).bind fun r7 =>
 (br (ilt 300 (tLen o))
 (some ((([], []), false, ()), ()))
 ((br (ilt 6000 (tLen r7.1.1))
 (some ((([], []), false, ()), ()))
 (some (((o, r7.1.1), true, ()), ())))))))) N (tLen [(c.1, c.2), (c1.1, c1.2)]) 0 [(c.1, c.2), (c1.1, c1.2)] r5.1.1 [])))))))))))
noncomputable def Zq21_S (N : Nat) : FSum := ⟨Zq21_ps, Zq21_rs, fun x => Zq21 N x.1 x.2.1⟩
theorem Zq21_pc (N : Nat) : PC Tryz.prog 15 (Zq21_S N) := pcQ (L := [Zq21_l0_s N]) (Zq21_gok N) Tryz.call15 Tryz.func15 (fun x => by kernel_rfl) ⟨Zq21_l0_ok N, trivial⟩ (by kernel_rfl)

abbrev Zq17_ps : List (PV.Mode × Ty) := [(.ro, U64), (.ro, AI), (.ro, AI), (.ro, AQILQII)]
abbrev Zq17_rs : List (Bool × Ty) := [(true, .bool)]
noncomputable def Zq17_G (N : Nat) : GTab := gOf [(81, Zq33_S N), (56, Zq10_S N)]
theorem Zq17_gok (N : Nat) : GOk Tryz.prog (Zq17_G N) := gOf_ok ⟨Zq33_pc N, Zq10_pc N, trivial⟩
noncomputable def Zq17_code : Code := (Tryz.f96.body).getD .skip
noncomputable def Zq17 (N : Nat) (b : Int) (c : Int) (c1 : Int) (c2 : (Int × (List (Int × Int)))) : Option ((Bool × Unit) × (Unit)) :=
 (br (ieq c 2)
 (((Zq33 N b).bind fun r =>
 (br (ilt r.1.1 c1)
 (some ((false, ()), ()))
 ((br (ine c 2)
 (((Zq33 N b).bind fun r1 =>
 (br (ilt c1 r1.1.1)
 (some ((false, ()), ()))
 (((Zq10 N c2 c b).bind fun r2 =>
 some ((r2.1.1, ()), ()))))))
 (((Zq10 N c2 c b).bind fun r3 =>
 some ((r3.1.1, ()), ()))))))))
 ((br (ine c 2)
 (((Zq33 N b).bind fun r4 =>
 (br (ilt c1 r4.1.1)
 (some ((false, ()), ()))
 (((Zq10 N c2 c b).bind fun r5 =>
 some ((r5.1.1, ()), ()))))))
 (((Zq10 N c2 c b).bind fun r6 =>
 some ((r6.1.1, ()), ()))))))
noncomputable def Zq17_S (N : Nat) : FSum := ⟨Zq17_ps, Zq17_rs, fun x => Zq17 N x.1 x.2.1 x.2.2.1 x.2.2.2.1⟩
theorem Zq17_pc (N : Nat) : PC Tryz.prog 96 (Zq17_S N) := pcQ (L := []) (Zq17_gok N) Tryz.call96 Tryz.func96 (fun x => by kernel_rfl) trivial (by kernel_rfl)

abbrev Zq37_ps : List (PV.Mode × Ty) := [(.ro, LI), (.ro, LI)]
abbrev Zq37_rs : List (Bool × Ty) := [(true, .bool)]
noncomputable def Zq37_G (N : Nat) : GTab := gOf [(82, Zq47_S N), (81, Zq33_S N)]
theorem Zq37_gok (N : Nat) : GOk Tryz.prog (Zq37_G N) := gOf_ok ⟨Zq47_pc N, Zq33_pc N, trivial⟩
noncomputable def Zq37_code : Code := (Tryz.f97.body).getD .skip
noncomputable def Zq37 (N : Nat) (a : (List Int)) (b : (List Int)) : Option ((Bool × Unit) × (Unit)) :=
 ((Zq47 N a b).bind fun r =>
 ((Zq33 N r.1.1).bind fun r1 =>
 ((Zq33 N r.1.2.1).bind fun r2 =>
 some (((ieq (IntKind.i64.wrap (r1.1.1 + r2.1.1)) 1), ()), ()))))
noncomputable def Zq37_S (N : Nat) : FSum := ⟨Zq37_ps, Zq37_rs, fun x => Zq37 N x.1 x.2.1⟩
theorem Zq37_pc (N : Nat) : PC Tryz.prog 97 (Zq37_S N) := pcQ (L := []) (Zq37_gok N) Tryz.call97 Tryz.func97 (fun x => by kernel_rfl) trivial (by kernel_rfl)

abbrev Zq16_ps : List (PV.Mode × Ty) := [(.ro, QILQII), (.ro, I), (.ro, I)]
abbrev Zq16_rs : List (Bool × Ty) := [(true, QLLILQII)]
noncomputable def Zq16_G (N : Nat) : GTab := gOf [(79, Zq15_S N), (96, Zq17_S N), (35, Zq49_S N), (97, Zq37_S N)]
theorem Zq16_gok (N : Nat) : GOk Tryz.prog (Zq16_G N) := gOf_ok ⟨Zq15_pc N, Zq17_pc N, Zq49_pc N, Zq37_pc N, trivial⟩
noncomputable def Zq16_code : Code := (Tryz.f53.body).getD .skip
noncomputable def Zq16 (N : Nat) (g : (Int × (List (Int × Int)))) (kind : Int) (kv : Int) : Option ((((List (List Int)) × (List (Int × Int))) × Unit) × (Unit)) :=
 ((Zq15 N (g.1, g.2) (fun y0 => (Zq17 N y0 kind kv (g.1, g.2)).bind fun z => some z.1.1)).bind fun r =>
 ((Zq49 N r.1.1 (fun y0 y1 => (Zq37 N y0 y1).bind fun z => some z.1.1)).bind fun r1 =>
 some (((r1.1.1.1, r1.1.1.2), ()), ())))
noncomputable def Zq16_S (N : Nat) : FSum := ⟨Zq16_ps, Zq16_rs, fun x => Zq16 N x.1 x.2.1 x.2.2.1⟩
theorem Zq16_pc (N : Nat) : PC Tryz.prog 53 (Zq16_S N) := pcQ (L := []) (Zq16_gok N) Tryz.call53 Tryz.func53 (fun x => by kernel_rfl) trivial (by kernel_rfl)

abbrev Zq29_ps : List (PV.Mode × Ty) := [(.ro, QILQII), (.ro, I), (.ro, I)]
abbrev Zq29_rs : List (Bool × Ty) := [(true, QLLILQII), (true, .bool)]
noncomputable def Zq29_G (N : Nat) : GTab := gOf [(34, Zq46_S N), (53, Zq16_S N)]
theorem Zq29_gok (N : Nat) : GOk Tryz.prog (Zq29_G N) := gOf_ok ⟨Zq46_pc N, Zq16_pc N, trivial⟩
noncomputable def Zq29_code : Code := (Tryz.f17.body).getD .skip
noncomputable def Zq29 (N : Nat) (g : (Int × (List (Int × Int)))) (kind : Int) (kv : Int) : Option ((((List (List Int)) × (List (Int × Int))) × Bool × Unit) × (Unit)) :=
 ((Zq46 N (g.1, g.2) kind kv).bind fun r =>
 (br (!r.1.1)
 (some ((([], []), false, ()), ()))
 (((Zq16 N (g.1, g.2) kind kv).bind fun r1 =>
 some (((r1.1.1.1, r1.1.1.2), true, ()), ())))))
noncomputable def Zq29_S (N : Nat) : FSum := ⟨Zq29_ps, Zq29_rs, fun x => Zq29 N x.1 x.2.1 x.2.2.1⟩
theorem Zq29_pc (N : Nat) : PC Tryz.prog 17 (Zq29_S N) := pcQ (L := []) (Zq29_gok N) Tryz.call17 Tryz.func17 (fun x => by kernel_rfl) trivial (by kernel_rfl)

abbrev Zq118_ps : List (PV.Mode × Ty) := [(.ro, I), (.ro, I), (.ro, I)]
abbrev Zq118_rs : List (Bool × Ty) := [(true, .bool)]
noncomputable def Zq118_G (N : Nat) : GTab := gOf []
theorem Zq118_gok (N : Nat) : GOk Tryz.prog (Zq118_G N) := gOf_ok trivial
noncomputable def Zq118_code : Code := (Tryz.f98.body).getD .skip
noncomputable def Zq118 (N : Nat) (kind : Int) (size : Int) (kv : Int) : Option ((Bool × Unit) × (Unit)) :=
 (br (ieq kind 2)
 (some (((ile kv size), ()), ()))
 (some (((ile size kv), ()), ())))
noncomputable def Zq118_S (N : Nat) : FSum := ⟨Zq118_ps, Zq118_rs, fun x => Zq118 N x.1 x.2.1 x.2.2.1⟩
theorem Zq118_pc (N : Nat) : PC Tryz.prog 98 (Zq118_S N) := pcQ (L := []) (Zq118_gok N) Tryz.call98 Tryz.func98 (fun x => by kernel_rfl) trivial (by kernel_rfl)

abbrev Zq129_ps : List (PV.Mode × Ty) := [(.ro, LI), (.ro, I)]
abbrev Zq129_rs : List (Bool × Ty) := [(true, LI)]
noncomputable def Zq129_G (N : Nat) : GTab := gOf []
theorem Zq129_gok (N : Nat) : GOk Tryz.prog (Zq129_G N) := gOf_ok trivial
noncomputable def Zq129_code : Code := (Tryz.f139.body).getD .skip
noncomputable def Zq129_l0_sh : Sh := ⟨[(0, .one (.ro LI)), (1, .one (.ro I)), (5, .one (.ref 0)), (6, .one (.ro I))], [.sl 3 I .own]⟩
noncomputable def Zq129_l0_ex : List (Ex × Sh) := [(.exit 0, ⟨[(5, .one (.ref 0))], [.sl 3 I .own]⟩)]
noncomputable def Zq129_l0 {R : Type} (N : Nat) (k0 : (List Int) → Option R) : Nat → (List Int) → Int → Int → (List Int) → Option R
 | 0, _, _, _, _ => none
 | K + 1, setv1, x1, i, o =>
 (br (ilt i (tLen setv1))
 ((chk (inb setv1 i)
 (br (ine (rdI setv1 i) x1)
 ((chk (inb setv1 i)
 (chk (room o [(rdI setv1 i)])
 (Zq129_l0 N k0 K setv1 x1 (IntKind.i64.wrap (i + 1)) (tApp o [(rdI setv1 i)])))))
 (Zq129_l0 N k0 K setv1 x1 (IntKind.i64.wrap (i + 1)) o))))
 (k0 o))
noncomputable def Zq129_l0_again {R : Type} (N : Nat) (ks : KS Zq129_l0_ex R) (k : Nat) (x : Zq129_l0_sh.T) : Option R :=
 Zq129_l0 N (fun y0 => ks 0 (((), ()), (y0, ()))) k x.1.1 x.1.2.1 x.1.2.2.2.1 x.2.1
noncomputable def Zq129_l0_s (N : Nat) : LSum := ⟨Zq129_l0_sh, Zq129_l0_ex, fun x ks => Zq129_l0_again N ks N x⟩
theorem Zq129_l0_ok (N : Nat) : LoopOk Tryz.prog Tryz.f139.ntmps (Zq129_l0_s N) (loopAt Zq129_code 0) := loopQ (sh := Zq129_l0_sh) (ex := Zq129_l0_ex) (N := N) (L := []) (fun R k x ks => Zq129_l0_again N ks k x) (Zq129_gok N) (fun _ _ _ => rfl) (fun R k x ks => by kernel_rfl) trivial (by kernel_rfl)
noncomputable def Zq129 (N : Nat) (setv : (List Int)) (x : Int) : Option (((List Int) × Unit) × (Unit)) :=
 Zq129_l0 N (fun o => some ((o, ()), ())) N setv x 0 []
noncomputable def Zq129_S (N : Nat) : FSum := ⟨Zq129_ps, Zq129_rs, fun x => Zq129 N x.1 x.2.1⟩
theorem Zq129_pc (N : Nat) : PC Tryz.prog 139 (Zq129_S N) := pcQ (L := [Zq129_l0_s N]) (Zq129_gok N) Tryz.call139 Tryz.func139 (fun x => by kernel_rfl) ⟨Zq129_l0_ok N, trivial⟩ (by kernel_rfl)

abbrev Zq101_ps : List (PV.Mode × Ty) := [(.ro, LI), (.ro, I)]
abbrev Zq101_rs : List (Bool × Ty) := [(false, LI)]
noncomputable def Zq101_G (N : Nat) : GTab := gOf []
theorem Zq101_gok (N : Nat) : GOk Tryz.prog (Zq101_G N) := gOf_ok trivial
noncomputable def Zq101_code : Code := (Tryz.f140.body).getD .skip
noncomputable def Zq101_l0_sh : Sh := ⟨[(0, .one (.ro LI)), (1, .one (.ro I)), (5, .one (.ro I))], []⟩
noncomputable def Zq101_l0_ex : List (Ex × Sh) := [(.exit 0, ⟨[(0, .one (.ro LI)), (1, .one (.ro I)), (5, .one (.ro I))], []⟩)]
noncomputable def Zq101_l0 {R : Type} (N : Nat) (k0 : (List Int) → Int → Int → Option R) : Nat → (List Int) → Int → Int → Option R
 | 0, _, _, _ => none
 | K + 1, l1, n1, kv =>
 (br (ilt kv (tLen l1))
 ((chk (inb l1 kv)
 (br (ilt (rdI l1 kv) n1)
 (Zq101_l0 N k0 K l1 n1 (IntKind.i64.wrap (kv + 1)))
 (k0 l1 n1 kv))))
 (k0 l1 n1 kv))
noncomputable def Zq101_l0_again {R : Type} (N : Nat) (ks : KS Zq101_l0_ex R) (k : Nat) (x : Zq101_l0_sh.T) : Option R :=
 Zq101_l0 N (fun y0 y1 y2 => ks 0 ((y0, y1, y2, ()), ())) k x.1.1 x.1.2.1 x.1.2.2.1
noncomputable def Zq101_l0_s (N : Nat) : LSum := ⟨Zq101_l0_sh, Zq101_l0_ex, fun x ks => Zq101_l0_again N ks N x⟩
theorem Zq101_l0_ok (N : Nat) : LoopOk Tryz.prog Tryz.f140.ntmps (Zq101_l0_s N) (loopAt Zq101_code 0) := loopQ (sh := Zq101_l0_sh) (ex := Zq101_l0_ex) (N := N) (L := []) (fun R k x ks => Zq101_l0_again N ks k x) (Zq101_gok N) (fun _ _ _ => rfl) (fun R k x ks => by kernel_rfl) trivial (by kernel_rfl)
noncomputable def Zq101 (N : Nat) (l : (List Int)) (n : Int) : Option (((List Int) × Unit) × (Unit)) :=
 Zq101_l0 N (fun l1 n1 kv => (br (ilt kv (tLen l1))
 ((chk (inb l1 kv)
 (br (ieq (rdI l1 kv) n1)
 (some ((l1, ()), ()))
 ((chk (ile 0 0 && ile 0 kv && ile kv (tLen l1))
 (chk (room (α := Int) (β := Int) [] (tCut l1 0 kv))
 (chk (room (α := Int) (β := Int) (tApp [] (tCut l1 0 kv)) [n1])
 (chk (ile 0 kv && ile kv (tLen l1) && ile (tLen l1) (tLen l1))
 (chk (room (α := Int) (β := Int) (tApp (tApp [] (tCut l1 0 kv)) [n1]) (tCut l1 kv (tLen l1)))
 (some (((tApp (tApp (tApp [] (tCut l1 0 kv)) [n1]) (tCut l1 kv (tLen l1))), ()), ())))))))))))
 ((chk (ile 0 0 && ile 0 kv && ile kv (tLen l1))
 (chk (room (α := Int) (β := Int) [] (tCut l1 0 kv))
 (chk (room (α := Int) (β := Int) (tApp [] (tCut l1 0 kv)) [n1])
 (chk (ile 0 kv && ile kv (tLen l1) && ile (tLen l1) (tLen l1))
 (chk (room (α := Int) (β := Int) (tApp (tApp [] (tCut l1 0 kv)) [n1]) (tCut l1 kv (tLen l1)))
 (some (((tApp (tApp (tApp [] (tCut l1 0 kv)) [n1]) (tCut l1 kv (tLen l1))), ()), ())))))))))) N l n 0
noncomputable def Zq101_S (N : Nat) : FSum := ⟨Zq101_ps, Zq101_rs, fun x => Zq101 N x.1 x.2.1⟩
theorem Zq101_pc (N : Nat) : PC Tryz.prog 140 (Zq101_S N) := pcQ (L := [Zq101_l0_s N]) (Zq101_gok N) Tryz.call140 Tryz.func140 (fun x => by kernel_rfl) ⟨Zq101_l0_ok N, trivial⟩ (by kernel_rfl)

abbrev Zq128_ps : List (PV.Mode × Ty) := [(.ro, LI), (.ro, I)]
abbrev Zq128_rs : List (Bool × Ty) := [(false, LI)]
noncomputable def Zq128_G (N : Nat) : GTab := gOf [(115, Zq95_S N), (139, Zq129_S N), (140, Zq101_S N)]
theorem Zq128_gok (N : Nat) : GOk Tryz.prog (Zq128_G N) := gOf_ok ⟨Zq95_pc N, Zq129_pc N, Zq101_pc N, trivial⟩
noncomputable def Zq128_code : Code := (Tryz.f99.body).getD .skip
noncomputable def Zq128 (N : Nat) (setv : (List Int)) (x : Int) : Option (((List Int) × Unit) × (Unit)) :=
 ((Zq95 N setv x).bind fun r =>
 (br r.1.1
 (((Zq129 N setv x).bind fun r1 =>
 some ((r1.1.1, ()), ())))
 (((Zq101 N setv x).bind fun r2 =>
 some ((r2.1.1, ()), ())))))
noncomputable def Zq128_S (N : Nat) : FSum := ⟨Zq128_ps, Zq128_rs, fun x => Zq128 N x.1 x.2.1⟩
theorem Zq128_pc (N : Nat) : PC Tryz.prog 99 (Zq128_S N) := pcQ (L := []) (Zq128_gok N) Tryz.call99 Tryz.func99 (fun x => by kernel_rfl) trivial (by kernel_rfl)

abbrev Zq127_ps : List (PV.Mode × Ty) := [(.ro, QILQII), (.ro, I), (.ro, I)]
abbrev Zq127_rs : List (Bool × Ty) := [(false, QLLILQII)]
noncomputable def Zq127_G (N : Nat) : GTab := gOf [(66, Zq126_S N), (98, Zq118_S N), (70, Zq114_S N), (99, Zq128_S N), (32, Zq108_S N), (63, Zq112_S N)]
theorem Zq127_gok (N : Nat) : GOk Tryz.prog (Zq127_G N) := gOf_ok ⟨Zq126_pc N, Zq118_pc N, Zq114_pc N, Zq128_pc N, Zq108_pc N, Zq112_pc N, trivial⟩
noncomputable def Zq127_code : Code := (Tryz.f54.body).getD .skip
noncomputable def Zq127_l0_sh : Sh := ⟨[(1, .one (.ro I)), (2, .one (.ro I)), (3, .one (.adr 0 0)), (6, .one (.adr 1 0)), (7, .one (.ro LLI)), (8, .one (.ref 2)), (9, .one (.ro I))], [.box [.ro I, .ro LQII], .box [.nilsl, .nilsl], .sl 27 LI .own]⟩
noncomputable def Zq127_l0_ex : List (Ex × Sh) := [(.exit 0, ⟨[(3, .one (.adr 0 0)), (6, .one (.adr 1 0)), (8, .one (.ref 2))], [.box [.ro I, .ro LQII], .box [.nilsl, .nilsl], .sl 27 LI .own]⟩)]
noncomputable def Zq127_l0 {R : Type} (N : Nat) (k0 : Int → (List (Int × Int)) → (List (List Int)) → Option R) : Nat → Int → Int → (List (List Int)) → Int → Int → (List (Int × Int)) → (List (List Int)) → Option R
 | 0, _, _, _, _, _, _, _ => none
 | K + 1, x4, x5, x6, x7, o3, o4, o5 =>
 (br (ilt x7 (tLen x6))
 ((chk (inb x6 x7)
 ((Zq118 N x4 (tLen (rdL x6 x7)) x5).bind fun r2 =>
 (br r2.1.1
 ((chk (inb x6 x7)
 (chk (room o5 [(rdL x6 x7)])
 (Zq127_l0 N k0 K x4 x5 x6 (IntKind.i64.wrap (x7 + 1)) o3 o4 (tApp o5 [(rdL x6 x7)])))))
 (Zq127_l0 N k0 K x4 x5 x6 (IntKind.i64.wrap (x7 + 1)) o3 o4 o5)))))
 (k0 o3 o4 o5))
noncomputable def Zq127_l0_again {R : Type} (N : Nat) (ks : KS Zq127_l0_ex R) (k : Nat) (x : Zq127_l0_sh.T) : Option R :=
 Zq127_l0 N (fun y0 y1 y2 => ks 0 (((), (), (), ()), ((y0, y1, ()), ((), (), ()), y2, ()))) k x.1.1 x.1.2.1 x.1.2.2.2.2.1 x.1.2.2.2.2.2.2.1 x.2.1.1 x.2.1.2.1 x.2.2.2.1
noncomputable def Zq127_l0_s (N : Nat) : LSum := ⟨Zq127_l0_sh, Zq127_l0_ex, fun x ks => Zq127_l0_again N ks N x⟩
theorem Zq127_l0_ok (N : Nat) : LoopOk Tryz.prog Tryz.f54.ntmps (Zq127_l0_s N) (loopAt Zq127_code 0) := loopQ (sh := Zq127_l0_sh) (ex := Zq127_l0_ex) (N := N) (L := []) (fun R k x ks => Zq127_l0_again N ks k x) (Zq127_gok N) (fun _ _ _ => rfl) (fun R k x ks => by kernel_rfl) trivial (by kernel_rfl)
noncomputable def Zq127_l1_0_sh : Sh := ⟨[(3, .one (.adr 0 0)), (6, .one (.adr 1 0)), (10, .one (.adr 2 0)), (11, .one (.ro I)), (12, .one (.ro I))], [.box [.ro I, .ro LQII], .box [.nilsl, .nilsl], .box [.ro LLI, .ref 3], .sl 73 QII .own]⟩
noncomputable def Zq127_l1_0_ex : List (Ex × Sh) := [(.exit 4, ⟨[(3, .one (.adr 0 0)), (6, .one (.adr 1 0)), (10, .one (.adr 2 0)), (11, .one (.ro I))], [.box [.ro I, .ro LQII], .box [.nilsl, .nilsl], .box [.ro LLI, .ref 3], .sl 73 QII .own]⟩)]
noncomputable def Zq127_l1_0 {R : Type} (N : Nat) (k0 : Int → Int → (List (Int × Int)) → (List (List Int)) → (List (Int × Int)) → Option R) : Nat → Int → Int → Int → (List (Int × Int)) → (List (List Int)) → (List (Int × Int)) → Option R
 | 0, _, _, _, _, _, _ => none
 | K + 1, x5, x6, o10, o11, o12, o13 =>
 (br (ilt x6 o10)
 ((chk (inb o12 x5)
 ((Zq128 N (rdL o12 x5) x6).bind fun r3 =>
 ((Zq108 N (o12, o13) r3.1.1).bind fun r4 =>
 (br (ilt x5 r4.1.1)
 (((Zq112 N o13 (x5, r4.1.1)).bind fun r5 =>
 Zq127_l1_0 N k0 K x5 (IntKind.i64.wrap (x6 + 1)) o10 o11 o12 r5.1.1))
 (Zq127_l1_0 N k0 K x5 (IntKind.i64.wrap (x6 + 1)) o10 o11 o12 o13))))))
 (k0 x5 o10 o11 o12 o13))
noncomputable def Zq127_l1_0_again {R : Type} (N : Nat) (ks : KS Zq127_l1_0_ex R) (k : Nat) (x : Zq127_l1_0_sh.T) : Option R :=
 Zq127_l1_0 N (fun y0 y1 y2 y3 y4 => ks 0 (((), (), (), y0, ()), ((y1, y2, ()), ((), (), ()), (y3, (), ()), y4, ()))) k x.1.2.2.2.1 x.1.2.2.2.2.1 x.2.1.1 x.2.1.2.1 x.2.2.2.1.1 x.2.2.2.2.1
noncomputable def Zq127_l1_0_s (N : Nat) : LSum := ⟨Zq127_l1_0_sh, Zq127_l1_0_ex, fun x ks => Zq127_l1_0_again N ks N x⟩
theorem Zq127_l1_0_ok (N : Nat) : LoopOk Tryz.prog Tryz.f54.ntmps (Zq127_l1_0_s N) (loopAt (loopAt Zq127_code 1) 0) := loopQ (sh := Zq127_l1_0_sh) (ex := Zq127_l1_0_ex) (N := N) (L := []) (fun R k x ks => Zq127_l1_0_again N ks k x) (Zq127_gok N) (fun _ _ _ => rfl) (fun R k x ks => by kernel_rfl) trivial (by kernel_rfl)
noncomputable def Zq127_l1_sh : Sh := ⟨[(3, .one (.adr 0 0)), (6, .one (.adr 1 0)), (10, .one (.adr 2 0)), (11, .one (.ro I))], [.box [.ro I, .ro LQII], .box [.nilsl, .nilsl], .box [.ro LLI, .ref 3], .sl 73 QII .own]⟩
noncomputable def Zq127_l1_ex : List (Ex × Sh) := [(.exit 2, ⟨[(6, .one (.adr 0 0)), (10, .one (.adr 1 0))], [.box [.nilsl, .nilsl], .box [.ro LLI, .ref 2], .sl 73 QII .own]⟩)]
noncomputable def Zq127_l1 {R : Type} (N : Nat) (k0 : (List (List Int)) → (List (Int × Int)) → Option R) : Nat → Int → Int → (List (Int × Int)) → (List (List Int)) → (List (Int × Int)) → Option R
 | 0, _, _, _, _, _ => none
 | K + 1, x4, o6, o7, o8, o9 =>
 (br (ilt x4 (tLen o8))
 (Zq127_l1_0 N (fun x5 o10 o11 o12 o13 => Zq127_l1 N k0 K (IntKind.i64.wrap (x5 + 1)) o10 o11 o12 o13) N x4 0 o6 o7 o8 o9)
 (k0 o8 o9))
noncomputable def Zq127_l1_again {R : Type} (N : Nat) (ks : KS Zq127_l1_ex R) (k : Nat) (x : Zq127_l1_sh.T) : Option R :=
 Zq127_l1 N (fun y0 y1 => ks 0 (((), (), ()), (((), (), ()), (y0, (), ()), y1, ()))) k x.1.2.2.2.1 x.2.1.1 x.2.1.2.1 x.2.2.2.1.1 x.2.2.2.2.1
noncomputable def Zq127_l1_s (N : Nat) : LSum := ⟨Zq127_l1_sh, Zq127_l1_ex, fun x ks => Zq127_l1_again N ks N x⟩
theorem Zq127_l1_ok (N : Nat) : LoopOk Tryz.prog Tryz.f54.ntmps (Zq127_l1_s N) (loopAt Zq127_code 1) := loopQ (sh := Zq127_l1_sh) (ex := Zq127_l1_ex) (N := N) (L := [Zq127_l1_0_s N]) (fun R k x ks => Zq127_l1_again N ks k x) (Zq127_gok N) (fun _ _ _ => rfl) (fun R k x ks => by kernel_rfl) ⟨Zq127_l1_0_ok N, trivial⟩ (by kernel_rfl)
noncomputable def Zq127 (N : Nat) (c : (Int × (List (Int × Int)))) (c1 : Int) (c2 : Int) : Option ((((List (List Int)) × (List (Int × Int))) × Unit) × (Unit)) :=
 ((Zq126 N (c.1, c.2) c1).bind fun r =>
 Zq127_l0 N (fun o3 o4 o5 => ((Zq114 N o5).bind fun r2 =>
 Zq127_l1 N (fun o6 o7 => some (((o6, o7), ()), ())) N 0 o3 o4 r2.1.1 [])) N c1 c2 r.1.1 0 c.1 c.2 [])
noncomputable def Zq127_S (N : Nat) : FSum := ⟨Zq127_ps, Zq127_rs, fun x => Zq127 N x.1 x.2.1 x.2.2.1⟩
theorem Zq127_pc (N : Nat) : PC Tryz.prog 54 (Zq127_S N) := pcQ (L := [Zq127_l0_s N, Zq127_l1_s N]) (Zq127_gok N) Tryz.call54 Tryz.func54 (fun x => by kernel_rfl) ⟨Zq127_l0_ok N, Zq127_l1_ok N, trivial⟩ (by kernel_rfl)
end Go.Proofs.YtahehkidnfmfnaaGreat
