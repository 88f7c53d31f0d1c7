/- Functions of the program as functions on data. -/
import Derived.Test.YtkffaahlpdlkoaaGreatRecolouringFd
set_option linter.all false
namespace Go.Proofs.YtkffaahlpdlkoaaGreat
open Go Go.PV
abbrev Zq30_ps : List (PV.Mode × Ty) := [(.ro, U64)]
abbrev Zq30_rs : List (Bool × Ty) := [(true, LI)]
noncomputable def Zq30_G (N : Nat) : GTab := gOf []
theorem Zq30_gok (N : Nat) : GOk Tryz.prog (Zq30_G N) := gOf_ok trivial
noncomputable def Zq30_code : Code := (Tryz.f75.body).getD .skip
noncomputable def Zq30_l0_sh : Sh := ⟨[(0, .one (.ro U64)), (3, .one (.ref 0)), (6, .one (.ro I))], [.sl 3 I .own]⟩
noncomputable def Zq30_l0_ex : List (Ex × Sh) := [(.exit 0, ⟨[(3, .one (.ref 0))], [.sl 3 I .own]⟩)]
noncomputable def Zq30_l0 {R : Type} (N : Nat) (k0 : (List Int) → Option R) : Nat → Int → Int → (List Int) → Option R
 | 0, _, _, _ => none
 | K + 1, b1, x, o =>
 (br (ilt x 8)
 ((chk (ile 0 x)
 (br (ieq (bitop .and .u64 (shrI .u64 b1 x) 1) 1)
 ((chk (room o [x])
 (Zq30_l0 N k0 K b1 (IntKind.i64.wrap (x + 1)) (tApp o [x]))))
 (Zq30_l0 N k0 K b1 (IntKind.i64.wrap (x + 1)) o))))
 (k0 o))
noncomputable def Zq30_l0_again {R : Type} (N : Nat) (ks : KS Zq30_l0_ex R) (k : Nat) (x : Zq30_l0_sh.T) : Option R :=
 Zq30_l0 N (fun y0 => ks 0 (((), ()), (y0, ()))) k x.1.1 x.1.2.2.1 x.2.1
noncomputable def Zq30_l0_s (N : Nat) : LSum := ⟨Zq30_l0_sh, Zq30_l0_ex, fun x ks => Zq30_l0_again N ks N x⟩
theorem Zq30_l0_ok (N : Nat) : LoopOk Tryz.prog Tryz.f75.ntmps (Zq30_l0_s N) (loopAt Zq30_code 0) := loopQ (sh := Zq30_l0_sh) (ex := Zq30_l0_ex) (N := N) (L := []) (fun R k x ks => Zq30_l0_again N ks k x) (Zq30_gok N) (fun _ _ _ => rfl) (fun R k x ks => by kernel_rfl) trivial (by kernel_rfl)
noncomputable def Zq30 (N : Nat) (b : Int) : Option (((List Int) × Unit) × (Unit)) :=
 Zq30_l0 N (fun o => some ((o, ()), ())) N b 0 []
noncomputable def Zq30_S (N : Nat) : FSum := ⟨Zq30_ps, Zq30_rs, fun x => Zq30 N x.1⟩
theorem Zq30_pc (N : Nat) : PC Tryz.prog 75 (Zq30_S N) := pcQ (L := [Zq30_l0_s N]) (Zq30_gok N) Tryz.call75 Tryz.func75 (fun x => by kernel_rfl) ⟨Zq30_l0_ok N, trivial⟩ (by kernel_rfl)

abbrev Zq5_ps : List (PV.Mode × Ty) := [(.ro, QILQII), (.ro, I), (.ro, LI)]
abbrev Zq5_rs : List (Bool × Ty) := [(true, LI), (true, .bool)]
noncomputable def Zq5_G (N : Nat) : GTab := gOf [(10, Zq3_S N), (44, Zq36_S N), (53, Zq25_S N), (56, Zq26_S N), (55, Zq45_S N), (82, Zq43_S N), (76, Zq29_S N), (74, Zq6_S N), (75, Zq30_S N)]
theorem Zq5_gok (N : Nat) : GOk Tryz.prog (Zq5_G N) := gOf_ok ⟨Zq3_pc N, Zq36_pc N, Zq25_pc N, Zq26_pc N, Zq45_pc N, Zq43_pc N, Zq29_pc N, Zq6_pc N, Zq30_pc N, trivial⟩
noncomputable def Zq5_code : Code := (Tryz.f29.body).getD .skip
noncomputable def Zq5_l0_sh : Sh := ⟨[(2, .one (.ro LI)), (3, .one (.adr 0 0)), (8, .one (.adr 1 0)), (12, .one (.ro U64)), (40, .one (.ref 2)), (41, .one (.ro I)), (42, .one (.ro I))], [.box [.ro I, .ro LQII], .box [.ref 3, .ref 4], .sl 3 I .own, .sl 27 LI .deep, .sl 49 QII .own]⟩
noncomputable def Zq5_l0_ex : List (Ex × Sh) := [(.exit 0, ⟨[(3, .one (.adr 0 0)), (12, .one (.ro U64))], [.box [.ro I, .ro LQII]]⟩)]
noncomputable def Zq5_l0 {R : Type} (N : Nat) (k0 : Int → Int → (List (Int × Int)) → Option R) : Nat → (List Int) → Int → Int → Int → Int → (List (Int × Int)) → (List Int) → (List (List Int)) → (List (Int × Int)) → Option R
 | 0, _, _, _, _, _, _, _, _, _ => none
 | K + 1, x, x1, x2, x3, o, o1, o2, o3, o4 =>
 (br (ilt x3 x2)
 ((chk (inb o2 x3)
 (br (ile 0 (rdI o2 x3))
 ((chk (inb o3 x3)
 ((Zq43 N x (rdL o3 x3)).bind fun r5 =>
 ((Zq29 N r5.1.1).bind fun r6 =>
 Zq5_l0 N k0 K x (bitop .or .u64 x1 r6.1.1) x2 (IntKind.i64.wrap (x3 + 1)) o o1 o2 o3 o4))))
 (Zq5_l0 N k0 K x x1 x2 (IntKind.i64.wrap (x3 + 1)) o o1 o2 o3 o4))))
 (k0 x1 o o1))
noncomputable def Zq5_l0_again {R : Type} (N : Nat) (ks : KS Zq5_l0_ex R) (k : Nat) (x : Zq5_l0_sh.T) : Option R :=
 Zq5_l0 N (fun y0 y1 y2 => ks 0 (((), y0, ()), ((y1, y2, ()), ()))) k x.1.1 x.1.2.2.2.1 x.1.2.2.2.2.2.1 x.1.2.2.2.2.2.2.1 x.2.1.1 x.2.1.2.1 x.2.2.2.1 x.2.2.2.2.1 x.2.2.2.2.2.1
noncomputable def Zq5_l0_s (N : Nat) : LSum := ⟨Zq5_l0_sh, Zq5_l0_ex, fun x ks => Zq5_l0_again N ks N x⟩
theorem Zq5_l0_ok (N : Nat) : LoopOk Tryz.prog Tryz.f29.ntmps (Zq5_l0_s N) (loopAt Zq5_code 0) := loopQ (sh := Zq5_l0_sh) (ex := Zq5_l0_ex) (N := N) (L := []) (fun R k x ks => Zq5_l0_again N ks k x) (Zq5_gok N) (fun _ _ _ => rfl) (fun R k x ks => by kernel_rfl) trivial (by kernel_rfl)
noncomputable def Zq5 (N : Nat) (c : (Int × (List (Int × Int)))) (c1 : Int) (c2 : (List Int)) : Option (((List Int) × Bool × Unit) × (Unit)) :=
 ((Zq3 N (c.1, c.2) c1).bind fun r =>
 (br (!r.1.2.1)
 (some (([], false, ()), ()))
 (((Zq36 N (c.1, c.2) c1 [c2]).bind fun r1 =>
 (br (!r1.1.1)
 (some (([], false, ()), ()))
 (((Zq25 N (r.1.1.1, r.1.1.2) c2).bind fun r2 =>
 ((Zq26 N (r.1.1.1, r.1.1.2)).bind fun r3 =>
 ((Zq45 N r3.1.1 r2.1.1).bind fun r4 =>
 Zq5_l0 N (fun x o o1 => ((Zq6 N (o, o1)).bind fun r5 =>
 ((Zq30 N (bitop .andNot .u64 r5.1.1 x)).bind fun r6 =>
 some ((r6.1.1, true, ()), ())))) N c2 0 (tLen r4.1.1) 0 c.1 c.2 r4.1.1 r.1.1.1 r.1.1.2)))))))))
noncomputable def Zq5_S (N : Nat) : FSum := ⟨Zq5_ps, Zq5_rs, fun x => Zq5 N x.1 x.2.1 x.2.2.1⟩
theorem Zq5_pc (N : Nat) : PC Tryz.prog 29 (Zq5_S N) := pcQ (L := [Zq5_l0_s N]) (Zq5_gok N) Tryz.call29 Tryz.func29 (fun x => by kernel_rfl) ⟨Zq5_l0_ok N, trivial⟩ (by kernel_rfl)

abbrev Zq97_ps : List (PV.Mode × Ty) := [(.ro, QLLILQII), (.ro, I)]
abbrev Zq97_rs : List (Bool × Ty) := [(true, LI)]
noncomputable def Zq97_G (N : Nat) : GTab := gOf [(118, Zq101_S N), (119, Zq107_S N)]
theorem Zq97_gok (N : Nat) : GOk Tryz.prog (Zq97_G N) := gOf_ok ⟨Zq101_pc N, Zq107_pc N, trivial⟩
noncomputable def Zq97_code : Code := (Tryz.f83.body).getD .skip
noncomputable def Zq97 (N : Nat) (x : ((List (List Int)) × (List (Int × Int)))) (i : Int) : Option (((List Int) × Unit) × (Unit)) :=
 ((Zq101 N (x.1, x.2)).bind fun r =>
 ((Zq107 N r.1.1 i).bind fun r1 =>
 some ((r1.1.1, ()), ())))
noncomputable def Zq97_S (N : Nat) : FSum := ⟨Zq97_ps, Zq97_rs, fun x => Zq97 N x.1 x.2.1⟩
theorem Zq97_pc (N : Nat) : PC Tryz.prog 83 (Zq97_S N) := pcQ (L := []) (Zq97_gok N) Tryz.call83 Tryz.func83 (fun x => by kernel_rfl) trivial (by kernel_rfl)

abbrev Zq77_ps : List (PV.Mode × Ty) := [(.ro, QILQII), (.ro, I), (.ro, LI)]
abbrev Zq77_rs : List (Bool × Ty) := [(true, LI), (true, .bool)]
noncomputable def Zq77_G (N : Nat) : GTab := gOf [(46, Zq115_S N), (72, Zq119_S N), (84, Zq100_S N), (83, Zq97_S N)]
theorem Zq77_gok (N : Nat) : GOk Tryz.prog (Zq77_G N) := gOf_ok ⟨Zq115_pc N, Zq119_pc N, Zq100_pc N, Zq97_pc N, trivial⟩
noncomputable def Zq77_code : Code := (Tryz.f30.body).getD .skip
noncomputable def Zq77_l0_0_sh : Sh := ⟨[(2, .one (.ro LI)), (3, .one (.adr 0 0)), (8, .one (.ref 1)), (9, .one (.adr 2 0)), (11, .one (.ref 3)), (12, .one (.ro I)), (13, .one (.ro .bool)), (14, .one (.ro I))], [.box [.ro I, .ro LQII], .sl 3 I .own, .box [.ref 4, .ref 5], .sl 3 I .own, .sl 27 LI .deep, .sl 49 QII .own]⟩
noncomputable def Zq77_l0_0_ex : List (Ex × Sh) := [(.exit 2, ⟨[(2, .one (.ro LI)), (3, .one (.adr 0 0)), (8, .one (.ref 1)), (9, .one (.adr 2 0)), (11, .one (.ref 3)), (12, .one (.ro I)), (13, .one (.ro .bool))], [.box [.ro I, .ro LQII], .sl 3 I .own, .box [.ref 4, .ref 5], .sl 3 I .own, .sl 27 LI .deep, .sl 49 QII .own]⟩)]
noncomputable def Zq77_l0_0 {R : Type} (N : Nat) (k0 : (List Int) → Int → Bool → Int → (List (Int × Int)) → (List Int) → (List Int) → (List (List Int)) → (List (Int × Int)) → Option R) : Nat → (List Int) → Int → Bool → Int → Int → (List (Int × Int)) → (List Int) → (List Int) → (List (List Int)) → (List (Int × Int)) → Option R
 | 0, _, _, _, _, _, _, _, _, _, _ => none
 | K + 1, x2, x3, x4, x5, o6, o7, o8, o9, o10, o11 =>
 (br (ilt x5 (tLen o9))
 ((br x4
 ((chk (inb o9 x5)
 (br (ilt (rdI o9 x5) 0)
 (Zq77_l0_0 N k0 K x2 x3 true (IntKind.i64.wrap (x5 + 1)) o6 o7 o8 o9 o10 o11)
 ((chk (inb o10 x5)
 (chk (inb (rdL o10 x5) x3)
 (chk (inb x2 x3)
 (Zq77_l0_0 N k0 K x2 x3 (ieq (rdI (rdL o10 x5) x3) (rdI x2 x3)) (IntKind.i64.wrap (x5 + 1)) o6 o7 o8 o9 o10 o11))))))))
 (Zq77_l0_0 N k0 K x2 x3 false (IntKind.i64.wrap (x5 + 1)) o6 o7 o8 o9 o10 o11)))
 (k0 x2 x3 x4 o6 o7 o8 o9 o10 o11))
noncomputable def Zq77_l0_0_again {R : Type} (N : Nat) (ks : KS Zq77_l0_0_ex R) (k : Nat) (x : Zq77_l0_0_sh.T) : Option R :=
 Zq77_l0_0 N (fun y0 y1 y2 y3 y4 y5 y6 y7 y8 => ks 0 ((y0, (), (), (), (), y1, y2, ()), ((y3, y4, ()), y5, ((), (), ()), y6, y7, y8, ()))) k x.1.1 x.1.2.2.2.2.2.1 x.1.2.2.2.2.2.2.1 x.1.2.2.2.2.2.2.2.1 x.2.1.1 x.2.1.2.1 x.2.2.1 x.2.2.2.2.1 x.2.2.2.2.2.1 x.2.2.2.2.2.2.1
noncomputable def Zq77_l0_0_s (N : Nat) : LSum := ⟨Zq77_l0_0_sh, Zq77_l0_0_ex, fun x ks => Zq77_l0_0_again N ks N x⟩
theorem Zq77_l0_0_ok (N : Nat) : LoopOk Tryz.prog Tryz.f30.ntmps (Zq77_l0_0_s N) (loopAt (loopAt Zq77_code 0) 0) := loopQ (sh := Zq77_l0_0_sh) (ex := Zq77_l0_0_ex) (N := N) (L := []) (fun R k x ks => Zq77_l0_0_again N ks k x) (Zq77_gok N) (fun _ _ _ => rfl) (fun R k x ks => by kernel_rfl) trivial (by kernel_rfl)
noncomputable def Zq77_l0_sh : Sh := ⟨[(2, .one (.ro LI)), (3, .one (.adr 0 0)), (8, .one (.ref 1)), (9, .one (.adr 2 0)), (11, .one (.ref 3)), (12, .one (.ro I))], [.box [.ro I, .ro LQII], .sl 3 I .own, .box [.ref 4, .ref 5], .sl 3 I .own, .sl 27 LI .deep, .sl 49 QII .own]⟩
noncomputable def Zq77_l0_ex : List (Ex × Sh) := [(.exit 0, ⟨[(8, .one (.ref 0))], [.sl 3 I .own]⟩)]
noncomputable def Zq77_l0 {R : Type} (N : Nat) (k0 : (List Int) → Option R) : Nat → (List Int) → Int → Int → (List (Int × Int)) → (List Int) → (List Int) → (List (List Int)) → (List (Int × Int)) → Option R
 | 0, _, _, _, _, _, _, _, _ => none
 | K + 1, x, x1, o, o1, o2, o3, o4, o5 =>
 (br (ilt x1 o)
 (Zq77_l0_0 N (fun x2 x3 x4 o6 o7 o8 o9 o10 o11 => (br x4
 ((chk (room o8 [x3])
 (Zq77_l0 N k0 K x2 (IntKind.i64.wrap (x3 + 1)) o6 o7 (tApp o8 [x3]) o9 o10 o11)))
 (Zq77_l0 N k0 K x2 (IntKind.i64.wrap (x3 + 1)) o6 o7 o8 o9 o10 o11))) N x x1 true 0 o o1 o2 o3 o4 o5)
 (k0 o2))
noncomputable def Zq77_l0_again {R : Type} (N : Nat) (ks : KS Zq77_l0_ex R) (k : Nat) (x : Zq77_l0_sh.T) : Option R :=
 Zq77_l0 N (fun y0 => ks 0 (((), ()), (y0, ()))) k x.1.1 x.1.2.2.2.2.2.1 x.2.1.1 x.2.1.2.1 x.2.2.1 x.2.2.2.2.1 x.2.2.2.2.2.1 x.2.2.2.2.2.2.1
noncomputable def Zq77_l0_s (N : Nat) : LSum := ⟨Zq77_l0_sh, Zq77_l0_ex, fun x ks => Zq77_l0_again N ks N x⟩
theorem Zq77_l0_ok (N : Nat) : LoopOk Tryz.prog Tryz.f30.ntmps (Zq77_l0_s N) (loopAt Zq77_code 0) := loopQ (sh := Zq77_l0_sh) (ex := Zq77_l0_ex) (N := N) (L := [Zq77_l0_0_s N]) (fun R k x ks => Zq77_l0_again N ks k x) (Zq77_gok N) (fun _ _ _ => rfl) (fun R k x ks => by kernel_rfl) ⟨Zq77_l0_0_ok N, trivial⟩ (by kernel_rfl)
noncomputable def Zq77 (N : Nat) (c : (Int × (List (Int × Int)))) (c1 : Int) (c2 : (List Int)) : Option (((List Int) × Bool × Unit) × (Unit)) :=
 ((Zq115 N (c.1, c.2) c1 c2).bind fun r =>
 (br (!r.1.1)
 (some (([], false, ()), ()))
 (((Zq119 N (c.1, c.2) c1 false).bind fun r1 =>
 (br (!r1.1.2.1)
 (some (([], false, ()), ()))
 (((Zq100 N (r1.1.1.1, r1.1.1.2) c2).bind fun r2 =>
 ((Zq97 N (r1.1.1.1, r1.1.1.2) r2.1.1).bind fun r3 =>
 Zq77_l0 N (fun o => some ((o, true, ()), ())) N c2 0 c.1 c.2 [] r3.1.1 r1.1.1.1 r1.1.1.2))))))))
noncomputable def Zq77_S (N : Nat) : FSum := ⟨Zq77_ps, Zq77_rs, fun x => Zq77 N x.1 x.2.1 x.2.2.1⟩
theorem Zq77_pc (N : Nat) : PC Tryz.prog 30 (Zq77_S N) := pcQ (L := [Zq77_l0_s N]) (Zq77_gok N) Tryz.call30 Tryz.func30 (fun x => by kernel_rfl) ⟨Zq77_l0_ok N, trivial⟩ (by kernel_rfl)

abbrev Zq55_ps : List (PV.Mode × Ty) := [(.ro, U64)]
abbrev Zq55_rs : List (Bool × Ty) := [(true, I)]
noncomputable def Zq55_G (N : Nat) : GTab := gOf []
theorem Zq55_gok (N : Nat) : GOk Tryz.prog (Zq55_G N) := gOf_ok trivial
noncomputable def Zq55_code : Code := (Tryz.f153.body).getD .skip
noncomputable def Zq55 (N : Nat) (x : Int) : Option ((Int × Unit) × (Unit)) :=
 some (((bitop .and .i64 (IntKind.i64.wrap ((IntKind.u64.wrap ((IntKind.u64.wrap ((IntKind.u64.wrap ((bitop .and .u64 (IntKind.u64.wrap ((shrI .u64 (IntKind.u64.wrap ((bitop .and .u64 (shrI .u64 (IntKind.u64.wrap ((bitop .and .u64 (shrI .u64 x 1) 6148914691236517205) + (bitop .and .u64 x 6148914691236517205))) 2) 3689348814741910323) + (bitop .and .u64 (IntKind.u64.wrap ((bitop .and .u64 (shrI .u64 x 1) 6148914691236517205) + (bitop .and .u64 x 6148914691236517205))) 3689348814741910323))) 4) + (IntKind.u64.wrap ((bitop .and .u64 (shrI .u64 (IntKind.u64.wrap ((bitop .and .u64 (shrI .u64 x 1) 6148914691236517205) + (bitop .and .u64 x 6148914691236517205))) 2) 3689348814741910323) + (bitop .and .u64 (IntKind.u64.wrap ((bitop .and .u64 (shrI .u64 x 1) 6148914691236517205) + (bitop .and .u64 x 6148914691236517205))) 3689348814741910323))))) 1085102592571150095) + (shrI .u64 (bitop .and .u64 (IntKind.u64.wrap ((shrI .u64 (IntKind.u64.wrap ((bitop .and .u64 (shrI .u64 (IntKind.u64.wrap ((bitop .and .u64 (shrI .u64 x 1) 6148914691236517205) + (bitop .and .u64 x 6148914691236517205))) 2) 3689348814741910323) + (bitop .and .u64 (IntKind.u64.wrap ((bitop .and .u64 (shrI .u64 x 1) 6148914691236517205) + (bitop .and .u64 x 6148914691236517205))) 3689348814741910323))) 4) + (IntKind.u64.wrap ((bitop .and .u64 (shrI .u64 (IntKind.u64.wrap ((bitop .and .u64 (shrI .u64 x 1) 6148914691236517205) + (bitop .and .u64 x 6148914691236517205))) 2) 3689348814741910323) + (bitop .and .u64 (IntKind.u64.wrap ((bitop .and .u64 (shrI .u64 x 1) 6148914691236517205) + (bitop .and .u64 x 6148914691236517205))) 3689348814741910323))))) 1085102592571150095) 8))) + (shrI .u64 (IntKind.u64.wrap ((bitop .and .u64 (IntKind.u64.wrap ((shrI .u64 (IntKind.u64.wrap ((bitop .and .u64 (shrI .u64 (IntKind.u64.wrap ((bitop .and .u64 (shrI .u64 x 1) 6148914691236517205) + (bitop .and .u64 x 6148914691236517205))) 2) 3689348814741910323) + (bitop .and .u64 (IntKind.u64.wrap ((bitop .and .u64 (shrI .u64 x 1) 6148914691236517205) + (bitop .and .u64 x 6148914691236517205))) 3689348814741910323))) 4) + (IntKind.u64.wrap ((bitop .and .u64 (shrI .u64 (IntKind.u64.wrap ((bitop .and .u64 (shrI .u64 x 1) 6148914691236517205) + (bitop .and .u64 x 6148914691236517205))) 2) 3689348814741910323) + (bitop .and .u64 (IntKind.u64.wrap ((bitop .and .u64 (shrI .u64 x 1) 6148914691236517205) + (bitop .and .u64 x 6148914691236517205))) 3689348814741910323))))) 1085102592571150095) + (shrI .u64 (bitop .and .u64 (IntKind.u64.wrap ((shrI .u64 (IntKind.u64.wrap ((bitop .and .u64 (shrI .u64 (IntKind.u64.wrap ((bitop .and .u64 (shrI .u64 x 1) 6148914691236517205) + (bitop .and .u64 x 6148914691236517205))) 2) 3689348814741910323) + (bitop .and .u64 (IntKind.u64.wrap ((bitop .and .u64 (shrI .u64 x 1) 6148914691236517205) + (bitop .and .u64 x 6148914691236517205))) 3689348814741910323))) 4) + (IntKind.u64.wrap ((bitop .and .u64 (shrI .u64 (IntKind.u64.wrap ((bitop .and .u64 (shrI .u64 x 1) 6148914691236517205) + (bitop .and .u64 x 6148914691236517205))) 2) 3689348814741910323) + (bitop .and .u64 (IntKind.u64.wrap ((bitop .and .u64 (shrI .u64 x 1) 6148914691236517205) + (bitop .and .u64 x 6148914691236517205))) 3689348814741910323))))) 1085102592571150095) 8))) 16))) + (shrI .u64 (IntKind.u64.wrap ((IntKind.u64.wrap ((bitop .and .u64 (IntKind.u64.wrap ((shrI .u64 (IntKind.u64.wrap ((bitop .and .u64 (shrI .u64 (IntKind.u64.wrap ((bitop .and .u64 (shrI .u64 x 1) 6148914691236517205) + (bitop .and .u64 x 6148914691236517205))) 2) 3689348814741910323) + (bitop .and .u64 (IntKind.u64.wrap ((bitop .and .u64 (shrI .u64 x 1) 6148914691236517205) + (bitop .and .u64 x 6148914691236517205))) 3689348814741910323))) 4) + (IntKind.u64.wrap ((bitop .and .u64 (shrI .u64 (IntKind.u64.wrap ((bitop .and .u64 (shrI .u64 x 1) 6148914691236517205) + (bitop .and .u64 x 6148914691236517205))) 2) 3689348814741910323) + (bitop .and .u64 (IntKind.u64.wrap ((bitop .and .u64 (shrI .u64 x 1) 6148914691236517205) + (bitop .and .u64 x 6148914691236517205))) 3689348814741910323))))) 1085102592571150095) + (shrI .u64 (bitop .and .u64 (IntKind.u64.wrap ((shrI .u64 (IntKind.u64.wrap ((bitop .and .u64 (shrI .u64 (IntKind.u64.wrap ((bitop .and .u64 (shrI .u64 x 1) 6148914691236517205) + (bitop .and .u64 x 6148914691236517205))) 2) 3689348814741910323) + (bitop .and .u64 (IntKind.u64.wrap ((bitop .and .u64 (shrI .u64 x 1) 6148914691236517205) + (bitop .and .u64 x 6148914691236517205))) 3689348814741910323))) 4) + (IntKind.u64.wrap ((bitop .and .u64 (shrI .u64 (IntKind.u64.wrap ((bitop .and .u64 (shrI .u64 x 1) 6148914691236517205) + (bitop .and .u64 x 6148914691236517205))) 2) 3689348814741910323) + (bitop .and .u64 (IntKind.u64.wrap ((bitop .and .u64 (shrI .u64 x 1) 6148914691236517205) + (bitop .and .u64 x 6148914691236517205))) 3689348814741910323))))) 1085102592571150095) 8))) + (shrI .u64 (IntKind.u64.wrap ((bitop .and .u64 (IntKind.u64.wrap ((shrI .u64 (IntKind.u64.wrap ((bitop .and .u64 (shrI .u64 (IntKind.u64.wrap ((bitop .and .u64 (shrI .u64 x 1) 6148914691236517205) + (bitop .and .u64 x 6148914691236517205))) 2) 3689348814741910323) + (bitop .and .u64 (IntKind.u64.wrap ((bitop .and .u64 (shrI .u64 x 1) 6148914691236517205) + (bitop .and .u64 x 6148914691236517205))) 3689348814741910323))) 4) + (IntKind.u64.wrap ((bitop .and .u64 (shrI .u64 (IntKind.u64.wrap ((bitop .and .u64 (shrI .u64 x 1) 6148914691236517205) + (bitop .and .u64 x 6148914691236517205))) 2) 3689348814741910323) + (bitop .and .u64 (IntKind.u64.wrap ((bitop .and .u64 (shrI .u64 x 1) 6148914691236517205) + (bitop .and .u64 x 6148914691236517205))) 3689348814741910323))))) 1085102592571150095) + (shrI .u64 (bitop .and .u64 (IntKind.u64.wrap ((shrI .u64 (IntKind.u64.wrap ((bitop .and .u64 (shrI .u64 (IntKind.u64.wrap ((bitop .and .u64 (shrI .u64 x 1) 6148914691236517205) + (bitop .and .u64 x 6148914691236517205))) 2) 3689348814741910323) + (bitop .and .u64 (IntKind.u64.wrap ((bitop .and .u64 (shrI .u64 x 1) 6148914691236517205) + (bitop .and .u64 x 6148914691236517205))) 3689348814741910323))) 4) + (IntKind.u64.wrap ((bitop .and .u64 (shrI .u64 (IntKind.u64.wrap ((bitop .and .u64 (shrI .u64 x 1) 6148914691236517205) + (bitop .and .u64 x 6148914691236517205))) 2) 3689348814741910323) + (bitop .and .u64 (IntKind.u64.wrap ((bitop .and .u64 (shrI .u64 x 1) 6148914691236517205) + (bitop .and .u64 x 6148914691236517205))) 3689348814741910323))))) 1085102592571150095) 8))) 16))) 32))))) 127), ()), ())
noncomputable def Zq55_S (N : Nat) : FSum := ⟨Zq55_ps, Zq55_rs, fun x => Zq55 N x.1⟩
theorem Zq55_pc (N : Nat) : PC Tryz.prog 153 (Zq55_S N) := pcQ (L := []) (Zq55_gok N) Tryz.call153 Tryz.func153 (fun x => by kernel_rfl) trivial (by kernel_rfl)

abbrev Zq54_ps : List (PV.Mode × Ty) := [(.ro, U64)]
abbrev Zq54_rs : List (Bool × Ty) := [(true, I)]
noncomputable def Zq54_G (N : Nat) : GTab := gOf [(153, Zq55_S N)]
theorem Zq54_gok (N : Nat) : GOk Tryz.prog (Zq54_G N) := gOf_ok ⟨Zq55_pc N, trivial⟩
noncomputable def Zq54_code : Code := (Tryz.f120.body).getD .skip
noncomputable def Zq54 (N : Nat) (x : Int) : Option ((Int × Unit) × (Unit)) :=
 ((Zq55 N x).bind fun r =>
 some ((r.1.1, ()), ()))
noncomputable def Zq54_S (N : Nat) : FSum := ⟨Zq54_ps, Zq54_rs, fun x => Zq54 N x.1⟩
theorem Zq54_pc (N : Nat) : PC Tryz.prog 120 (Zq54_S N) := pcQ (L := []) (Zq54_gok N) Tryz.call120 Tryz.func120 (fun x => by kernel_rfl) trivial (by kernel_rfl)

abbrev Zq31_ps : List (PV.Mode × Ty) := [(.ro, U64)]
abbrev Zq31_rs : List (Bool × Ty) := [(true, I)]
noncomputable def Zq31_G (N : Nat) : GTab := gOf [(120, Zq54_S N)]
theorem Zq31_gok (N : Nat) : GOk Tryz.prog (Zq31_G N) := gOf_ok ⟨Zq54_pc N, trivial⟩
noncomputable def Zq31_code : Code := (Tryz.f77.body).getD .skip
noncomputable def Zq31 (N : Nat) (b : Int) : Option ((Int × Unit) × (Unit)) :=
 ((Zq54 N b).bind fun r =>
 some ((r.1.1, ()), ()))
noncomputable def Zq31_S (N : Nat) : FSum := ⟨Zq31_ps, Zq31_rs, fun x => Zq31 N x.1⟩
theorem Zq31_pc (N : Nat) : PC Tryz.prog 77 (Zq31_S N) := pcQ (L := []) (Zq31_gok N) Tryz.call77 Tryz.func77 (fun x => by kernel_rfl) trivial (by kernel_rfl)

abbrev Zq28_ps : List (PV.Mode × Ty) := [(.ro, QILQII), (.ro, I), (.ro, LI)]
abbrev Zq28_rs : List (Bool × Ty) := [(true, LI), (true, .bool)]
noncomputable def Zq28_G (N : Nat) : GTab := gOf [(44, Zq36_S N), (66, Zq16_S N), (77, Zq31_S N)]
theorem Zq28_gok (N : Nat) : GOk Tryz.prog (Zq28_G N) := gOf_ok ⟨Zq36_pc N, Zq16_pc N, Zq31_pc N, trivial⟩
noncomputable def Zq28_code : Code := (Tryz.f31.body).getD .skip
noncomputable def Zq28_l0_0_sh : Sh := ⟨[(1, .one (.ro I)), (2, .one (.ro LI)), (3, .one (.adr 0 0)), (8, .one (.ref 1)), (9, .one (.ro I)), (10, .one (.ro U64)), (21, .one (.ro I)), (22, .one (.ro I)), (32, .one (.ref 2)), (33, .one (.ro I)), (34, .one (.ro I))], [.box [.ro I, .ro LQII], .sl 3 I .own, .sl 3 I .own]⟩
noncomputable def Zq28_l0_0_ex : List (Ex × Sh) := [(.exit 2, ⟨[(1, .one (.ro I)), (2, .one (.ro LI)), (3, .one (.adr 0 0)), (8, .one (.ref 1)), (9, .one (.ro I)), (10, .one (.ro U64)), (21, .one (.ro I)), (22, .one (.ro I))], [.box [.ro I, .ro LQII], .sl 3 I .own]⟩)]
noncomputable def Zq28_l0_0 {R : Type} (N : Nat) (k0 : Int → (List Int) → Int → Int → Int → Int → Int → (List (Int × Int)) → (List Int) → Option R) : Nat → Int → (List Int) → Int → Int → Int → Int → Int → Int → Int → (List (Int × Int)) → (List Int) → (List Int) → Option R
 | 0, _, _, _, _, _, _, _, _, _, _, _, _ => none
 | K + 1, kv2, colours2, x2, seen, x3, x4, x5, x6, o3, o4, o5, o6 =>
 (br (ilt x6 x5)
 ((chk (inb o6 x6)
 (chk (inb colours2 (rdI o6 x6))
 (chk (ile 0 (rdI colours2 (rdI o6 x6)))
 (Zq28_l0_0 N k0 K kv2 colours2 x2 (bitop .or .u64 seen (shlI .u64 1 (rdI colours2 (rdI o6 x6)))) x3 x4 x5 (IntKind.i64.wrap (x6 + 1)) o3 o4 o5 o6)))))
 (k0 kv2 colours2 x2 seen x3 x4 o3 o4 o5))
noncomputable def Zq28_l0_0_again {R : Type} (N : Nat) (ks : KS Zq28_l0_0_ex R) (k : Nat) (x : Zq28_l0_0_sh.T) : Option R :=
 Zq28_l0_0 N (fun y0 y1 y2 y3 y4 y5 y6 y7 y8 => ks 0 ((y0, y1, (), (), y2, y3, y4, y5, ()), ((y6, y7, ()), y8, ()))) k x.1.1 x.1.2.1 x.1.2.2.2.2.1 x.1.2.2.2.2.2.1 x.1.2.2.2.2.2.2.1 x.1.2.2.2.2.2.2.2.1 x.1.2.2.2.2.2.2.2.2.2.1 x.1.2.2.2.2.2.2.2.2.2.2.1 x.2.1.1 x.2.1.2.1 x.2.2.1 x.2.2.2.1
noncomputable def Zq28_l0_0_s (N : Nat) : LSum := ⟨Zq28_l0_0_sh, Zq28_l0_0_ex, fun x ks => Zq28_l0_0_again N ks N x⟩
theorem Zq28_l0_0_ok (N : Nat) : LoopOk Tryz.prog Tryz.f31.ntmps (Zq28_l0_0_s N) (loopAt (loopAt Zq28_code 0) 0) := loopQ (sh := Zq28_l0_0_sh) (ex := Zq28_l0_0_ex) (N := N) (L := []) (fun R k x ks => Zq28_l0_0_again N ks k x) (Zq28_gok N) (fun _ _ _ => rfl) (fun R k x ks => by kernel_rfl) trivial (by kernel_rfl)
noncomputable def Zq28_l0_sh : Sh := ⟨[(1, .one (.ro I)), (2, .one (.ro LI)), (3, .one (.adr 0 0)), (8, .one (.ref 1)), (21, .one (.ro I)), (22, .one (.ro I))], [.box [.ro I, .ro LQII], .sl 3 I .own]⟩
noncomputable def Zq28_l0_ex : List (Ex × Sh) := [(.exit 0, ⟨[(8, .one (.ref 0))], [.sl 3 I .own]⟩)]
noncomputable def Zq28_l0 {R : Type} (N : Nat) (k0 : (List Int) → Option R) : Nat → Int → (List Int) → Int → Int → Int → (List (Int × Int)) → (List Int) → Option R
 | 0, _, _, _, _, _, _, _ => none
 | K + 1, kv1, colours1, x, x1, o, o1, o2 =>
 (br (ilt x1 x)
 ((chk (inb colours1 x1)
 (chk (ile 0 (rdI colours1 x1))
 ((Zq16 N (o, o1) x1).bind fun r1 =>
 Zq28_l0_0 N (fun kv2 colours2 x2 seen x3 x4 o3 o4 o5 => ((Zq31 N seen).bind fun r2 =>
 (br (ieq r2.1.1 kv2)
 ((chk (room o5 [x2])
 (Zq28_l0 N k0 K kv2 colours2 x3 (IntKind.i64.wrap (x4 + 1)) o3 o4 (tApp o5 [x2]))))
 (Zq28_l0 N k0 K kv2 colours2 x3 (IntKind.i64.wrap (x4 + 1)) o3 o4 o5)))) N kv1 colours1 x1 (shlI .u64 1 (rdI colours1 x1)) x x1 (tLen r1.1.1) 0 o o1 o2 r1.1.1))))
 (k0 o2))
noncomputable def Zq28_l0_again {R : Type} (N : Nat) (ks : KS Zq28_l0_ex R) (k : Nat) (x : Zq28_l0_sh.T) : Option R :=
 Zq28_l0 N (fun y0 => ks 0 (((), ()), (y0, ()))) k x.1.1 x.1.2.1 x.1.2.2.2.2.1 x.1.2.2.2.2.2.1 x.2.1.1 x.2.1.2.1 x.2.2.1
noncomputable def Zq28_l0_s (N : Nat) : LSum := ⟨Zq28_l0_sh, Zq28_l0_ex, fun x ks => Zq28_l0_again N ks N x⟩
theorem Zq28_l0_ok (N : Nat) : LoopOk Tryz.prog Tryz.f31.ntmps (Zq28_l0_s N) (loopAt Zq28_code 0) := loopQ (sh := Zq28_l0_sh) (ex := Zq28_l0_ex) (N := N) (L := [Zq28_l0_0_s N]) (fun R k x ks => Zq28_l0_again N ks k x) (Zq28_gok N) (fun _ _ _ => rfl) (fun R k x ks => by kernel_rfl) ⟨Zq28_l0_0_ok N, trivial⟩ (by kernel_rfl)
noncomputable def Zq28 (N : Nat) (g : (Int × (List (Int × Int)))) (kv : Int) (colours : (List Int)) : Option (((List Int) × Bool × Unit) × (Unit)) :=
 ((Zq36 N (g.1, g.2) kv [colours]).bind fun r =>
 (br (!r.1.1)
 (some (([], false, ()), ()))
 (Zq28_l0 N (fun o => some ((o, true, ()), ())) N kv colours g.1 0 g.1 g.2 [])))
noncomputable def Zq28_S (N : Nat) : FSum := ⟨Zq28_ps, Zq28_rs, fun x => Zq28 N x.1 x.2.1 x.2.2.1⟩
theorem Zq28_pc (N : Nat) : PC Tryz.prog 31 (Zq28_S N) := pcQ (L := [Zq28_l0_s N]) (Zq28_gok N) Tryz.call31 Tryz.func31 (fun x => by kernel_rfl) ⟨Zq28_l0_ok N, trivial⟩ (by kernel_rfl)

abbrev Zq81_ps : List (PV.Mode × Ty) := [(.ro, QILQII), (.ro, I), (.ro, LI)]
abbrev Zq81_rs : List (Bool × Ty) := [(true, LI), (true, .bool)]
noncomputable def Zq81_G (N : Nat) : GTab := gOf [(46, Zq115_S N), (60, Zq94_S N), (85, Zq118_S N)]
theorem Zq81_gok (N : Nat) : GOk Tryz.prog (Zq81_G N) := gOf_ok ⟨Zq115_pc N, Zq94_pc N, Zq118_pc N, trivial⟩
noncomputable def Zq81_code : Code := (Tryz.f32.body).getD .skip
noncomputable def Zq81_l0_0_sh : Sh := ⟨[(1, .one (.ro I)), (2, .one (.ro LI)), (3, .one (.adr 0 0)), (8, .one (.ref 1)), (9, .one (.ro I)), (10, .one (.ro .bool)), (11, .one (.ro I))], [.box [.ro I, .ro LQII], .sl 3 I .own]⟩
noncomputable def Zq81_l0_0_ex : List (Ex × Sh) := [(.exit 2, ⟨[(1, .one (.ro I)), (2, .one (.ro LI)), (3, .one (.adr 0 0)), (8, .one (.ref 1)), (9, .one (.ro I)), (10, .one (.ro .bool))], [.box [.ro I, .ro LQII], .sl 3 I .own]⟩)]
noncomputable def Zq81_l0_0 {R : Type} (N : Nat) (k0 : Int → (List Int) → Int → Bool → Int → (List (Int × Int)) → (List Int) → Option R) : Nat → Int → (List Int) → Int → Bool → Int → Int → (List (Int × Int)) → (List Int) → Option R
 | 0, _, _, _, _, _, _, _, _ => none
 | K + 1, kv2, colours2, x1, still, c, o3, o4, o5 =>
 (br (ilt c kv2)
 (((Zq94 N colours2).bind fun r1 =>
 (chk (inb r1.1.1 x1)
 (br still
 ((chk (inb colours2 x1)
 (br (ieq c (rdI colours2 x1))
 (Zq81_l0_0 N k0 K kv2 colours2 x1 true (IntKind.i64.wrap (c + 1)) o3 o4 o5)
 (((Zq118 N (o3, o4) kv2 (tSet r1.1.1 x1 c)).bind fun r2 =>
 Zq81_l0_0 N k0 K kv2 colours2 x1 (!r2.1.1) (IntKind.i64.wrap (c + 1)) o3 o4 o5)))))
 (Zq81_l0_0 N k0 K kv2 colours2 x1 false (IntKind.i64.wrap (c + 1)) o3 o4 o5)))))
 (k0 kv2 colours2 x1 still o3 o4 o5))
noncomputable def Zq81_l0_0_again {R : Type} (N : Nat) (ks : KS Zq81_l0_0_ex R) (k : Nat) (x : Zq81_l0_0_sh.T) : Option R :=
 Zq81_l0_0 N (fun y0 y1 y2 y3 y4 y5 y6 => ks 0 ((y0, y1, (), (), y2, y3, ()), ((y4, y5, ()), y6, ()))) k x.1.1 x.1.2.1 x.1.2.2.2.2.1 x.1.2.2.2.2.2.1 x.1.2.2.2.2.2.2.1 x.2.1.1 x.2.1.2.1 x.2.2.1
noncomputable def Zq81_l0_0_s (N : Nat) : LSum := ⟨Zq81_l0_0_sh, Zq81_l0_0_ex, fun x ks => Zq81_l0_0_again N ks N x⟩
theorem Zq81_l0_0_ok (N : Nat) : LoopOk Tryz.prog Tryz.f32.ntmps (Zq81_l0_0_s N) (loopAt (loopAt Zq81_code 0) 0) := loopQ (sh := Zq81_l0_0_sh) (ex := Zq81_l0_0_ex) (N := N) (L := []) (fun R k x ks => Zq81_l0_0_again N ks k x) (Zq81_gok N) (fun _ _ _ => rfl) (fun R k x ks => by kernel_rfl) trivial (by kernel_rfl)
noncomputable def Zq81_l0_sh : Sh := ⟨[(1, .one (.ro I)), (2, .one (.ro LI)), (3, .one (.adr 0 0)), (8, .one (.ref 1)), (9, .one (.ro I))], [.box [.ro I, .ro LQII], .sl 3 I .own]⟩
noncomputable def Zq81_l0_ex : List (Ex × Sh) := [(.exit 0, ⟨[(8, .one (.ref 0))], [.sl 3 I .own]⟩)]
noncomputable def Zq81_l0 {R : Type} (N : Nat) (k0 : (List Int) → Option R) : Nat → Int → (List Int) → Int → Int → (List (Int × Int)) → (List Int) → Option R
 | 0, _, _, _, _, _, _ => none
 | K + 1, kv1, colours1, x, o, o1, o2 =>
 (br (ilt x o)
 (Zq81_l0_0 N (fun kv2 colours2 x1 still o3 o4 o5 => (br still
 ((chk (room o5 [x1])
 (Zq81_l0 N k0 K kv2 colours2 (IntKind.i64.wrap (x1 + 1)) o3 o4 (tApp o5 [x1]))))
 (Zq81_l0 N k0 K kv2 colours2 (IntKind.i64.wrap (x1 + 1)) o3 o4 o5))) N kv1 colours1 x true 0 o o1 o2)
 (k0 o2))
noncomputable def Zq81_l0_again {R : Type} (N : Nat) (ks : KS Zq81_l0_ex R) (k : Nat) (x : Zq81_l0_sh.T) : Option R :=
 Zq81_l0 N (fun y0 => ks 0 (((), ()), (y0, ()))) k x.1.1 x.1.2.1 x.1.2.2.2.2.1 x.2.1.1 x.2.1.2.1 x.2.2.1
noncomputable def Zq81_l0_s (N : Nat) : LSum := ⟨Zq81_l0_sh, Zq81_l0_ex, fun x ks => Zq81_l0_again N ks N x⟩
theorem Zq81_l0_ok (N : Nat) : LoopOk Tryz.prog Tryz.f32.ntmps (Zq81_l0_s N) (loopAt Zq81_code 0) := loopQ (sh := Zq81_l0_sh) (ex := Zq81_l0_ex) (N := N) (L := [Zq81_l0_0_s N]) (fun R k x ks => Zq81_l0_again N ks k x) (Zq81_gok N) (fun _ _ _ => rfl) (fun R k x ks => by kernel_rfl) ⟨Zq81_l0_0_ok N, trivial⟩ (by kernel_rfl)
noncomputable def Zq81 (N : Nat) (g : (Int × (List (Int × Int)))) (kv : Int) (colours : (List Int)) : Option (((List Int) × Bool × Unit) × (Unit)) :=
 ((Zq115 N (g.1, g.2) kv colours).bind fun r =>
 (br (!r.1.1)
 (some (([], false, ()), ()))
 (Zq81_l0 N (fun o => some ((o, true, ()), ())) N kv colours 0 g.1 g.2 [])))
noncomputable def Zq81_S (N : Nat) : FSum := ⟨Zq81_ps, Zq81_rs, fun x => Zq81 N x.1 x.2.1 x.2.2.1⟩
theorem Zq81_pc (N : Nat) : PC Tryz.prog 32 (Zq81_S N) := pcQ (L := [Zq81_l0_s N]) (Zq81_gok N) Tryz.call32 Tryz.func32 (fun x => by kernel_rfl) ⟨Zq81_l0_ok N, trivial⟩ (by kernel_rfl)

abbrev Zq48_ps : List (PV.Mode × Ty) := [(.ro, LU8), (.ro, I)]
abbrev Zq48_rs : List (Bool × Ty) := [(true, LU8)]
noncomputable def Zq48_G (N : Nat) : GTab := gOf []
theorem Zq48_gok (N : Nat) : GOk Tryz.prog (Zq48_G N) := gOf_ok trivial
noncomputable def Zq48_code : Code := (Tryz.f18.body).getD .skip
noncomputable def Zq48 (N : Nat) (code : (List Int)) (n : Int) : Option (((List Int) × Unit) × (Unit)) :=
 (br (ilt (tLen code) n)
 ((chk (ile 0 (tLen code) && ile (tLen code) (tLen code) && ile (tLen code) (tLen code))
 (chk (room (α := Int) (β := Int) [] (tCut code (tLen code) (tLen code)))
 (chk (room (tApp [] (tCut code (tLen code) (tLen code))) [(IntKind.u8.wrap ((tLen code)))])
 (some (((tApp (tApp [] (tCut code (tLen code) (tLen code))) [(IntKind.u8.wrap ((tLen code)))]), ()), ()))))))
 ((chk (ile 0 n && ile n (tLen code) && ile (tLen code) (tLen code))
 (chk (room (α := Int) (β := Int) [] (tCut code n (tLen code)))
 (chk (room (tApp [] (tCut code n (tLen code))) [(IntKind.u8.wrap (n))])
 (some (((tApp (tApp [] (tCut code n (tLen code))) [(IntKind.u8.wrap (n))]), ()), ())))))))
noncomputable def Zq48_S (N : Nat) : FSum := ⟨Zq48_ps, Zq48_rs, fun x => Zq48 N x.1 x.2.1⟩
theorem Zq48_pc (N : Nat) : PC Tryz.prog 18 (Zq48_S N) := pcQ (L := []) (Zq48_gok N) Tryz.call18 Tryz.func18 (fun x => by kernel_rfl) trivial (by kernel_rfl)

abbrev Zq76_ps : List (PV.Mode × Ty) := [(.ro, LU8)]
abbrev Zq76_rs : List (Bool × Ty) := [(false, QILQII), (false, I), (false, LI), (false, LI)]
noncomputable def Zq76_G (N : Nat) : GTab := gOf [(39, Zq84_S N), (78, Zq86_S N), (42, Zq89_S N), (60, Zq94_S N), (61, Zq88_S N), (40, Zq83_S N)]
theorem Zq76_gok (N : Nat) : GOk Tryz.prog (Zq76_G N) := gOf_ok ⟨Zq84_pc N, Zq86_pc N, Zq89_pc N, Zq94_pc N, Zq88_pc N, Zq83_pc N, trivial⟩
noncomputable def Zq76_code : Code := (Tryz.f33.body).getD .skip
noncomputable def Zq76_l0_sh : Sh := ⟨[(2, .one (.adr 0 0)), (6, .one (.adr 1 0)), (7, .one (.adr 2 0)), (8, .one (.ro I)), (9, .one (.ref 3)), (10, .one (.ro I))], [.box [.ro I, .nilsl], .mbox QOU8QIU64, .box [.ro I, .ro LQII], .sl 3 I .own]⟩
noncomputable def Zq76_l0_ex : List (Ex × Sh) := [(.exit 0, ⟨[(2, .one (.adr 0 0)), (6, .one (.adr 1 0)), (7, .one (.adr 2 0)), (8, .one (.ro I)), (9, .one (.ref 3))], [.box [.ro I, .nilsl], .mbox QOU8QIU64, .box [.ro I, .ro LQII], .sl 3 I .own]⟩)]
noncomputable def Zq76_l0 {R : Type} (N : Nat) (k0 : Int → Int → ((List Int) × (Int × Int)) → Int → (List (Int × Int)) → (List Int) → Option R) : Nat → Int → Int → Int → ((List Int) × (Int × Int)) → Int → (List (Int × Int)) → (List Int) → Option R
 | 0, _, _, _, _, _, _, _ => none
 | K + 1, kv, x, o, o1, o2, o3, o4 =>
 (br (ilt x kv)
 ((br (ilt x 6)
 (((Zq89 N o1 (IntKind.i64.wrap ((tLen o4) + 1))).bind fun r2 =>
 (chk (ile 0 0 && ile 0 r2.1.1 && ile r2.1.1 (tLen o4))
 ((Zq94 N (tCut o4 0 r2.1.1)).bind fun r3 =>
 (chk (room r3.1.1 [x])
 (chk (ile 0 r2.1.1 && ile r2.1.1 (tLen o4) && ile (tLen o4) (tLen o4))
 (chk (room (tApp r3.1.1 [x]) (tCut o4 r2.1.1 (tLen o4)))
 (Zq76_l0 N k0 K kv (IntKind.i64.wrap (x + 1)) o r2.2.1 o2 o3 (tApp (tApp r3.1.1 [x]) (tCut o4 r2.1.1 (tLen o4)))))))))))
 (k0 kv o o1 o2 o3 o4)))
 (k0 kv o o1 o2 o3 o4))
noncomputable def Zq76_l0_again {R : Type} (N : Nat) (ks : KS Zq76_l0_ex R) (k : Nat) (x : Zq76_l0_sh.T) : Option R :=
 Zq76_l0 N (fun y0 y1 y2 y3 y4 y5 => ks 0 (((), (), (), y0, (), ()), ((y1, (), ()), y2, (y3, y4, ()), y5, ()))) k x.1.2.2.2.1 x.1.2.2.2.2.2.1 x.2.1.1 x.2.2.1 x.2.2.2.1.1 x.2.2.2.1.2.1 x.2.2.2.2.1
noncomputable def Zq76_l0_s (N : Nat) : LSum := ⟨Zq76_l0_sh, Zq76_l0_ex, fun x ks => Zq76_l0_again N ks N x⟩
theorem Zq76_l0_ok (N : Nat) : LoopOk Tryz.prog Tryz.f33.ntmps (Zq76_l0_s N) (loopAt Zq76_code 0) := loopQ (sh := Zq76_l0_sh) (ex := Zq76_l0_ex) (N := N) (L := []) (fun R k x ks => Zq76_l0_again N ks k x) (Zq76_gok N) (fun _ _ _ => rfl) (fun R k x ks => by kernel_rfl) trivial (by kernel_rfl)
noncomputable def Zq76 (N : Nat) (code : (List Int)) : Option (((Int × (List (Int × Int))) × Int × (List Int) × (List Int) × Unit) × (Unit)) :=
 ((Zq84 N (code, (0, 0))).bind fun r =>
 ((Zq86 N r.2.1).bind fun r1 =>
 Zq76_l0 N (fun kv o o1 o2 o3 o4 => ((Zq88 N o1 16).bind fun r2 =>
 (br r2.1.1
 ((chk (room o4 [0])
 ((Zq83 N (r2.2.1.1, (r2.2.1.2.1, r2.2.1.2.2)) (o2, o3) kv).bind fun r3 =>
 some (((o2, o3), kv, r3.1.1, (tApp o4 [0]), ()), ()))))
 (((Zq83 N (r2.2.1.1, (r2.2.1.2.1, r2.2.1.2.2)) (o2, o3) kv).bind fun r4 =>
 some (((o2, o3), kv, r4.1.1, o4, ()), ())))))) N r1.1.1 0 0 r1.2.1 r.1.1.1 r.1.1.2 []))
noncomputable def Zq76_S (N : Nat) : FSum := ⟨Zq76_ps, Zq76_rs, fun x => Zq76 N x.1⟩
theorem Zq76_pc (N : Nat) : PC Tryz.prog 33 (Zq76_S N) := pcQ (L := [Zq76_l0_s N]) (Zq76_gok N) Tryz.call33 Tryz.func33 (fun x => by kernel_rfl) ⟨Zq76_l0_ok N, trivial⟩ (by kernel_rfl)

abbrev Zq74_ps : List (PV.Mode × Ty) := [(.ro, LI)]
abbrev Zq74_rs : List (Bool × Ty) := [(false, K147ALI)]
noncomputable def Zq74_G (N : Nat) : GTab := gOf []
theorem Zq74_gok (N : Nat) : GOk Tryz.prog (Zq74_G N) := gOf_ok trivial
noncomputable def Zq74_code : Code := (Tryz.f114.body).getD .skip
noncomputable def Zq74 (N : Nat) (s : (List Int)) : Option (((List Int) × Unit) × (Unit)) :=
 some ((s, ()), ())
noncomputable def Zq74_S (N : Nat) : FSum := ⟨Zq74_ps, Zq74_rs, fun x => Zq74 N x.1⟩
theorem Zq74_pc (N : Nat) : PC Tryz.prog 114 (Zq74_S N) := pcQ (L := []) (Zq74_gok N) Tryz.call114 Tryz.func114 (fun x => by kernel_rfl) trivial (by kernel_rfl)

abbrev Zq73_ps : List (PV.Mode × Ty) := [(.ro, K147ALI)]
abbrev Zq73_rs : List (Bool × Ty) := [(true, LI)]
noncomputable def Zq73 (N : Nat) (x : List Int) : Option ((List Int × Unit) × Unit) := sortVF x
noncomputable def Zq73_S (N : Nat) : FSum := ⟨Zq73_ps, Zq73_rs, fun x => Zq73 N x.1⟩
theorem Zq73_pc (N : Nat) : PC Tryz.prog 113 (Zq73_S N) := sortedVals_pc Tryz.sortedAt Tryz.call113

abbrev Zq40_ps : List (PV.Mode × Ty) := [(.ro, LI), (.ro, I)]
abbrev Zq40_rs : List (Bool × Ty) := [(true, .bool)]
noncomputable def Zq40_G (N : Nat) : GTab := gOf [(97, Zq32_S N)]
theorem Zq40_gok (N : Nat) : GOk Tryz.prog (Zq40_G N) := gOf_ok ⟨Zq32_pc N, trivial⟩
noncomputable def Zq40_code : Code := (Tryz.f112.body).getD .skip
noncomputable def Zq40_l0_sh : Sh := ⟨[(0, .one (.ro LI)), (1, .one (.ro I)), (7, .one (.ro LI)), (8, .one (.ro I)), (9, .one (.ro I))], []⟩
noncomputable def Zq40_l0_ex : List (Ex × Sh) := [(.ret, ⟨[(4, .one (.ro .bool))], []⟩), (.exit 0, ⟨[], []⟩)]
noncomputable def Zq40_l0 {R : Type} (N : Nat) (k0 : Bool → Option R) (k1 : Unit → Option R) : Nat → (List Int) → Int → (List Int) → Int → Int → Option R
 | 0, _, _, _, _, _ => none
 | K + 1, list1, below1, x, x1, x2 =>
 (br (ilt x2 x1)
 ((chk (inb x x2)
 ((Zq32 N (rdI x x2) 0 (IntKind.i64.wrap (below1 - 1))).bind fun r =>
 (br (!r.1.1)
 (k0 false)
 ((br (ilt 0 x2)
 ((chk (inb list1 (IntKind.i64.wrap (x2 - 1)))
 (br (ile (rdI x x2) (rdI list1 (IntKind.i64.wrap (x2 - 1))))
 (k0 false)
 (Zq40_l0 N k0 k1 K list1 below1 x x1 (IntKind.i64.wrap (x2 + 1))))))
 (Zq40_l0 N k0 k1 K list1 below1 x x1 (IntKind.i64.wrap (x2 + 1)))))))))
 (k1 ()))
noncomputable def Zq40_l0_again {R : Type} (N : Nat) (ks : KS Zq40_l0_ex R) (k : Nat) (x : Zq40_l0_sh.T) : Option R :=
 Zq40_l0 N (fun y0 => ks 0 ((y0, ()), ())) (fun (_ : Unit) => ks 1 ((), ())) k x.1.1 x.1.2.1 x.1.2.2.1 x.1.2.2.2.1 x.1.2.2.2.2.1
noncomputable def Zq40_l0_s (N : Nat) : LSum := ⟨Zq40_l0_sh, Zq40_l0_ex, fun x ks => Zq40_l0_again N ks N x⟩
theorem Zq40_l0_ok (N : Nat) : LoopOk Tryz.prog Tryz.f112.ntmps (Zq40_l0_s N) (loopAt Zq40_code 0) := loopQ (sh := Zq40_l0_sh) (ex := Zq40_l0_ex) (N := N) (L := []) (fun R k x ks => Zq40_l0_again N ks k x) (Zq40_gok N) (fun _ _ _ => rfl) (fun R k x ks => by kernel_rfl) trivial (by kernel_rfl)
noncomputable def Zq40 (N : Nat) (list : (List Int)) (below : Int) : Option ((Bool × Unit) × (Unit)) :=
 Zq40_l0 N (fun x => some ((x, ()), ())) (fun (_ : Unit) => some ((true, ()), ())) N list below list (tLen list) 0
noncomputable def Zq40_S (N : Nat) : FSum := ⟨Zq40_ps, Zq40_rs, fun x => Zq40 N x.1 x.2.1⟩
theorem Zq40_pc (N : Nat) : PC Tryz.prog 112 (Zq40_S N) := pcQ (L := [Zq40_l0_s N]) (Zq40_gok N) Tryz.call112 Tryz.func112 (fun x => by kernel_rfl) ⟨Zq40_l0_ok N, trivial⟩ (by kernel_rfl)

abbrev Zq38_ps : List (PV.Mode × Ty) := [(.ro, LI), (.ro, I)]
abbrev Zq38_rs : List (Bool × Ty) := [(true, .bool)]
noncomputable def Zq38_G (N : Nat) : GTab := gOf [(114, Zq74_S N), (113, Zq73_S N), (112, Zq40_S N)]
theorem Zq38_gok (N : Nat) : GOk Tryz.prog (Zq38_G N) := gOf_ok ⟨Zq74_pc N, Zq73_pc N, Zq40_pc N, trivial⟩
noncomputable def Zq38_code : Code := (Tryz.f63.body).getD .skip
noncomputable def Zq38 (N : Nat) (list : (List Int)) (below : Int) : Option ((Bool × Unit) × (Unit)) :=
 (br (ieq (tLen list) below)
 (((Zq74 N list).bind fun r =>
 ((Zq73 N r.1.1).bind fun r1 =>
 ((Zq40 N r1.1.1 below).bind fun r2 =>
 some ((r2.1.1, ()), ())))))
 (some ((false, ()), ())))
noncomputable def Zq38_S (N : Nat) : FSum := ⟨Zq38_ps, Zq38_rs, fun x => Zq38 N x.1 x.2.1⟩
theorem Zq38_pc (N : Nat) : PC Tryz.prog 63 (Zq38_S N) := pcQ (L := []) (Zq38_gok N) Tryz.call63 Tryz.func63 (fun x => by kernel_rfl) trivial (by kernel_rfl)

abbrev Zq23_ps : List (PV.Mode × Ty) := [(.ro, QILQII), (.ro, I), (.ro, LI), (.ro, LI)]
abbrev Zq23_rs : List (Bool × Ty) := [(true, LI), (true, .bool)]
noncomputable def Zq23_G (N : Nat) : GTab := gOf [(44, Zq36_S N), (63, Zq38_S N)]
theorem Zq23_gok (N : Nat) : GOk Tryz.prog (Zq23_G N) := gOf_ok ⟨Zq36_pc N, Zq38_pc N, trivial⟩
noncomputable def Zq23_code : Code := (Tryz.f34.body).getD .skip
noncomputable def Zq23_l0_sh : Sh := ⟨[(3, .one (.ro LI)), (10, .one (.ref 0)), (26, .one (.ro LI)), (27, .one (.ro I)), (28, .one (.ro I))], [.sl 3 I .own]⟩
noncomputable def Zq23_l0_ex : List (Ex × Sh) := [(.exit 0, ⟨[(10, .one (.ref 0))], [.sl 3 I .own]⟩)]
noncomputable def Zq23_l0 {R : Type} (N : Nat) (k0 : (List Int) → Option R) : Nat → (List Int) → (List Int) → Int → Int → (List Int) → Option R
 | 0, _, _, _, _, _ => none
 | K + 1, to1, x, x1, x2, o =>
 (br (ilt x2 x1)
 ((chk (inb x x2)
 (chk (inb to1 (rdI x x2))
 (chk (room o [(rdI to1 (rdI x x2))])
 (Zq23_l0 N k0 K to1 x x1 (IntKind.i64.wrap (x2 + 1)) (tApp o [(rdI to1 (rdI x x2))]))))))
 (k0 o))
noncomputable def Zq23_l0_again {R : Type} (N : Nat) (ks : KS Zq23_l0_ex R) (k : Nat) (x : Zq23_l0_sh.T) : Option R :=
 Zq23_l0 N (fun y0 => ks 0 (((), ()), (y0, ()))) k x.1.1 x.1.2.2.1 x.1.2.2.2.1 x.1.2.2.2.2.1 x.2.1
noncomputable def Zq23_l0_s (N : Nat) : LSum := ⟨Zq23_l0_sh, Zq23_l0_ex, fun x ks => Zq23_l0_again N ks N x⟩
theorem Zq23_l0_ok (N : Nat) : LoopOk Tryz.prog Tryz.f34.ntmps (Zq23_l0_s N) (loopAt Zq23_code 0) := loopQ (sh := Zq23_l0_sh) (ex := Zq23_l0_ex) (N := N) (L := []) (fun R k x ks => Zq23_l0_again N ks k x) (Zq23_gok N) (fun _ _ _ => rfl) (fun R k x ks => by kernel_rfl) trivial (by kernel_rfl)
noncomputable def Zq23 (N : Nat) (g : (Int × (List (Int × Int)))) (kv : Int) (colours : (List Int)) (to : (List Int)) : Option (((List Int) × Bool × Unit) × (Unit)) :=
 ((Zq36 N (g.1, g.2) kv [colours]).bind fun r =>
 (br (!r.1.1)
 (some (([], false, ()), ()))
 (((Zq38 N to kv).bind fun r1 =>
 (br (!r1.1.1)
 (some (([], false, ()), ()))
 (Zq23_l0 N (fun o => some ((o, true, ()), ())) N to colours (tLen colours) 0 []))))))
noncomputable def Zq23_S (N : Nat) : FSum := ⟨Zq23_ps, Zq23_rs, fun x => Zq23 N x.1 x.2.1 x.2.2.1 x.2.2.2.1⟩
theorem Zq23_pc (N : Nat) : PC Tryz.prog 34 (Zq23_S N) := pcQ (L := [Zq23_l0_s N]) (Zq23_gok N) Tryz.call34 Tryz.func34 (fun x => by kernel_rfl) ⟨Zq23_l0_ok N, trivial⟩ (by kernel_rfl)

abbrev Zq80_ps : List (PV.Mode × Ty) := [(.ro, QILQII), (.ro, I), (.ro, LI), (.ro, LI)]
abbrev Zq80_rs : List (Bool × Ty) := [(true, LI), (true, .bool)]
noncomputable def Zq80_G (N : Nat) : GTab := gOf [(46, Zq115_S N), (70, Zq91_S N)]
theorem Zq80_gok (N : Nat) : GOk Tryz.prog (Zq80_G N) := gOf_ok ⟨Zq115_pc N, Zq91_pc N, trivial⟩
noncomputable def Zq80_code : Code := (Tryz.f35.body).getD .skip
noncomputable def Zq80_l0_sh : Sh := ⟨[(1, .one (.ro I)), (2, .one (.ro LI)), (3, .one (.ro LI)), (10, .one (.ref 0)), (11, .one (.ro I))], [.sl 3 I .own]⟩
noncomputable def Zq80_l0_ex : List (Ex × Sh) := [(.ret, ⟨[(8, .one (.ref 0)), (9, .one (.ro .bool))], [.sl 3 I .own]⟩), (.exit 0, ⟨[(2, .one (.ro LI)), (3, .one (.ro LI)), (10, .one (.ref 0))], [.sl 3 I .own]⟩)]
noncomputable def Zq80_l0 {R : Type} (N : Nat) (k0 : Bool → (List Int) → Option R) (k1 : (List Int) → (List Int) → (List Int) → Option R) : Nat → Int → (List Int) → (List Int) → Int → (List Int) → Option R
 | 0, _, _, _, _, _ => none
 | K + 1, kv1, colours1, to1, c, o =>
 (br (ilt c kv1)
 (((Zq91 N to1 c).bind fun r1 =>
 (br (!r1.1.1)
 (k0 false o)
 (Zq80_l0 N k0 k1 K kv1 colours1 to1 (IntKind.i64.wrap (c + 1)) o))))
 (k1 colours1 to1 o))
noncomputable def Zq80_l0_again {R : Type} (N : Nat) (ks : KS Zq80_l0_ex R) (k : Nat) (x : Zq80_l0_sh.T) : Option R :=
 Zq80_l0 N (fun y0 y1 => ks 0 (((), y0, ()), (y1, ()))) (fun y0 y1 y2 => ks 1 ((y0, y1, (), ()), (y2, ()))) k x.1.1 x.1.2.1 x.1.2.2.1 x.1.2.2.2.2.1 x.2.1
noncomputable def Zq80_l0_s (N : Nat) : LSum := ⟨Zq80_l0_sh, Zq80_l0_ex, fun x ks => Zq80_l0_again N ks N x⟩
theorem Zq80_l0_ok (N : Nat) : LoopOk Tryz.prog Tryz.f35.ntmps (Zq80_l0_s N) (loopAt Zq80_code 0) := loopQ (sh := Zq80_l0_sh) (ex := Zq80_l0_ex) (N := N) (L := []) (fun R k x ks => Zq80_l0_again N ks k x) (Zq80_gok N) (fun _ _ _ => rfl) (fun R k x ks => by kernel_rfl) trivial (by kernel_rfl)
noncomputable def Zq80_l1_sh : Sh := ⟨[(2, .one (.ro LI)), (3, .one (.ro LI)), (10, .one (.ref 0)), (12, .one (.ro I))], [.sl 3 I .own]⟩
noncomputable def Zq80_l1_ex : List (Ex × Sh) := [(.exit 2, ⟨[(10, .one (.ref 0))], [.sl 3 I .own]⟩)]
noncomputable def Zq80_l1 {R : Type} (N : Nat) (k0 : (List Int) → Option R) : Nat → (List Int) → (List Int) → Int → (List Int) → Option R
 | 0, _, _, _, _ => none
 | K + 1, colours2, to2, x1, o2 =>
 (br (ilt x1 (tLen colours2))
 ((chk (inb colours2 x1)
 (chk (inb to2 (rdI colours2 x1))
 (chk (room o2 [(rdI to2 (rdI colours2 x1))])
 (Zq80_l1 N k0 K colours2 to2 (IntKind.i64.wrap (x1 + 1)) (tApp o2 [(rdI to2 (rdI colours2 x1))]))))))
 (k0 o2))
noncomputable def Zq80_l1_again {R : Type} (N : Nat) (ks : KS Zq80_l1_ex R) (k : Nat) (x : Zq80_l1_sh.T) : Option R :=
 Zq80_l1 N (fun y0 => ks 0 (((), ()), (y0, ()))) k x.1.1 x.1.2.1 x.1.2.2.2.1 x.2.1
noncomputable def Zq80_l1_s (N : Nat) : LSum := ⟨Zq80_l1_sh, Zq80_l1_ex, fun x ks => Zq80_l1_again N ks N x⟩
theorem Zq80_l1_ok (N : Nat) : LoopOk Tryz.prog Tryz.f35.ntmps (Zq80_l1_s N) (loopAt Zq80_code 1) := loopQ (sh := Zq80_l1_sh) (ex := Zq80_l1_ex) (N := N) (L := []) (fun R k x ks => Zq80_l1_again N ks k x) (Zq80_gok N) (fun _ _ _ => rfl) (fun R k x ks => by kernel_rfl) trivial (by kernel_rfl)
noncomputable def Zq80 (N : Nat) (g : (Int × (List (Int × Int)))) (kv : Int) (colours : (List Int)) (to : (List Int)) : Option (((List Int) × Bool × Unit) × (Unit)) :=
 ((Zq115 N (g.1, g.2) kv colours).bind fun r =>
 (br (!r.1.1)
 (some (([], false, ()), ()))
 ((br (ine (tLen to) kv)
 (some (([], false, ()), ()))
 (Zq80_l0 N (fun x o => some ((o, x, ()), ())) (fun colours1 to1 o1 => Zq80_l1 N (fun o2 => some ((o2, true, ()), ())) N colours1 to1 0 o1) N kv colours to 0 [])))))
noncomputable def Zq80_S (N : Nat) : FSum := ⟨Zq80_ps, Zq80_rs, fun x => Zq80 N x.1 x.2.1 x.2.2.1 x.2.2.2.1⟩
theorem Zq80_pc (N : Nat) : PC Tryz.prog 35 (Zq80_S N) := pcQ (L := [Zq80_l0_s N, Zq80_l1_s N]) (Zq80_gok N) Tryz.call35 Tryz.func35 (fun x => by kernel_rfl) ⟨Zq80_l0_ok N, Zq80_l1_ok N, trivial⟩ (by kernel_rfl)

abbrev Zq50_ps : List (PV.Mode × Ty) := [(.ro, LI), (.ro, LI)]
abbrev Zq50_rs : List (Bool × Ty) := [(true, .bool)]
noncomputable def Zq50_G (N : Nat) : GTab := gOf []
theorem Zq50_gok (N : Nat) : GOk Tryz.prog (Zq50_G N) := gOf_ok trivial
noncomputable def Zq50_code : Code := (Tryz.f21.body).getD .skip
noncomputable def Zq50_l0_sh : Sh := ⟨[(0, .one (.ro LI)), (1, .one (.ro LI)), (5, .one (.ro I))], []⟩
noncomputable def Zq50_l0_ex : List (Ex × Sh) := [(.ret, ⟨[(4, .one (.ro .bool))], []⟩), (.exit 0, ⟨[], []⟩)]
noncomputable def Zq50_l0 {R : Type} (N : Nat) (k0 : Bool → Option R) (k1 : Unit → Option R) : Nat → (List Int) → (List Int) → Int → Option R
 | 0, _, _, _ => none
 | K + 1, a1, b1, i =>
 (br (ilt i (tLen a1))
 ((chk (inb a1 i)
 (chk (inb b1 i)
 (br (ine (rdI a1 i) (rdI b1 i))
 (k0 false)
 (Zq50_l0 N k0 k1 K a1 b1 (IntKind.i64.wrap (i + 1)))))))
 (k1 ()))
noncomputable def Zq50_l0_again {R : Type} (N : Nat) (ks : KS Zq50_l0_ex R) (k : Nat) (x : Zq50_l0_sh.T) : Option R :=
 Zq50_l0 N (fun y0 => ks 0 ((y0, ()), ())) (fun (_ : Unit) => ks 1 ((), ())) k x.1.1 x.1.2.1 x.1.2.2.1
noncomputable def Zq50_l0_s (N : Nat) : LSum := ⟨Zq50_l0_sh, Zq50_l0_ex, fun x ks => Zq50_l0_again N ks N x⟩
theorem Zq50_l0_ok (N : Nat) : LoopOk Tryz.prog Tryz.f21.ntmps (Zq50_l0_s N) (loopAt Zq50_code 0) := loopQ (sh := Zq50_l0_sh) (ex := Zq50_l0_ex) (N := N) (L := []) (fun R k x ks => Zq50_l0_again N ks k x) (Zq50_gok N) (fun _ _ _ => rfl) (fun R k x ks => by kernel_rfl) trivial (by kernel_rfl)
noncomputable def Zq50 (N : Nat) (a : (List Int)) (b : (List Int)) : Option ((Bool × Unit) × (Unit)) :=
 (br (ine (tLen a) (tLen b))
 (some ((false, ()), ()))
 (Zq50_l0 N (fun x => some ((x, ()), ())) (fun (_ : Unit) => some ((true, ()), ())) N a b 0))
noncomputable def Zq50_S (N : Nat) : FSum := ⟨Zq50_ps, Zq50_rs, fun x => Zq50 N x.1 x.2.1⟩
theorem Zq50_pc (N : Nat) : PC Tryz.prog 21 (Zq50_S N) := pcQ (L := [Zq50_l0_s N]) (Zq50_gok N) Tryz.call21 Tryz.func21 (fun x => by kernel_rfl) ⟨Zq50_l0_ok N, trivial⟩ (by kernel_rfl)

abbrev Zq51_ps : List (PV.Mode × Ty) := [(.ro, LLI), (.ro, LLI)]
abbrev Zq51_rs : List (Bool × Ty) := [(true, .bool)]
noncomputable def Zq51_G (N : Nat) : GTab := gOf [(21, Zq50_S N)]
theorem Zq51_gok (N : Nat) : GOk Tryz.prog (Zq51_G N) := gOf_ok ⟨Zq50_pc N, trivial⟩
noncomputable def Zq51_code : Code := (Tryz.f36.body).getD .skip
noncomputable def Zq51_l0_sh : Sh := ⟨[(0, .one (.ro LLI)), (1, .one (.ro LLI)), (5, .one (.ro I))], []⟩
noncomputable def Zq51_l0_ex : List (Ex × Sh) := [(.ret, ⟨[(4, .one (.ro .bool))], []⟩), (.exit 0, ⟨[], []⟩)]
noncomputable def Zq51_l0 {R : Type} (N : Nat) (k0 : Bool → Option R) (k1 : Unit → Option R) : Nat → (List (List Int)) → (List (List Int)) → Int → Option R
 | 0, _, _, _ => none
 | K + 1, a1, b1, i =>
 (br (ilt i (tLen a1))
 ((chk (inb a1 i)
 (chk (inb b1 i)
 ((Zq50 N (rdL a1 i) (rdL b1 i)).bind fun r =>
 (br (!r.1.1)
 (k0 false)
 (Zq51_l0 N k0 k1 K a1 b1 (IntKind.i64.wrap (i + 1))))))))
 (k1 ()))
noncomputable def Zq51_l0_again {R : Type} (N : Nat) (ks : KS Zq51_l0_ex R) (k : Nat) (x : Zq51_l0_sh.T) : Option R :=
 Zq51_l0 N (fun y0 => ks 0 ((y0, ()), ())) (fun (_ : Unit) => ks 1 ((), ())) k x.1.1 x.1.2.1 x.1.2.2.1
noncomputable def Zq51_l0_s (N : Nat) : LSum := ⟨Zq51_l0_sh, Zq51_l0_ex, fun x ks => Zq51_l0_again N ks N x⟩
theorem Zq51_l0_ok (N : Nat) : LoopOk Tryz.prog Tryz.f36.ntmps (Zq51_l0_s N) (loopAt Zq51_code 0) := loopQ (sh := Zq51_l0_sh) (ex := Zq51_l0_ex) (N := N) (L := []) (fun R k x ks => Zq51_l0_again N ks k x) (Zq51_gok N) (fun _ _ _ => rfl) (fun R k x ks => by kernel_rfl) trivial (by kernel_rfl)
noncomputable def Zq51 (N : Nat) (a : (List (List Int))) (b : (List (List Int))) : Option ((Bool × Unit) × (Unit)) :=
 (br (ine (tLen a) (tLen b))
 (some ((false, ()), ()))
 (Zq51_l0 N (fun x => some ((x, ()), ())) (fun (_ : Unit) => some ((true, ()), ())) N a b 0))
noncomputable def Zq51_S (N : Nat) : FSum := ⟨Zq51_ps, Zq51_rs, fun x => Zq51 N x.1 x.2.1⟩
theorem Zq51_pc (N : Nat) : PC Tryz.prog 36 (Zq51_S N) := pcQ (L := [Zq51_l0_s N]) (Zq51_gok N) Tryz.call36 Tryz.func36 (fun x => by kernel_rfl) ⟨Zq51_l0_ok N, trivial⟩ (by kernel_rfl)

abbrev Zq17_ps : List (PV.Mode × Ty) := [(.ro, QILQII), (.ro, I), (.ro, LI)]
abbrev Zq17_rs : List (Bool × Ty) := [(true, .bool), (true, .bool)]
noncomputable def Zq17_G (N : Nat) : GTab := gOf [(86, Zq35_S N), (87, Zq12_S N)]
theorem Zq17_gok (N : Nat) : GOk Tryz.prog (Zq17_G N) := gOf_ok ⟨Zq35_pc N, Zq12_pc N, trivial⟩
noncomputable def Zq17_code : Code := (Tryz.f37.body).getD .skip
noncomputable def Zq17 (N : Nat) (g : (Int × (List (Int × Int)))) (kv : Int) (colours : (List Int)) : Option ((Bool × Bool × Unit) × (Unit)) :=
 ((Zq35 N (g.1, g.2) kv).bind fun r =>
 (br (!r.1.1)
 (some ((false, false, ()), ()))
 (((Zq12 N (g.1, g.2) kv colours).bind fun r1 =>
 some ((r1.1.1, true, ()), ())))))
noncomputable def Zq17_S (N : Nat) : FSum := ⟨Zq17_ps, Zq17_rs, fun x => Zq17 N x.1 x.2.1 x.2.2.1⟩
theorem Zq17_pc (N : Nat) : PC Tryz.prog 37 (Zq17_S N) := pcQ (L := []) (Zq17_gok N) Tryz.call37 Tryz.func37 (fun x => by kernel_rfl) trivial (by kernel_rfl)

abbrev Zq49_ps : List (PV.Mode × Ty) := [(.ro, LI), (.ro, I)]
abbrev Zq49_rs : List (Bool × Ty) := [(true, .bool)]
noncomputable def Zq49_G (N : Nat) : GTab := gOf []
theorem Zq49_gok (N : Nat) : GOk Tryz.prog (Zq49_G N) := gOf_ok trivial
noncomputable def Zq49_code : Code := (Tryz.f38.body).getD .skip
noncomputable def Zq49_l0_sh : Sh := ⟨[(0, .one (.ro LI)), (1, .one (.ro I)), (5, .one (.ro I))], []⟩
noncomputable def Zq49_l0_ex : List (Ex × Sh) := [(.ret, ⟨[(4, .one (.ro .bool))], []⟩), (.exit 0, ⟨[], []⟩)]
noncomputable def Zq49_l0 {R : Type} (N : Nat) (k0 : Bool → Option R) (k1 : Unit → Option R) : Nat → (List Int) → Int → Int → Option R
 | 0, _, _, _ => none
 | K + 1, l1, x1, i =>
 (br (ilt i (tLen l1))
 ((chk (inb l1 i)
 (br (ieq (rdI l1 i) x1)
 (k0 true)
 (Zq49_l0 N k0 k1 K l1 x1 (IntKind.i64.wrap (i + 1))))))
 (k1 ()))
noncomputable def Zq49_l0_again {R : Type} (N : Nat) (ks : KS Zq49_l0_ex R) (k : Nat) (x : Zq49_l0_sh.T) : Option R :=
 Zq49_l0 N (fun y0 => ks 0 ((y0, ()), ())) (fun (_ : Unit) => ks 1 ((), ())) k x.1.1 x.1.2.1 x.1.2.2.1
noncomputable def Zq49_l0_s (N : Nat) : LSum := ⟨Zq49_l0_sh, Zq49_l0_ex, fun x ks => Zq49_l0_again N ks N x⟩
theorem Zq49_l0_ok (N : Nat) : LoopOk Tryz.prog Tryz.f38.ntmps (Zq49_l0_s N) (loopAt Zq49_code 0) := loopQ (sh := Zq49_l0_sh) (ex := Zq49_l0_ex) (N := N) (L := []) (fun R k x ks => Zq49_l0_again N ks k x) (Zq49_gok N) (fun _ _ _ => rfl) (fun R k x ks => by kernel_rfl) trivial (by kernel_rfl)
noncomputable def Zq49 (N : Nat) (l : (List Int)) (x : Int) : Option ((Bool × Unit) × (Unit)) :=
 Zq49_l0 N (fun x1 => some ((x1, ()), ())) (fun (_ : Unit) => some ((false, ()), ())) N l x 0
noncomputable def Zq49_S (N : Nat) : FSum := ⟨Zq49_ps, Zq49_rs, fun x => Zq49 N x.1 x.2.1⟩
theorem Zq49_pc (N : Nat) : PC Tryz.prog 38 (Zq49_S N) := pcQ (L := [Zq49_l0_s N]) (Zq49_gok N) Tryz.call38 Tryz.func38 (fun x => by kernel_rfl) ⟨Zq49_l0_ok N, trivial⟩ (by kernel_rfl)

abbrev Zq46_ps : List (PV.Mode × Ty) := [(.ro, LU8)]
abbrev Zq46_rs : List (Bool × Ty) := [(true, .bool)]
noncomputable def Zq46_G (N : Nat) : GTab := gOf [(6, Zq47_S N), (24, Zq75_S N), (25, Zq22_S N), (26, Zq79_S N), (27, Zq21_S N), (28, Zq78_S N), (29, Zq5_S N), (30, Zq77_S N), (31, Zq28_S N), (32, Zq81_S N), (18, Zq48_S N), (33, Zq76_S N), (34, Zq23_S N), (35, Zq80_S N), (36, Zq51_S N), (21, Zq50_S N), (37, Zq17_S N), (38, Zq49_S N)]
theorem Zq46_gok (N : Nat) : GOk Tryz.prog (Zq46_G N) := gOf_ok ⟨Zq47_pc N, Zq75_pc N, Zq22_pc N, Zq79_pc N, Zq21_pc N, Zq78_pc N, Zq5_pc N, Zq77_pc N, Zq28_pc N, Zq81_pc N, Zq48_pc N, Zq76_pc N, Zq23_pc N, Zq80_pc N, Zq51_pc N, Zq50_pc N, Zq17_pc N, Zq49_pc N, trivial⟩
noncomputable def Zq46_code : Code := (Tryz.f5.body).getD .skip
noncomputable def Zq46_l0_sh : Sh := ⟨[(3, .one (.adr 0 0)), (4, .one (.ro I)), (5, .one (.ro LI)), (6, .one (.ro LI)), (7, .one (.ref 1)), (8, .one (.ro .bool)), (11, .one (.ref 2)), (12, .one (.ro .bool)), (15, .one (.ref 3)), (16, .one (.ro .bool)), (19, .one (.ref 4)), (33, .one (.ro I))], [.box [.ro I, .ro LQII], .sl 27 LI .deep, .sl 27 LI .deep, .sl 3 I .own, .sl 3 I .own]⟩
noncomputable def Zq46_l0_ex : List (Ex × Sh) := [(.ret, ⟨[(2, .one (.ro .bool))], []⟩), (.exit 0, ⟨[(3, .one (.adr 0 0)), (4, .one (.ro I)), (5, .one (.ro LI)), (6, .one (.ro LI)), (7, .one (.ref 1)), (8, .one (.ro .bool)), (11, .one (.ref 2)), (12, .one (.ro .bool))], [.box [.ro I, .ro LQII], .sl 27 LI .deep, .sl 27 LI .deep]⟩)]
noncomputable def Zq46_l0 {R : Type} (N : Nat) (k0 : Bool → Option R) (k1 : Int → (List Int) → (List Int) → Bool → Bool → Int → (List (Int × Int)) → (List (List Int)) → (List (List Int)) → Option R) : Nat → Int → (List Int) → (List Int) → Bool → Bool → Bool → Int → Int → (List (Int × Int)) → (List (List Int)) → (List (List Int)) → (List Int) → (List Int) → Option R
 | 0, _, _, _, _, _, _, _, _, _, _, _, _, _ => none
 | K + 1, x, x1, x2, x3, x4, x5, x6, o, o1, o2, o3, o4, o5 =>
 (br x5
 ((br (ilt x6 (tLen o4))
 ((chk (inb o4 x6)
 ((Zq49 N o5 (rdI o4 x6)).bind fun r20 =>
 (br (!r20.1.1)
 (k0 false)
 ((br x3
 ((chk (inb o4 x6)
 (chk (inb x1 (rdI o4 x6))
 (chk (inb o4 x6)
 (chk (inb x2 (rdI o4 x6))
 (br (ine (rdI x1 (rdI o4 x6)) (rdI x2 (rdI o4 x6)))
 (k0 false)
 (Zq46_l0 N k0 k1 K x x1 x2 x3 x4 x5 (IntKind.i64.wrap (x6 + 1)) o o1 o2 o3 o4 o5)))))))
 (Zq46_l0 N k0 k1 K x x1 x2 x3 x4 x5 (IntKind.i64.wrap (x6 + 1)) o o1 o2 o3 o4 o5)))))))
 (k1 x x1 x2 x3 x4 o o1 o2 o3)))
 (k1 x x1 x2 x3 x4 o o1 o2 o3))
noncomputable def Zq46_l0_again {R : Type} (N : Nat) (ks : KS Zq46_l0_ex R) (k : Nat) (x : Zq46_l0_sh.T) : Option R :=
 Zq46_l0 N (fun y0 => ks 0 ((y0, ()), ())) (fun y0 y1 y2 y3 y4 y5 y6 y7 y8 => ks 1 (((), y0, y1, y2, (), y3, (), y4, ()), ((y5, y6, ()), y7, y8, ()))) k x.1.2.1 x.1.2.2.1 x.1.2.2.2.1 x.1.2.2.2.2.2.1 x.1.2.2.2.2.2.2.2.1 x.1.2.2.2.2.2.2.2.2.2.1 x.1.2.2.2.2.2.2.2.2.2.2.2.1 x.2.1.1 x.2.1.2.1 x.2.2.1 x.2.2.2.1 x.2.2.2.2.1 x.2.2.2.2.2.1
noncomputable def Zq46_l0_s (N : Nat) : LSum := ⟨Zq46_l0_sh, Zq46_l0_ex, fun x ks => Zq46_l0_again N ks N x⟩
theorem Zq46_l0_ok (N : Nat) : LoopOk Tryz.prog Tryz.f5.ntmps (Zq46_l0_s N) (loopAt Zq46_code 0) := loopQ (sh := Zq46_l0_sh) (ex := Zq46_l0_ex) (N := N) (L := []) (fun R k x ks => Zq46_l0_again N ks k x) (Zq46_gok N) (fun _ _ _ => rfl) (fun R k x ks => by kernel_rfl) trivial (by kernel_rfl)
noncomputable def Zq46_l1_sh : Sh := ⟨[(3, .one (.adr 0 0)), (4, .one (.ro I)), (5, .one (.ro LI)), (6, .one (.ro LI)), (7, .one (.ref 1)), (11, .one (.ref 2)), (12, .one (.ro .bool)), (34, .one (.ro I)), (35, .one (.ro I))], [.box [.ro I, .ro LQII], .sl 27 LI .deep, .sl 27 LI .deep]⟩
noncomputable def Zq46_l1_ex : List (Ex × Sh) := [(.exit 2, ⟨[(3, .one (.adr 0 0)), (4, .one (.ro I)), (5, .one (.ro LI)), (6, .one (.ro LI)), (7, .one (.ref 1)), (11, .one (.ref 2)), (12, .one (.ro .bool)), (34, .one (.ro I))], [.box [.ro I, .ro LQII], .sl 27 LI .deep, .sl 27 LI .deep]⟩)]
noncomputable def Zq46_l1 {R : Type} (N : Nat) (k0 : Int → (List Int) → (List Int) → Bool → Int → Int → (List (Int × Int)) → (List (List Int)) → (List (List Int)) → Option R) : Nat → Int → (List Int) → (List Int) → Bool → Int → Int → Int → (List (Int × Int)) → (List (List Int)) → (List (List Int)) → Option R
 | 0, _, _, _, _, _, _, _, _, _, _ => none
 | K + 1, x6, x7, x8, x9, x10, x11, o4, o5, o6, o7 =>
 (br (ilt x11 (tLen x7))
 ((chk (inb x7 x11)
 (chk (inb x8 x11)
 (br (ine (rdI x7 x11) (rdI x8 x11))
 (Zq46_l1 N k0 K x6 x7 x8 x9 (IntKind.i64.wrap (x10 + 1)) (IntKind.i64.wrap (x11 + 1)) o4 o5 o6 o7)
 (Zq46_l1 N k0 K x6 x7 x8 x9 x10 (IntKind.i64.wrap (x11 + 1)) o4 o5 o6 o7)))))
 (k0 x6 x7 x8 x9 x10 o4 o5 o6 o7))
noncomputable def Zq46_l1_again {R : Type} (N : Nat) (ks : KS Zq46_l1_ex R) (k : Nat) (x : Zq46_l1_sh.T) : Option R :=
 Zq46_l1 N (fun y0 y1 y2 y3 y4 y5 y6 y7 y8 => ks 0 (((), y0, y1, y2, (), (), y3, y4, ()), ((y5, y6, ()), y7, y8, ()))) k x.1.2.1 x.1.2.2.1 x.1.2.2.2.1 x.1.2.2.2.2.2.2.1 x.1.2.2.2.2.2.2.2.1 x.1.2.2.2.2.2.2.2.2.1 x.2.1.1 x.2.1.2.1 x.2.2.1 x.2.2.2.1
noncomputable def Zq46_l1_s (N : Nat) : LSum := ⟨Zq46_l1_sh, Zq46_l1_ex, fun x ks => Zq46_l1_again N ks N x⟩
theorem Zq46_l1_ok (N : Nat) : LoopOk Tryz.prog Tryz.f5.ntmps (Zq46_l1_s N) (loopAt Zq46_code 1) := loopQ (sh := Zq46_l1_sh) (ex := Zq46_l1_ex) (N := N) (L := []) (fun R k x ks => Zq46_l1_again N ks k x) (Zq46_gok N) (fun _ _ _ => rfl) (fun R k x ks => by kernel_rfl) trivial (by kernel_rfl)
noncomputable def Zq46_l2_sh : Sh := ⟨[(3, .one (.adr 0 0)), (4, .one (.ro I)), (5, .one (.ro LI)), (6, .one (.ro LI)), (7, .one (.ref 1)), (11, .one (.ref 2)), (12, .one (.ro .bool)), (34, .one (.ro I)), (36, .one (.ref 3)), (37, .one (.ro I))], [.box [.ro I, .ro LQII], .sl 27 LI .deep, .sl 27 LI .deep, .sl 3 I .own]⟩
noncomputable def Zq46_l2_ex : List (Ex × Sh) := [(.exit 4, ⟨[(3, .one (.adr 0 0)), (4, .one (.ro I)), (5, .one (.ro LI)), (6, .one (.ro LI)), (7, .one (.ref 1)), (11, .one (.ref 2)), (12, .one (.ro .bool)), (34, .one (.ro I)), (36, .one (.ref 3))], [.box [.ro I, .ro LQII], .sl 27 LI .deep, .sl 27 LI .deep, .sl 3 I .own]⟩)]
noncomputable def Zq46_l2 {R : Type} (N : Nat) (k0 : Int → (List Int) → (List Int) → Bool → Int → Int → (List (Int × Int)) → (List (List Int)) → (List (List Int)) → (List Int) → Option R) : Nat → Int → (List Int) → (List Int) → Bool → Int → Int → Int → (List (Int × Int)) → (List (List Int)) → (List (List Int)) → (List Int) → Option R
 | 0, _, _, _, _, _, _, _, _, _, _, _ => none
 | K + 1, x11, x12, x13, x14, x15, x16, o8, o9, o10, o11, o12 =>
 (br (ilt x16 x11)
 ((chk (ine x11 0)
 (chk (room o12 [((IntKind.i64.wrap (x16 + 1)).tmod x11)])
 (Zq46_l2 N k0 K x11 x12 x13 x14 x15 (IntKind.i64.wrap (x16 + 1)) o8 o9 o10 o11 (tApp o12 [((IntKind.i64.wrap (x16 + 1)).tmod x11)])))))
 (k0 x11 x12 x13 x14 x15 o8 o9 o10 o11 o12))
noncomputable def Zq46_l2_again {R : Type} (N : Nat) (ks : KS Zq46_l2_ex R) (k : Nat) (x : Zq46_l2_sh.T) : Option R :=
 Zq46_l2 N (fun y0 y1 y2 y3 y4 y5 y6 y7 y8 y9 => ks 0 (((), y0, y1, y2, (), (), y3, y4, (), ()), ((y5, y6, ()), y7, y8, y9, ()))) k x.1.2.1 x.1.2.2.1 x.1.2.2.2.1 x.1.2.2.2.2.2.2.1 x.1.2.2.2.2.2.2.2.1 x.1.2.2.2.2.2.2.2.2.2.1 x.2.1.1 x.2.1.2.1 x.2.2.1 x.2.2.2.1 x.2.2.2.2.1
noncomputable def Zq46_l2_s (N : Nat) : LSum := ⟨Zq46_l2_sh, Zq46_l2_ex, fun x ks => Zq46_l2_again N ks N x⟩
theorem Zq46_l2_ok (N : Nat) : LoopOk Tryz.prog Tryz.f5.ntmps (Zq46_l2_s N) (loopAt Zq46_code 2) := loopQ (sh := Zq46_l2_sh) (ex := Zq46_l2_ex) (N := N) (L := []) (fun R k x ks => Zq46_l2_again N ks k x) (Zq46_gok N) (fun _ _ _ => rfl) (fun R k x ks => by kernel_rfl) trivial (by kernel_rfl)
noncomputable def Zq46 (N : Nat) (c : (List Int)) : Option ((Bool × Unit) × (Unit)) :=
 ((Zq47 N c).bind fun r =>
 (br r.1.1
 (some ((true, ()), ()))
 (((Zq75 N c).bind fun r1 =>
 ((Zq22 N (r1.1.1.1, r1.1.1.2) r1.1.2.1 r1.1.2.2.1 r1.1.2.2.2.1).bind fun r2 =>
 ((Zq79 N (r1.1.1.1, r1.1.1.2) r1.1.2.1 r1.1.2.2.1 r1.1.2.2.2.1).bind fun r3 =>
 ((Zq21 N (r1.1.1.1, r1.1.1.2) r1.1.2.1 r1.1.2.2.1 r1.1.2.2.2.1).bind fun r4 =>
 ((Zq78 N (r1.1.1.1, r1.1.1.2) r1.1.2.1 r1.1.2.2.1 r1.1.2.2.2.1).bind fun r5 =>
 ((Zq5 N (r1.1.1.1, r1.1.1.2) r1.1.2.1 r1.1.2.2.1).bind fun r6 =>
 ((Zq77 N (r1.1.1.1, r1.1.1.2) r1.1.2.1 r1.1.2.2.1).bind fun r7 =>
 ((Zq28 N (r1.1.1.1, r1.1.1.2) r1.1.2.1 r1.1.2.2.1).bind fun r8 =>
 ((Zq81 N (r1.1.1.1, r1.1.1.2) r1.1.2.1 r1.1.2.2.1).bind fun r9 =>
 ((Zq48 N c 1).bind fun r10 =>
 ((Zq76 N r10.1.1).bind fun r11 =>
 ((Zq23 N (r11.1.1.1, r11.1.1.2) r11.1.2.1 r11.1.2.2.1 r11.1.2.2.2.1).bind fun r12 =>
 ((Zq80 N (r11.1.1.1, r11.1.1.2) r11.1.2.1 r11.1.2.2.1 r11.1.2.2.2.1).bind fun r13 =>
 (br (!(r2.1.2.1 == r3.1.2.1))
 (some ((false, ()), ()))
 (((Zq51 N r2.1.1 r3.1.1).bind fun r14 =>
 (br (!r14.1.1)
 (some ((false, ()), ()))
 ((br (!(r4.1.2.1 == r5.1.2.1))
 (some ((false, ()), ()))
 (((Zq51 N r4.1.1 r5.1.1).bind fun r15 =>
 (br (!r15.1.1)
 (some ((false, ()), ()))
 ((br (!(r6.1.2.1 == r7.1.2.1))
 (some ((false, ()), ()))
 (((Zq50 N r6.1.1 r7.1.1).bind fun r16 =>
 (br (!r16.1.1)
 (some ((false, ()), ()))
 ((br (!(r8.1.2.1 == r9.1.2.1))
 (some ((false, ()), ()))
 (((Zq50 N r8.1.1 r9.1.1).bind fun r17 =>
 (br (!r17.1.1)
 (some ((false, ()), ()))
 ((br (!(r12.1.2.1 == r13.1.2.1))
 (some ((false, ()), ()))
 (((Zq50 N r12.1.1 r13.1.1).bind fun r18 =>
 (br (!r18.1.1)
 (some ((false, ()), ()))
 ((br r12.1.2.1
 (((Zq17 N (r11.1.1.1, r11.1.1.2) r11.1.2.1 r12.1.1).bind fun r19 =>
 (br (!r19.1.2.1)
 (some ((false, ()), ()))
 ((br (!r19.1.1)
 (some ((false, ()), ()))
 (Zq46_l0 N (fun x => some ((x, ()), ())) (fun x1 x2 x3 x4 x5 o o1 o2 o3 => (br (!x4)
 (some ((true, ()), ()))
 (Zq46_l1 N (fun x6 x7 x8 x9 x10 o4 o5 o6 o7 => Zq46_l2 N (fun x11 x12 x13 x14 x15 o8 o9 o10 o11 o12 => ((Zq23 N (o8, o9) x11 x12 o12).bind fun r20 =>
 ((Zq23 N (o8, o9) x11 x13 o12).bind fun r21 =>
 ((Zq22 N (o8, o9) x11 r20.1.1 r21.1.1).bind fun r22 =>
 (br r22.1.2.1
 ((br x14
 ((br (ieq (tLen r22.1.1) (tLen o10))
 ((br (ile x15 (IntKind.i64.wrap ((tLen o10) - 1)))
 (some (((ile (tLen o11) (tLen o10)), ()), ()))
 (some ((false, ()), ()))))
 (some ((false, ()), ()))))
 (some ((false, ()), ()))))
 (some ((false, ()), ()))))))) N x6 x7 x8 x9 x10 0 o4 o5 o6 o7 []) N x1 x2 x3 x5 0 0 o o1 o2 o3))) N r1.1.2.1 r1.1.2.2.1 r1.1.2.2.2.1 r2.1.2.1 r4.1.2.1 r6.1.2.1 0 r1.1.1.1 r1.1.1.2 r2.1.1 r4.1.1 r6.1.1 r8.1.1))))))
 (Zq46_l0 N (fun x16 => some ((x16, ()), ())) (fun x17 x18 x19 x20 x21 o13 o14 o15 o16 => (br (!x20)
 (some ((true, ()), ()))
 (Zq46_l1 N (fun x22 x23 x24 x25 x26 o17 o18 o19 o20 => Zq46_l2 N (fun x27 x28 x29 x30 x31 o21 o22 o23 o24 o25 => ((Zq23 N (o21, o22) x27 x28 o25).bind fun r23 =>
 ((Zq23 N (o21, o22) x27 x29 o25).bind fun r24 =>
 ((Zq22 N (o21, o22) x27 r23.1.1 r24.1.1).bind fun r25 =>
 (br r25.1.2.1
 ((br x30
 ((br (ieq (tLen r25.1.1) (tLen o23))
 ((br (ile x31 (IntKind.i64.wrap ((tLen o23) - 1)))
 (some (((ile (tLen o24) (tLen o23)), ()), ()))
 (some ((false, ()), ()))))
 (some ((false, ()), ()))))
 (some ((false, ()), ()))))
 (some ((false, ()), ()))))))) N x22 x23 x24 x25 x26 0 o17 o18 o19 o20 []) N x17 x18 x19 x21 0 0 o13 o14 o15 o16))) N r1.1.2.1 r1.1.2.2.1 r1.1.2.2.2.1 r2.1.2.1 r4.1.2.1 r6.1.2.1 0 r1.1.1.1 r1.1.1.2 r2.1.1 r4.1.1 r6.1.1 r8.1.1)))))))))))))))))))))))))))))))))))))))))))
noncomputable def Zq46_S (N : Nat) : FSum := ⟨Zq46_ps, Zq46_rs, fun x => Zq46 N x.1⟩
theorem Zq46_pc (N : Nat) : PC Tryz.prog 5 (Zq46_S N) := pcQ (L := [Zq46_l0_s N, Zq46_l1_s N, Zq46_l2_s N]) (Zq46_gok N) Tryz.call5 Tryz.func5 (fun x => by kernel_rfl) ⟨Zq46_l0_ok N, Zq46_l1_ok N, Zq46_l2_ok N, trivial⟩ (by kernel_rfl)
end Go.Proofs.YtkffaahlpdlkoaaGreat
