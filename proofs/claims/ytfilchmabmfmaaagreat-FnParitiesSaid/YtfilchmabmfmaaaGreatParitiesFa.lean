/- Functions of the program as functions on data. -/
import Derived.Test.YtfilchmabmfmaaaGreatParitiesSa
set_option linter.all false
namespace Go.Proofs.YtfilchmabmfmaaaGreat
open Go Go.PV
abbrev Zq41_ps : List (PV.Mode × Ty) := [(.ro, LU8)]
abbrev Zq41_rs : List (Bool × Ty) := [(true, .bool)]
noncomputable def Zq41_G (N : Nat) : GTab := gOf []
theorem Zq41_gok (N : Nat) : GOk Tryz.prog (Zq41_G N) := gOf_ok trivial
noncomputable def Zq41_code : Code := (Tryz.f5.body).getD .skip
noncomputable def Zq41 (N : Nat) (code : (List Int)) : Option ((Bool × Unit) × (Unit)) :=
 some (((ilt 65536 (tLen code)), ()), ())
noncomputable def Zq41_S (N : Nat) : FSum := ⟨Zq41_ps, Zq41_rs, fun x => Zq41 N x.1⟩
theorem Zq41_pc (N : Nat) : PC Tryz.prog 5 (Zq41_S N) := pcQ (L := []) (Zq41_gok N) Tryz.call5 Tryz.func5 (fun x => by kernel_rfl) trivial (by kernel_rfl)

abbrev Zq68_ps : List (PV.Mode × Ty) := [(.mut, BQOU8QIU64)]
abbrev Zq68_rs : List (Bool × Ty) := [(true, I)]
noncomputable def Zq68_G (N : Nat) : GTab := gOf []
theorem Zq68_gok (N : Nat) : GOk Tryz.prog (Zq68_G N) := gOf_ok trivial
noncomputable def Zq68_code : Code := (Tryz.f83.body).getD .skip
noncomputable def Zq68 (N : Nat) (c : ((List Int) × (Int × Int))) : Option ((Int × Unit) × (((List Int) × (Int × Int)) × Unit)) :=
 (br (ilt c.2.1 (tLen c.1))
 ((chk (inb c.1 c.2.1)
 (br (ile (IntKind.i64.wrap (c.2.1 + 1)) (tLen c.1))
 (some (((IntKind.i64.wrap ((rd U8 c.1 c.2.1))), ()), ((c.1, ((IntKind.i64.wrap (c.2.1 + 1)), (IntKind.u64.wrap ((IntKind.u64.wrap ((IntKind.u64.wrap (c.2.2 * 6364136223846793005)) + (IntKind.u64.wrap ((IntKind.i64.wrap ((rd U8 c.1 c.2.1))))))) + 462197)))), ())))
 (some (((IntKind.i64.wrap ((bitop .and .u64 (shrI .u64 (IntKind.u64.wrap ((IntKind.u64.wrap ((IntKind.u64.wrap (c.2.2 * 6364136223846793005)) + (IntKind.u64.wrap ((IntKind.i64.wrap ((rd U8 c.1 c.2.1))))))) + 462197)) 40) 255))), ()), ((c.1, ((IntKind.i64.wrap (c.2.1 + 1)), (IntKind.u64.wrap ((IntKind.u64.wrap ((IntKind.u64.wrap (c.2.2 * 6364136223846793005)) + (IntKind.u64.wrap ((IntKind.i64.wrap ((rd U8 c.1 c.2.1))))))) + 462197)))), ()))))))
 ((br (ile (IntKind.i64.wrap (c.2.1 + 1)) (tLen c.1))
 (some ((0, ()), ((c.1, ((IntKind.i64.wrap (c.2.1 + 1)), (IntKind.u64.wrap ((IntKind.u64.wrap ((IntKind.u64.wrap (c.2.2 * 6364136223846793005)) + 0)) + 462197)))), ())))
 (some (((IntKind.i64.wrap ((bitop .and .u64 (shrI .u64 (IntKind.u64.wrap ((IntKind.u64.wrap ((IntKind.u64.wrap (c.2.2 * 6364136223846793005)) + 0)) + 462197)) 40) 255))), ()), ((c.1, ((IntKind.i64.wrap (c.2.1 + 1)), (IntKind.u64.wrap ((IntKind.u64.wrap ((IntKind.u64.wrap (c.2.2 * 6364136223846793005)) + 0)) + 462197)))), ()))))))
noncomputable def Zq68_S (N : Nat) : FSum := ⟨Zq68_ps, Zq68_rs, fun x => Zq68 N x.1⟩
theorem Zq68_pc (N : Nat) : PC Tryz.prog 83 (Zq68_S N) := pcQ (L := []) (Zq68_gok N) Tryz.call83 Tryz.func83 (fun x => by kernel_rfl) trivial (by kernel_rfl)

abbrev Zq70_ps : List (PV.Mode × Ty) := [(.mut, BQOU8QIU64), (.ro, I)]
abbrev Zq70_rs : List (Bool × Ty) := [(true, I)]
noncomputable def Zq70_G (N : Nat) : GTab := gOf [(83, Zq68_S N)]
theorem Zq70_gok (N : Nat) : GOk Tryz.prog (Zq70_G N) := gOf_ok ⟨Zq68_pc N, trivial⟩
noncomputable def Zq70_code : Code := (Tryz.f49.body).getD .skip
noncomputable def Zq70 (N : Nat) (c : ((List Int) × (Int × Int))) (n : Int) : Option ((Int × Unit) × (((List Int) × (Int × Int)) × Unit)) :=
 (br (ile n 1)
 (some ((0, ()), (c, ())))
 (((Zq68 N c).bind fun r =>
 (br (ilt 200 n)
 (((Zq68 N r.2.1).bind fun r1 =>
 (chk (ine n 0)
 (some ((((IntKind.i64.wrap ((IntKind.i64.wrap (r.1.1 * 256)) + r1.1.1)).tmod n), ()), (r1.2.1, ()))))))
 ((chk (ine n 0)
 (some (((r.1.1.tmod n), ()), (r.2.1, ())))))))))
noncomputable def Zq70_S (N : Nat) : FSum := ⟨Zq70_ps, Zq70_rs, fun x => Zq70 N x.1 x.2.1⟩
theorem Zq70_pc (N : Nat) : PC Tryz.prog 49 (Zq70_S N) := pcQ (L := []) (Zq70_gok N) Tryz.call49 Tryz.func49 (fun x => by kernel_rfl) trivial (by kernel_rfl)

abbrev Zq67_ps : List (PV.Mode × Ty) := [(.mut, BQOU8QIU64), (.ro, LI)]
abbrev Zq67_rs : List (Bool × Ty) := [(true, I)]
noncomputable def Zq67_G (N : Nat) : GTab := gOf [(49, Zq70_S N)]
theorem Zq67_gok (N : Nat) : GOk Tryz.prog (Zq67_G N) := gOf_ok ⟨Zq70_pc N, trivial⟩
noncomputable def Zq67_code : Code := (Tryz.f37.body).getD .skip
noncomputable def Zq67 (N : Nat) (c : ((List Int) × (Int × Int))) (list : (List Int)) : Option ((Int × Unit) × (((List Int) × (Int × Int)) × Unit)) :=
 ((Zq70 N c (tLen list)).bind fun r =>
 (chk (inb list r.1.1)
 (some (((rdI list r.1.1), ()), (r.2.1, ())))))
noncomputable def Zq67_S (N : Nat) : FSum := ⟨Zq67_ps, Zq67_rs, fun x => Zq67 N x.1 x.2.1⟩
theorem Zq67_pc (N : Nat) : PC Tryz.prog 37 (Zq67_S N) := pcQ (L := []) (Zq67_gok N) Tryz.call37 Tryz.func37 (fun x => by kernel_rfl) trivial (by kernel_rfl)

abbrev Zq76_ps : List (PV.Mode × Ty) := [(.ro, I), (.ro, I)]
abbrev Zq76_rs : List (Bool × Ty) := [(true, LI)]
noncomputable def Zq76_G (N : Nat) : GTab := gOf []
theorem Zq76_gok (N : Nat) : GOk Tryz.prog (Zq76_G N) := gOf_ok trivial
noncomputable def Zq76_code : Code := (Tryz.f46.body).getD .skip
noncomputable def Zq76_l0_sh : Sh := ⟨[(0, .one (.ro I)), (1, .one (.ro I)), (5, .one (.ref 0)), (6, .one (.ro I))], [.sl 3 I .own]⟩
noncomputable def Zq76_l0_ex : List (Ex × Sh) := [(.exit 0, ⟨[(5, .one (.ref 0))], [.sl 3 I .own]⟩)]
noncomputable def Zq76_l0 {R : Type} (N : Nat) (k0 : (List Int) → Option R) : Nat → Int → Int → Int → (List Int) → Option R
 | 0, _, _, _, _ => none
 | K + 1, n1, code1, x, o =>
 (br (ilt x n1)
 ((chk (ile 0 x)
 (br (ieq (bitop .and .i64 (shrI .i64 code1 x) 1) 1)
 ((chk (room o [x])
 (Zq76_l0 N k0 K n1 code1 (IntKind.i64.wrap (x + 1)) (tApp o [x]))))
 (Zq76_l0 N k0 K n1 code1 (IntKind.i64.wrap (x + 1)) o))))
 (k0 o))
noncomputable def Zq76_l0_again {R : Type} (N : Nat) (ks : KS Zq76_l0_ex R) (k : Nat) (x : Zq76_l0_sh.T) : Option R :=
 Zq76_l0 N (fun y0 => ks 0 (((), ()), (y0, ()))) k x.1.1 x.1.2.1 x.1.2.2.2.1 x.2.1
noncomputable def Zq76_l0_s (N : Nat) : LSum := ⟨Zq76_l0_sh, Zq76_l0_ex, fun x ks => Zq76_l0_again N ks N x⟩
theorem Zq76_l0_ok (N : Nat) : LoopOk Tryz.prog Tryz.f46.ntmps (Zq76_l0_s N) (loopAt Zq76_code 0) := loopQ (sh := Zq76_l0_sh) (ex := Zq76_l0_ex) (N := N) (L := []) (fun R k x ks => Zq76_l0_again N ks k x) (Zq76_gok N) (fun _ _ _ => rfl) (fun R k x ks => by kernel_rfl) trivial (by kernel_rfl)
noncomputable def Zq76 (N : Nat) (n : Int) (code : Int) : Option (((List Int) × Unit) × (Unit)) :=
 Zq76_l0 N (fun o => some ((o, ()), ())) N n code 0 []
noncomputable def Zq76_S (N : Nat) : FSum := ⟨Zq76_ps, Zq76_rs, fun x => Zq76 N x.1 x.2.1⟩
theorem Zq76_pc (N : Nat) : PC Tryz.prog 46 (Zq76_S N) := pcQ (L := [Zq76_l0_s N]) (Zq76_gok N) Tryz.call46 Tryz.func46 (fun x => by kernel_rfl) ⟨Zq76_l0_ok N, trivial⟩ (by kernel_rfl)

abbrev Zq69_ps : List (PV.Mode × Ty) := [(.mut, BQOU8QIU64)]
abbrev Zq69_rs : List (Bool × Ty) := [(false, QIQLLILI)]
noncomputable def Zq69_G (N : Nat) : GTab := gOf [(37, Zq67_S N), (49, Zq70_S N), (46, Zq76_S N)]
theorem Zq69_gok (N : Nat) : GOk Tryz.prog (Zq69_G N) := gOf_ok ⟨Zq67_pc N, Zq70_pc N, Zq76_pc N, trivial⟩
noncomputable def Zq69_code : Code := (Tryz.f96.body).getD .skip
noncomputable def Zq69_l0_sh : Sh := ⟨[(0, .one (.adr 0 0)), (2, .one (.adr 1 0)), (3, .one (.adr 2 0)), (4, .one (.ro I))], [.mbox QOU8QIU64, .box [.ro I, .nilsl, .nilsl], .box [.ro I, .ref 3, .ref 4], .sl 33 LI .deep, .sl 3 I .own]⟩
noncomputable def Zq69_l0_ex : List (Ex × Sh) := [(.exit 0, ⟨[(0, .one (.adr 0 0)), (2, .one (.adr 1 0)), (3, .one (.adr 2 0))], [.mbox QOU8QIU64, .box [.ro I, .nilsl, .nilsl], .box [.ro I, .ref 3, .ref 4], .sl 33 LI .deep, .sl 3 I .own]⟩)]
noncomputable def Zq69_l0 {R : Type} (N : Nat) (k0 : ((List Int) × (Int × Int)) → Int → Int → (List (List Int)) → (List Int) → Option R) : Nat → Int → ((List Int) × (Int × Int)) → Int → Int → (List (List Int)) → (List Int) → Option R
 | 0, _, _, _, _, _, _ => none
 | K + 1, x, o, o1, o2, o3, o4 =>
 (br (ilt 0 x)
 (((Zq70 N (o.1, (o.2.1, o.2.2)) 64).bind fun r2 =>
 ((Zq76 N o2 r2.1.1).bind fun r3 =>
 (chk (room o3 [r3.1.1])
 ((Zq70 N (r2.2.1.1, (r2.2.1.2.1, r2.2.1.2.2)) 2).bind fun r4 =>
 (chk (room o4 [r4.1.1])
 (Zq69_l0 N k0 K (IntKind.i64.wrap (x - 1)) r4.2.1 o1 o2 (tApp o3 [r3.1.1]) (tApp o4 [r4.1.1]))))))))
 (k0 o o1 o2 o3 o4))
noncomputable def Zq69_l0_again {R : Type} (N : Nat) (ks : KS Zq69_l0_ex R) (k : Nat) (x : Zq69_l0_sh.T) : Option R :=
 Zq69_l0 N (fun y0 y1 y2 y3 y4 => ks 0 (((), (), (), ()), (y0, (y1, (), (), ()), (y2, (), (), ()), y3, y4, ()))) k x.1.2.2.2.1 x.2.1 x.2.2.1.1 x.2.2.2.1.1 x.2.2.2.2.1 x.2.2.2.2.2.1
noncomputable def Zq69_l0_s (N : Nat) : LSum := ⟨Zq69_l0_sh, Zq69_l0_ex, fun x ks => Zq69_l0_again N ks N x⟩
theorem Zq69_l0_ok (N : Nat) : LoopOk Tryz.prog Tryz.f96.ntmps (Zq69_l0_s N) (loopAt Zq69_code 0) := loopQ (sh := Zq69_l0_sh) (ex := Zq69_l0_ex) (N := N) (L := []) (fun R k x ks => Zq69_l0_again N ks k x) (Zq69_gok N) (fun _ _ _ => rfl) (fun R k x ks => by kernel_rfl) trivial (by kernel_rfl)
noncomputable def Zq69_l1_sh : Sh := ⟨[(0, .one (.adr 0 0)), (2, .one (.adr 1 0)), (3, .one (.adr 2 0))], [.mbox QOU8QIU64, .box [.ro I, .nilsl, .nilsl], .box [.ro I, .ref 3, .ref 4], .sl 33 LI .deep, .sl 3 I .own]⟩
noncomputable def Zq69_l1_ex : List (Ex × Sh) := [(.exit 3, ⟨[(0, .one (.adr 0 0)), (2, .one (.adr 1 0)), (3, .one (.adr 2 0))], [.mbox QOU8QIU64, .box [.ro I, .nilsl, .nilsl], .box [.ro I, .ref 3, .ref 4], .sl 33 LI .deep, .sl 3 I .own]⟩)]
noncomputable def Zq69_l1 {R : Type} (N : Nat) (k0 : ((List Int) × (Int × Int)) → Int → Int → (List (List Int)) → (List Int) → Option R) : Nat → ((List Int) × (Int × Int)) → Int → Int → (List (List Int)) → (List Int) → Option R
 | 0, _, _, _, _, _ => none
 | K + 1, o5, o6, o7, o8, o9 =>
 (br (ilt (tLen o8) 7)
 ((chk (room (α := (List Int)) (β := (List Int)) o8 [[]])
 (chk (room o9 [0])
 (Zq69_l1 N k0 K o5 o6 o7 (tApp o8 [[]]) (tApp o9 [0])))))
 (k0 o5 o6 o7 o8 o9))
noncomputable def Zq69_l1_again {R : Type} (N : Nat) (ks : KS Zq69_l1_ex R) (k : Nat) (x : Zq69_l1_sh.T) : Option R :=
 Zq69_l1 N (fun y0 y1 y2 y3 y4 => ks 0 (((), (), (), ()), (y0, (y1, (), (), ()), (y2, (), (), ()), y3, y4, ()))) k x.2.1 x.2.2.1.1 x.2.2.2.1.1 x.2.2.2.2.1 x.2.2.2.2.2.1
noncomputable def Zq69_l1_s (N : Nat) : LSum := ⟨Zq69_l1_sh, Zq69_l1_ex, fun x ks => Zq69_l1_again N ks N x⟩
theorem Zq69_l1_ok (N : Nat) : LoopOk Tryz.prog Tryz.f96.ntmps (Zq69_l1_s N) (loopAt Zq69_code 1) := loopQ (sh := Zq69_l1_sh) (ex := Zq69_l1_ex) (N := N) (L := []) (fun R k x ks => Zq69_l1_again N ks k x) (Zq69_gok N) (fun _ _ _ => rfl) (fun R k x ks => by kernel_rfl) trivial (by kernel_rfl)
noncomputable def Zq69 (N : Nat) (c : ((List Int) × (Int × Int))) : Option (((Int × ((List (List Int)) × (List Int))) × Unit) × (((List Int) × (Int × Int)) × Unit)) :=
 ((Zq67 N c [4, 3, 5, 6, 2, 1, 0]).bind fun r =>
 ((Zq67 N r.2.1 [1, 2, 3, 0, 6]).bind fun r1 =>
 Zq69_l0 N (fun o o1 o2 o3 o4 => (br (ilt 0 (tLen o3))
 (((Zq70 N o 40).bind fun r2 =>
 (br (ieq r2.1.1 0)
 (((Zq67 N r2.2.1 [(-1), 7, 1]).bind fun r3 =>
 some (((r3.1.1, (o3, o4)), ()), (r3.2.1, ()))))
 ((br (ieq r2.1.1 1)
 ((chk (room o4 [0])
 (some (((o2, (o3, (tApp o4 [0]))), ()), (r2.2.1, ())))))
 ((br (ieq r2.1.1 2)
 (((Zq67 N (r2.2.1.1, (r2.2.1.2.1, r2.2.1.2.2)) [2, (-1)]).bind fun r4 =>
 (chk (inb o4 0)
 (some (((o2, (o3, (tSet o4 0 r4.1.1))), ()), (r4.2.1, ()))))))
 ((br (ieq r2.1.1 3)
 (Zq69_l1 N (fun o5 o6 o7 o8 o9 => some (((o7, (o8, o9)), ()), (o5, ()))) N r2.2.1 o1 o2 o3 o4)
 (some (((o2, (o3, o4)), ()), (r2.2.1, ()))))))))))))
 (some (((o2, (o3, o4)), ()), (o, ()))))) N r1.1.1 r1.2.1 0 r.1.1 [] []))
noncomputable def Zq69_S (N : Nat) : FSum := ⟨Zq69_ps, Zq69_rs, fun x => Zq69 N x.1⟩
theorem Zq69_pc (N : Nat) : PC Tryz.prog 96 (Zq69_S N) := pcQ (L := [Zq69_l0_s N, Zq69_l1_s N]) (Zq69_gok N) Tryz.call96 Tryz.func96 (fun x => by kernel_rfl) ⟨Zq69_l0_ok N, Zq69_l1_ok N, trivial⟩ (by kernel_rfl)

abbrev Zq62_ps : List (PV.Mode × Ty) := [(.ro, LU8)]
abbrev Zq62_rs : List (Bool × Ty) := [(false, QIQLLILI)]
noncomputable def Zq62_G (N : Nat) : GTab := gOf [(96, Zq69_S N)]
theorem Zq62_gok (N : Nat) : GOk Tryz.prog (Zq62_G N) := gOf_ok ⟨Zq69_pc N, trivial⟩
noncomputable def Zq62_code : Code := (Tryz.f68.body).getD .skip
noncomputable def Zq62 (N : Nat) (code : (List Int)) : Option (((Int × ((List (List Int)) × (List Int))) × Unit) × (Unit)) :=
 ((Zq69 N (code, (0, 0))).bind fun r =>
 some (((r.1.1.1, (r.1.1.2.1, r.1.1.2.2)), ()), ()))
noncomputable def Zq62_S (N : Nat) : FSum := ⟨Zq62_ps, Zq62_rs, fun x => Zq62 N x.1⟩
theorem Zq62_pc (N : Nat) : PC Tryz.prog 68 (Zq62_S N) := pcQ (L := []) (Zq62_gok N) Tryz.call68 Tryz.func68 (fun x => by kernel_rfl) trivial (by kernel_rfl)

abbrev Zq63_ps : List (PV.Mode × Ty) := [(.ro, LU8)]
abbrev Zq63_rs : List (Bool × Ty) := [(false, QIQLLILI)]
noncomputable def Zq63_G (N : Nat) : GTab := gOf [(68, Zq62_S N)]
theorem Zq63_gok (N : Nat) : GOk Tryz.prog (Zq63_G N) := gOf_ok ⟨Zq62_pc N, trivial⟩
noncomputable def Zq63_code : Code := (Tryz.f24.body).getD .skip
noncomputable def Zq63 (N : Nat) (code : (List Int)) : Option (((Int × ((List (List Int)) × (List Int))) × Unit) × (Unit)) :=
 ((Zq62 N code).bind fun r =>
 some (((r.1.1.1, (r.1.1.2.1, r.1.1.2.2)), ()), ()))
noncomputable def Zq63_S (N : Nat) : FSum := ⟨Zq63_ps, Zq63_rs, fun x => Zq63 N x.1⟩
theorem Zq63_pc (N : Nat) : PC Tryz.prog 24 (Zq63_S N) := pcQ (L := []) (Zq63_gok N) Tryz.call24 Tryz.func24 (fun x => by kernel_rfl) trivial (by kernel_rfl)

abbrev Zq24_ps : List (PV.Mode × Ty) := [(.ro, I), (.ro, I), (.ro, I)]
abbrev Zq24_rs : List (Bool × Ty) := [(true, .bool)]
noncomputable def Zq24_G (N : Nat) : GTab := gOf []
theorem Zq24_gok (N : Nat) : GOk Tryz.prog (Zq24_G N) := gOf_ok trivial
noncomputable def Zq24_code : Code := (Tryz.f39.body).getD .skip
noncomputable def Zq24 (N : Nat) (n : Int) (low : Int) (high : Int) : Option ((Bool × Unit) × (Unit)) :=
 (br (ile low n)
 (some (((ile n high), ()), ()))
 (some ((false, ()), ())))
noncomputable def Zq24_S (N : Nat) : FSum := ⟨Zq24_ps, Zq24_rs, fun x => Zq24 N x.1 x.2.1 x.2.2.1⟩
theorem Zq24_pc (N : Nat) : PC Tryz.prog 39 (Zq24_S N) := pcQ (L := []) (Zq24_gok N) Tryz.call39 Tryz.func39 (fun x => by kernel_rfl) trivial (by kernel_rfl)

abbrev Zq55_ps : List (PV.Mode × Ty) := [(.ro, LI), (.ro, FIBo)]
abbrev Zq55_rs : List (Bool × Ty) := [(true, I)]
noncomputable def Zq55_G (N : Nat) : GTab := gOf []
theorem Zq55_gok (N : Nat) : GOk Tryz.prog (Zq55_G N) := gOf_ok trivial
noncomputable def Zq55_code : Code := (Tryz.f121.body).getD .skip
noncomputable def Zq55_l0_sh : Sh := ⟨[(0, .one (.ro LI)), (1, .one (.ro FIBo)), (7, .one (.ro I)), (8, .one (.ro I))], []⟩
noncomputable def Zq55_l0_ex : List (Ex × Sh) := [(.ret, ⟨[(4, .one (.ro I))], []⟩), (.exit 0, ⟨[], []⟩)]
noncomputable def Zq55_l0 {R : Type} (N : Nat) (k0 : Int → Option R) (k1 : Unit → Option R) : Nat → (List Int) → (Int → Option Bool) → Int → Int → Option R
 | 0, _, _, _, _ => none
 | K + 1, s1, f1, x, x1 =>
 (br (ilt x1 x)
 ((chk (inb s1 x1)
 ((f1 (rdI s1 x1)).bind fun v =>
 (br v
 (k0 x1)
 (Zq55_l0 N k0 k1 K s1 f1 x (IntKind.i64.wrap (x1 + 1)))))))
 (k1 ()))
noncomputable def Zq55_l0_again {R : Type} (N : Nat) (ks : KS Zq55_l0_ex R) (k : Nat) (x : Zq55_l0_sh.T) : Option R :=
 Zq55_l0 N (fun y0 => ks 0 ((y0, ()), ())) (fun (_ : Unit) => ks 1 ((), ())) k x.1.1 x.1.2.1 x.1.2.2.1 x.1.2.2.2.1
noncomputable def Zq55_l0_s (N : Nat) : LSum := ⟨Zq55_l0_sh, Zq55_l0_ex, fun x ks => Zq55_l0_again N ks N x⟩
theorem Zq55_l0_ok (N : Nat) : LoopOk Tryz.prog Tryz.f121.ntmps (Zq55_l0_s N) (loopAt Zq55_code 0) := loopQ (sh := Zq55_l0_sh) (ex := Zq55_l0_ex) (N := N) (L := []) (fun R k x ks => Zq55_l0_again N ks k x) (Zq55_gok N) (fun _ _ _ => rfl) (fun R k x ks => by kernel_rfl) trivial (by kernel_rfl)
noncomputable def Zq55 (N : Nat) (s : (List Int)) (f : (Int → Option Bool)) : Option ((Int × Unit) × (Unit)) :=
 Zq55_l0 N (fun x => some ((x, ()), ())) (fun (_ : Unit) => some (((-1), ()), ())) N s f (tLen s) 0
noncomputable def Zq55_S (N : Nat) : FSum := ⟨Zq55_ps, Zq55_rs, fun x => Zq55 N x.1 x.2.1⟩
theorem Zq55_pc (N : Nat) : PC Tryz.prog 121 (Zq55_S N) := pcQ (L := [Zq55_l0_s N]) (Zq55_gok N) Tryz.call121 Tryz.func121 (fun x => by kernel_rfl) ⟨Zq55_l0_ok N, trivial⟩ (by kernel_rfl)

abbrev Zq51_ps : List (PV.Mode × Ty) := [(.ro, LI), (.ro, FIBo)]
abbrev Zq51_rs : List (Bool × Ty) := [(true, .bool)]
noncomputable def Zq51_G (N : Nat) : GTab := gOf [(121, Zq55_S N)]
theorem Zq51_gok (N : Nat) : GOk Tryz.prog (Zq51_G N) := gOf_ok ⟨Zq55_pc N, trivial⟩
noncomputable def Zq51_code : Code := (Tryz.f89.body).getD .skip
noncomputable def Zq51 (N : Nat) (s : (List Int)) (f : (Int → Option Bool)) : Option ((Bool × Unit) × (Unit)) :=
 ((Zq55 N s f).bind fun r =>
 some (((ile 0 r.1.1), ()), ()))
noncomputable def Zq51_S (N : Nat) : FSum := ⟨Zq51_ps, Zq51_rs, fun x => Zq51 N x.1 x.2.1⟩
theorem Zq51_pc (N : Nat) : PC Tryz.prog 89 (Zq51_S N) := pcQ (L := []) (Zq51_gok N) Tryz.call89 Tryz.func89 (fun x => by kernel_rfl) trivial (by kernel_rfl)

abbrev Zq30_ps : List (PV.Mode × Ty) := [(.ro, I)]
abbrev Zq30_rs : List (Bool × Ty) := [(true, .bool)]
noncomputable def Zq30_G (N : Nat) : GTab := gOf [(39, Zq24_S N)]
theorem Zq30_gok (N : Nat) : GOk Tryz.prog (Zq30_G N) := gOf_ok ⟨Zq24_pc N, trivial⟩
noncomputable def Zq30_code : Code := (Tryz.f90.body).getD .skip
noncomputable def Zq30 (N : Nat) (n : Int) : Option ((Bool × Unit) × (Unit)) :=
 ((Zq24 N n 0 1).bind fun r =>
 some (((!r.1.1), ()), ()))
noncomputable def Zq30_S (N : Nat) : FSum := ⟨Zq30_ps, Zq30_rs, fun x => Zq30 N x.1⟩
theorem Zq30_pc (N : Nat) : PC Tryz.prog 90 (Zq30_S N) := pcQ (L := []) (Zq30_gok N) Tryz.call90 Tryz.func90 (fun x => by kernel_rfl) trivial (by kernel_rfl)

abbrev Zq29_ps : List (PV.Mode × Ty) := [(.ro, I), (.ro, LI)]
abbrev Zq29_rs : List (Bool × Ty) := [(true, .bool)]
noncomputable def Zq29_G (N : Nat) : GTab := gOf [(89, Zq51_S N), (90, Zq30_S N)]
theorem Zq29_gok (N : Nat) : GOk Tryz.prog (Zq29_G N) := gOf_ok ⟨Zq51_pc N, Zq30_pc N, trivial⟩
noncomputable def Zq29_code : Code := (Tryz.f60.body).getD .skip
noncomputable def Zq29 (N : Nat) (vars : Int) (list : (List Int)) : Option ((Bool × Unit) × (Unit)) :=
 (br (ieq (tLen list) vars)
 (((Zq51 N list (fun y0 => (Zq30 N y0).bind fun z => some z.1.1)).bind fun r =>
 some (((!r.1.1), ()), ())))
 (some ((false, ()), ())))
noncomputable def Zq29_S (N : Nat) : FSum := ⟨Zq29_ps, Zq29_rs, fun x => Zq29 N x.1 x.2.1⟩
theorem Zq29_pc (N : Nat) : PC Tryz.prog 60 (Zq29_S N) := pcQ (L := []) (Zq29_gok N) Tryz.call60 Tryz.func60 (fun x => by kernel_rfl) trivial (by kernel_rfl)

abbrev Zq56_ps : List (PV.Mode × Ty) := [(.ro, LLI), (.ro, FLIBo)]
abbrev Zq56_rs : List (Bool × Ty) := [(true, I)]
noncomputable def Zq56_G (N : Nat) : GTab := gOf []
theorem Zq56_gok (N : Nat) : GOk Tryz.prog (Zq56_G N) := gOf_ok trivial
noncomputable def Zq56_code : Code := (Tryz.f88.body).getD .skip
noncomputable def Zq56_l0_sh : Sh := ⟨[(0, .one (.ro LLI)), (1, .one (.ro FLIBo)), (7, .one (.ro I)), (8, .one (.ro I))], []⟩
noncomputable def Zq56_l0_ex : List (Ex × Sh) := [(.ret, ⟨[(4, .one (.ro I))], []⟩), (.exit 0, ⟨[], []⟩)]
noncomputable def Zq56_l0 {R : Type} (N : Nat) (k0 : Int → Option R) (k1 : Unit → Option R) : Nat → (List (List Int)) → ((List Int) → Option Bool) → Int → Int → Option R
 | 0, _, _, _, _ => none
 | K + 1, s1, f1, x, x1 =>
 (br (ilt x1 x)
 ((chk (inb s1 x1)
 ((f1 (rdL s1 x1)).bind fun v =>
 (br v
 (k0 x1)
 (Zq56_l0 N k0 k1 K s1 f1 x (IntKind.i64.wrap (x1 + 1)))))))
 (k1 ()))
noncomputable def Zq56_l0_again {R : Type} (N : Nat) (ks : KS Zq56_l0_ex R) (k : Nat) (x : Zq56_l0_sh.T) : Option R :=
 Zq56_l0 N (fun y0 => ks 0 ((y0, ()), ())) (fun (_ : Unit) => ks 1 ((), ())) k x.1.1 x.1.2.1 x.1.2.2.1 x.1.2.2.2.1
noncomputable def Zq56_l0_s (N : Nat) : LSum := ⟨Zq56_l0_sh, Zq56_l0_ex, fun x ks => Zq56_l0_again N ks N x⟩
theorem Zq56_l0_ok (N : Nat) : LoopOk Tryz.prog Tryz.f88.ntmps (Zq56_l0_s N) (loopAt Zq56_code 0) := loopQ (sh := Zq56_l0_sh) (ex := Zq56_l0_ex) (N := N) (L := []) (fun R k x ks => Zq56_l0_again N ks k x) (Zq56_gok N) (fun _ _ _ => rfl) (fun R k x ks => by kernel_rfl) trivial (by kernel_rfl)
noncomputable def Zq56 (N : Nat) (s : (List (List Int))) (f : ((List Int) → Option Bool)) : Option ((Int × Unit) × (Unit)) :=
 Zq56_l0 N (fun x => some ((x, ()), ())) (fun (_ : Unit) => some (((-1), ()), ())) N s f (tLen s) 0
noncomputable def Zq56_S (N : Nat) : FSum := ⟨Zq56_ps, Zq56_rs, fun x => Zq56 N x.1 x.2.1⟩
theorem Zq56_pc (N : Nat) : PC Tryz.prog 88 (Zq56_S N) := pcQ (L := [Zq56_l0_s N]) (Zq56_gok N) Tryz.call88 Tryz.func88 (fun x => by kernel_rfl) ⟨Zq56_l0_ok N, trivial⟩ (by kernel_rfl)

abbrev Zq52_ps : List (PV.Mode × Ty) := [(.ro, LLI), (.ro, FLIBo)]
abbrev Zq52_rs : List (Bool × Ty) := [(true, .bool)]
noncomputable def Zq52_G (N : Nat) : GTab := gOf [(88, Zq56_S N)]
theorem Zq52_gok (N : Nat) : GOk Tryz.prog (Zq52_G N) := gOf_ok ⟨Zq56_pc N, trivial⟩
noncomputable def Zq52_code : Code := (Tryz.f58.body).getD .skip
noncomputable def Zq52 (N : Nat) (s : (List (List Int))) (f : ((List Int) → Option Bool)) : Option ((Bool × Unit) × (Unit)) :=
 ((Zq56 N s f).bind fun r =>
 some (((ile 0 r.1.1), ()), ()))
noncomputable def Zq52_S (N : Nat) : FSum := ⟨Zq52_ps, Zq52_rs, fun x => Zq52 N x.1 x.2.1⟩
theorem Zq52_pc (N : Nat) : PC Tryz.prog 58 (Zq52_S N) := pcQ (L := []) (Zq52_gok N) Tryz.call58 Tryz.func58 (fun x => by kernel_rfl) trivial (by kernel_rfl)

abbrev Zq33_ps : List (PV.Mode × Ty) := [(.ro, LI), (.ro, I)]
abbrev Zq33_rs : List (Bool × Ty) := [(true, .bool)]
noncomputable def Zq33_G (N : Nat) : GTab := gOf [(39, Zq24_S N)]
theorem Zq33_gok (N : Nat) : GOk Tryz.prog (Zq33_G N) := gOf_ok ⟨Zq24_pc N, trivial⟩
noncomputable def Zq33_code : Code := (Tryz.f51.body).getD .skip
noncomputable def Zq33_l0_sh : Sh := ⟨[(0, .one (.ro LI)), (1, .one (.ro I)), (7, .one (.ro LI)), (8, .one (.ro I)), (9, .one (.ro I))], []⟩
noncomputable def Zq33_l0_ex : List (Ex × Sh) := [(.ret, ⟨[(4, .one (.ro .bool))], []⟩), (.exit 0, ⟨[], []⟩)]
noncomputable def Zq33_l0 {R : Type} (N : Nat) (k0 : Bool → Option R) (k1 : Unit → Option R) : Nat → (List Int) → Int → (List Int) → Int → Int → Option R
 | 0, _, _, _, _, _ => none
 | K + 1, list1, below1, x, x1, x2 =>
 (br (ilt x2 x1)
 ((chk (inb x x2)
 ((Zq24 N (rdI x x2) 0 (IntKind.i64.wrap (below1 - 1))).bind fun r =>
 (br (!r.1.1)
 (k0 false)
 ((br (ilt 0 x2)
 ((chk (inb list1 (IntKind.i64.wrap (x2 - 1)))
 (br (ile (rdI x x2) (rdI list1 (IntKind.i64.wrap (x2 - 1))))
 (k0 false)
 (Zq33_l0 N k0 k1 K list1 below1 x x1 (IntKind.i64.wrap (x2 + 1))))))
 (Zq33_l0 N k0 k1 K list1 below1 x x1 (IntKind.i64.wrap (x2 + 1)))))))))
 (k1 ()))
noncomputable def Zq33_l0_again {R : Type} (N : Nat) (ks : KS Zq33_l0_ex R) (k : Nat) (x : Zq33_l0_sh.T) : Option R :=
 Zq33_l0 N (fun y0 => ks 0 ((y0, ()), ())) (fun (_ : Unit) => ks 1 ((), ())) k x.1.1 x.1.2.1 x.1.2.2.1 x.1.2.2.2.1 x.1.2.2.2.2.1
noncomputable def Zq33_l0_s (N : Nat) : LSum := ⟨Zq33_l0_sh, Zq33_l0_ex, fun x ks => Zq33_l0_again N ks N x⟩
theorem Zq33_l0_ok (N : Nat) : LoopOk Tryz.prog Tryz.f51.ntmps (Zq33_l0_s N) (loopAt Zq33_code 0) := loopQ (sh := Zq33_l0_sh) (ex := Zq33_l0_ex) (N := N) (L := []) (fun R k x ks => Zq33_l0_again N ks k x) (Zq33_gok N) (fun _ _ _ => rfl) (fun R k x ks => by kernel_rfl) trivial (by kernel_rfl)
noncomputable def Zq33 (N : Nat) (list : (List Int)) (below : Int) : Option ((Bool × Unit) × (Unit)) :=
 Zq33_l0 N (fun x => some ((x, ()), ())) (fun (_ : Unit) => some ((true, ()), ())) N list below list (tLen list) 0
noncomputable def Zq33_S (N : Nat) : FSum := ⟨Zq33_ps, Zq33_rs, fun x => Zq33 N x.1 x.2.1⟩
theorem Zq33_pc (N : Nat) : PC Tryz.prog 51 (Zq33_S N) := pcQ (L := [Zq33_l0_s N]) (Zq33_gok N) Tryz.call51 Tryz.func51 (fun x => by kernel_rfl) ⟨Zq33_l0_ok N, trivial⟩ (by kernel_rfl)

abbrev Zq11_ps : List (PV.Mode × Ty) := [(.ro, LI), (.ro, AQIQLLILI)]
abbrev Zq11_rs : List (Bool × Ty) := [(true, .bool)]
noncomputable def Zq11_G (N : Nat) : GTab := gOf [(51, Zq33_S N)]
theorem Zq11_gok (N : Nat) : GOk Tryz.prog (Zq11_G N) := gOf_ok ⟨Zq33_pc N, trivial⟩
noncomputable def Zq11_code : Code := (Tryz.f74.body).getD .skip
noncomputable def Zq11 (N : Nat) (row : (List Int)) (c : (Int × ((List (List Int)) × (List Int)))) : Option ((Bool × Unit) × (Unit)) :=
 ((Zq33 N row c.1).bind fun r =>
 some (((!r.1.1), ()), ()))
noncomputable def Zq11_S (N : Nat) : FSum := ⟨Zq11_ps, Zq11_rs, fun x => Zq11 N x.1 x.2.1⟩
theorem Zq11_pc (N : Nat) : PC Tryz.prog 74 (Zq11_S N) := pcQ (L := []) (Zq11_gok N) Tryz.call74 Tryz.func74 (fun x => by kernel_rfl) trivial (by kernel_rfl)

abbrev Zq10_ps : List (PV.Mode × Ty) := [(.ro, QIQLLILI)]
abbrev Zq10_rs : List (Bool × Ty) := [(true, .bool)]
noncomputable def Zq10_G (N : Nat) : GTab := gOf [(39, Zq24_S N), (60, Zq29_S N), (58, Zq52_S N), (74, Zq11_S N)]
theorem Zq10_gok (N : Nat) : GOk Tryz.prog (Zq10_G N) := gOf_ok ⟨Zq24_pc N, Zq29_pc N, Zq52_pc N, Zq11_pc N, trivial⟩
noncomputable def Zq10_code : Code := (Tryz.f27.body).getD .skip
noncomputable def Zq10 (N : Nat) (p : (Int × ((List (List Int)) × (List Int)))) : Option ((Bool × Unit) × (Unit)) :=
 ((Zq24 N p.1 0 6).bind fun r =>
 (br r.1.1
 ((br (ile (tLen p.2.1) 6)
 (((Zq29 N (tLen p.2.1) p.2.2).bind fun r1 =>
 (br r1.1.1
 (((Zq52 N p.2.1 (fun y0 => (Zq11 N y0 (p.1, (p.2.1, p.2.2))).bind fun z => some z.1.1)).bind fun r2 =>
 some (((!r2.1.1), ()), ())))
 (some ((false, ()), ())))))
 (some ((false, ()), ()))))
 (some ((false, ()), ()))))
noncomputable def Zq10_S (N : Nat) : FSum := ⟨Zq10_ps, Zq10_rs, fun x => Zq10 N x.1⟩
theorem Zq10_pc (N : Nat) : PC Tryz.prog 27 (Zq10_S N) := pcQ (L := []) (Zq10_gok N) Tryz.call27 Tryz.func27 (fun x => by kernel_rfl) trivial (by kernel_rfl)

abbrev Zq23_ps : List (PV.Mode × Ty) := [(.ro, I), (.ro, FLIBo)]
abbrev Zq23_rs : List (Bool × Ty) := [(true, LLI)]
noncomputable def Zq23_G (N : Nat) : GTab := gOf []
theorem Zq23_gok (N : Nat) : GOk Tryz.prog (Zq23_G N) := gOf_ok trivial
noncomputable def Zq23_code : Code := (Tryz.f79.body).getD .skip
noncomputable def Zq23_l0_0_sh : Sh := ⟨[(0, .one (.ro I)), (1, .one (.ro FLIBo)), (5, .one (.ref 0)), (6, .one (.ro I)), (7, .one (.ref 1)), (11, .one (.ro I)), (12, .one (.ro I)), (16, .one (.ro I)), (17, .one (.ro I))], [.sl 33 LI .deep, .sl 3 I .own]⟩
noncomputable def Zq23_l0_0_ex : List (Ex × Sh) := [(.exit 2, ⟨[(0, .one (.ro I)), (1, .one (.ro FLIBo)), (5, .one (.ref 0)), (7, .one (.ref 1)), (11, .one (.ro I)), (12, .one (.ro I))], [.sl 33 LI .deep, .sl 3 I .own]⟩)]
noncomputable def Zq23_l0_0 {R : Type} (N : Nat) (k0 : Int → ((List Int) → Option Bool) → Int → Int → (List (List Int)) → (List Int) → Option R) : Nat → Int → ((List Int) → Option Bool) → Int → Int → Int → Int → Int → (List (List Int)) → (List Int) → Option R
 | 0, _, _, _, _, _, _, _, _, _ => none
 | K + 1, vars2, is2, n, x2, x3, x4, x5, o1, o2 =>
 (br (ilt x5 x4)
 ((chk (ile 0 (IntKind.i64.wrap ((IntKind.i64.wrap (vars2 - 1)) - x5)))
 (chk (room o2 [(bitop .and .i64 (shrI .i64 n (IntKind.i64.wrap ((IntKind.i64.wrap (vars2 - 1)) - x5))) 1)])
 (Zq23_l0_0 N k0 K vars2 is2 n x2 x3 x4 (IntKind.i64.wrap (x5 + 1)) o1 (tApp o2 [(bitop .and .i64 (shrI .i64 n (IntKind.i64.wrap ((IntKind.i64.wrap (vars2 - 1)) - x5))) 1)])))))
 (k0 vars2 is2 x2 x3 o1 o2))
noncomputable def Zq23_l0_0_again {R : Type} (N : Nat) (ks : KS Zq23_l0_0_ex R) (k : Nat) (x : Zq23_l0_0_sh.T) : Option R :=
 Zq23_l0_0 N (fun y0 y1 y2 y3 y4 y5 => ks 0 ((y0, y1, (), (), y2, y3, ()), (y4, y5, ()))) k x.1.1 x.1.2.1 x.1.2.2.2.1 x.1.2.2.2.2.2.1 x.1.2.2.2.2.2.2.1 x.1.2.2.2.2.2.2.2.1 x.1.2.2.2.2.2.2.2.2.1 x.2.1 x.2.2.1
noncomputable def Zq23_l0_0_s (N : Nat) : LSum := ⟨Zq23_l0_0_sh, Zq23_l0_0_ex, fun x ks => Zq23_l0_0_again N ks N x⟩
theorem Zq23_l0_0_ok (N : Nat) : LoopOk Tryz.prog Tryz.f79.ntmps (Zq23_l0_0_s N) (loopAt (loopAt Zq23_code 0) 0) := loopQ (sh := Zq23_l0_0_sh) (ex := Zq23_l0_0_ex) (N := N) (L := []) (fun R k x ks => Zq23_l0_0_again N ks k x) (Zq23_gok N) (fun _ _ _ => rfl) (fun R k x ks => by kernel_rfl) trivial (by kernel_rfl)
noncomputable def Zq23_l0_sh : Sh := ⟨[(0, .one (.ro I)), (1, .one (.ro FLIBo)), (5, .one (.ref 0)), (11, .one (.ro I)), (12, .one (.ro I))], [.sl 33 LI .deep]⟩
noncomputable def Zq23_l0_ex : List (Ex × Sh) := [(.exit 0, ⟨[(5, .one (.ref 0))], [.sl 33 LI .deep]⟩)]
noncomputable def Zq23_l0 {R : Type} (N : Nat) (k0 : (List (List Int)) → Option R) : Nat → Int → ((List Int) → Option Bool) → Int → Int → (List (List Int)) → Option R
 | 0, _, _, _, _, _ => none
 | K + 1, vars1, is1, x, x1, o =>
 (br (ilt x1 x)
 (Zq23_l0_0 N (fun vars2 is2 x2 x3 o1 o2 => ((is2 o2).bind fun v =>
 (br v
 ((chk (room o1 [o2])
 (Zq23_l0 N k0 K vars2 is2 x2 (IntKind.i64.wrap (x3 + 1)) (tApp o1 [o2]))))
 (Zq23_l0 N k0 K vars2 is2 x2 (IntKind.i64.wrap (x3 + 1)) o1)))) N vars1 is1 x1 x x1 vars1 0 o [])
 (k0 o))
noncomputable def Zq23_l0_again {R : Type} (N : Nat) (ks : KS Zq23_l0_ex R) (k : Nat) (x : Zq23_l0_sh.T) : Option R :=
 Zq23_l0 N (fun y0 => ks 0 (((), ()), (y0, ()))) k x.1.1 x.1.2.1 x.1.2.2.2.1 x.1.2.2.2.2.1 x.2.1
noncomputable def Zq23_l0_s (N : Nat) : LSum := ⟨Zq23_l0_sh, Zq23_l0_ex, fun x ks => Zq23_l0_again N ks N x⟩
theorem Zq23_l0_ok (N : Nat) : LoopOk Tryz.prog Tryz.f79.ntmps (Zq23_l0_s N) (loopAt Zq23_code 0) := loopQ (sh := Zq23_l0_sh) (ex := Zq23_l0_ex) (N := N) (L := [Zq23_l0_0_s N]) (fun R k x ks => Zq23_l0_again N ks k x) (Zq23_gok N) (fun _ _ _ => rfl) (fun R k x ks => by kernel_rfl) ⟨Zq23_l0_0_ok N, trivial⟩ (by kernel_rfl)
noncomputable def Zq23 (N : Nat) (vars : Int) (is : ((List Int) → Option Bool)) : Option (((List (List Int)) × Unit) × (Unit)) :=
 (chk (ile 0 vars)
 (Zq23_l0 N (fun o => some ((o, ()), ())) N vars is (shlI .i64 1 vars) 0 []))
noncomputable def Zq23_S (N : Nat) : FSum := ⟨Zq23_ps, Zq23_rs, fun x => Zq23 N x.1 x.2.1⟩
theorem Zq23_pc (N : Nat) : PC Tryz.prog 79 (Zq23_S N) := pcQ (L := [Zq23_l0_s N]) (Zq23_gok N) Tryz.call79 Tryz.func79 (fun x => by kernel_rfl) ⟨Zq23_l0_ok N, trivial⟩ (by kernel_rfl)

abbrev Zq18_ps : List (PV.Mode × Ty) := [(.ro, LI), (.ro, AQIQLLILI)]
abbrev Zq18_rs : List (Bool × Ty) := [(true, .bool)]
noncomputable def Zq18_G (N : Nat) : GTab := gOf []
theorem Zq18_gok (N : Nat) : GOk Tryz.prog (Zq18_G N) := gOf_ok trivial
noncomputable def Zq18_code : Code := (Tryz.f99.body).getD .skip
noncomputable def Zq18_l0_0_sh : Sh := ⟨[(0, .one (.ro LI)), (1, .one (.ro AQIQLLILI)), (4, .one (.ro I)), (6, .one (.ro I)), (10, .one (.ro LLI)), (11, .one (.ro I)), (12, .one (.ro I)), (17, .one (.ro LI)), (18, .one (.ro I)), (19, .one (.ro I))], []⟩
noncomputable def Zq18_l0_0_ex : List (Ex × Sh) := [(.exit 2, ⟨[(0, .one (.ro LI)), (1, .one (.ro AQIQLLILI)), (4, .one (.ro I)), (6, .one (.ro I)), (10, .one (.ro LLI)), (11, .one (.ro I)), (12, .one (.ro I))], []⟩)]
noncomputable def Zq18_l0_0 {R : Type} (N : Nat) (k0 : (List Int) → (Int × ((List (List Int)) × (List Int))) → Int → Int → (List (List Int)) → Int → Int → Option R) : Nat → (List Int) → (Int × ((List (List Int)) × (List Int))) → Int → Int → (List (List Int)) → Int → Int → (List Int) → Int → Int → Option R
 | 0, _, _, _, _, _, _, _, _, _, _ => none
 | K + 1, list2, x4, i, sum, x5, x6, x7, x8, x9, x10 =>
 (br (ilt x10 x9)
 ((chk (inb x8 x10)
 (chk (inb list2 (rdI x8 x10))
 (Zq18_l0_0 N k0 K list2 x4 i (IntKind.i64.wrap (sum + (rdI list2 (rdI x8 x10)))) x5 x6 x7 x8 x9 (IntKind.i64.wrap (x10 + 1))))))
 (k0 list2 x4 i sum x5 x6 x7))
noncomputable def Zq18_l0_0_again {R : Type} (N : Nat) (ks : KS Zq18_l0_0_ex R) (k : Nat) (x : Zq18_l0_0_sh.T) : Option R :=
 Zq18_l0_0 N (fun y0 y1 y2 y3 y4 y5 y6 => ks 0 ((y0, y1, y2, y3, y4, y5, y6, ()), ())) k x.1.1 x.1.2.1 x.1.2.2.1 x.1.2.2.2.1 x.1.2.2.2.2.1 x.1.2.2.2.2.2.1 x.1.2.2.2.2.2.2.1 x.1.2.2.2.2.2.2.2.1 x.1.2.2.2.2.2.2.2.2.1 x.1.2.2.2.2.2.2.2.2.2.1
noncomputable def Zq18_l0_0_s (N : Nat) : LSum := ⟨Zq18_l0_0_sh, Zq18_l0_0_ex, fun x ks => Zq18_l0_0_again N ks N x⟩
theorem Zq18_l0_0_ok (N : Nat) : LoopOk Tryz.prog Tryz.f99.ntmps (Zq18_l0_0_s N) (loopAt (loopAt Zq18_code 0) 0) := loopQ (sh := Zq18_l0_0_sh) (ex := Zq18_l0_0_ex) (N := N) (L := []) (fun R k x ks => Zq18_l0_0_again N ks k x) (Zq18_gok N) (fun _ _ _ => rfl) (fun R k x ks => by kernel_rfl) trivial (by kernel_rfl)
noncomputable def Zq18_l0_sh : Sh := ⟨[(0, .one (.ro LI)), (1, .one (.ro AQIQLLILI)), (10, .one (.ro LLI)), (11, .one (.ro I)), (12, .one (.ro I))], []⟩
noncomputable def Zq18_l0_ex : List (Ex × Sh) := [(.ret, ⟨[(3, .one (.ro .bool))], []⟩), (.exit 0, ⟨[], []⟩)]
noncomputable def Zq18_l0 {R : Type} (N : Nat) (k0 : Bool → Option R) (k1 : Unit → Option R) : Nat → (List Int) → (Int × ((List (List Int)) × (List Int))) → (List (List Int)) → Int → Int → Option R
 | 0, _, _, _, _, _ => none
 | K + 1, list1, x, x1, x2, x3 =>
 (br (ilt x3 x2)
 ((chk (inb x1 x3)
 (Zq18_l0_0 N (fun list2 x4 i sum x5 x6 x7 => (chk (inb x4.2.2 i)
 (br (ine (sum.tmod 2) (rdI x4.2.2 i))
 (k0 false)
 (Zq18_l0 N k0 k1 K list2 x4 x5 x6 (IntKind.i64.wrap (x7 + 1)))))) N list1 x x3 0 x1 x2 x3 (rdL x1 x3) (tLen (rdL x1 x3)) 0)))
 (k1 ()))
noncomputable def Zq18_l0_again {R : Type} (N : Nat) (ks : KS Zq18_l0_ex R) (k : Nat) (x : Zq18_l0_sh.T) : Option R :=
 Zq18_l0 N (fun y0 => ks 0 ((y0, ()), ())) (fun (_ : Unit) => ks 1 ((), ())) k x.1.1 x.1.2.1 x.1.2.2.1 x.1.2.2.2.1 x.1.2.2.2.2.1
noncomputable def Zq18_l0_s (N : Nat) : LSum := ⟨Zq18_l0_sh, Zq18_l0_ex, fun x ks => Zq18_l0_again N ks N x⟩
theorem Zq18_l0_ok (N : Nat) : LoopOk Tryz.prog Tryz.f99.ntmps (Zq18_l0_s N) (loopAt Zq18_code 0) := loopQ (sh := Zq18_l0_sh) (ex := Zq18_l0_ex) (N := N) (L := [Zq18_l0_0_s N]) (fun R k x ks => Zq18_l0_again N ks k x) (Zq18_gok N) (fun _ _ _ => rfl) (fun R k x ks => by kernel_rfl) ⟨Zq18_l0_0_ok N, trivial⟩ (by kernel_rfl)
noncomputable def Zq18 (N : Nat) (list : (List Int)) (c : (Int × ((List (List Int)) × (List Int)))) : Option ((Bool × Unit) × (Unit)) :=
 Zq18_l0 N (fun x => some ((x, ()), ())) (fun (_ : Unit) => some ((true, ()), ())) N list c c.2.1 (tLen c.2.1) 0
noncomputable def Zq18_S (N : Nat) : FSum := ⟨Zq18_ps, Zq18_rs, fun x => Zq18 N x.1 x.2.1⟩
theorem Zq18_pc (N : Nat) : PC Tryz.prog 99 (Zq18_S N) := pcQ (L := [Zq18_l0_s N]) (Zq18_gok N) Tryz.call99 Tryz.func99 (fun x => by kernel_rfl) ⟨Zq18_l0_ok N, trivial⟩ (by kernel_rfl)

abbrev Zq17_ps : List (PV.Mode × Ty) := [(.ro, QIQLLILI)]
abbrev Zq17_rs : List (Bool × Ty) := [(true, LLI)]
noncomputable def Zq17_G (N : Nat) : GTab := gOf [(79, Zq23_S N), (99, Zq18_S N)]
theorem Zq17_gok (N : Nat) : GOk Tryz.prog (Zq17_G N) := gOf_ok ⟨Zq23_pc N, Zq18_pc N, trivial⟩
noncomputable def Zq17_code : Code := (Tryz.f70.body).getD .skip
noncomputable def Zq17 (N : Nat) (p : (Int × ((List (List Int)) × (List Int)))) : Option (((List (List Int)) × Unit) × (Unit)) :=
 ((Zq23 N p.1 (fun y0 => (Zq18 N y0 (p.1, (p.2.1, p.2.2))).bind fun z => some z.1.1)).bind fun r =>
 some ((r.1.1, ()), ()))
noncomputable def Zq17_S (N : Nat) : FSum := ⟨Zq17_ps, Zq17_rs, fun x => Zq17 N x.1⟩
theorem Zq17_pc (N : Nat) : PC Tryz.prog 70 (Zq17_S N) := pcQ (L := []) (Zq17_gok N) Tryz.call70 Tryz.func70 (fun x => by kernel_rfl) trivial (by kernel_rfl)

abbrev Zq2_ps : List (PV.Mode × Ty) := [(.ro, I)]
abbrev Zq2_rs : List (Bool × Ty) := [(true, .bool)]
noncomputable def Zq2_G (N : Nat) : GTab := gOf []
theorem Zq2_gok (N : Nat) : GOk Tryz.prog (Zq2_G N) := gOf_ok trivial
noncomputable def Zq2_code : Code := (Tryz.f136.body).getD .skip
noncomputable def Zq2 (N : Nat) (x : Int) : Option ((Bool × Unit) × (Unit)) :=
 some (((ine x x), ()), ())
noncomputable def Zq2_S (N : Nat) : FSum := ⟨Zq2_ps, Zq2_rs, fun x => Zq2 N x.1⟩
theorem Zq2_pc (N : Nat) : PC Tryz.prog 136 (Zq2_S N) := pcQ (L := []) (Zq2_gok N) Tryz.call136 Tryz.func136 (fun x => by kernel_rfl) trivial (by kernel_rfl)

abbrev Zq0_ps : List (PV.Mode × Ty) := [(.ro, I), (.ro, I)]
abbrev Zq0_rs : List (Bool × Ty) := [(true, I)]
noncomputable def Zq0_G (N : Nat) : GTab := gOf [(136, Zq2_S N)]
theorem Zq0_gok (N : Nat) : GOk Tryz.prog (Zq0_G N) := gOf_ok ⟨Zq2_pc N, trivial⟩
noncomputable def Zq0_code : Code := (Tryz.f124.body).getD .skip
noncomputable def Zq0 (N : Nat) (x : Int) (y : Int) : Option ((Int × Unit) × (Unit)) :=
 ((Zq2 N x).bind fun r =>
 ((Zq2 N y).bind fun r1 =>
 (br r.1.1
 ((br r1.1.1
 (some ((0, ()), ()))
 (some (((-1), ()), ()))))
 ((br r1.1.1
 (some ((1, ()), ()))
 ((br (ilt x y)
 (some (((-1), ()), ()))
 ((br (ilt y x)
 (some ((1, ()), ()))
 (some ((0, ()), ())))))))))))
noncomputable def Zq0_S (N : Nat) : FSum := ⟨Zq0_ps, Zq0_rs, fun x => Zq0 N x.1 x.2.1⟩
theorem Zq0_pc (N : Nat) : PC Tryz.prog 124 (Zq0_S N) := pcQ (L := []) (Zq0_gok N) Tryz.call124 Tryz.func124 (fun x => by kernel_rfl) trivial (by kernel_rfl)

abbrev Zq50_ps : List (PV.Mode × Ty) := [(.ro, LI), (.ro, LI)]
abbrev Zq50_rs : List (Bool × Ty) := [(true, I)]
noncomputable def Zq50_G (N : Nat) : GTab := gOf [(124, Zq0_S N)]
theorem Zq50_gok (N : Nat) : GOk Tryz.prog (Zq50_G N) := gOf_ok ⟨Zq0_pc N, trivial⟩
noncomputable def Zq50_code : Code := (Tryz.f98.body).getD .skip
noncomputable def Zq50_l0_sh : Sh := ⟨[(0, .one (.ro LI)), (1, .one (.ro LI)), (9, .one (.ro LI)), (10, .one (.ro I)), (11, .one (.ro I))], []⟩
noncomputable def Zq50_l0_ex : List (Ex × Sh) := [(.ret, ⟨[(4, .one (.ro I))], []⟩), (.exit 0, ⟨[(0, .one (.ro LI)), (1, .one (.ro LI))], []⟩)]
noncomputable def Zq50_l0 {R : Type} (N : Nat) (k0 : Int → Option R) (k1 : (List Int) → (List Int) → Option R) : Nat → (List Int) → (List Int) → (List Int) → Int → Int → Option R
 | 0, _, _, _, _, _ => none
 | K + 1, s11, s21, x, x1, x2 =>
 (br (ilt x2 x1)
 ((chk (inb x x2)
 (br (ile (tLen s21) x2)
 (k0 1)
 ((chk (inb s21 x2)
 ((Zq0 N (rdI x x2) (rdI s21 x2)).bind fun r =>
 (br (ine r.1.1 0)
 (k0 r.1.1)
 (Zq50_l0 N k0 k1 K s11 s21 x x1 (IntKind.i64.wrap (x2 + 1))))))))))
 (k1 s11 s21))
noncomputable def Zq50_l0_again {R : Type} (N : Nat) (ks : KS Zq50_l0_ex R) (k : Nat) (x : Zq50_l0_sh.T) : Option R :=
 Zq50_l0 N (fun y0 => ks 0 ((y0, ()), ())) (fun y0 y1 => ks 1 ((y0, y1, ()), ())) k x.1.1 x.1.2.1 x.1.2.2.1 x.1.2.2.2.1 x.1.2.2.2.2.1
noncomputable def Zq50_l0_s (N : Nat) : LSum := ⟨Zq50_l0_sh, Zq50_l0_ex, fun x ks => Zq50_l0_again N ks N x⟩
theorem Zq50_l0_ok (N : Nat) : LoopOk Tryz.prog Tryz.f98.ntmps (Zq50_l0_s N) (loopAt Zq50_code 0) := loopQ (sh := Zq50_l0_sh) (ex := Zq50_l0_ex) (N := N) (L := []) (fun R k x ks => Zq50_l0_again N ks k x) (Zq50_gok N) (fun _ _ _ => rfl) (fun R k x ks => by kernel_rfl) trivial (by kernel_rfl)
noncomputable def Zq50 (N : Nat) (s1 : (List Int)) (s2 : (List Int)) : Option ((Int × Unit) × (Unit)) :=
 Zq50_l0 N (fun x => some ((x, ()), ())) (fun s11 s21 => (br (ilt (tLen s11) (tLen s21))
 (some (((-1), ()), ()))
 (some ((0, ()), ())))) N s1 s2 s1 (tLen s1) 0
noncomputable def Zq50_S (N : Nat) : FSum := ⟨Zq50_ps, Zq50_rs, fun x => Zq50 N x.1 x.2.1⟩
theorem Zq50_pc (N : Nat) : PC Tryz.prog 98 (Zq50_S N) := pcQ (L := [Zq50_l0_s N]) (Zq50_gok N) Tryz.call98 Tryz.func98 (fun x => by kernel_rfl) ⟨Zq50_l0_ok N, trivial⟩ (by kernel_rfl)

abbrev Zq59_ps : List (PV.Mode × Ty) := [(.mut, LLI), (.own, K98Un)]
abbrev Zq59_rs : List (Bool × Ty) := []
noncomputable def Zq59 (N : Nat) (x : List (List Int)) (_ : Unit) : Option (Unit × (List (List Int) × Unit)) := sortF (fun a b => (Zq50 N a b).map fun z => z.1.1) x
noncomputable def Zq59_S (N : Nat) : FSum := ⟨Zq59_ps, Zq59_rs, fun x => Zq59 N x.1 x.2.1⟩
theorem Zq59_pc (N : Nat) : PC Tryz.prog 97 (Zq59_S N) := sortRows_pc (fc := fun a b => Zq50 N a b) (sortsAt Tryz.sortL) (sortsNone Tryz.sortL) Tryz.call97 (Zq50_pc N)
end Go.Proofs.YtfilchmabmfmaaaGreat
