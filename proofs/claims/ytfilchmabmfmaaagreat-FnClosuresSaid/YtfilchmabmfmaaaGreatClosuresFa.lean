/- Functions of the program as functions on data. -/
import Derived.Test.YtfilchmabmfmaaaGreatClosuresSa
set_option linter.all false
namespace Go.Proofs.YtfilchmabmfmaaaGreat
open Go Go.PV
abbrev Zq31_ps : List (PV.Mode × Ty) := [(.ro, LU8)]
abbrev Zq31_rs : List (Bool × Ty) := [(true, .bool)]
noncomputable def Zq31_G (N : Nat) : GTab := gOf []
theorem Zq31_gok (N : Nat) : GOk Tryz.prog (Zq31_G N) := gOf_ok trivial
noncomputable def Zq31_code : Code := (Tryz.f5.body).getD .skip
noncomputable def Zq31 (N : Nat) (code : (List Int)) : Option ((Bool × Unit) × (Unit)) :=
 some (((ilt 65536 (tLen code)), ()), ())
noncomputable def Zq31_S (N : Nat) : FSum := ⟨Zq31_ps, Zq31_rs, fun x => Zq31 N x.1⟩
theorem Zq31_pc (N : Nat) : PC Tryz.prog 5 (Zq31_S N) := pcQ (L := []) (Zq31_gok N) Tryz.call5 Tryz.func5 (fun x => by kernel_rfl) trivial (by kernel_rfl)

abbrev Zq59_ps : List (PV.Mode × Ty) := [(.mut, BQOU8QIU64)]
abbrev Zq59_rs : List (Bool × Ty) := [(true, I)]
noncomputable def Zq59_G (N : Nat) : GTab := gOf []
theorem Zq59_gok (N : Nat) : GOk Tryz.prog (Zq59_G N) := gOf_ok trivial
noncomputable def Zq59_code : Code := (Tryz.f83.body).getD .skip
noncomputable def Zq59 (N : Nat) (c : ((List Int) × (Int × Int))) : Option ((Int × Unit) × (((List Int) × (Int × Int)) × Unit)) :=
 (br (ilt c.2.1 (tLen c.1))
 ((chk (inb c.1 c.2.1)
 (br (ile (IntKind.i64.wrap (c.2.1 + 1)) (tLen c.1))
 (some (((IntKind.i64.wrap ((rd U8 c.1 c.2.1))), ()), ((c.1, ((IntKind.i64.wrap (c.2.1 + 1)), (IntKind.u64.wrap ((IntKind.u64.wrap ((IntKind.u64.wrap (c.2.2 * 6364136223846793005)) + (IntKind.u64.wrap ((IntKind.i64.wrap ((rd U8 c.1 c.2.1))))))) + 462197)))), ())))
 (some (((IntKind.i64.wrap ((bitop .and .u64 (shrI .u64 (IntKind.u64.wrap ((IntKind.u64.wrap ((IntKind.u64.wrap (c.2.2 * 6364136223846793005)) + (IntKind.u64.wrap ((IntKind.i64.wrap ((rd U8 c.1 c.2.1))))))) + 462197)) 40) 255))), ()), ((c.1, ((IntKind.i64.wrap (c.2.1 + 1)), (IntKind.u64.wrap ((IntKind.u64.wrap ((IntKind.u64.wrap (c.2.2 * 6364136223846793005)) + (IntKind.u64.wrap ((IntKind.i64.wrap ((rd U8 c.1 c.2.1))))))) + 462197)))), ()))))))
 ((br (ile (IntKind.i64.wrap (c.2.1 + 1)) (tLen c.1))
 (some ((0, ()), ((c.1, ((IntKind.i64.wrap (c.2.1 + 1)), (IntKind.u64.wrap ((IntKind.u64.wrap ((IntKind.u64.wrap (c.2.2 * 6364136223846793005)) + 0)) + 462197)))), ())))
 (some (((IntKind.i64.wrap ((bitop .and .u64 (shrI .u64 (IntKind.u64.wrap ((IntKind.u64.wrap ((IntKind.u64.wrap (c.2.2 * 6364136223846793005)) + 0)) + 462197)) 40) 255))), ()), ((c.1, ((IntKind.i64.wrap (c.2.1 + 1)), (IntKind.u64.wrap ((IntKind.u64.wrap ((IntKind.u64.wrap (c.2.2 * 6364136223846793005)) + 0)) + 462197)))), ()))))))
noncomputable def Zq59_S (N : Nat) : FSum := ⟨Zq59_ps, Zq59_rs, fun x => Zq59 N x.1⟩
theorem Zq59_pc (N : Nat) : PC Tryz.prog 83 (Zq59_S N) := pcQ (L := []) (Zq59_gok N) Tryz.call83 Tryz.func83 (fun x => by kernel_rfl) trivial (by kernel_rfl)

abbrev Zq61_ps : List (PV.Mode × Ty) := [(.mut, BQOU8QIU64), (.ro, I)]
abbrev Zq61_rs : List (Bool × Ty) := [(true, I)]
noncomputable def Zq61_G (N : Nat) : GTab := gOf [(83, Zq59_S N)]
theorem Zq61_gok (N : Nat) : GOk Tryz.prog (Zq61_G N) := gOf_ok ⟨Zq59_pc N, trivial⟩
noncomputable def Zq61_code : Code := (Tryz.f49.body).getD .skip
noncomputable def Zq61 (N : Nat) (c : ((List Int) × (Int × Int))) (n : Int) : Option ((Int × Unit) × (((List Int) × (Int × Int)) × Unit)) :=
 (br (ile n 1)
 (some ((0, ()), (c, ())))
 (((Zq59 N c).bind fun r =>
 (br (ilt 200 n)
 (((Zq59 N r.2.1).bind fun r1 =>
 (chk (ine n 0)
 (some ((((IntKind.i64.wrap ((IntKind.i64.wrap (r.1.1 * 256)) + r1.1.1)).tmod n), ()), (r1.2.1, ()))))))
 ((chk (ine n 0)
 (some (((r.1.1.tmod n), ()), (r.2.1, ())))))))))
noncomputable def Zq61_S (N : Nat) : FSum := ⟨Zq61_ps, Zq61_rs, fun x => Zq61 N x.1 x.2.1⟩
theorem Zq61_pc (N : Nat) : PC Tryz.prog 49 (Zq61_S N) := pcQ (L := []) (Zq61_gok N) Tryz.call49 Tryz.func49 (fun x => by kernel_rfl) trivial (by kernel_rfl)

abbrev Zq57_ps : List (PV.Mode × Ty) := [(.mut, BQOU8QIU64), (.ro, LI)]
abbrev Zq57_rs : List (Bool × Ty) := [(true, I)]
noncomputable def Zq57_G (N : Nat) : GTab := gOf [(49, Zq61_S N)]
theorem Zq57_gok (N : Nat) : GOk Tryz.prog (Zq57_G N) := gOf_ok ⟨Zq61_pc N, trivial⟩
noncomputable def Zq57_code : Code := (Tryz.f37.body).getD .skip
noncomputable def Zq57 (N : Nat) (c : ((List Int) × (Int × Int))) (list : (List Int)) : Option ((Int × Unit) × (((List Int) × (Int × Int)) × Unit)) :=
 ((Zq61 N c (tLen list)).bind fun r =>
 (chk (inb list r.1.1)
 (some (((rdI list r.1.1), ()), (r.2.1, ())))))
noncomputable def Zq57_S (N : Nat) : FSum := ⟨Zq57_ps, Zq57_rs, fun x => Zq57 N x.1 x.2.1⟩
theorem Zq57_pc (N : Nat) : PC Tryz.prog 37 (Zq57_S N) := pcQ (L := []) (Zq57_gok N) Tryz.call37 Tryz.func37 (fun x => by kernel_rfl) trivial (by kernel_rfl)

abbrev Zq60_ps : List (PV.Mode × Ty) := [(.mut, BQOU8QIU64), (.ro, I)]
abbrev Zq60_rs : List (Bool × Ty) := [(true, .bool)]
noncomputable def Zq60_G (N : Nat) : GTab := gOf [(49, Zq61_S N)]
theorem Zq60_gok (N : Nat) : GOk Tryz.prog (Zq60_G N) := gOf_ok ⟨Zq61_pc N, trivial⟩
noncomputable def Zq60_code : Code := (Tryz.f50.body).getD .skip
noncomputable def Zq60 (N : Nat) (c : ((List Int) × (Int × Int))) (n : Int) : Option ((Bool × Unit) × (((List Int) × (Int × Int)) × Unit)) :=
 ((Zq61 N c n).bind fun r =>
 some (((ieq r.1.1 0), ()), (r.2.1, ())))
noncomputable def Zq60_S (N : Nat) : FSum := ⟨Zq60_ps, Zq60_rs, fun x => Zq60 N x.1 x.2.1⟩
theorem Zq60_pc (N : Nat) : PC Tryz.prog 50 (Zq60_S N) := pcQ (L := []) (Zq60_gok N) Tryz.call50 Tryz.func50 (fun x => by kernel_rfl) trivial (by kernel_rfl)

abbrev Zq65_ps : List (PV.Mode × Ty) := [(.ro, I), (.ro, I)]
abbrev Zq65_rs : List (Bool × Ty) := [(true, I)]
noncomputable def Zq65_G (N : Nat) : GTab := gOf []
theorem Zq65_gok (N : Nat) : GOk Tryz.prog (Zq65_G N) := gOf_ok trivial
noncomputable def Zq65_code : Code := (Tryz.f47.body).getD .skip
noncomputable def Zq65 (N : Nat) (a : Int) (b : Int) : Option ((Int × Unit) × (Unit)) :=
 (br (ilt b a)
 (some ((a, ()), ()))
 (some ((b, ()), ())))
noncomputable def Zq65_S (N : Nat) : FSum := ⟨Zq65_ps, Zq65_rs, fun x => Zq65 N x.1 x.2.1⟩
theorem Zq65_pc (N : Nat) : PC Tryz.prog 47 (Zq65_S N) := pcQ (L := []) (Zq65_gok N) Tryz.call47 Tryz.func47 (fun x => by kernel_rfl) trivial (by kernel_rfl)

abbrev Zq67_ps : List (PV.Mode × Ty) := [(.own, LI), (.ro, I)]
abbrev Zq67_rs : List (Bool × Ty) := [(true, LI)]
noncomputable def Zq67_G (N : Nat) : GTab := gOf []
theorem Zq67_gok (N : Nat) : GOk Tryz.prog (Zq67_G N) := gOf_ok trivial
noncomputable def Zq67_code : Code := (Tryz.f57.body).getD .skip
noncomputable def Zq67_l0_sh : Sh := ⟨[(0, .one (.ref 0)), (1, .one (.ro I)), (5, .one (.ro I))], [.sl 3 I .own]⟩
noncomputable def Zq67_l0_ex : List (Ex × Sh) := [(.exit 0, ⟨[(0, .one (.ref 0)), (1, .one (.ro I)), (5, .one (.ro I))], [.sl 3 I .own]⟩)]
noncomputable def Zq67_l0 {R : Type} (N : Nat) (k0 : Int → Int → (List Int) → Option R) : Nat → Int → Int → (List Int) → Option R
 | 0, _, _, _ => none
 | K + 1, n1, kv, o =>
 (br (ilt kv (tLen o))
 ((chk (inb o kv)
 (br (ilt (rdI o kv) n1)
 (Zq67_l0 N k0 K n1 (IntKind.i64.wrap (kv + 1)) o)
 (k0 n1 kv o))))
 (k0 n1 kv o))
noncomputable def Zq67_l0_again {R : Type} (N : Nat) (ks : KS Zq67_l0_ex R) (k : Nat) (x : Zq67_l0_sh.T) : Option R :=
 Zq67_l0 N (fun y0 y1 y2 => ks 0 (((), y0, y1, ()), (y2, ()))) k x.1.2.1 x.1.2.2.1 x.2.1
noncomputable def Zq67_l0_s (N : Nat) : LSum := ⟨Zq67_l0_sh, Zq67_l0_ex, fun x ks => Zq67_l0_again N ks N x⟩
theorem Zq67_l0_ok (N : Nat) : LoopOk Tryz.prog Tryz.f57.ntmps (Zq67_l0_s N) (loopAt Zq67_code 0) := loopQ (sh := Zq67_l0_sh) (ex := Zq67_l0_ex) (N := N) (L := []) (fun R k x ks => Zq67_l0_again N ks k x) (Zq67_gok N) (fun _ _ _ => rfl) (fun R k x ks => by kernel_rfl) trivial (by kernel_rfl)
noncomputable def Zq67 (N : Nat) (l : (List Int)) (n : Int) : Option (((List Int) × Unit) × (Unit)) :=
 Zq67_l0 N (fun n1 kv o => (br (ilt kv (tLen o))
 ((chk (inb o kv)
 (br (ieq (rdI o kv) n1)
 (some ((o, ()), ()))
 ((chk (ile 0 0 && ile 0 kv && ile kv (tLen o))
 (chk (room (α := Int) (β := Int) [] (tCut o 0 kv))
 (chk (room (α := Int) (β := Int) (tApp [] (tCut o 0 kv)) [n1])
 (chk (ile 0 kv && ile kv (tLen o) && ile (tLen o) (tLen o))
 (chk (room (α := Int) (β := Int) (tApp (tApp [] (tCut o 0 kv)) [n1]) (tCut o kv (tLen o)))
 (some (((tApp (tApp (tApp [] (tCut o 0 kv)) [n1]) (tCut o kv (tLen o))), ()), ())))))))))))
 ((chk (ile 0 0 && ile 0 kv && ile kv (tLen o))
 (chk (room (α := Int) (β := Int) [] (tCut o 0 kv))
 (chk (room (α := Int) (β := Int) (tApp [] (tCut o 0 kv)) [n1])
 (chk (ile 0 kv && ile kv (tLen o) && ile (tLen o) (tLen o))
 (chk (room (α := Int) (β := Int) (tApp (tApp [] (tCut o 0 kv)) [n1]) (tCut o kv (tLen o)))
 (some (((tApp (tApp (tApp [] (tCut o 0 kv)) [n1]) (tCut o kv (tLen o))), ()), ())))))))))) N n 0 l
noncomputable def Zq67_S (N : Nat) : FSum := ⟨Zq67_ps, Zq67_rs, fun x => Zq67 N x.1 x.2.1⟩
theorem Zq67_pc (N : Nat) : PC Tryz.prog 57 (Zq67_S N) := pcQ (L := [Zq67_l0_s N]) (Zq67_gok N) Tryz.call57 Tryz.func57 (fun x => by kernel_rfl) ⟨Zq67_l0_ok N, trivial⟩ (by kernel_rfl)

abbrev Zq58_ps : List (PV.Mode × Ty) := [(.mut, BQOU8QIU64)]
abbrev Zq58_rs : List (Bool × Ty) := [(false, QILLI)]
noncomputable def Zq58_G (N : Nat) : GTab := gOf [(37, Zq57_S N), (49, Zq61_S N), (50, Zq60_S N), (47, Zq65_S N), (57, Zq67_S N)]
theorem Zq58_gok (N : Nat) : GOk Tryz.prog (Zq58_G N) := gOf_ok ⟨Zq57_pc N, Zq61_pc N, Zq60_pc N, Zq65_pc N, Zq67_pc N, trivial⟩
noncomputable def Zq58_code : Code := (Tryz.f35.body).getD .skip
noncomputable def Zq58_l0_0_sh : Sh := ⟨[(0, .one (.adr 0 0)), (2, .one (.adr 1 0)), (3, .one (.adr 2 0)), (4, .one (.ro I)), (5, .one (.ro I)), (6, .one (.ref 3)), (7, .one (.ro I)), (8, .one (.ro I))], [.mbox QOU8QIU64, .box [.ro I, .nilsl], .box [.ro I, .ref 4], .sl 3 I .own, .sl 33 LI .deep]⟩
noncomputable def Zq58_l0_0_ex : List (Ex × Sh) := [(.exit 2, ⟨[(0, .one (.adr 0 0)), (2, .one (.adr 1 0)), (3, .one (.adr 2 0)), (4, .one (.ro I)), (5, .one (.ro I)), (6, .one (.ref 3))], [.mbox QOU8QIU64, .box [.ro I, .nilsl], .box [.ro I, .ref 4], .sl 3 I .own, .sl 33 LI .deep]⟩)]
noncomputable def Zq58_l0_0 {R : Type} (N : Nat) (k0 : Int → Int → ((List Int) × (Int × Int)) → Int → Int → (List Int) → (List (List Int)) → Option R) : Nat → Int → Int → Int → Int → ((List Int) × (Int × Int)) → Int → Int → (List Int) → (List (List Int)) → Option R
 | 0, _, _, _, _, _, _, _, _, _ => none
 | K + 1, x2, x3, x4, x5, o4, o5, o6, o7, o8 =>
 (br (ilt x5 x4)
 ((br (ilt 0 o6)
 (((Zq61 N o4 o6).bind fun r4 =>
 ((Zq60 N r4.2.1 2).bind fun r5 =>
 (br r5.1.1
 ((br (ieq x2 2)
 ((br (ilt 0 x5)
 (((Zq65 N (IntKind.i64.wrap (0 - (IntKind.i64.wrap (1 + r4.1.1)))) (IntKind.i64.wrap (0 - (IntKind.i64.wrap (0 - (IntKind.i64.wrap (1 + r4.1.1))))))).bind fun r6 =>
 (br (ieq x2 0)
 ((br (ilt 1 x5)
 (Zq58_l0_0 N k0 K x2 x3 x4 (IntKind.i64.wrap (x5 + 1)) r5.2.1 o5 o6 o7 o8)
 (((Zq67 N o7 r6.1.1).bind fun r7 =>
 Zq58_l0_0 N k0 K x2 x3 x4 (IntKind.i64.wrap (x5 + 1)) r5.2.1 o5 o6 r7.1.1 o8))))
 (((Zq67 N o7 r6.1.1).bind fun r8 =>
 Zq58_l0_0 N k0 K x2 x3 x4 (IntKind.i64.wrap (x5 + 1)) r5.2.1 o5 o6 r8.1.1 o8)))))
 ((br (ieq x2 0)
 ((br (ilt 1 x5)
 (Zq58_l0_0 N k0 K x2 x3 x4 (IntKind.i64.wrap (x5 + 1)) r5.2.1 o5 o6 o7 o8)
 (((Zq67 N o7 (IntKind.i64.wrap (0 - (IntKind.i64.wrap (1 + r4.1.1))))).bind fun r9 =>
 Zq58_l0_0 N k0 K x2 x3 x4 (IntKind.i64.wrap (x5 + 1)) r5.2.1 o5 o6 r9.1.1 o8))))
 (((Zq67 N o7 (IntKind.i64.wrap (0 - (IntKind.i64.wrap (1 + r4.1.1))))).bind fun r10 =>
 Zq58_l0_0 N k0 K x2 x3 x4 (IntKind.i64.wrap (x5 + 1)) r5.2.1 o5 o6 r10.1.1 o8))))))
 ((br (ieq x2 0)
 ((br (ilt 1 x5)
 (Zq58_l0_0 N k0 K x2 x3 x4 (IntKind.i64.wrap (x5 + 1)) r5.2.1 o5 o6 o7 o8)
 (((Zq67 N o7 (IntKind.i64.wrap (0 - (IntKind.i64.wrap (1 + r4.1.1))))).bind fun r11 =>
 Zq58_l0_0 N k0 K x2 x3 x4 (IntKind.i64.wrap (x5 + 1)) r5.2.1 o5 o6 r11.1.1 o8))))
 (((Zq67 N o7 (IntKind.i64.wrap (0 - (IntKind.i64.wrap (1 + r4.1.1))))).bind fun r12 =>
 Zq58_l0_0 N k0 K x2 x3 x4 (IntKind.i64.wrap (x5 + 1)) r5.2.1 o5 o6 r12.1.1 o8))))))
 ((br (ieq x2 1)
 ((br (ilt 0 x5)
 ((br (ieq x2 2)
 ((br (ilt 0 x5)
 (((Zq65 N (IntKind.i64.wrap (0 - (IntKind.i64.wrap (1 + r4.1.1)))) (IntKind.i64.wrap (0 - (IntKind.i64.wrap (0 - (IntKind.i64.wrap (1 + r4.1.1))))))).bind fun r13 =>
 (br (ieq x2 0)
 ((br (ilt 1 x5)
 (Zq58_l0_0 N k0 K x2 x3 x4 (IntKind.i64.wrap (x5 + 1)) r5.2.1 o5 o6 o7 o8)
 (((Zq67 N o7 r13.1.1).bind fun r14 =>
 Zq58_l0_0 N k0 K x2 x3 x4 (IntKind.i64.wrap (x5 + 1)) r5.2.1 o5 o6 r14.1.1 o8))))
 (((Zq67 N o7 r13.1.1).bind fun r15 =>
 Zq58_l0_0 N k0 K x2 x3 x4 (IntKind.i64.wrap (x5 + 1)) r5.2.1 o5 o6 r15.1.1 o8)))))
 ((br (ieq x2 0)
 ((br (ilt 1 x5)
 (Zq58_l0_0 N k0 K x2 x3 x4 (IntKind.i64.wrap (x5 + 1)) r5.2.1 o5 o6 o7 o8)
 (((Zq67 N o7 (IntKind.i64.wrap (0 - (IntKind.i64.wrap (1 + r4.1.1))))).bind fun r16 =>
 Zq58_l0_0 N k0 K x2 x3 x4 (IntKind.i64.wrap (x5 + 1)) r5.2.1 o5 o6 r16.1.1 o8))))
 (((Zq67 N o7 (IntKind.i64.wrap (0 - (IntKind.i64.wrap (1 + r4.1.1))))).bind fun r17 =>
 Zq58_l0_0 N k0 K x2 x3 x4 (IntKind.i64.wrap (x5 + 1)) r5.2.1 o5 o6 r17.1.1 o8))))))
 ((br (ieq x2 0)
 ((br (ilt 1 x5)
 (Zq58_l0_0 N k0 K x2 x3 x4 (IntKind.i64.wrap (x5 + 1)) r5.2.1 o5 o6 o7 o8)
 (((Zq67 N o7 (IntKind.i64.wrap (0 - (IntKind.i64.wrap (1 + r4.1.1))))).bind fun r18 =>
 Zq58_l0_0 N k0 K x2 x3 x4 (IntKind.i64.wrap (x5 + 1)) r5.2.1 o5 o6 r18.1.1 o8))))
 (((Zq67 N o7 (IntKind.i64.wrap (0 - (IntKind.i64.wrap (1 + r4.1.1))))).bind fun r19 =>
 Zq58_l0_0 N k0 K x2 x3 x4 (IntKind.i64.wrap (x5 + 1)) r5.2.1 o5 o6 r19.1.1 o8))))))
 ((br (ieq x2 2)
 ((br (ilt 0 x5)
 (((Zq65 N (IntKind.i64.wrap (1 + r4.1.1)) (IntKind.i64.wrap (0 - (IntKind.i64.wrap (1 + r4.1.1))))).bind fun r20 =>
 (br (ieq x2 0)
 ((br (ilt 1 x5)
 (Zq58_l0_0 N k0 K x2 x3 x4 (IntKind.i64.wrap (x5 + 1)) r5.2.1 o5 o6 o7 o8)
 (((Zq67 N o7 r20.1.1).bind fun r21 =>
 Zq58_l0_0 N k0 K x2 x3 x4 (IntKind.i64.wrap (x5 + 1)) r5.2.1 o5 o6 r21.1.1 o8))))
 (((Zq67 N o7 r20.1.1).bind fun r22 =>
 Zq58_l0_0 N k0 K x2 x3 x4 (IntKind.i64.wrap (x5 + 1)) r5.2.1 o5 o6 r22.1.1 o8)))))
 ((br (ieq x2 0)
 ((br (ilt 1 x5)
 (Zq58_l0_0 N k0 K x2 x3 x4 (IntKind.i64.wrap (x5 + 1)) r5.2.1 o5 o6 o7 o8)
 (((Zq67 N o7 (IntKind.i64.wrap (1 + r4.1.1))).bind fun r23 =>
 Zq58_l0_0 N k0 K x2 x3 x4 (IntKind.i64.wrap (x5 + 1)) r5.2.1 o5 o6 r23.1.1 o8))))
 (((Zq67 N o7 (IntKind.i64.wrap (1 + r4.1.1))).bind fun r24 =>
 Zq58_l0_0 N k0 K x2 x3 x4 (IntKind.i64.wrap (x5 + 1)) r5.2.1 o5 o6 r24.1.1 o8))))))
 ((br (ieq x2 0)
 ((br (ilt 1 x5)
 (Zq58_l0_0 N k0 K x2 x3 x4 (IntKind.i64.wrap (x5 + 1)) r5.2.1 o5 o6 o7 o8)
 (((Zq67 N o7 (IntKind.i64.wrap (1 + r4.1.1))).bind fun r25 =>
 Zq58_l0_0 N k0 K x2 x3 x4 (IntKind.i64.wrap (x5 + 1)) r5.2.1 o5 o6 r25.1.1 o8))))
 (((Zq67 N o7 (IntKind.i64.wrap (1 + r4.1.1))).bind fun r26 =>
 Zq58_l0_0 N k0 K x2 x3 x4 (IntKind.i64.wrap (x5 + 1)) r5.2.1 o5 o6 r26.1.1 o8))))))))
 ((br (ieq x2 2)
 ((br (ilt 0 x5)
 (((Zq65 N (IntKind.i64.wrap (1 + r4.1.1)) (IntKind.i64.wrap (0 - (IntKind.i64.wrap (1 + r4.1.1))))).bind fun r27 =>
 (br (ieq x2 0)
 ((br (ilt 1 x5)
 (Zq58_l0_0 N k0 K x2 x3 x4 (IntKind.i64.wrap (x5 + 1)) r5.2.1 o5 o6 o7 o8)
 (((Zq67 N o7 r27.1.1).bind fun r28 =>
 Zq58_l0_0 N k0 K x2 x3 x4 (IntKind.i64.wrap (x5 + 1)) r5.2.1 o5 o6 r28.1.1 o8))))
 (((Zq67 N o7 r27.1.1).bind fun r29 =>
 Zq58_l0_0 N k0 K x2 x3 x4 (IntKind.i64.wrap (x5 + 1)) r5.2.1 o5 o6 r29.1.1 o8)))))
 ((br (ieq x2 0)
 ((br (ilt 1 x5)
 (Zq58_l0_0 N k0 K x2 x3 x4 (IntKind.i64.wrap (x5 + 1)) r5.2.1 o5 o6 o7 o8)
 (((Zq67 N o7 (IntKind.i64.wrap (1 + r4.1.1))).bind fun r30 =>
 Zq58_l0_0 N k0 K x2 x3 x4 (IntKind.i64.wrap (x5 + 1)) r5.2.1 o5 o6 r30.1.1 o8))))
 (((Zq67 N o7 (IntKind.i64.wrap (1 + r4.1.1))).bind fun r31 =>
 Zq58_l0_0 N k0 K x2 x3 x4 (IntKind.i64.wrap (x5 + 1)) r5.2.1 o5 o6 r31.1.1 o8))))))
 ((br (ieq x2 0)
 ((br (ilt 1 x5)
 (Zq58_l0_0 N k0 K x2 x3 x4 (IntKind.i64.wrap (x5 + 1)) r5.2.1 o5 o6 o7 o8)
 (((Zq67 N o7 (IntKind.i64.wrap (1 + r4.1.1))).bind fun r32 =>
 Zq58_l0_0 N k0 K x2 x3 x4 (IntKind.i64.wrap (x5 + 1)) r5.2.1 o5 o6 r32.1.1 o8))))
 (((Zq67 N o7 (IntKind.i64.wrap (1 + r4.1.1))).bind fun r33 =>
 Zq58_l0_0 N k0 K x2 x3 x4 (IntKind.i64.wrap (x5 + 1)) r5.2.1 o5 o6 r33.1.1 o8))))))))))))
 (k0 x2 x3 o4 o5 o6 o7 o8)))
 (k0 x2 x3 o4 o5 o6 o7 o8))
noncomputable def Zq58_l0_0_again {R : Type} (N : Nat) (ks : KS Zq58_l0_0_ex R) (k : Nat) (x : Zq58_l0_0_sh.T) : Option R :=
 Zq58_l0_0 N (fun y0 y1 y2 y3 y4 y5 y6 => ks 0 (((), (), (), y0, y1, (), ()), (y2, (y3, (), ()), (y4, (), ()), y5, y6, ()))) k x.1.2.2.2.1 x.1.2.2.2.2.1 x.1.2.2.2.2.2.2.1 x.1.2.2.2.2.2.2.2.1 x.2.1 x.2.2.1.1 x.2.2.2.1.1 x.2.2.2.2.1 x.2.2.2.2.2.1
noncomputable def Zq58_l0_0_s (N : Nat) : LSum := ⟨Zq58_l0_0_sh, Zq58_l0_0_ex, fun x ks => Zq58_l0_0_again N ks N x⟩
theorem Zq58_l0_0_ok (N : Nat) : LoopOk Tryz.prog Tryz.f35.ntmps (Zq58_l0_0_s N) (loopAt (loopAt Zq58_code 0) 0) := loopQ (sh := Zq58_l0_0_sh) (ex := Zq58_l0_0_ex) (N := N) (L := []) (fun R k x ks => Zq58_l0_0_again N ks k x) (Zq58_gok N) (fun _ _ _ => rfl) (fun R k x ks => by kernel_rfl) trivial (by kernel_rfl)
noncomputable def Zq58_l0_sh : Sh := ⟨[(0, .one (.adr 0 0)), (2, .one (.adr 1 0)), (3, .one (.adr 2 0)), (4, .one (.ro I)), (5, .one (.ro I))], [.mbox QOU8QIU64, .box [.ro I, .nilsl], .box [.ro I, .ref 3], .sl 33 LI .deep]⟩
noncomputable def Zq58_l0_ex : List (Ex × Sh) := [(.exit 0, ⟨[(0, .one (.adr 0 0)), (2, .one (.adr 1 0)), (3, .one (.adr 2 0))], [.mbox QOU8QIU64, .box [.ro I, .nilsl], .box [.ro I, .ref 3], .sl 33 LI .deep]⟩)]
noncomputable def Zq58_l0 {R : Type} (N : Nat) (k0 : ((List Int) × (Int × Int)) → Int → Int → (List (List Int)) → Option R) : Nat → Int → Int → ((List Int) × (Int × Int)) → Int → Int → (List (List Int)) → Option R
 | 0, _, _, _, _, _, _ => none
 | K + 1, x, x1, o, o1, o2, o3 =>
 (br (ilt 0 x1)
 (((Zq61 N o 3).bind fun r3 =>
 Zq58_l0_0 N (fun x2 x3 o4 o5 o6 o7 o8 => (br (ilt 0 (tLen o7))
 ((chk (room o8 [o7])
 (Zq58_l0 N k0 K x2 (IntKind.i64.wrap (x3 - 1)) o4 o5 o6 (tApp o8 [o7]))))
 (((Zq60 N o4 8).bind fun r4 =>
 (br r4.1.1
 ((chk (room o8 [o7])
 (Zq58_l0 N k0 K x2 (IntKind.i64.wrap (x3 - 1)) r4.2.1 o5 o6 (tApp o8 [o7]))))
 (Zq58_l0 N k0 K x2 (IntKind.i64.wrap (x3 - 1)) r4.2.1 o5 o6 o8)))))) N x x1 (IntKind.i64.wrap (1 + r3.1.1)) 0 r3.2.1 o1 o2 [] o3))
 (k0 o o1 o2 o3))
noncomputable def Zq58_l0_again {R : Type} (N : Nat) (ks : KS Zq58_l0_ex R) (k : Nat) (x : Zq58_l0_sh.T) : Option R :=
 Zq58_l0 N (fun y0 y1 y2 y3 => ks 0 (((), (), (), ()), (y0, (y1, (), ()), (y2, (), ()), y3, ()))) k x.1.2.2.2.1 x.1.2.2.2.2.1 x.2.1 x.2.2.1.1 x.2.2.2.1.1 x.2.2.2.2.1
noncomputable def Zq58_l0_s (N : Nat) : LSum := ⟨Zq58_l0_sh, Zq58_l0_ex, fun x ks => Zq58_l0_again N ks N x⟩
theorem Zq58_l0_ok (N : Nat) : LoopOk Tryz.prog Tryz.f35.ntmps (Zq58_l0_s N) (loopAt Zq58_code 0) := loopQ (sh := Zq58_l0_sh) (ex := Zq58_l0_ex) (N := N) (L := [Zq58_l0_0_s N]) (fun R k x ks => Zq58_l0_again N ks k x) (Zq58_gok N) (fun _ _ _ => rfl) (fun R k x ks => by kernel_rfl) ⟨Zq58_l0_0_ok N, trivial⟩ (by kernel_rfl)
noncomputable def Zq58_l1_sh : Sh := ⟨[(0, .one (.adr 0 0)), (2, .one (.adr 1 0)), (3, .one (.adr 2 0)), (10, .one (.ro I))], [.mbox QOU8QIU64, .box [.ro I, .nilsl], .box [.ro I, .ref 3], .sl 33 LI .deep]⟩
noncomputable def Zq58_l1_ex : List (Ex × Sh) := [(.exit 5, ⟨[(0, .one (.adr 0 0)), (2, .one (.adr 1 0)), (3, .one (.adr 2 0))], [.mbox QOU8QIU64, .box [.ro I, .nilsl], .box [.ro I, .ref 3], .sl 33 LI .deep]⟩)]
noncomputable def Zq58_l1 {R : Type} (N : Nat) (k0 : ((List Int) × (Int × Int)) → Int → Int → (List (List Int)) → Option R) : Nat → Int → ((List Int) × (Int × Int)) → Int → Int → (List (List Int)) → Option R
 | 0, _, _, _, _, _ => none
 | K + 1, x, o4, o5, o6, o7 =>
 (br (ilt (tLen o7) x)
 ((chk (room o7 [[(-1), 1]])
 (Zq58_l1 N k0 K x o4 o5 o6 (tApp o7 [[(-1), 1]]))))
 (k0 o4 o5 o6 o7))
noncomputable def Zq58_l1_again {R : Type} (N : Nat) (ks : KS Zq58_l1_ex R) (k : Nat) (x : Zq58_l1_sh.T) : Option R :=
 Zq58_l1 N (fun y0 y1 y2 y3 => ks 0 (((), (), (), ()), (y0, (y1, (), ()), (y2, (), ()), y3, ()))) k x.1.2.2.2.1 x.2.1 x.2.2.1.1 x.2.2.2.1.1 x.2.2.2.2.1
noncomputable def Zq58_l1_s (N : Nat) : LSum := ⟨Zq58_l1_sh, Zq58_l1_ex, fun x ks => Zq58_l1_again N ks N x⟩
theorem Zq58_l1_ok (N : Nat) : LoopOk Tryz.prog Tryz.f35.ntmps (Zq58_l1_s N) (loopAt Zq58_code 1) := loopQ (sh := Zq58_l1_sh) (ex := Zq58_l1_ex) (N := N) (L := []) (fun R k x ks => Zq58_l1_again N ks k x) (Zq58_gok N) (fun _ _ _ => rfl) (fun R k x ks => by kernel_rfl) trivial (by kernel_rfl)
noncomputable def Zq58 (N : Nat) (c : ((List Int) × (Int × Int))) : Option (((Int × (List (List Int))) × Unit) × (((List Int) × (Int × Int)) × Unit)) :=
 ((Zq57 N c [4, 3, 5, 2, 6, 1, 0]).bind fun r =>
 ((Zq61 N r.2.1 5).bind fun r1 =>
 (br (ieq r1.1.1 4)
 (((Zq57 N r1.2.1 [2, 3, 4, 6, 1, 0]).bind fun r2 =>
 Zq58_l0 N (fun o o1 o2 o3 => ((Zq61 N o 40).bind fun r3 =>
 (br (ieq r3.1.1 0)
 (((Zq57 N r3.2.1 [(-1), 7, 6]).bind fun r4 =>
 some (((r4.1.1, o3), ()), (r4.2.1, ()))))
 ((br (ieq r3.1.1 1)
 (((Zq57 N (r3.2.1.1, (r3.2.1.2.1, r3.2.1.2.2)) [0, 7, (-7), 1]).bind fun r5 =>
 (chk (room o3 [[r5.1.1]])
 (some (((o2, (tApp o3 [[r5.1.1]])), ()), (r5.2.1, ()))))))
 ((br (ieq r3.1.1 2)
 ((chk (room o3 [[2, 1]])
 (some (((o2, (tApp o3 [[2, 1]])), ()), (r3.2.1, ())))))
 ((br (ieq r3.1.1 3)
 (((Zq61 N r3.2.1 2).bind fun r6 =>
 Zq58_l1 N (fun o4 o5 o6 o7 => some (((o6, o7), ()), (o4, ()))) N (IntKind.i64.wrap (64 + r6.1.1)) r6.2.1 o1 o2 o3))
 (some (((o2, o3), ()), (r3.2.1, ())))))))))))) N 3 r2.1.1 r2.2.1 0 r.1.1 []))
 (((Zq57 N r1.2.1 [2, 3, 4, 6, 1, 0]).bind fun r7 =>
 Zq58_l0 N (fun o8 o9 o10 o11 => ((Zq61 N o8 40).bind fun r8 =>
 (br (ieq r8.1.1 0)
 (((Zq57 N r8.2.1 [(-1), 7, 6]).bind fun r9 =>
 some (((r9.1.1, o11), ()), (r9.2.1, ()))))
 ((br (ieq r8.1.1 1)
 (((Zq57 N (r8.2.1.1, (r8.2.1.2.1, r8.2.1.2.2)) [0, 7, (-7), 1]).bind fun r10 =>
 (chk (room o11 [[r10.1.1]])
 (some (((o10, (tApp o11 [[r10.1.1]])), ()), (r10.2.1, ()))))))
 ((br (ieq r8.1.1 2)
 ((chk (room o11 [[2, 1]])
 (some (((o10, (tApp o11 [[2, 1]])), ()), (r8.2.1, ())))))
 ((br (ieq r8.1.1 3)
 (((Zq61 N r8.2.1 2).bind fun r11 =>
 Zq58_l1 N (fun o12 o13 o14 o15 => some (((o14, o15), ()), (o12, ()))) N (IntKind.i64.wrap (64 + r11.1.1)) r11.2.1 o9 o10 o11))
 (some (((o10, o11), ()), (r8.2.1, ())))))))))))) N r1.1.1 r7.1.1 r7.2.1 0 r.1.1 [])))))
noncomputable def Zq58_S (N : Nat) : FSum := ⟨Zq58_ps, Zq58_rs, fun x => Zq58 N x.1⟩
theorem Zq58_pc (N : Nat) : PC Tryz.prog 35 (Zq58_S N) := pcQ (L := [Zq58_l0_s N, Zq58_l1_s N]) (Zq58_gok N) Tryz.call35 Tryz.func35 (fun x => by kernel_rfl) ⟨Zq58_l0_ok N, Zq58_l1_ok N, trivial⟩ (by kernel_rfl)

abbrev Zq63_ps : List (PV.Mode × Ty) := [(.ro, I), (.ro, I), (.ro, I)]
abbrev Zq63_rs : List (Bool × Ty) := [(true, .bool)]
noncomputable def Zq63_G (N : Nat) : GTab := gOf []
theorem Zq63_gok (N : Nat) : GOk Tryz.prog (Zq63_G N) := gOf_ok trivial
noncomputable def Zq63_code : Code := (Tryz.f42.body).getD .skip
noncomputable def Zq63 (N : Nat) (x : Int) (a : Int) (b : Int) : Option ((Bool × Unit) × (Unit)) :=
 (br (ile a x)
 (some (((ile x b), ()), ()))
 (some ((false, ()), ())))
noncomputable def Zq63_S (N : Nat) : FSum := ⟨Zq63_ps, Zq63_rs, fun x => Zq63 N x.1 x.2.1 x.2.2.1⟩
theorem Zq63_pc (N : Nat) : PC Tryz.prog 42 (Zq63_S N) := pcQ (L := []) (Zq63_gok N) Tryz.call42 Tryz.func42 (fun x => by kernel_rfl) trivial (by kernel_rfl)

abbrev Zq77_ps : List (PV.Mode × Ty) := [(.ro, I), (.ro, I)]
abbrev Zq77_rs : List (Bool × Ty) := [(true, .bool)]
noncomputable def Zq77_G (N : Nat) : GTab := gOf [(42, Zq63_S N)]
theorem Zq77_gok (N : Nat) : GOk Tryz.prog (Zq77_G N) := gOf_ok ⟨Zq63_pc N, trivial⟩
noncomputable def Zq77_code : Code := (Tryz.f78.body).getD .skip
noncomputable def Zq77 (N : Nat) (vars : Int) (x : Int) : Option ((Bool × Unit) × (Unit)) :=
 (br (ine x 0)
 (((Zq63 N x (IntKind.i64.wrap (0 - vars)) vars).bind fun r =>
 some ((r.1.1, ()), ())))
 (some ((false, ()), ())))
noncomputable def Zq77_S (N : Nat) : FSum := ⟨Zq77_ps, Zq77_rs, fun x => Zq77 N x.1 x.2.1⟩
theorem Zq77_pc (N : Nat) : PC Tryz.prog 78 (Zq77_S N) := pcQ (L := []) (Zq77_gok N) Tryz.call78 Tryz.func78 (fun x => by kernel_rfl) trivial (by kernel_rfl)

abbrev Zq75_ps : List (PV.Mode × Ty) := [(.ro, QILLI)]
abbrev Zq75_rs : List (Bool × Ty) := [(true, .bool)]
noncomputable def Zq75_G (N : Nat) : GTab := gOf [(42, Zq63_S N), (78, Zq77_S N)]
theorem Zq75_gok (N : Nat) : GOk Tryz.prog (Zq75_G N) := gOf_ok ⟨Zq63_pc N, Zq77_pc N, trivial⟩
noncomputable def Zq75_code : Code := (Tryz.f36.body).getD .skip
noncomputable def Zq75_l0_0_sh : Sh := ⟨[(1, .one (.adr 0 0)), (3, .one (.ro I)), (4, .one (.ro I))], [.box [.ro I, .ro LLI]]⟩
noncomputable def Zq75_l0_0_ex : List (Ex × Sh) := [(.ret, ⟨[(2, .one (.ro .bool))], []⟩), (.exit 2, ⟨[(1, .one (.adr 0 0)), (3, .one (.ro I))], [.box [.ro I, .ro LLI]]⟩)]
noncomputable def Zq75_l0_0 {R : Type} (N : Nat) (k0 : Bool → Option R) (k1 : Int → Int → (List (List Int)) → Option R) : Nat → Int → Int → Int → (List (List Int)) → Option R
 | 0, _, _, _, _ => none
 | K + 1, x1, x2, o2, o3 =>
 (chk (inb o3 x1)
 (br (ilt x2 (tLen (rdL o3 x1)))
 ((chk (inb o3 x1)
 (chk (inb (rdL o3 x1) x2)
 ((Zq77 N o2 (rdI (rdL o3 x1) x2)).bind fun r1 =>
 (br (!r1.1.1)
 (k0 false)
 ((br (ilt 0 x2)
 ((chk (inb o3 x1)
 (chk (inb (rdL o3 x1) (IntKind.i64.wrap (x2 - 1)))
 (chk (inb o3 x1)
 (chk (inb (rdL o3 x1) x2)
 (br (ile (rdI (rdL o3 x1) x2) (rdI (rdL o3 x1) (IntKind.i64.wrap (x2 - 1))))
 (k0 false)
 (Zq75_l0_0 N k0 k1 K x1 (IntKind.i64.wrap (x2 + 1)) o2 o3)))))))
 (Zq75_l0_0 N k0 k1 K x1 (IntKind.i64.wrap (x2 + 1)) o2 o3))))))))
 (k1 x1 o2 o3)))
noncomputable def Zq75_l0_0_again {R : Type} (N : Nat) (ks : KS Zq75_l0_0_ex R) (k : Nat) (x : Zq75_l0_0_sh.T) : Option R :=
 Zq75_l0_0 N (fun y0 => ks 0 ((y0, ()), ())) (fun y0 y1 y2 => ks 1 (((), y0, ()), ((y1, y2, ()), ()))) k x.1.2.1 x.1.2.2.1 x.2.1.1 x.2.1.2.1
noncomputable def Zq75_l0_0_s (N : Nat) : LSum := ⟨Zq75_l0_0_sh, Zq75_l0_0_ex, fun x ks => Zq75_l0_0_again N ks N x⟩
theorem Zq75_l0_0_ok (N : Nat) : LoopOk Tryz.prog Tryz.f36.ntmps (Zq75_l0_0_s N) (loopAt (loopAt Zq75_code 0) 0) := loopQ (sh := Zq75_l0_0_sh) (ex := Zq75_l0_0_ex) (N := N) (L := []) (fun R k x ks => Zq75_l0_0_again N ks k x) (Zq75_gok N) (fun _ _ _ => rfl) (fun R k x ks => by kernel_rfl) trivial (by kernel_rfl)
noncomputable def Zq75_l0_sh : Sh := ⟨[(1, .one (.adr 0 0)), (3, .one (.ro I))], [.box [.ro I, .ro LLI]]⟩
noncomputable def Zq75_l0_ex : List (Ex × Sh) := [(.ret, ⟨[(2, .one (.ro .bool))], []⟩), (.exit 0, ⟨[], []⟩)]
noncomputable def Zq75_l0 {R : Type} (N : Nat) (k0 : Bool → Option R) (k1 : Unit → Option R) : Nat → Int → Int → (List (List Int)) → Option R
 | 0, _, _, _ => none
 | K + 1, x, o, o1 =>
 (br (ilt x (tLen o1))
 (Zq75_l0_0 N (fun x1 => k0 x1) (fun x2 o2 o3 => Zq75_l0 N k0 k1 K (IntKind.i64.wrap (x2 + 1)) o2 o3) N x 0 o o1)
 (k1 ()))
noncomputable def Zq75_l0_again {R : Type} (N : Nat) (ks : KS Zq75_l0_ex R) (k : Nat) (x : Zq75_l0_sh.T) : Option R :=
 Zq75_l0 N (fun y0 => ks 0 ((y0, ()), ())) (fun (_ : Unit) => ks 1 ((), ())) k x.1.2.1 x.2.1.1 x.2.1.2.1
noncomputable def Zq75_l0_s (N : Nat) : LSum := ⟨Zq75_l0_sh, Zq75_l0_ex, fun x ks => Zq75_l0_again N ks N x⟩
theorem Zq75_l0_ok (N : Nat) : LoopOk Tryz.prog Tryz.f36.ntmps (Zq75_l0_s N) (loopAt Zq75_code 0) := loopQ (sh := Zq75_l0_sh) (ex := Zq75_l0_ex) (N := N) (L := [Zq75_l0_0_s N]) (fun R k x ks => Zq75_l0_again N ks k x) (Zq75_gok N) (fun _ _ _ => rfl) (fun R k x ks => by kernel_rfl) ⟨Zq75_l0_0_ok N, trivial⟩ (by kernel_rfl)
noncomputable def Zq75 (N : Nat) (c : (Int × (List (List Int)))) : Option ((Bool × Unit) × (Unit)) :=
 ((Zq63 N c.1 0 6).bind fun r =>
 (br (!r.1.1)
 (some ((false, ()), ()))
 ((br (ilt 64 (tLen c.2))
 (some ((false, ()), ()))
 (Zq75_l0 N (fun x => some ((x, ()), ())) (fun (_ : Unit) => some ((true, ()), ())) N 0 c.1 c.2)))))
noncomputable def Zq75_S (N : Nat) : FSum := ⟨Zq75_ps, Zq75_rs, fun x => Zq75 N x.1⟩
theorem Zq75_pc (N : Nat) : PC Tryz.prog 36 (Zq75_S N) := pcQ (L := [Zq75_l0_s N]) (Zq75_gok N) Tryz.call36 Tryz.func36 (fun x => by kernel_rfl) ⟨Zq75_l0_ok N, trivial⟩ (by kernel_rfl)

abbrev Zq50_ps : List (PV.Mode × Ty) := [(.ro, LU8)]
abbrev Zq50_rs : List (Bool × Ty) := [(false, QILLI), (false, I)]
noncomputable def Zq50_G (N : Nat) : GTab := gOf [(35, Zq58_S N), (36, Zq75_S N), (37, Zq57_S N)]
theorem Zq50_gok (N : Nat) : GOk Tryz.prog (Zq50_G N) := gOf_ok ⟨Zq58_pc N, Zq75_pc N, Zq57_pc N, trivial⟩
noncomputable def Zq50_code : Code := (Tryz.f6.body).getD .skip
noncomputable def Zq50 (N : Nat) (code : (List Int)) : Option (((Int × (List (List Int))) × Int × Unit) × (Unit)) :=
 ((Zq58 N (code, (0, 0))).bind fun r =>
 ((Zq75 N (r.1.1.1, r.1.1.2)).bind fun r1 =>
 (br r1.1.1
 ((br (ilt 5 r.1.1.1)
 (((Zq57 N (r.2.1.1, (r.2.1.2.1, r.2.1.2.2)) [1, 2, 3, 4, 1, 2, 3, 4, 0, 5]).bind fun r2 =>
 some (((6, r.1.1.2), r2.1.1, ()), ())))
 (((Zq57 N (r.2.1.1, (r.2.1.2.1, r.2.1.2.2)) [1, 2, 3, 4, 1, 2, 3, 4, 0, 5]).bind fun r3 =>
 some (((r.1.1.1, r.1.1.2), r3.1.1, ()), ())))))
 (((Zq57 N (r.2.1.1, (r.2.1.2.1, r.2.1.2.2)) [1, 2, 3, 4, 1, 2, 3, 4, 0, 5]).bind fun r4 =>
 some (((r.1.1.1, r.1.1.2), r4.1.1, ()), ()))))))
noncomputable def Zq50_S (N : Nat) : FSum := ⟨Zq50_ps, Zq50_rs, fun x => Zq50 N x.1⟩
theorem Zq50_pc (N : Nat) : PC Tryz.prog 6 (Zq50_S N) := pcQ (L := []) (Zq50_gok N) Tryz.call6 Tryz.func6 (fun x => by kernel_rfl) trivial (by kernel_rfl)

abbrev Zq18_ps : List (PV.Mode × Ty) := [(.ro, I), (.ro, I), (.ro, I)]
abbrev Zq18_rs : List (Bool × Ty) := [(true, .bool)]
noncomputable def Zq18_G (N : Nat) : GTab := gOf []
theorem Zq18_gok (N : Nat) : GOk Tryz.prog (Zq18_G N) := gOf_ok trivial
noncomputable def Zq18_code : Code := (Tryz.f39.body).getD .skip
noncomputable def Zq18 (N : Nat) (n : Int) (low : Int) (high : Int) : Option ((Bool × Unit) × (Unit)) :=
 (br (ile low n)
 (some (((ile n high), ()), ()))
 (some ((false, ()), ())))
noncomputable def Zq18_S (N : Nat) : FSum := ⟨Zq18_ps, Zq18_rs, fun x => Zq18 N x.1 x.2.1 x.2.2.1⟩
theorem Zq18_pc (N : Nat) : PC Tryz.prog 39 (Zq18_S N) := pcQ (L := []) (Zq18_gok N) Tryz.call39 Tryz.func39 (fun x => by kernel_rfl) trivial (by kernel_rfl)

abbrev Zq13_ps : List (PV.Mode × Ty) := [(.ro, QILLI)]
abbrev Zq13_rs : List (Bool × Ty) := [(true, .bool)]
noncomputable def Zq13_G (N : Nat) : GTab := gOf [(39, Zq18_S N)]
theorem Zq13_gok (N : Nat) : GOk Tryz.prog (Zq13_G N) := gOf_ok ⟨Zq18_pc N, trivial⟩
noncomputable def Zq13_code : Code := (Tryz.f38.body).getD .skip
noncomputable def Zq13_l0_0_sh : Sh := ⟨[(1, .one (.adr 0 0)), (4, .one (.ro LI)), (18, .one (.ro LLI)), (19, .one (.ro I)), (20, .one (.ro I)), (24, .one (.ro LI)), (25, .one (.ro I)), (26, .one (.ro I))], [.box [.ro I, .ro LLI]]⟩
noncomputable def Zq13_l0_0_ex : List (Ex × Sh) := [(.ret, ⟨[(2, .one (.ro .bool))], []⟩), (.exit 2, ⟨[(1, .one (.adr 0 0)), (18, .one (.ro LLI)), (19, .one (.ro I)), (20, .one (.ro I))], [.box [.ro I, .ro LLI]]⟩)]
noncomputable def Zq13_l0_0 {R : Type} (N : Nat) (k0 : Bool → Option R) (k1 : (List (List Int)) → Int → Int → Int → (List (List Int)) → Option R) : Nat → (List Int) → (List (List Int)) → Int → Int → (List Int) → Int → Int → Int → (List (List Int)) → Option R
 | 0, _, _, _, _, _, _, _, _, _ => none
 | K + 1, clause, x3, x4, x5, x6, x7, x8, o2, o3 =>
 (br (ilt x8 x7)
 ((chk (inb x6 x8)
 (br (ieq (rdI x6 x8) 0)
 (k0 false)
 (((Zq18 N (rdI x6 x8) (IntKind.i64.wrap (0 - o2)) o2).bind fun r1 =>
 (br (!r1.1.1)
 (k0 false)
 ((br (ilt 0 x8)
 ((chk (inb clause (IntKind.i64.wrap (x8 - 1)))
 (br (ile (rdI x6 x8) (rdI clause (IntKind.i64.wrap (x8 - 1))))
 (k0 false)
 (Zq13_l0_0 N k0 k1 K clause x3 x4 x5 x6 x7 (IntKind.i64.wrap (x8 + 1)) o2 o3))))
 (Zq13_l0_0 N k0 k1 K clause x3 x4 x5 x6 x7 (IntKind.i64.wrap (x8 + 1)) o2 o3)))))))))
 (k1 x3 x4 x5 o2 o3))
noncomputable def Zq13_l0_0_again {R : Type} (N : Nat) (ks : KS Zq13_l0_0_ex R) (k : Nat) (x : Zq13_l0_0_sh.T) : Option R :=
 Zq13_l0_0 N (fun y0 => ks 0 ((y0, ()), ())) (fun y0 y1 y2 y3 y4 => ks 1 (((), y0, y1, y2, ()), ((y3, y4, ()), ()))) k x.1.2.1 x.1.2.2.1 x.1.2.2.2.1 x.1.2.2.2.2.1 x.1.2.2.2.2.2.1 x.1.2.2.2.2.2.2.1 x.1.2.2.2.2.2.2.2.1 x.2.1.1 x.2.1.2.1
noncomputable def Zq13_l0_0_s (N : Nat) : LSum := ⟨Zq13_l0_0_sh, Zq13_l0_0_ex, fun x ks => Zq13_l0_0_again N ks N x⟩
theorem Zq13_l0_0_ok (N : Nat) : LoopOk Tryz.prog Tryz.f38.ntmps (Zq13_l0_0_s N) (loopAt (loopAt Zq13_code 0) 0) := loopQ (sh := Zq13_l0_0_sh) (ex := Zq13_l0_0_ex) (N := N) (L := []) (fun R k x ks => Zq13_l0_0_again N ks k x) (Zq13_gok N) (fun _ _ _ => rfl) (fun R k x ks => by kernel_rfl) trivial (by kernel_rfl)
noncomputable def Zq13_l0_sh : Sh := ⟨[(1, .one (.adr 0 0)), (18, .one (.ro LLI)), (19, .one (.ro I)), (20, .one (.ro I))], [.box [.ro I, .ro LLI]]⟩
noncomputable def Zq13_l0_ex : List (Ex × Sh) := [(.ret, ⟨[(2, .one (.ro .bool))], []⟩), (.exit 0, ⟨[], []⟩)]
noncomputable def Zq13_l0 {R : Type} (N : Nat) (k0 : Bool → Option R) (k1 : Unit → Option R) : Nat → (List (List Int)) → Int → Int → Int → (List (List Int)) → Option R
 | 0, _, _, _, _, _ => none
 | K + 1, x, x1, x2, o, o1 =>
 (br (ilt x2 x1)
 ((chk (inb x x2)
 (Zq13_l0_0 N (fun x3 => k0 x3) (fun x4 x5 x6 o2 o3 => Zq13_l0 N k0 k1 K x4 x5 (IntKind.i64.wrap (x6 + 1)) o2 o3) N (rdL x x2) x x1 x2 (rdL x x2) (tLen (rdL x x2)) 0 o o1)))
 (k1 ()))
noncomputable def Zq13_l0_again {R : Type} (N : Nat) (ks : KS Zq13_l0_ex R) (k : Nat) (x : Zq13_l0_sh.T) : Option R :=
 Zq13_l0 N (fun y0 => ks 0 ((y0, ()), ())) (fun (_ : Unit) => ks 1 ((), ())) k x.1.2.1 x.1.2.2.1 x.1.2.2.2.1 x.2.1.1 x.2.1.2.1
noncomputable def Zq13_l0_s (N : Nat) : LSum := ⟨Zq13_l0_sh, Zq13_l0_ex, fun x ks => Zq13_l0_again N ks N x⟩
theorem Zq13_l0_ok (N : Nat) : LoopOk Tryz.prog Tryz.f38.ntmps (Zq13_l0_s N) (loopAt Zq13_code 0) := loopQ (sh := Zq13_l0_sh) (ex := Zq13_l0_ex) (N := N) (L := [Zq13_l0_0_s N]) (fun R k x ks => Zq13_l0_again N ks k x) (Zq13_gok N) (fun _ _ _ => rfl) (fun R k x ks => by kernel_rfl) ⟨Zq13_l0_0_ok N, trivial⟩ (by kernel_rfl)
noncomputable def Zq13 (N : Nat) (f : (Int × (List (List Int)))) : Option ((Bool × Unit) × (Unit)) :=
 ((Zq18 N f.1 0 6).bind fun r =>
 (br (!r.1.1)
 (some ((false, ()), ()))
 ((br (ilt 64 (tLen f.2))
 (some ((false, ()), ()))
 (Zq13_l0 N (fun x => some ((x, ()), ())) (fun (_ : Unit) => some ((true, ()), ())) N f.2 (tLen f.2) 0 f.1 f.2)))))
noncomputable def Zq13_S (N : Nat) : FSum := ⟨Zq13_ps, Zq13_rs, fun x => Zq13 N x.1⟩
theorem Zq13_pc (N : Nat) : PC Tryz.prog 38 (Zq13_S N) := pcQ (L := [Zq13_l0_s N]) (Zq13_gok N) Tryz.call38 Tryz.func38 (fun x => by kernel_rfl) ⟨Zq13_l0_ok N, trivial⟩ (by kernel_rfl)

abbrev Zq44_ps : List (PV.Mode × Ty) := [(.ro, LLI), (.ro, FLIBo)]
abbrev Zq44_rs : List (Bool × Ty) := [(true, I)]
noncomputable def Zq44_G (N : Nat) : GTab := gOf []
theorem Zq44_gok (N : Nat) : GOk Tryz.prog (Zq44_G N) := gOf_ok trivial
noncomputable def Zq44_code : Code := (Tryz.f88.body).getD .skip
noncomputable def Zq44_l0_sh : Sh := ⟨[(0, .one (.ro LLI)), (1, .one (.ro FLIBo)), (7, .one (.ro I)), (8, .one (.ro I))], []⟩
noncomputable def Zq44_l0_ex : List (Ex × Sh) := [(.ret, ⟨[(4, .one (.ro I))], []⟩), (.exit 0, ⟨[], []⟩)]
noncomputable def Zq44_l0 {R : Type} (N : Nat) (k0 : Int → Option R) (k1 : Unit → Option R) : Nat → (List (List Int)) → ((List Int) → Option Bool) → Int → Int → Option R
 | 0, _, _, _, _ => none
 | K + 1, s1, f1, x, x1 =>
 (br (ilt x1 x)
 ((chk (inb s1 x1)
 ((f1 (rdL s1 x1)).bind fun v =>
 (br v
 (k0 x1)
 (Zq44_l0 N k0 k1 K s1 f1 x (IntKind.i64.wrap (x1 + 1)))))))
 (k1 ()))
noncomputable def Zq44_l0_again {R : Type} (N : Nat) (ks : KS Zq44_l0_ex R) (k : Nat) (x : Zq44_l0_sh.T) : Option R :=
 Zq44_l0 N (fun y0 => ks 0 ((y0, ()), ())) (fun (_ : Unit) => ks 1 ((), ())) k x.1.1 x.1.2.1 x.1.2.2.1 x.1.2.2.2.1
noncomputable def Zq44_l0_s (N : Nat) : LSum := ⟨Zq44_l0_sh, Zq44_l0_ex, fun x ks => Zq44_l0_again N ks N x⟩
theorem Zq44_l0_ok (N : Nat) : LoopOk Tryz.prog Tryz.f88.ntmps (Zq44_l0_s N) (loopAt Zq44_code 0) := loopQ (sh := Zq44_l0_sh) (ex := Zq44_l0_ex) (N := N) (L := []) (fun R k x ks => Zq44_l0_again N ks k x) (Zq44_gok N) (fun _ _ _ => rfl) (fun R k x ks => by kernel_rfl) trivial (by kernel_rfl)
noncomputable def Zq44 (N : Nat) (s : (List (List Int))) (f : ((List Int) → Option Bool)) : Option ((Int × Unit) × (Unit)) :=
 Zq44_l0 N (fun x => some ((x, ()), ())) (fun (_ : Unit) => some (((-1), ()), ())) N s f (tLen s) 0
noncomputable def Zq44_S (N : Nat) : FSum := ⟨Zq44_ps, Zq44_rs, fun x => Zq44 N x.1 x.2.1⟩
theorem Zq44_pc (N : Nat) : PC Tryz.prog 88 (Zq44_S N) := pcQ (L := [Zq44_l0_s N]) (Zq44_gok N) Tryz.call88 Tryz.func88 (fun x => by kernel_rfl) ⟨Zq44_l0_ok N, trivial⟩ (by kernel_rfl)

abbrev Zq40_ps : List (PV.Mode × Ty) := [(.ro, LLI), (.ro, FLIBo)]
abbrev Zq40_rs : List (Bool × Ty) := [(true, .bool)]
noncomputable def Zq40_G (N : Nat) : GTab := gOf [(88, Zq44_S N)]
theorem Zq40_gok (N : Nat) : GOk Tryz.prog (Zq40_G N) := gOf_ok ⟨Zq44_pc N, trivial⟩
noncomputable def Zq40_code : Code := (Tryz.f58.body).getD .skip
noncomputable def Zq40 (N : Nat) (s : (List (List Int))) (f : ((List Int) → Option Bool)) : Option ((Bool × Unit) × (Unit)) :=
 ((Zq44 N s f).bind fun r =>
 some (((ile 0 r.1.1), ()), ()))
noncomputable def Zq40_S (N : Nat) : FSum := ⟨Zq40_ps, Zq40_rs, fun x => Zq40 N x.1 x.2.1⟩
theorem Zq40_pc (N : Nat) : PC Tryz.prog 58 (Zq40_S N) := pcQ (L := []) (Zq40_gok N) Tryz.call58 Tryz.func58 (fun x => by kernel_rfl) trivial (by kernel_rfl)

abbrev Zq27_ps : List (PV.Mode × Ty) := [(.ro, LI), (.ro, I)]
abbrev Zq27_rs : List (Bool × Ty) := [(true, .bool)]
noncomputable def Zq27_G (N : Nat) : GTab := gOf []
theorem Zq27_gok (N : Nat) : GOk Tryz.prog (Zq27_G N) := gOf_ok trivial
noncomputable def Zq27_code : Code := (Tryz.f109.body).getD .skip
noncomputable def Zq27 (N : Nat) (list : (List Int)) (literal : Int) : Option ((Bool × Unit) × (Unit)) :=
 (br (ilt 0 literal)
 ((chk (inb list (IntKind.i64.wrap (literal - 1)))
 (some (((ieq (rdI list (IntKind.i64.wrap (literal - 1))) 1), ()), ()))))
 ((chk (inb list (IntKind.i64.wrap ((-1) - literal)))
 (some (((ieq (rdI list (IntKind.i64.wrap ((-1) - literal))) 0), ()), ())))))
noncomputable def Zq27_S (N : Nat) : FSum := ⟨Zq27_ps, Zq27_rs, fun x => Zq27 N x.1 x.2.1⟩
theorem Zq27_pc (N : Nat) : PC Tryz.prog 109 (Zq27_S N) := pcQ (L := []) (Zq27_gok N) Tryz.call109 Tryz.func109 (fun x => by kernel_rfl) trivial (by kernel_rfl)

abbrev Zq11_ps : List (PV.Mode × Ty) := [(.ro, I), (.ro, ALI)]
abbrev Zq11_rs : List (Bool × Ty) := [(true, .bool)]
noncomputable def Zq11_G (N : Nat) : GTab := gOf [(109, Zq27_S N)]
theorem Zq11_gok (N : Nat) : GOk Tryz.prog (Zq11_G N) := gOf_ok ⟨Zq27_pc N, trivial⟩
noncomputable def Zq11_code : Code := (Tryz.f108.body).getD .skip
noncomputable def Zq11 (N : Nat) (literal : Int) (c : (List Int)) : Option ((Bool × Unit) × (Unit)) :=
 ((Zq27 N c literal).bind fun r =>
 some ((r.1.1, ()), ()))
noncomputable def Zq11_S (N : Nat) : FSum := ⟨Zq11_ps, Zq11_rs, fun x => Zq11 N x.1 x.2.1⟩
theorem Zq11_pc (N : Nat) : PC Tryz.prog 108 (Zq11_S N) := pcQ (L := []) (Zq11_gok N) Tryz.call108 Tryz.func108 (fun x => by kernel_rfl) trivial (by kernel_rfl)

abbrev Zq43_ps : List (PV.Mode × Ty) := [(.ro, LI), (.ro, FIBo)]
abbrev Zq43_rs : List (Bool × Ty) := [(true, I)]
noncomputable def Zq43_G (N : Nat) : GTab := gOf []
theorem Zq43_gok (N : Nat) : GOk Tryz.prog (Zq43_G N) := gOf_ok trivial
noncomputable def Zq43_code : Code := (Tryz.f121.body).getD .skip
noncomputable def Zq43_l0_sh : Sh := ⟨[(0, .one (.ro LI)), (1, .one (.ro FIBo)), (7, .one (.ro I)), (8, .one (.ro I))], []⟩
noncomputable def Zq43_l0_ex : List (Ex × Sh) := [(.ret, ⟨[(4, .one (.ro I))], []⟩), (.exit 0, ⟨[], []⟩)]
noncomputable def Zq43_l0 {R : Type} (N : Nat) (k0 : Int → Option R) (k1 : Unit → Option R) : Nat → (List Int) → (Int → Option Bool) → Int → Int → Option R
 | 0, _, _, _, _ => none
 | K + 1, s1, f1, x, x1 =>
 (br (ilt x1 x)
 ((chk (inb s1 x1)
 ((f1 (rdI s1 x1)).bind fun v =>
 (br v
 (k0 x1)
 (Zq43_l0 N k0 k1 K s1 f1 x (IntKind.i64.wrap (x1 + 1)))))))
 (k1 ()))
noncomputable def Zq43_l0_again {R : Type} (N : Nat) (ks : KS Zq43_l0_ex R) (k : Nat) (x : Zq43_l0_sh.T) : Option R :=
 Zq43_l0 N (fun y0 => ks 0 ((y0, ()), ())) (fun (_ : Unit) => ks 1 ((), ())) k x.1.1 x.1.2.1 x.1.2.2.1 x.1.2.2.2.1
noncomputable def Zq43_l0_s (N : Nat) : LSum := ⟨Zq43_l0_sh, Zq43_l0_ex, fun x ks => Zq43_l0_again N ks N x⟩
theorem Zq43_l0_ok (N : Nat) : LoopOk Tryz.prog Tryz.f121.ntmps (Zq43_l0_s N) (loopAt Zq43_code 0) := loopQ (sh := Zq43_l0_sh) (ex := Zq43_l0_ex) (N := N) (L := []) (fun R k x ks => Zq43_l0_again N ks k x) (Zq43_gok N) (fun _ _ _ => rfl) (fun R k x ks => by kernel_rfl) trivial (by kernel_rfl)
noncomputable def Zq43 (N : Nat) (s : (List Int)) (f : (Int → Option Bool)) : Option ((Int × Unit) × (Unit)) :=
 Zq43_l0 N (fun x => some ((x, ()), ())) (fun (_ : Unit) => some (((-1), ()), ())) N s f (tLen s) 0
noncomputable def Zq43_S (N : Nat) : FSum := ⟨Zq43_ps, Zq43_rs, fun x => Zq43 N x.1 x.2.1⟩
theorem Zq43_pc (N : Nat) : PC Tryz.prog 121 (Zq43_S N) := pcQ (L := [Zq43_l0_s N]) (Zq43_gok N) Tryz.call121 Tryz.func121 (fun x => by kernel_rfl) ⟨Zq43_l0_ok N, trivial⟩ (by kernel_rfl)

abbrev Zq39_ps : List (PV.Mode × Ty) := [(.ro, LI), (.ro, FIBo)]
abbrev Zq39_rs : List (Bool × Ty) := [(true, .bool)]
noncomputable def Zq39_G (N : Nat) : GTab := gOf [(121, Zq43_S N)]
theorem Zq39_gok (N : Nat) : GOk Tryz.prog (Zq39_G N) := gOf_ok ⟨Zq43_pc N, trivial⟩
noncomputable def Zq39_code : Code := (Tryz.f89.body).getD .skip
noncomputable def Zq39 (N : Nat) (s : (List Int)) (f : (Int → Option Bool)) : Option ((Bool × Unit) × (Unit)) :=
 ((Zq43 N s f).bind fun r =>
 some (((ile 0 r.1.1), ()), ()))
noncomputable def Zq39_S (N : Nat) : FSum := ⟨Zq39_ps, Zq39_rs, fun x => Zq39 N x.1 x.2.1⟩
theorem Zq39_pc (N : Nat) : PC Tryz.prog 89 (Zq39_S N) := pcQ (L := []) (Zq39_gok N) Tryz.call89 Tryz.func89 (fun x => by kernel_rfl) trivial (by kernel_rfl)

abbrev Zq10_ps : List (PV.Mode × Ty) := [(.ro, LI), (.ro, ALI)]
abbrev Zq10_rs : List (Bool × Ty) := [(true, .bool)]
noncomputable def Zq10_G (N : Nat) : GTab := gOf [(108, Zq11_S N), (89, Zq39_S N)]
theorem Zq10_gok (N : Nat) : GOk Tryz.prog (Zq10_G N) := gOf_ok ⟨Zq11_pc N, Zq39_pc N, trivial⟩
noncomputable def Zq10_code : Code := (Tryz.f107.body).getD .skip
noncomputable def Zq10 (N : Nat) (clause : (List Int)) (c : (List Int)) : Option ((Bool × Unit) × (Unit)) :=
 ((Zq39 N clause (fun y0 => (Zq11 N y0 c).bind fun z => some z.1.1)).bind fun r =>
 some (((!r.1.1), ()), ()))
noncomputable def Zq10_S (N : Nat) : FSum := ⟨Zq10_ps, Zq10_rs, fun x => Zq10 N x.1 x.2.1⟩
theorem Zq10_pc (N : Nat) : PC Tryz.prog 107 (Zq10_S N) := pcQ (L := []) (Zq10_gok N) Tryz.call107 Tryz.func107 (fun x => by kernel_rfl) trivial (by kernel_rfl)

abbrev Zq9_ps : List (PV.Mode × Ty) := [(.ro, QILLI), (.ro, LI)]
abbrev Zq9_rs : List (Bool × Ty) := [(true, .bool)]
noncomputable def Zq9_G (N : Nat) : GTab := gOf [(58, Zq40_S N), (107, Zq10_S N)]
theorem Zq9_gok (N : Nat) : GOk Tryz.prog (Zq9_G N) := gOf_ok ⟨Zq40_pc N, Zq10_pc N, trivial⟩
noncomputable def Zq9_code : Code := (Tryz.f80.body).getD .skip
noncomputable def Zq9 (N : Nat) (f : (Int × (List (List Int)))) (list : (List Int)) : Option ((Bool × Unit) × (Unit)) :=
 ((Zq40 N f.2 (fun y0 => (Zq10 N y0 list).bind fun z => some z.1.1)).bind fun r =>
 some (((!r.1.1), ()), ()))
noncomputable def Zq9_S (N : Nat) : FSum := ⟨Zq9_ps, Zq9_rs, fun x => Zq9 N x.1 x.2.1⟩
theorem Zq9_pc (N : Nat) : PC Tryz.prog 80 (Zq9_S N) := pcQ (L := []) (Zq9_gok N) Tryz.call80 Tryz.func80 (fun x => by kernel_rfl) trivial (by kernel_rfl)

abbrev Zq17_ps : List (PV.Mode × Ty) := [(.ro, I), (.ro, FLIBo)]
abbrev Zq17_rs : List (Bool × Ty) := [(true, LLI)]
noncomputable def Zq17_G (N : Nat) : GTab := gOf []
theorem Zq17_gok (N : Nat) : GOk Tryz.prog (Zq17_G N) := gOf_ok trivial
noncomputable def Zq17_code : Code := (Tryz.f79.body).getD .skip
noncomputable def Zq17_l0_0_sh : Sh := ⟨[(0, .one (.ro I)), (1, .one (.ro FLIBo)), (5, .one (.ref 0)), (6, .one (.ro I)), (7, .one (.ref 1)), (11, .one (.ro I)), (12, .one (.ro I)), (16, .one (.ro I)), (17, .one (.ro I))], [.sl 33 LI .deep, .sl 3 I .own]⟩
noncomputable def Zq17_l0_0_ex : List (Ex × Sh) := [(.exit 2, ⟨[(0, .one (.ro I)), (1, .one (.ro FLIBo)), (5, .one (.ref 0)), (7, .one (.ref 1)), (11, .one (.ro I)), (12, .one (.ro I))], [.sl 33 LI .deep, .sl 3 I .own]⟩)]
noncomputable def Zq17_l0_0 {R : Type} (N : Nat) (k0 : Int → ((List Int) → Option Bool) → Int → Int → (List (List Int)) → (List Int) → Option R) : Nat → Int → ((List Int) → Option Bool) → Int → Int → Int → Int → Int → (List (List Int)) → (List Int) → Option R
 | 0, _, _, _, _, _, _, _, _, _ => none
 | K + 1, vars2, is2, n, x2, x3, x4, x5, o1, o2 =>
 (br (ilt x5 x4)
 ((chk (ile 0 (IntKind.i64.wrap ((IntKind.i64.wrap (vars2 - 1)) - x5)))
 (chk (room o2 [(bitop .and .i64 (shrI .i64 n (IntKind.i64.wrap ((IntKind.i64.wrap (vars2 - 1)) - x5))) 1)])
 (Zq17_l0_0 N k0 K vars2 is2 n x2 x3 x4 (IntKind.i64.wrap (x5 + 1)) o1 (tApp o2 [(bitop .and .i64 (shrI .i64 n (IntKind.i64.wrap ((IntKind.i64.wrap (vars2 - 1)) - x5))) 1)])))))
 (k0 vars2 is2 x2 x3 o1 o2))
noncomputable def Zq17_l0_0_again {R : Type} (N : Nat) (ks : KS Zq17_l0_0_ex R) (k : Nat) (x : Zq17_l0_0_sh.T) : Option R :=
 Zq17_l0_0 N (fun y0 y1 y2 y3 y4 y5 => ks 0 ((y0, y1, (), (), y2, y3, ()), (y4, y5, ()))) k x.1.1 x.1.2.1 x.1.2.2.2.1 x.1.2.2.2.2.2.1 x.1.2.2.2.2.2.2.1 x.1.2.2.2.2.2.2.2.1 x.1.2.2.2.2.2.2.2.2.1 x.2.1 x.2.2.1
noncomputable def Zq17_l0_0_s (N : Nat) : LSum := ⟨Zq17_l0_0_sh, Zq17_l0_0_ex, fun x ks => Zq17_l0_0_again N ks N x⟩
theorem Zq17_l0_0_ok (N : Nat) : LoopOk Tryz.prog Tryz.f79.ntmps (Zq17_l0_0_s N) (loopAt (loopAt Zq17_code 0) 0) := loopQ (sh := Zq17_l0_0_sh) (ex := Zq17_l0_0_ex) (N := N) (L := []) (fun R k x ks => Zq17_l0_0_again N ks k x) (Zq17_gok N) (fun _ _ _ => rfl) (fun R k x ks => by kernel_rfl) trivial (by kernel_rfl)
noncomputable def Zq17_l0_sh : Sh := ⟨[(0, .one (.ro I)), (1, .one (.ro FLIBo)), (5, .one (.ref 0)), (11, .one (.ro I)), (12, .one (.ro I))], [.sl 33 LI .deep]⟩
noncomputable def Zq17_l0_ex : List (Ex × Sh) := [(.exit 0, ⟨[(5, .one (.ref 0))], [.sl 33 LI .deep]⟩)]
noncomputable def Zq17_l0 {R : Type} (N : Nat) (k0 : (List (List Int)) → Option R) : Nat → Int → ((List Int) → Option Bool) → Int → Int → (List (List Int)) → Option R
 | 0, _, _, _, _, _ => none
 | K + 1, vars1, is1, x, x1, o =>
 (br (ilt x1 x)
 (Zq17_l0_0 N (fun vars2 is2 x2 x3 o1 o2 => ((is2 o2).bind fun v =>
 (br v
 ((chk (room o1 [o2])
 (Zq17_l0 N k0 K vars2 is2 x2 (IntKind.i64.wrap (x3 + 1)) (tApp o1 [o2]))))
 (Zq17_l0 N k0 K vars2 is2 x2 (IntKind.i64.wrap (x3 + 1)) o1)))) N vars1 is1 x1 x x1 vars1 0 o [])
 (k0 o))
noncomputable def Zq17_l0_again {R : Type} (N : Nat) (ks : KS Zq17_l0_ex R) (k : Nat) (x : Zq17_l0_sh.T) : Option R :=
 Zq17_l0 N (fun y0 => ks 0 (((), ()), (y0, ()))) k x.1.1 x.1.2.1 x.1.2.2.2.1 x.1.2.2.2.2.1 x.2.1
noncomputable def Zq17_l0_s (N : Nat) : LSum := ⟨Zq17_l0_sh, Zq17_l0_ex, fun x ks => Zq17_l0_again N ks N x⟩
theorem Zq17_l0_ok (N : Nat) : LoopOk Tryz.prog Tryz.f79.ntmps (Zq17_l0_s N) (loopAt Zq17_code 0) := loopQ (sh := Zq17_l0_sh) (ex := Zq17_l0_ex) (N := N) (L := [Zq17_l0_0_s N]) (fun R k x ks => Zq17_l0_again N ks k x) (Zq17_gok N) (fun _ _ _ => rfl) (fun R k x ks => by kernel_rfl) ⟨Zq17_l0_0_ok N, trivial⟩ (by kernel_rfl)
noncomputable def Zq17 (N : Nat) (vars : Int) (is : ((List Int) → Option Bool)) : Option (((List (List Int)) × Unit) × (Unit)) :=
 (chk (ile 0 vars)
 (Zq17_l0 N (fun o => some ((o, ()), ())) N vars is (shlI .i64 1 vars) 0 []))
noncomputable def Zq17_S (N : Nat) : FSum := ⟨Zq17_ps, Zq17_rs, fun x => Zq17 N x.1 x.2.1⟩
theorem Zq17_pc (N : Nat) : PC Tryz.prog 79 (Zq17_S N) := pcQ (L := [Zq17_l0_s N]) (Zq17_gok N) Tryz.call79 Tryz.func79 (fun x => by kernel_rfl) ⟨Zq17_l0_ok N, trivial⟩ (by kernel_rfl)

abbrev Zq8_ps : List (PV.Mode × Ty) := [(.ro, QILLI)]
abbrev Zq8_rs : List (Bool × Ty) := [(true, LLI)]
noncomputable def Zq8_G (N : Nat) : GTab := gOf [(80, Zq9_S N), (79, Zq17_S N)]
theorem Zq8_gok (N : Nat) : GOk Tryz.prog (Zq8_G N) := gOf_ok ⟨Zq9_pc N, Zq17_pc N, trivial⟩
noncomputable def Zq8_code : Code := (Tryz.f40.body).getD .skip
noncomputable def Zq8 (N : Nat) (f : (Int × (List (List Int)))) : Option (((List (List Int)) × Unit) × (Unit)) :=
 ((Zq17 N f.1 (fun y0 => (Zq9 N (f.1, f.2) y0).bind fun z => some z.1.1)).bind fun r =>
 some ((r.1.1, ()), ()))
noncomputable def Zq8_S (N : Nat) : FSum := ⟨Zq8_ps, Zq8_rs, fun x => Zq8 N x.1⟩
theorem Zq8_pc (N : Nat) : PC Tryz.prog 40 (Zq8_S N) := pcQ (L := []) (Zq8_gok N) Tryz.call40 Tryz.func40 (fun x => by kernel_rfl) trivial (by kernel_rfl)

abbrev Zq15_ps : List (PV.Mode × Ty) := [(.ro, LI)]
abbrev Zq15_rs : List (Bool × Ty) := [(true, U64)]
noncomputable def Zq15_G (N : Nat) : GTab := gOf []
theorem Zq15_gok (N : Nat) : GOk Tryz.prog (Zq15_G N) := gOf_ok trivial
noncomputable def Zq15_code : Code := (Tryz.f41.body).getD .skip
noncomputable def Zq15_l0_sh : Sh := ⟨[(3, .one (.ro U64)), (6, .one (.ro LI)), (7, .one (.ro I)), (8, .one (.ro I))], []⟩
noncomputable def Zq15_l0_ex : List (Ex × Sh) := [(.exit 0, ⟨[(3, .one (.ro U64))], []⟩)]
noncomputable def Zq15_l0 {R : Type} (N : Nat) (k0 : Int → Option R) : Nat → Int → (List Int) → Int → Int → Option R
 | 0, _, _, _, _ => none
 | K + 1, out, x, x1, x2 =>
 (br (ilt x2 x1)
 ((chk (inb x x2)
 (Zq15_l0 N k0 K (IntKind.u64.wrap ((IntKind.u64.wrap (2 * out)) + (IntKind.u64.wrap ((rdI x x2))))) x x1 (IntKind.i64.wrap (x2 + 1)))))
 (k0 out))
noncomputable def Zq15_l0_again {R : Type} (N : Nat) (ks : KS Zq15_l0_ex R) (k : Nat) (x : Zq15_l0_sh.T) : Option R :=
 Zq15_l0 N (fun y0 => ks 0 ((y0, ()), ())) k x.1.1 x.1.2.1 x.1.2.2.1 x.1.2.2.2.1
noncomputable def Zq15_l0_s (N : Nat) : LSum := ⟨Zq15_l0_sh, Zq15_l0_ex, fun x ks => Zq15_l0_again N ks N x⟩
theorem Zq15_l0_ok (N : Nat) : LoopOk Tryz.prog Tryz.f41.ntmps (Zq15_l0_s N) (loopAt Zq15_code 0) := loopQ (sh := Zq15_l0_sh) (ex := Zq15_l0_ex) (N := N) (L := []) (fun R k x ks => Zq15_l0_again N ks k x) (Zq15_gok N) (fun _ _ _ => rfl) (fun R k x ks => by kernel_rfl) trivial (by kernel_rfl)
noncomputable def Zq15 (N : Nat) (list : (List Int)) : Option ((Int × Unit) × (Unit)) :=
 Zq15_l0 N (fun out => some ((out, ()), ())) N 0 list (tLen list) 0
noncomputable def Zq15_S (N : Nat) : FSum := ⟨Zq15_ps, Zq15_rs, fun x => Zq15 N x.1⟩
theorem Zq15_pc (N : Nat) : PC Tryz.prog 41 (Zq15_S N) := pcQ (L := [Zq15_l0_s N]) (Zq15_gok N) Tryz.call41 Tryz.func41 (fun x => by kernel_rfl) ⟨Zq15_l0_ok N, trivial⟩ (by kernel_rfl)
end Go.Proofs.YtfilchmabmfmaaaGreat
