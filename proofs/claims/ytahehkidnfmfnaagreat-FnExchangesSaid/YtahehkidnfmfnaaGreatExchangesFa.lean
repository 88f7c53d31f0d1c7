/- Functions of the program as functions on data. -/
import Derived.Test.YtahehkidnfmfnaaGreatExchangesSa
set_option linter.all false
namespace Go.Proofs.YtahehkidnfmfnaaGreat
open Go Go.PV
abbrev Zq52_ps : List (PV.Mode × Ty) := [(.ro, LU8)]
abbrev Zq52_rs : List (Bool × Ty) := [(true, .bool)]
noncomputable def Zq52_G (N : Nat) : GTab := gOf []
theorem Zq52_gok (N : Nat) : GOk Tryz.prog (Zq52_G N) := gOf_ok trivial
noncomputable def Zq52_code : Code := (Tryz.f4.body).getD .skip
noncomputable def Zq52 (N : Nat) (code : (List Int)) : Option ((Bool × Unit) × (Unit)) :=
 some (((ilt 65536 (tLen code)), ()), ())
noncomputable def Zq52_S (N : Nat) : FSum := ⟨Zq52_ps, Zq52_rs, fun x => Zq52 N x.1⟩
theorem Zq52_pc (N : Nat) : PC Tryz.prog 4 (Zq52_S N) := pcQ (L := []) (Zq52_gok N) Tryz.call4 Tryz.func4 (fun x => by kernel_rfl) trivial (by kernel_rfl)

abbrev Zq89_ps : List (PV.Mode × Ty) := [(.mut, BQOU8QIU64)]
abbrev Zq89_rs : List (Bool × Ty) := [(true, I)]
noncomputable def Zq89_G (N : Nat) : GTab := gOf []
theorem Zq89_gok (N : Nat) : GOk Tryz.prog (Zq89_G N) := gOf_ok trivial
noncomputable def Zq89_code : Code := (Tryz.f107.body).getD .skip
noncomputable def Zq89 (N : Nat) (c : ((List Int) × (Int × Int))) : Option ((Int × Unit) × (((List Int) × (Int × Int)) × Unit)) :=
 (br (ilt c.2.1 (tLen c.1))
 ((chk (inb c.1 c.2.1)
 (br (ile (IntKind.i64.wrap (c.2.1 + 1)) (tLen c.1))
 (some (((IntKind.i64.wrap ((rd U8 c.1 c.2.1))), ()), ((c.1, ((IntKind.i64.wrap (c.2.1 + 1)), (IntKind.u64.wrap ((IntKind.u64.wrap ((IntKind.u64.wrap (c.2.2 * 6364136223846793005)) + (IntKind.u64.wrap ((IntKind.i64.wrap ((rd U8 c.1 c.2.1))))))) + 462197)))), ())))
 (some (((IntKind.i64.wrap ((bitop .and .u64 (shrI .u64 (IntKind.u64.wrap ((IntKind.u64.wrap ((IntKind.u64.wrap (c.2.2 * 6364136223846793005)) + (IntKind.u64.wrap ((IntKind.i64.wrap ((rd U8 c.1 c.2.1))))))) + 462197)) 40) 255))), ()), ((c.1, ((IntKind.i64.wrap (c.2.1 + 1)), (IntKind.u64.wrap ((IntKind.u64.wrap ((IntKind.u64.wrap (c.2.2 * 6364136223846793005)) + (IntKind.u64.wrap ((IntKind.i64.wrap ((rd U8 c.1 c.2.1))))))) + 462197)))), ()))))))
 ((br (ile (IntKind.i64.wrap (c.2.1 + 1)) (tLen c.1))
 (some ((0, ()), ((c.1, ((IntKind.i64.wrap (c.2.1 + 1)), (IntKind.u64.wrap ((IntKind.u64.wrap ((IntKind.u64.wrap (c.2.2 * 6364136223846793005)) + 0)) + 462197)))), ())))
 (some (((IntKind.i64.wrap ((bitop .and .u64 (shrI .u64 (IntKind.u64.wrap ((IntKind.u64.wrap ((IntKind.u64.wrap (c.2.2 * 6364136223846793005)) + 0)) + 462197)) 40) 255))), ()), ((c.1, ((IntKind.i64.wrap (c.2.1 + 1)), (IntKind.u64.wrap ((IntKind.u64.wrap ((IntKind.u64.wrap (c.2.2 * 6364136223846793005)) + 0)) + 462197)))), ()))))))
noncomputable def Zq89_S (N : Nat) : FSum := ⟨Zq89_ps, Zq89_rs, fun x => Zq89 N x.1⟩
theorem Zq89_pc (N : Nat) : PC Tryz.prog 107 (Zq89_S N) := pcQ (L := []) (Zq89_gok N) Tryz.call107 Tryz.func107 (fun x => by kernel_rfl) trivial (by kernel_rfl)

abbrev Zq93_ps : List (PV.Mode × Ty) := [(.mut, BQOU8QIU64), (.ro, I)]
abbrev Zq93_rs : List (Bool × Ty) := [(true, I)]
noncomputable def Zq93_G (N : Nat) : GTab := gOf [(107, Zq89_S N)]
theorem Zq93_gok (N : Nat) : GOk Tryz.prog (Zq93_G N) := gOf_ok ⟨Zq89_pc N, trivial⟩
noncomputable def Zq93_code : Code := (Tryz.f61.body).getD .skip
noncomputable def Zq93 (N : Nat) (c : ((List Int) × (Int × Int))) (n : Int) : Option ((Int × Unit) × (((List Int) × (Int × Int)) × Unit)) :=
 (br (ile n 1)
 (some ((0, ()), (c, ())))
 (((Zq89 N c).bind fun r =>
 (br (ilt 200 n)
 (((Zq89 N r.2.1).bind fun r1 =>
 (chk (ine n 0)
 (some ((((IntKind.i64.wrap ((IntKind.i64.wrap (r.1.1 * 256)) + r1.1.1)).tmod n), ()), (r1.2.1, ()))))))
 ((chk (ine n 0)
 (some (((r.1.1.tmod n), ()), (r.2.1, ())))))))))
noncomputable def Zq93_S (N : Nat) : FSum := ⟨Zq93_ps, Zq93_rs, fun x => Zq93 N x.1 x.2.1⟩
theorem Zq93_pc (N : Nat) : PC Tryz.prog 61 (Zq93_S N) := pcQ (L := []) (Zq93_gok N) Tryz.call61 Tryz.func61 (fun x => by kernel_rfl) trivial (by kernel_rfl)

abbrev Zq85_ps : List (PV.Mode × Ty) := [(.mut, BQOU8QIU64), (.ro, LI)]
abbrev Zq85_rs : List (Bool × Ty) := [(true, I)]
noncomputable def Zq85_G (N : Nat) : GTab := gOf [(61, Zq93_S N)]
theorem Zq85_gok (N : Nat) : GOk Tryz.prog (Zq85_G N) := gOf_ok ⟨Zq93_pc N, trivial⟩
noncomputable def Zq85_code : Code := (Tryz.f60.body).getD .skip
noncomputable def Zq85 (N : Nat) (c : ((List Int) × (Int × Int))) (list : (List Int)) : Option ((Int × Unit) × (((List Int) × (Int × Int)) × Unit)) :=
 ((Zq93 N c (tLen list)).bind fun r =>
 (chk (inb list r.1.1)
 (some (((rdI list r.1.1), ()), (r.2.1, ())))))
noncomputable def Zq85_S (N : Nat) : FSum := ⟨Zq85_ps, Zq85_rs, fun x => Zq85 N x.1 x.2.1⟩
theorem Zq85_pc (N : Nat) : PC Tryz.prog 60 (Zq85_S N) := pcQ (L := []) (Zq85_gok N) Tryz.call60 Tryz.func60 (fun x => by kernel_rfl) trivial (by kernel_rfl)

abbrev Zq92_ps : List (PV.Mode × Ty) := [(.mut, BQOU8QIU64), (.ro, I)]
abbrev Zq92_rs : List (Bool × Ty) := [(true, .bool)]
noncomputable def Zq92_G (N : Nat) : GTab := gOf [(61, Zq93_S N)]
theorem Zq92_gok (N : Nat) : GOk Tryz.prog (Zq92_G N) := gOf_ok ⟨Zq93_pc N, trivial⟩
noncomputable def Zq92_code : Code := (Tryz.f26.body).getD .skip
noncomputable def Zq92 (N : Nat) (c : ((List Int) × (Int × Int))) (n : Int) : Option ((Bool × Unit) × (((List Int) × (Int × Int)) × Unit)) :=
 ((Zq93 N c n).bind fun r =>
 some (((ieq r.1.1 0), ()), (r.2.1, ())))
noncomputable def Zq92_S (N : Nat) : FSum := ⟨Zq92_ps, Zq92_rs, fun x => Zq92 N x.1 x.2.1⟩
theorem Zq92_pc (N : Nat) : PC Tryz.prog 26 (Zq92_S N) := pcQ (L := []) (Zq92_gok N) Tryz.call26 Tryz.func26 (fun x => by kernel_rfl) trivial (by kernel_rfl)

abbrev Zq97_ps : List (PV.Mode × Ty) := [(.ro, I), (.ro, I)]
abbrev Zq97_rs : List (Bool × Ty) := [(true, I)]
noncomputable def Zq97_G (N : Nat) : GTab := gOf []
theorem Zq97_gok (N : Nat) : GOk Tryz.prog (Zq97_G N) := gOf_ok trivial
noncomputable def Zq97_code : Code := (Tryz.f62.body).getD .skip
noncomputable def Zq97 (N : Nat) (a : Int) (b : Int) : Option ((Int × Unit) × (Unit)) :=
 (br (ilt a b)
 (some ((a, ()), ()))
 (some ((b, ()), ())))
noncomputable def Zq97_S (N : Nat) : FSum := ⟨Zq97_ps, Zq97_rs, fun x => Zq97 N x.1 x.2.1⟩
theorem Zq97_pc (N : Nat) : PC Tryz.prog 62 (Zq97_S N) := pcQ (L := []) (Zq97_gok N) Tryz.call62 Tryz.func62 (fun x => by kernel_rfl) trivial (by kernel_rfl)

abbrev Zq106_ps : List (PV.Mode × Ty) := [(.ro, QII), (.ro, QII)]
abbrev Zq106_rs : List (Bool × Ty) := [(true, .bool)]
noncomputable def Zq106_G (N : Nat) : GTab := gOf []
theorem Zq106_gok (N : Nat) : GOk Tryz.prog (Zq106_G N) := gOf_ok trivial
noncomputable def Zq106_code : Code := (Tryz.f108.body).getD .skip
noncomputable def Zq106 (N : Nat) (a : (Int × Int)) (b : (Int × Int)) : Option ((Bool × Unit) × (Unit)) :=
 (br (ilt a.1 b.1)
 (some ((true, ()), ()))
 ((br (ieq a.1 b.1)
 (some (((ilt a.2 b.2), ()), ()))
 (some ((false, ()), ())))))
noncomputable def Zq106_S (N : Nat) : FSum := ⟨Zq106_ps, Zq106_rs, fun x => Zq106 N x.1 x.2.1⟩
theorem Zq106_pc (N : Nat) : PC Tryz.prog 108 (Zq106_S N) := pcQ (L := []) (Zq106_gok N) Tryz.call108 Tryz.func108 (fun x => by kernel_rfl) trivial (by kernel_rfl)

abbrev Zq112_ps : List (PV.Mode × Ty) := [(.own, LQII), (.ro, QII)]
abbrev Zq112_rs : List (Bool × Ty) := [(true, LQII)]
noncomputable def Zq112_G (N : Nat) : GTab := gOf [(108, Zq106_S N)]
theorem Zq112_gok (N : Nat) : GOk Tryz.prog (Zq112_G N) := gOf_ok ⟨Zq106_pc N, trivial⟩
noncomputable def Zq112_code : Code := (Tryz.f63.body).getD .skip
noncomputable def Zq112_l0_sh : Sh := ⟨[(0, .one (.ref 0)), (3, .one (.adr 1 0)), (5, .one (.ro I))], [.sl 73 QII .own, .box [.ro I, .ro I]]⟩
noncomputable def Zq112_l0_ex : List (Ex × Sh) := [(.exit 0, ⟨[(0, .one (.ref 0)), (3, .one (.adr 1 0)), (5, .one (.ro I))], [.sl 73 QII .own, .box [.ro I, .ro I]]⟩)]
noncomputable def Zq112_l0 {R : Type} (N : Nat) (k0 : Int → (List (Int × Int)) → Int → Int → Option R) : Nat → Int → (List (Int × Int)) → Int → Int → Option R
 | 0, _, _, _, _ => none
 | K + 1, kv, o, o1, o2 =>
 (br (ilt 0 kv)
 ((chk (inb o (IntKind.i64.wrap (kv - 1)))
 ((Zq106 N (o1, o2) (rdP o (IntKind.i64.wrap (kv - 1)))).bind fun r =>
 (br r.1.1
 (Zq112_l0 N k0 K (IntKind.i64.wrap (kv - 1)) o o1 o2)
 (k0 kv o o1 o2)))))
 (k0 kv o o1 o2))
noncomputable def Zq112_l0_again {R : Type} (N : Nat) (ks : KS Zq112_l0_ex R) (k : Nat) (x : Zq112_l0_sh.T) : Option R :=
 Zq112_l0 N (fun y0 y1 y2 y3 => ks 0 (((), (), y0, ()), (y1, (y2, y3, ()), ()))) k x.1.2.2.1 x.2.1 x.2.2.1.1 x.2.2.1.2.1
noncomputable def Zq112_l0_s (N : Nat) : LSum := ⟨Zq112_l0_sh, Zq112_l0_ex, fun x ks => Zq112_l0_again N ks N x⟩
theorem Zq112_l0_ok (N : Nat) : LoopOk Tryz.prog Tryz.f63.ntmps (Zq112_l0_s N) (loopAt Zq112_code 0) := loopQ (sh := Zq112_l0_sh) (ex := Zq112_l0_ex) (N := N) (L := []) (fun R k x ks => Zq112_l0_again N ks k x) (Zq112_gok N) (fun _ _ _ => rfl) (fun R k x ks => by kernel_rfl) trivial (by kernel_rfl)
noncomputable def Zq112 (N : Nat) (list : (List (Int × Int))) (e : (Int × Int)) : Option (((List (Int × Int)) × Unit) × (Unit)) :=
 Zq112_l0 N (fun kv o o1 o2 => (br (ilt 0 kv)
 ((chk (inb o (IntKind.i64.wrap (kv - 1)))
 (br (ieq ((rdP o (IntKind.i64.wrap (kv - 1))).1) o1 && ieq ((rdP o (IntKind.i64.wrap (kv - 1))).2) o2)
 (some ((o, ()), ()))
 ((chk (ile 0 0 && ile 0 kv && ile kv (tLen o))
 (chk (room (α := (Int × Int)) (β := (Int × Int)) [] (tCut o 0 kv))
 (chk (room (α := (Int × Int)) (β := (Int × Int)) (tApp [] (tCut o 0 kv)) [(o1, o2)])
 (chk (ile 0 kv && ile kv (tLen o) && ile (tLen o) (tLen o))
 (chk (room (α := (Int × Int)) (β := (Int × Int)) (tApp (tApp [] (tCut o 0 kv)) [(o1, o2)]) (tCut o kv (tLen o)))
 (some (((tApp (tApp (tApp [] (tCut o 0 kv)) [(o1, o2)]) (tCut o kv (tLen o))), ()), ())))))))))))
 ((chk (ile 0 0 && ile 0 kv && ile kv (tLen o))
 (chk (room (α := (Int × Int)) (β := (Int × Int)) [] (tCut o 0 kv))
 (chk (room (α := (Int × Int)) (β := (Int × Int)) (tApp [] (tCut o 0 kv)) [(o1, o2)])
 (chk (ile 0 kv && ile kv (tLen o) && ile (tLen o) (tLen o))
 (chk (room (α := (Int × Int)) (β := (Int × Int)) (tApp (tApp [] (tCut o 0 kv)) [(o1, o2)]) (tCut o kv (tLen o)))
 (some (((tApp (tApp (tApp [] (tCut o 0 kv)) [(o1, o2)]) (tCut o kv (tLen o))), ()), ())))))))))) N (tLen list) list e.1 e.2
noncomputable def Zq112_S (N : Nat) : FSum := ⟨Zq112_ps, Zq112_rs, fun x => Zq112 N x.1 x.2.1⟩
theorem Zq112_pc (N : Nat) : PC Tryz.prog 63 (Zq112_S N) := pcQ (L := [Zq112_l0_s N]) (Zq112_gok N) Tryz.call63 Tryz.func63 (fun x => by kernel_rfl) ⟨Zq112_l0_ok N, trivial⟩ (by kernel_rfl)

abbrev Zq94_ps : List (PV.Mode × Ty) := [(.mut, BQOU8QIU64), (.ro, I)]
abbrev Zq94_rs : List (Bool × Ty) := [(false, QILQII)]
noncomputable def Zq94_G (N : Nat) : GTab := gOf [(60, Zq85_S N), (26, Zq92_S N), (61, Zq93_S N), (62, Zq97_S N), (63, Zq112_S N)]
theorem Zq94_gok (N : Nat) : GOk Tryz.prog (Zq94_G N) := gOf_ok ⟨Zq85_pc N, Zq92_pc N, Zq93_pc N, Zq97_pc N, Zq112_pc N, trivial⟩
noncomputable def Zq94_code : Code := (Tryz.f23.body).getD .skip
noncomputable def Zq94_l0_0_sh : Sh := ⟨[(0, .one (.adr 0 0)), (4, .one (.adr 1 0)), (5, .one (.ro I)), (6, .one (.adr 2 0)), (7, .one (.ro I)), (8, .one (.ro .bool)), (9, .one (.ro I)), (10, .one (.ro I))], [.mbox QOU8QIU64, .box [.ro I, .nilsl], .box [.ro I, .ref 3], .sl 73 QII .own]⟩
noncomputable def Zq94_l0_0_ex : List (Ex × Sh) := [(.exit 2, ⟨[(0, .one (.adr 0 0)), (4, .one (.adr 1 0)), (5, .one (.ro I)), (6, .one (.adr 2 0)), (7, .one (.ro I)), (8, .one (.ro .bool)), (9, .one (.ro I))], [.mbox QOU8QIU64, .box [.ro I, .nilsl], .box [.ro I, .ref 3], .sl 73 QII .own]⟩)]
noncomputable def Zq94_l0_0 {R : Type} (N : Nat) (k0 : Int → Int → Bool → Int → ((List Int) × (Int × Int)) → Int → Int → (List (Int × Int)) → Option R) : Nat → Int → Int → Bool → Int → Int → ((List Int) × (Int × Int)) → Int → Int → (List (Int × Int)) → Option R
 | 0, _, _, _, _, _, _, _, _, _ => none
 | K + 1, x4, x5, x6, x7, x8, o4, o5, o6, o7 =>
 (br (ilt x8 x4)
 (((Zq93 N o4 x5).bind fun r6 =>
 (br (ieq r6.1.1 0)
 (((Zq112 N o7 (x7, x8)).bind fun r7 =>
 Zq94_l0_0 N k0 K x4 x5 x6 x7 (IntKind.i64.wrap (x8 + 1)) r6.2.1 o5 o6 r7.1.1))
 (Zq94_l0_0 N k0 K x4 x5 x6 x7 (IntKind.i64.wrap (x8 + 1)) r6.2.1 o5 o6 o7))))
 (k0 x4 x5 x6 x7 o4 o5 o6 o7))
noncomputable def Zq94_l0_0_again {R : Type} (N : Nat) (ks : KS Zq94_l0_0_ex R) (k : Nat) (x : Zq94_l0_0_sh.T) : Option R :=
 Zq94_l0_0 N (fun y0 y1 y2 y3 y4 y5 y6 y7 => ks 0 (((), (), y0, (), y1, y2, y3, ()), (y4, (y5, (), ()), (y6, (), ()), y7, ()))) k x.1.2.2.1 x.1.2.2.2.2.1 x.1.2.2.2.2.2.1 x.1.2.2.2.2.2.2.1 x.1.2.2.2.2.2.2.2.1 x.2.1 x.2.2.1.1 x.2.2.2.1.1 x.2.2.2.2.1
noncomputable def Zq94_l0_0_s (N : Nat) : LSum := ⟨Zq94_l0_0_sh, Zq94_l0_0_ex, fun x ks => Zq94_l0_0_again N ks N x⟩
theorem Zq94_l0_0_ok (N : Nat) : LoopOk Tryz.prog Tryz.f23.ntmps (Zq94_l0_0_s N) (loopAt (loopAt Zq94_code 0) 0) := loopQ (sh := Zq94_l0_0_sh) (ex := Zq94_l0_0_ex) (N := N) (L := []) (fun R k x ks => Zq94_l0_0_again N ks k x) (Zq94_gok N) (fun _ _ _ => rfl) (fun R k x ks => by kernel_rfl) trivial (by kernel_rfl)
noncomputable def Zq94_l0_sh : Sh := ⟨[(0, .one (.adr 0 0)), (4, .one (.adr 1 0)), (5, .one (.ro I)), (6, .one (.adr 2 0)), (7, .one (.ro I)), (8, .one (.ro .bool)), (9, .one (.ro I))], [.mbox QOU8QIU64, .box [.ro I, .nilsl], .box [.ro I, .ref 3], .sl 73 QII .own]⟩
noncomputable def Zq94_l0_ex : List (Ex × Sh) := [(.exit 0, ⟨[(0, .one (.adr 0 0)), (4, .one (.adr 1 0)), (6, .one (.adr 2 0))], [.mbox QOU8QIU64, .box [.ro I, .nilsl], .box [.ro I, .ref 3], .sl 73 QII .own]⟩)]
noncomputable def Zq94_l0 {R : Type} (N : Nat) (k0 : ((List Int) × (Int × Int)) → Int → Int → (List (Int × Int)) → Option R) : Nat → Int → Int → Bool → Int → ((List Int) × (Int × Int)) → Int → Int → (List (Int × Int)) → Option R
 | 0, _, _, _, _, _, _, _, _ => none
 | K + 1, x, x1, x2, x3, o, o1, o2, o3 =>
 (br (ilt x3 x)
 (Zq94_l0_0 N (fun x4 x5 x6 x7 o4 o5 o6 o7 => (br (ilt 0 x7)
 ((br (!x6)
 (((Zq93 N (o4.1, (o4.2.1, o4.2.2)) x7).bind fun r6 =>
 ((Zq112 N o7 (r6.1.1, x7)).bind fun r7 =>
 Zq94_l0 N k0 K x4 x5 x6 (IntKind.i64.wrap (x7 + 1)) r6.2.1 o5 o6 r7.1.1)))
 (Zq94_l0 N k0 K x4 x5 x6 (IntKind.i64.wrap (x7 + 1)) o4 o5 o6 o7)))
 (Zq94_l0 N k0 K x4 x5 x6 (IntKind.i64.wrap (x7 + 1)) o4 o5 o6 o7))) N x x1 x2 x3 (IntKind.i64.wrap (x3 + 1)) o o1 o2 o3)
 (k0 o o1 o2 o3))
noncomputable def Zq94_l0_again {R : Type} (N : Nat) (ks : KS Zq94_l0_ex R) (k : Nat) (x : Zq94_l0_sh.T) : Option R :=
 Zq94_l0 N (fun y0 y1 y2 y3 => ks 0 (((), (), (), ()), (y0, (y1, (), ()), (y2, (), ()), y3, ()))) k x.1.2.2.1 x.1.2.2.2.2.1 x.1.2.2.2.2.2.1 x.1.2.2.2.2.2.2.1 x.2.1 x.2.2.1.1 x.2.2.2.1.1 x.2.2.2.2.1
noncomputable def Zq94_l0_s (N : Nat) : LSum := ⟨Zq94_l0_sh, Zq94_l0_ex, fun x ks => Zq94_l0_again N ks N x⟩
theorem Zq94_l0_ok (N : Nat) : LoopOk Tryz.prog Tryz.f23.ntmps (Zq94_l0_s N) (loopAt Zq94_code 0) := loopQ (sh := Zq94_l0_sh) (ex := Zq94_l0_ex) (N := N) (L := [Zq94_l0_0_s N]) (fun R k x ks => Zq94_l0_again N ks k x) (Zq94_gok N) (fun _ _ _ => rfl) (fun R k x ks => by kernel_rfl) ⟨Zq94_l0_0_ok N, trivial⟩ (by kernel_rfl)
noncomputable def Zq94 (N : Nat) (c : ((List Int) × (Int × Int))) (c1 : Int) : Option (((Int × (List (Int × Int))) × Unit) × (((List Int) × (Int × Int)) × Unit)) :=
 ((Zq85 N c [4, 5, 3, 6, 2, 1, 0]).bind fun r =>
 (br (ilt 6 c1)
 (((Zq92 N r.2.1 4).bind fun r1 =>
 (br r1.1.1
 (((Zq93 N r1.2.1 2).bind fun r2 =>
 ((Zq97 N (IntKind.i64.wrap (7 + r2.1.1)) c1).bind fun r3 =>
 ((Zq85 N r2.2.1 [1, 3, 4, 6]).bind fun r4 =>
 ((Zq92 N r4.2.1 5).bind fun r5 =>
 Zq94_l0 N (fun o o1 o2 o3 => ((Zq93 N o 50).bind fun r6 =>
 (br (ieq r6.1.1 0)
 (((Zq85 N r6.2.1 [(-1), 8, 9, 0, 4611686018427387904]).bind fun r7 =>
 some (((r7.1.1, o3), ()), (r7.2.1, ()))))
 ((br (ieq r6.1.1 1)
 (((Zq93 N (r6.2.1.1, (r6.2.1.2.1, r6.2.1.2.2)) 4).bind fun r8 =>
 ((Zq93 N r8.2.1 9).bind fun r9 =>
 (chk (room o3 [(r8.1.1, (IntKind.i64.wrap (r9.1.1 - 1)))])
 (some (((o2, (tApp o3 [(r8.1.1, (IntKind.i64.wrap (r9.1.1 - 1)))])), ()), (r9.2.1, ())))))))
 ((br (ieq r6.1.1 2)
 ((br (ilt 0 (tLen o3))
 (((Zq93 N (r6.2.1.1, (r6.2.1.2.1, r6.2.1.2.2)) (tLen o3)).bind fun r10 =>
 (chk (inb o3 r10.1.1)
 (chk (room o3 [(rdP o3 r10.1.1)])
 (some (((o2, (tApp o3 [(rdP o3 r10.1.1)])), ()), (r10.2.1, ())))))))
 (some (((o2, o3), ()), (r6.2.1, ())))))
 (some (((o2, o3), ()), (r6.2.1, ())))))))))) N r3.1.1 r4.1.1 r5.1.1 0 r5.2.1 0 r3.1.1 [])))))
 (((Zq97 N r.1.1 c1).bind fun r11 =>
 ((Zq85 N r1.2.1 [1, 3, 4, 6]).bind fun r12 =>
 ((Zq92 N r12.2.1 5).bind fun r13 =>
 Zq94_l0 N (fun o4 o5 o6 o7 => ((Zq93 N o4 50).bind fun r14 =>
 (br (ieq r14.1.1 0)
 (((Zq85 N r14.2.1 [(-1), 8, 9, 0, 4611686018427387904]).bind fun r15 =>
 some (((r15.1.1, o7), ()), (r15.2.1, ()))))
 ((br (ieq r14.1.1 1)
 (((Zq93 N (r14.2.1.1, (r14.2.1.2.1, r14.2.1.2.2)) 4).bind fun r16 =>
 ((Zq93 N r16.2.1 9).bind fun r17 =>
 (chk (room o7 [(r16.1.1, (IntKind.i64.wrap (r17.1.1 - 1)))])
 (some (((o6, (tApp o7 [(r16.1.1, (IntKind.i64.wrap (r17.1.1 - 1)))])), ()), (r17.2.1, ())))))))
 ((br (ieq r14.1.1 2)
 ((br (ilt 0 (tLen o7))
 (((Zq93 N (r14.2.1.1, (r14.2.1.2.1, r14.2.1.2.2)) (tLen o7)).bind fun r18 =>
 (chk (inb o7 r18.1.1)
 (chk (room o7 [(rdP o7 r18.1.1)])
 (some (((o6, (tApp o7 [(rdP o7 r18.1.1)])), ()), (r18.2.1, ())))))))
 (some (((o6, o7), ()), (r14.2.1, ())))))
 (some (((o6, o7), ()), (r14.2.1, ())))))))))) N r11.1.1 r12.1.1 r13.1.1 0 r13.2.1 0 r11.1.1 [])))))))
 (((Zq97 N r.1.1 c1).bind fun r19 =>
 ((Zq85 N r.2.1 [1, 3, 4, 6]).bind fun r20 =>
 ((Zq92 N r20.2.1 5).bind fun r21 =>
 Zq94_l0 N (fun o8 o9 o10 o11 => ((Zq93 N o8 50).bind fun r22 =>
 (br (ieq r22.1.1 0)
 (((Zq85 N r22.2.1 [(-1), 8, 9, 0, 4611686018427387904]).bind fun r23 =>
 some (((r23.1.1, o11), ()), (r23.2.1, ()))))
 ((br (ieq r22.1.1 1)
 (((Zq93 N (r22.2.1.1, (r22.2.1.2.1, r22.2.1.2.2)) 4).bind fun r24 =>
 ((Zq93 N r24.2.1 9).bind fun r25 =>
 (chk (room o11 [(r24.1.1, (IntKind.i64.wrap (r25.1.1 - 1)))])
 (some (((o10, (tApp o11 [(r24.1.1, (IntKind.i64.wrap (r25.1.1 - 1)))])), ()), (r25.2.1, ())))))))
 ((br (ieq r22.1.1 2)
 ((br (ilt 0 (tLen o11))
 (((Zq93 N (r22.2.1.1, (r22.2.1.2.1, r22.2.1.2.2)) (tLen o11)).bind fun r26 =>
 (chk (inb o11 r26.1.1)
 (chk (room o11 [(rdP o11 r26.1.1)])
 (some (((o10, (tApp o11 [(rdP o11 r26.1.1)])), ()), (r26.2.1, ())))))))
 (some (((o10, o11), ()), (r22.2.1, ())))))
 (some (((o10, o11), ()), (r22.2.1, ())))))))))) N r19.1.1 r20.1.1 r21.1.1 0 r21.2.1 0 r19.1.1 []))))))
noncomputable def Zq94_S (N : Nat) : FSum := ⟨Zq94_ps, Zq94_rs, fun x => Zq94 N x.1 x.2.1⟩
theorem Zq94_pc (N : Nat) : PC Tryz.prog 23 (Zq94_S N) := pcQ (L := [Zq94_l0_s N]) (Zq94_gok N) Tryz.call23 Tryz.func23 (fun x => by kernel_rfl) ⟨Zq94_l0_ok N, trivial⟩ (by kernel_rfl)

abbrev Zq87_ps : List (PV.Mode × Ty) := [(.mut, BQOU8QIU64)]
abbrev Zq87_rs : List (Bool × Ty) := [(true, I)]
noncomputable def Zq87_G (N : Nat) : GTab := gOf [(26, Zq92_S N), (60, Zq85_S N), (61, Zq93_S N)]
theorem Zq87_gok (N : Nat) : GOk Tryz.prog (Zq87_G N) := gOf_ok ⟨Zq92_pc N, Zq85_pc N, Zq93_pc N, trivial⟩
noncomputable def Zq87_code : Code := (Tryz.f24.body).getD .skip
noncomputable def Zq87 (N : Nat) (c : ((List Int) × (Int × Int))) : Option ((Int × Unit) × (((List Int) × (Int × Int)) × Unit)) :=
 ((Zq92 N c 24).bind fun r =>
 (br r.1.1
 (((Zq85 N r.2.1 [0, 4, (-1)]).bind fun r1 =>
 some ((r1.1.1, ()), (r1.2.1, ()))))
 (((Zq93 N r.2.1 3).bind fun r2 =>
 some (((IntKind.i64.wrap (1 + r2.1.1)), ()), (r2.2.1, ()))))))
noncomputable def Zq87_S (N : Nat) : FSum := ⟨Zq87_ps, Zq87_rs, fun x => Zq87 N x.1⟩
theorem Zq87_pc (N : Nat) : PC Tryz.prog 24 (Zq87_S N) := pcQ (L := []) (Zq87_gok N) Tryz.call24 Tryz.func24 (fun x => by kernel_rfl) trivial (by kernel_rfl)

abbrev Zq96_ps : List (PV.Mode × Ty) := [(.ro, I), (.ro, I), (.ro, I)]
abbrev Zq96_rs : List (Bool × Ty) := [(true, .bool)]
noncomputable def Zq96_G (N : Nat) : GTab := gOf []
theorem Zq96_gok (N : Nat) : GOk Tryz.prog (Zq96_G N) := gOf_ok trivial
noncomputable def Zq96_code : Code := (Tryz.f83.body).getD .skip
noncomputable def Zq96 (N : Nat) (x : Int) (a : Int) (b : Int) : Option ((Bool × Unit) × (Unit)) :=
 (br (ile a x)
 (some (((ile x b), ()), ()))
 (some ((false, ()), ())))
noncomputable def Zq96_S (N : Nat) : FSum := ⟨Zq96_ps, Zq96_rs, fun x => Zq96 N x.1 x.2.1 x.2.2.1⟩
theorem Zq96_pc (N : Nat) : PC Tryz.prog 83 (Zq96_S N) := pcQ (L := []) (Zq96_gok N) Tryz.call83 Tryz.func83 (fun x => by kernel_rfl) trivial (by kernel_rfl)

abbrev Zq111_ps : List (PV.Mode × Ty) := [(.ro, LQII), (.ro, I)]
abbrev Zq111_rs : List (Bool × Ty) := [(true, .bool)]
noncomputable def Zq111_G (N : Nat) : GTab := gOf [(83, Zq96_S N), (108, Zq106_S N)]
theorem Zq111_gok (N : Nat) : GOk Tryz.prog (Zq111_G N) := gOf_ok ⟨Zq96_pc N, Zq106_pc N, trivial⟩
noncomputable def Zq111_code : Code := (Tryz.f145.body).getD .skip
noncomputable def Zq111_l0_sh : Sh := ⟨[(0, .one (.ro LQII)), (1, .one (.ro I)), (5, .one (.ro I))], []⟩
noncomputable def Zq111_l0_ex : List (Ex × Sh) := [(.ret, ⟨[(4, .one (.ro .bool))], []⟩), (.exit 0, ⟨[], []⟩)]
noncomputable def Zq111_l0 {R : Type} (N : Nat) (k0 : Bool → Option R) (k1 : Unit → Option R) : Nat → (List (Int × Int)) → Int → Int → Option R
 | 0, _, _, _ => none
 | K + 1, pairs1, n1, i =>
 (br (ilt i (tLen pairs1))
 ((chk (inb pairs1 i)
 ((Zq96 N ((rdP pairs1 i).1) 0 (IntKind.i64.wrap (n1 - 1))).bind fun r =>
 (br (!r.1.1)
 (k0 false)
 (((Zq96 N ((rdP pairs1 i).2) 0 (IntKind.i64.wrap (n1 - 1))).bind fun r1 =>
 (br (!r1.1.1)
 (k0 false)
 ((br (ile ((rdP pairs1 i).2) ((rdP pairs1 i).1))
 (k0 false)
 ((br (ilt 0 i)
 ((chk (inb pairs1 (IntKind.i64.wrap (i - 1)))
 ((Zq106 N (rdP pairs1 (IntKind.i64.wrap (i - 1))) ((rdP pairs1 i).1, (rdP pairs1 i).2)).bind fun r2 =>
 (br (!r2.1.1)
 (k0 false)
 (Zq111_l0 N k0 k1 K pairs1 n1 (IntKind.i64.wrap (i + 1)))))))
 (Zq111_l0 N k0 k1 K pairs1 n1 (IntKind.i64.wrap (i + 1))))))))))))))
 (k1 ()))
noncomputable def Zq111_l0_again {R : Type} (N : Nat) (ks : KS Zq111_l0_ex R) (k : Nat) (x : Zq111_l0_sh.T) : Option R :=
 Zq111_l0 N (fun y0 => ks 0 ((y0, ()), ())) (fun (_ : Unit) => ks 1 ((), ())) k x.1.1 x.1.2.1 x.1.2.2.1
noncomputable def Zq111_l0_s (N : Nat) : LSum := ⟨Zq111_l0_sh, Zq111_l0_ex, fun x ks => Zq111_l0_again N ks N x⟩
theorem Zq111_l0_ok (N : Nat) : LoopOk Tryz.prog Tryz.f145.ntmps (Zq111_l0_s N) (loopAt Zq111_code 0) := loopQ (sh := Zq111_l0_sh) (ex := Zq111_l0_ex) (N := N) (L := []) (fun R k x ks => Zq111_l0_again N ks k x) (Zq111_gok N) (fun _ _ _ => rfl) (fun R k x ks => by kernel_rfl) trivial (by kernel_rfl)
noncomputable def Zq111 (N : Nat) (pairs : (List (Int × Int))) (n : Int) : Option ((Bool × Unit) × (Unit)) :=
 Zq111_l0 N (fun x => some ((x, ()), ())) (fun (_ : Unit) => some ((true, ()), ())) N pairs n 0
noncomputable def Zq111_S (N : Nat) : FSum := ⟨Zq111_ps, Zq111_rs, fun x => Zq111 N x.1 x.2.1⟩
theorem Zq111_pc (N : Nat) : PC Tryz.prog 145 (Zq111_S N) := pcQ (L := [Zq111_l0_s N]) (Zq111_gok N) Tryz.call145 Tryz.func145 (fun x => by kernel_rfl) ⟨Zq111_l0_ok N, trivial⟩ (by kernel_rfl)

abbrev Zq107_ps : List (PV.Mode × Ty) := [(.ro, QILQII)]
abbrev Zq107_rs : List (Bool × Ty) := [(true, .bool)]
noncomputable def Zq107_G (N : Nat) : GTab := gOf [(83, Zq96_S N), (145, Zq111_S N)]
theorem Zq107_gok (N : Nat) : GOk Tryz.prog (Zq107_G N) := gOf_ok ⟨Zq96_pc N, Zq111_pc N, trivial⟩
noncomputable def Zq107_code : Code := (Tryz.f109.body).getD .skip
noncomputable def Zq107 (N : Nat) (g : (Int × (List (Int × Int)))) : Option ((Bool × Unit) × (Unit)) :=
 ((Zq96 N g.1 0 8).bind fun r =>
 (br r.1.1
 (((Zq111 N g.2 g.1).bind fun r1 =>
 some ((r1.1.1, ()), ())))
 (some ((false, ()), ()))))
noncomputable def Zq107_S (N : Nat) : FSum := ⟨Zq107_ps, Zq107_rs, fun x => Zq107 N x.1⟩
theorem Zq107_pc (N : Nat) : PC Tryz.prog 109 (Zq107_S N) := pcQ (L := []) (Zq107_gok N) Tryz.call109 Tryz.func109 (fun x => by kernel_rfl) trivial (by kernel_rfl)

abbrev Zq122_ps : List (PV.Mode × Ty) := [(.ro, I)]
abbrev Zq122_rs : List (Bool × Ty) := [(true, .bool)]
noncomputable def Zq122_G (N : Nat) : GTab := gOf [(83, Zq96_S N)]
theorem Zq122_gok (N : Nat) : GOk Tryz.prog (Zq122_G N) := gOf_ok ⟨Zq96_pc N, trivial⟩
noncomputable def Zq122_code : Code := (Tryz.f110.body).getD .skip
noncomputable def Zq122 (N : Nat) (kind : Int) : Option ((Bool × Unit) × (Unit)) :=
 ((Zq96 N kind 1 3).bind fun r =>
 some ((r.1.1, ()), ()))
noncomputable def Zq122_S (N : Nat) : FSum := ⟨Zq122_ps, Zq122_rs, fun x => Zq122 N x.1⟩
theorem Zq122_pc (N : Nat) : PC Tryz.prog 110 (Zq122_S N) := pcQ (L := []) (Zq122_gok N) Tryz.call110 Tryz.func110 (fun x => by kernel_rfl) trivial (by kernel_rfl)

abbrev Zq119_ps : List (PV.Mode × Ty) := [(.ro, QILQII), (.ro, I)]
abbrev Zq119_rs : List (Bool × Ty) := [(true, .bool)]
noncomputable def Zq119_G (N : Nat) : GTab := gOf [(109, Zq107_S N), (110, Zq122_S N)]
theorem Zq119_gok (N : Nat) : GOk Tryz.prog (Zq119_G N) := gOf_ok ⟨Zq107_pc N, Zq122_pc N, trivial⟩
noncomputable def Zq119_code : Code := (Tryz.f64.body).getD .skip
noncomputable def Zq119 (N : Nat) (g : (Int × (List (Int × Int)))) (kind : Int) : Option ((Bool × Unit) × (Unit)) :=
 ((Zq107 N (g.1, g.2)).bind fun r =>
 (br r.1.1
 (((Zq122 N kind).bind fun r1 =>
 some ((r1.1.1, ()), ())))
 (some ((false, ()), ()))))
noncomputable def Zq119_S (N : Nat) : FSum := ⟨Zq119_ps, Zq119_rs, fun x => Zq119 N x.1 x.2.1⟩
theorem Zq119_pc (N : Nat) : PC Tryz.prog 64 (Zq119_S N) := pcQ (L := []) (Zq119_gok N) Tryz.call64 Tryz.func64 (fun x => by kernel_rfl) trivial (by kernel_rfl)

abbrev Zq98_ps : List (PV.Mode × Ty) := [(.ro, I), (.ro, I)]
abbrev Zq98_rs : List (Bool × Ty) := [(true, I)]
noncomputable def Zq98_G (N : Nat) : GTab := gOf []
theorem Zq98_gok (N : Nat) : GOk Tryz.prog (Zq98_G N) := gOf_ok trivial
noncomputable def Zq98_code : Code := (Tryz.f95.body).getD .skip
noncomputable def Zq98 (N : Nat) (a : Int) (b : Int) : Option ((Int × Unit) × (Unit)) :=
 (br (ilt b a)
 (some ((a, ()), ()))
 (some ((b, ()), ())))
noncomputable def Zq98_S (N : Nat) : FSum := ⟨Zq98_ps, Zq98_rs, fun x => Zq98 N x.1 x.2.1⟩
theorem Zq98_pc (N : Nat) : PC Tryz.prog 95 (Zq98_S N) := pcQ (L := []) (Zq98_gok N) Tryz.call95 Tryz.func95 (fun x => by kernel_rfl) trivial (by kernel_rfl)

abbrev Zq105_ps : List (PV.Mode × Ty) := [(.ro, I), (.ro, I)]
abbrev Zq105_rs : List (Bool × Ty) := [(true, LI)]
noncomputable def Zq105_G (N : Nat) : GTab := gOf []
theorem Zq105_gok (N : Nat) : GOk Tryz.prog (Zq105_G N) := gOf_ok trivial
noncomputable def Zq105_code : Code := (Tryz.f111.body).getD .skip
noncomputable def Zq105_l0_sh : Sh := ⟨[(0, .one (.ro I)), (1, .one (.ro I)), (5, .one (.ref 0)), (6, .one (.ro I))], [.sl 3 I .own]⟩
noncomputable def Zq105_l0_ex : List (Ex × Sh) := [(.exit 0, ⟨[(5, .one (.ref 0))], [.sl 3 I .own]⟩)]
noncomputable def Zq105_l0 {R : Type} (N : Nat) (k0 : (List Int) → Option R) : Nat → Int → Int → Int → (List Int) → Option R
 | 0, _, _, _, _ => none
 | K + 1, n1, code1, x, o =>
 (br (ilt x n1)
 ((chk (ile 0 x)
 (br (ieq (bitop .and .i64 (shrI .i64 code1 x) 1) 1)
 ((chk (room o [x])
 (Zq105_l0 N k0 K n1 code1 (IntKind.i64.wrap (x + 1)) (tApp o [x]))))
 (Zq105_l0 N k0 K n1 code1 (IntKind.i64.wrap (x + 1)) o))))
 (k0 o))
noncomputable def Zq105_l0_again {R : Type} (N : Nat) (ks : KS Zq105_l0_ex R) (k : Nat) (x : Zq105_l0_sh.T) : Option R :=
 Zq105_l0 N (fun y0 => ks 0 (((), ()), (y0, ()))) k x.1.1 x.1.2.1 x.1.2.2.2.1 x.2.1
noncomputable def Zq105_l0_s (N : Nat) : LSum := ⟨Zq105_l0_sh, Zq105_l0_ex, fun x ks => Zq105_l0_again N ks N x⟩
theorem Zq105_l0_ok (N : Nat) : LoopOk Tryz.prog Tryz.f111.ntmps (Zq105_l0_s N) (loopAt Zq105_code 0) := loopQ (sh := Zq105_l0_sh) (ex := Zq105_l0_ex) (N := N) (L := []) (fun R k x ks => Zq105_l0_again N ks k x) (Zq105_gok N) (fun _ _ _ => rfl) (fun R k x ks => by kernel_rfl) trivial (by kernel_rfl)
noncomputable def Zq105 (N : Nat) (n : Int) (code : Int) : Option (((List Int) × Unit) × (Unit)) :=
 Zq105_l0 N (fun o => some ((o, ()), ())) N n code 0 []
noncomputable def Zq105_S (N : Nat) : FSum := ⟨Zq105_ps, Zq105_rs, fun x => Zq105 N x.1 x.2.1⟩
theorem Zq105_pc (N : Nat) : PC Tryz.prog 111 (Zq105_S N) := pcQ (L := [Zq105_l0_s N]) (Zq105_gok N) Tryz.call111 Tryz.func111 (fun x => by kernel_rfl) ⟨Zq105_l0_ok N, trivial⟩ (by kernel_rfl)

abbrev Zq90_ps : List (PV.Mode × Ty) := [(.mut, BQOU8QIU64), (.ro, QILQII)]
abbrev Zq90_rs : List (Bool × Ty) := [(true, LI)]
noncomputable def Zq90_G (N : Nat) : GTab := gOf [(62, Zq97_S N), (95, Zq98_S N), (61, Zq93_S N), (111, Zq105_S N), (26, Zq92_S N), (60, Zq85_S N)]
theorem Zq90_gok (N : Nat) : GOk Tryz.prog (Zq90_G N) := gOf_ok ⟨Zq97_pc N, Zq98_pc N, Zq93_pc N, Zq105_pc N, Zq92_pc N, Zq85_pc N, trivial⟩
noncomputable def Zq90_code : Code := (Tryz.f65.body).getD .skip
noncomputable def Zq90 (N : Nat) (c : ((List Int) × (Int × Int))) (g : (Int × (List (Int × Int)))) : Option (((List Int) × Unit) × (((List Int) × (Int × Int)) × Unit)) :=
 ((Zq97 N g.1 8).bind fun r =>
 ((Zq98 N r.1.1 0).bind fun r1 =>
 ((Zq93 N c 256).bind fun r2 =>
 ((Zq105 N r1.1.1 r2.1.1).bind fun r3 =>
 ((Zq92 N r2.2.1 20).bind fun r4 =>
 (br r4.1.1
 (((Zq85 N r4.2.1 [(-1), 0, 8]).bind fun r5 =>
 (chk (room r3.1.1 [r5.1.1])
 (some (((tApp r3.1.1 [r5.1.1]), ()), (r5.2.1, ()))))))
 (some ((r3.1.1, ()), (r4.2.1, ())))))))))
noncomputable def Zq90_S (N : Nat) : FSum := ⟨Zq90_ps, Zq90_rs, fun x => Zq90 N x.1 x.2.1⟩
theorem Zq90_pc (N : Nat) : PC Tryz.prog 65 (Zq90_S N) := pcQ (L := []) (Zq90_gok N) Tryz.call65 Tryz.func65 (fun x => by kernel_rfl) trivial (by kernel_rfl)

abbrev Zq95_ps : List (PV.Mode × Ty) := [(.ro, LI), (.ro, I)]
abbrev Zq95_rs : List (Bool × Ty) := [(true, .bool)]
noncomputable def Zq95_G (N : Nat) : GTab := gOf []
theorem Zq95_gok (N : Nat) : GOk Tryz.prog (Zq95_G N) := gOf_ok trivial
noncomputable def Zq95_code : Code := (Tryz.f115.body).getD .skip
noncomputable def Zq95_l0_sh : Sh := ⟨[(0, .one (.ro LI)), (1, .one (.ro I)), (5, .one (.ro I))], []⟩
noncomputable def Zq95_l0_ex : List (Ex × Sh) := [(.ret, ⟨[(4, .one (.ro .bool))], []⟩), (.exit 0, ⟨[], []⟩)]
noncomputable def Zq95_l0 {R : Type} (N : Nat) (k0 : Bool → Option R) (k1 : Unit → Option R) : Nat → (List Int) → Int → Int → Option R
 | 0, _, _, _ => none
 | K + 1, l1, n1, i =>
 (br (ilt i (tLen l1))
 ((chk (inb l1 i)
 (br (ieq (rdI l1 i) n1)
 (k0 true)
 (Zq95_l0 N k0 k1 K l1 n1 (IntKind.i64.wrap (i + 1))))))
 (k1 ()))
noncomputable def Zq95_l0_again {R : Type} (N : Nat) (ks : KS Zq95_l0_ex R) (k : Nat) (x : Zq95_l0_sh.T) : Option R :=
 Zq95_l0 N (fun y0 => ks 0 ((y0, ()), ())) (fun (_ : Unit) => ks 1 ((), ())) k x.1.1 x.1.2.1 x.1.2.2.1
noncomputable def Zq95_l0_s (N : Nat) : LSum := ⟨Zq95_l0_sh, Zq95_l0_ex, fun x ks => Zq95_l0_again N ks N x⟩
theorem Zq95_l0_ok (N : Nat) : LoopOk Tryz.prog Tryz.f115.ntmps (Zq95_l0_s N) (loopAt Zq95_code 0) := loopQ (sh := Zq95_l0_sh) (ex := Zq95_l0_ex) (N := N) (L := []) (fun R k x ks => Zq95_l0_again N ks k x) (Zq95_gok N) (fun _ _ _ => rfl) (fun R k x ks => by kernel_rfl) trivial (by kernel_rfl)
noncomputable def Zq95 (N : Nat) (l : (List Int)) (n : Int) : Option ((Bool × Unit) × (Unit)) :=
 Zq95_l0 N (fun x => some ((x, ()), ())) (fun (_ : Unit) => some ((false, ()), ())) N l n 0
noncomputable def Zq95_S (N : Nat) : FSum := ⟨Zq95_ps, Zq95_rs, fun x => Zq95 N x.1 x.2.1⟩
theorem Zq95_pc (N : Nat) : PC Tryz.prog 115 (Zq95_S N) := pcQ (L := [Zq95_l0_s N]) (Zq95_gok N) Tryz.call115 Tryz.func115 (fun x => by kernel_rfl) ⟨Zq95_l0_ok N, trivial⟩ (by kernel_rfl)

abbrev Zq110_ps : List (PV.Mode × Ty) := [(.ro, QILQII), (.ro, I), (.ro, I)]
abbrev Zq110_rs : List (Bool × Ty) := [(true, .bool)]
noncomputable def Zq110_G (N : Nat) : GTab := gOf []
theorem Zq110_gok (N : Nat) : GOk Tryz.prog (Zq110_G N) := gOf_ok trivial
noncomputable def Zq110_code : Code := (Tryz.f72.body).getD .skip
noncomputable def Zq110_l0_sh : Sh := ⟨[(1, .one (.ro I)), (2, .one (.ro I)), (3, .one (.adr 0 0)), (7, .one (.ro I))], [.box [.ro I, .ro LQII]]⟩
noncomputable def Zq110_l0_ex : List (Ex × Sh) := [(.ret, ⟨[(6, .one (.ro .bool))], []⟩), (.exit 0, ⟨[], []⟩)]
noncomputable def Zq110_l0 {R : Type} (N : Nat) (k0 : Bool → Option R) (k1 : Unit → Option R) : Nat → Int → Int → Int → Int → (List (Int × Int)) → Option R
 | 0, _, _, _, _, _ => none
 | K + 1, a1, b1, i, o, o1 =>
 (br (ilt i (tLen o1))
 ((chk (inb o1 i)
 (br (ieq ((rdP o1 i).1) a1)
 ((br (ieq ((rdP o1 i).2) b1)
 (k0 true)
 ((br (ieq ((rdP o1 i).1) b1)
 ((br (ieq ((rdP o1 i).2) a1)
 (k0 true)
 (Zq110_l0 N k0 k1 K a1 b1 (IntKind.i64.wrap (i + 1)) o o1)))
 (Zq110_l0 N k0 k1 K a1 b1 (IntKind.i64.wrap (i + 1)) o o1)))))
 ((br (ieq ((rdP o1 i).1) b1)
 ((br (ieq ((rdP o1 i).2) a1)
 (k0 true)
 (Zq110_l0 N k0 k1 K a1 b1 (IntKind.i64.wrap (i + 1)) o o1)))
 (Zq110_l0 N k0 k1 K a1 b1 (IntKind.i64.wrap (i + 1)) o o1))))))
 (k1 ()))
noncomputable def Zq110_l0_again {R : Type} (N : Nat) (ks : KS Zq110_l0_ex R) (k : Nat) (x : Zq110_l0_sh.T) : Option R :=
 Zq110_l0 N (fun y0 => ks 0 ((y0, ()), ())) (fun (_ : Unit) => ks 1 ((), ())) k x.1.1 x.1.2.1 x.1.2.2.2.1 x.2.1.1 x.2.1.2.1
noncomputable def Zq110_l0_s (N : Nat) : LSum := ⟨Zq110_l0_sh, Zq110_l0_ex, fun x ks => Zq110_l0_again N ks N x⟩
theorem Zq110_l0_ok (N : Nat) : LoopOk Tryz.prog Tryz.f72.ntmps (Zq110_l0_s N) (loopAt Zq110_code 0) := loopQ (sh := Zq110_l0_sh) (ex := Zq110_l0_ex) (N := N) (L := []) (fun R k x ks => Zq110_l0_again N ks k x) (Zq110_gok N) (fun _ _ _ => rfl) (fun R k x ks => by kernel_rfl) trivial (by kernel_rfl)
noncomputable def Zq110 (N : Nat) (g : (Int × (List (Int × Int)))) (a : Int) (b : Int) : Option ((Bool × Unit) × (Unit)) :=
 Zq110_l0 N (fun x => some ((x, ()), ())) (fun (_ : Unit) => some ((false, ()), ())) N a b 0 g.1 g.2
noncomputable def Zq110_S (N : Nat) : FSum := ⟨Zq110_ps, Zq110_rs, fun x => Zq110 N x.1 x.2.1 x.2.2.1⟩
theorem Zq110_pc (N : Nat) : PC Tryz.prog 72 (Zq110_S N) := pcQ (L := [Zq110_l0_s N]) (Zq110_gok N) Tryz.call72 Tryz.func72 (fun x => by kernel_rfl) ⟨Zq110_l0_ok N, trivial⟩ (by kernel_rfl)

abbrev Zq120_ps : List (PV.Mode × Ty) := [(.ro, QILQII), (.ro, I), (.ro, LI)]
abbrev Zq120_rs : List (Bool × Ty) := [(true, .bool)]
noncomputable def Zq120_G (N : Nat) : GTab := gOf [(115, Zq95_S N), (72, Zq110_S N)]
theorem Zq120_gok (N : Nat) : GOk Tryz.prog (Zq120_G N) := gOf_ok ⟨Zq95_pc N, Zq110_pc N, trivial⟩
noncomputable def Zq120_code : Code := (Tryz.f112.body).getD .skip
noncomputable def Zq120_l0_sh : Sh := ⟨[(2, .one (.ro LI)), (3, .one (.adr 0 0)), (7, .one (.ro I))], [.box [.ro I, .ro LQII]]⟩
noncomputable def Zq120_l0_ex : List (Ex × Sh) := [(.ret, ⟨[(6, .one (.ro .bool))], []⟩), (.exit 1, ⟨[], []⟩)]
noncomputable def Zq120_l0 {R : Type} (N : Nat) (k0 : Bool → Option R) (k1 : Unit → Option R) : Nat → (List Int) → Int → Int → (List (Int × Int)) → Option R
 | 0, _, _, _, _ => none
 | K + 1, x, x1, o, o1 =>
 (br (ilt x1 (tLen o1))
 ((chk (inb o1 x1)
 ((Zq95 N x ((rdP o1 x1).1)).bind fun r =>
 (br (!r.1.1)
 ((chk (inb o1 x1)
 ((Zq95 N x ((rdP o1 x1).2)).bind fun r1 =>
 (br (!r1.1.1)
 (k0 false)
 (Zq120_l0 N k0 k1 K x (IntKind.i64.wrap (x1 + 1)) o o1)))))
 (Zq120_l0 N k0 k1 K x (IntKind.i64.wrap (x1 + 1)) o o1)))))
 (k1 ()))
noncomputable def Zq120_l0_again {R : Type} (N : Nat) (ks : KS Zq120_l0_ex R) (k : Nat) (x : Zq120_l0_sh.T) : Option R :=
 Zq120_l0 N (fun y0 => ks 0 ((y0, ()), ())) (fun (_ : Unit) => ks 1 ((), ())) k x.1.1 x.1.2.2.1 x.2.1.1 x.2.1.2.1
noncomputable def Zq120_l0_s (N : Nat) : LSum := ⟨Zq120_l0_sh, Zq120_l0_ex, fun x ks => Zq120_l0_again N ks N x⟩
theorem Zq120_l0_ok (N : Nat) : LoopOk Tryz.prog Tryz.f112.ntmps (Zq120_l0_s N) (loopAt Zq120_code 0) := loopQ (sh := Zq120_l0_sh) (ex := Zq120_l0_ex) (N := N) (L := []) (fun R k x ks => Zq120_l0_again N ks k x) (Zq120_gok N) (fun _ _ _ => rfl) (fun R k x ks => by kernel_rfl) trivial (by kernel_rfl)
noncomputable def Zq120_l1_0_sh : Sh := ⟨[(2, .one (.ro LI)), (3, .one (.adr 0 0)), (8, .one (.ro I)), (9, .one (.ro I))], [.box [.ro I, .ro LQII]]⟩
noncomputable def Zq120_l1_0_ex : List (Ex × Sh) := [(.ret, ⟨[(6, .one (.ro .bool))], []⟩), (.exit 5, ⟨[(2, .one (.ro LI)), (3, .one (.adr 0 0)), (8, .one (.ro I))], [.box [.ro I, .ro LQII]]⟩)]
noncomputable def Zq120_l1_0 {R : Type} (N : Nat) (k0 : Bool → Option R) (k1 : (List Int) → Int → Int → (List (Int × Int)) → Option R) : Nat → (List Int) → Int → Int → Int → (List (Int × Int)) → Option R
 | 0, _, _, _, _, _ => none
 | K + 1, x3, x4, x5, o2, o3 =>
 (br (ilt x5 x4)
 ((chk (inb x3 x4)
 (chk (inb x3 x5)
 ((Zq110 N (o2, o3) (rdI x3 x4) (rdI x3 x5)).bind fun r =>
 (br (!r.1.1)
 (k0 false)
 (Zq120_l1_0 N k0 k1 K x3 x4 (IntKind.i64.wrap (x5 + 1)) o2 o3))))))
 (k1 x3 x4 o2 o3))
noncomputable def Zq120_l1_0_again {R : Type} (N : Nat) (ks : KS Zq120_l1_0_ex R) (k : Nat) (x : Zq120_l1_0_sh.T) : Option R :=
 Zq120_l1_0 N (fun y0 => ks 0 ((y0, ()), ())) (fun y0 y1 y2 y3 => ks 1 ((y0, (), y1, ()), ((y2, y3, ()), ()))) k x.1.1 x.1.2.2.1 x.1.2.2.2.1 x.2.1.1 x.2.1.2.1
noncomputable def Zq120_l1_0_s (N : Nat) : LSum := ⟨Zq120_l1_0_sh, Zq120_l1_0_ex, fun x ks => Zq120_l1_0_again N ks N x⟩
theorem Zq120_l1_0_ok (N : Nat) : LoopOk Tryz.prog Tryz.f112.ntmps (Zq120_l1_0_s N) (loopAt (loopAt Zq120_code 1) 0) := loopQ (sh := Zq120_l1_0_sh) (ex := Zq120_l1_0_ex) (N := N) (L := []) (fun R k x ks => Zq120_l1_0_again N ks k x) (Zq120_gok N) (fun _ _ _ => rfl) (fun R k x ks => by kernel_rfl) trivial (by kernel_rfl)
noncomputable def Zq120_l1_sh : Sh := ⟨[(2, .one (.ro LI)), (3, .one (.adr 0 0)), (8, .one (.ro I))], [.box [.ro I, .ro LQII]]⟩
noncomputable def Zq120_l1_ex : List (Ex × Sh) := [(.ret, ⟨[(6, .one (.ro .bool))], []⟩), (.exit 3, ⟨[], []⟩)]
noncomputable def Zq120_l1 {R : Type} (N : Nat) (k0 : Bool → Option R) (k1 : Unit → Option R) : Nat → (List Int) → Int → Int → (List (Int × Int)) → Option R
 | 0, _, _, _, _ => none
 | K + 1, x1, x2, o, o1 =>
 (br (ilt x2 (tLen x1))
 (Zq120_l1_0 N (fun x3 => k0 x3) (fun x4 x5 o2 o3 => Zq120_l1 N k0 k1 K x4 (IntKind.i64.wrap (x5 + 1)) o2 o3) N x1 x2 0 o o1)
 (k1 ()))
noncomputable def Zq120_l1_again {R : Type} (N : Nat) (ks : KS Zq120_l1_ex R) (k : Nat) (x : Zq120_l1_sh.T) : Option R :=
 Zq120_l1 N (fun y0 => ks 0 ((y0, ()), ())) (fun (_ : Unit) => ks 1 ((), ())) k x.1.1 x.1.2.2.1 x.2.1.1 x.2.1.2.1
noncomputable def Zq120_l1_s (N : Nat) : LSum := ⟨Zq120_l1_sh, Zq120_l1_ex, fun x ks => Zq120_l1_again N ks N x⟩
theorem Zq120_l1_ok (N : Nat) : LoopOk Tryz.prog Tryz.f112.ntmps (Zq120_l1_s N) (loopAt Zq120_code 1) := loopQ (sh := Zq120_l1_sh) (ex := Zq120_l1_ex) (N := N) (L := [Zq120_l1_0_s N]) (fun R k x ks => Zq120_l1_again N ks k x) (Zq120_gok N) (fun _ _ _ => rfl) (fun R k x ks => by kernel_rfl) ⟨Zq120_l1_0_ok N, trivial⟩ (by kernel_rfl)
noncomputable def Zq120_l2_0_sh : Sh := ⟨[(2, .one (.ro LI)), (3, .one (.adr 0 0)), (10, .one (.ro I)), (11, .one (.ro .bool)), (12, .one (.ro I))], [.box [.ro I, .ro LQII]]⟩
noncomputable def Zq120_l2_0_ex : List (Ex × Sh) := [(.exit 9, ⟨[(2, .one (.ro LI)), (3, .one (.adr 0 0)), (10, .one (.ro I)), (11, .one (.ro .bool))], [.box [.ro I, .ro LQII]]⟩)]
noncomputable def Zq120_l2_0 {R : Type} (N : Nat) (k0 : (List Int) → Int → Bool → Int → (List (Int × Int)) → Option R) : Nat → (List Int) → Int → Bool → Int → Int → (List (Int × Int)) → Option R
 | 0, _, _, _, _, _, _ => none
 | K + 1, x4, x5, x6, x7, o2, o3 =>
 (br (ilt x7 (tLen x4))
 ((br x6
 (Zq120_l2_0 N k0 K x4 x5 true (IntKind.i64.wrap (x7 + 1)) o2 o3)
 ((chk (inb x4 x7)
 ((Zq110 N (o2, o3) (rdI x4 x7) x5).bind fun r1 =>
 Zq120_l2_0 N k0 K x4 x5 r1.1.1 (IntKind.i64.wrap (x7 + 1)) o2 o3)))))
 (k0 x4 x5 x6 o2 o3))
noncomputable def Zq120_l2_0_again {R : Type} (N : Nat) (ks : KS Zq120_l2_0_ex R) (k : Nat) (x : Zq120_l2_0_sh.T) : Option R :=
 Zq120_l2_0 N (fun y0 y1 y2 y3 y4 => ks 0 ((y0, (), y1, y2, ()), ((y3, y4, ()), ()))) k x.1.1 x.1.2.2.1 x.1.2.2.2.1 x.1.2.2.2.2.1 x.2.1.1 x.2.1.2.1
noncomputable def Zq120_l2_0_s (N : Nat) : LSum := ⟨Zq120_l2_0_sh, Zq120_l2_0_ex, fun x ks => Zq120_l2_0_again N ks N x⟩
theorem Zq120_l2_0_ok (N : Nat) : LoopOk Tryz.prog Tryz.f112.ntmps (Zq120_l2_0_s N) (loopAt (loopAt Zq120_code 2) 0) := loopQ (sh := Zq120_l2_0_sh) (ex := Zq120_l2_0_ex) (N := N) (L := []) (fun R k x ks => Zq120_l2_0_again N ks k x) (Zq120_gok N) (fun _ _ _ => rfl) (fun R k x ks => by kernel_rfl) trivial (by kernel_rfl)
noncomputable def Zq120_l2_sh : Sh := ⟨[(2, .one (.ro LI)), (3, .one (.adr 0 0)), (10, .one (.ro I))], [.box [.ro I, .ro LQII]]⟩
noncomputable def Zq120_l2_ex : List (Ex × Sh) := [(.ret, ⟨[(6, .one (.ro .bool))], []⟩), (.exit 7, ⟨[], []⟩)]
noncomputable def Zq120_l2 {R : Type} (N : Nat) (k0 : Bool → Option R) (k1 : Unit → Option R) : Nat → (List Int) → Int → Int → (List (Int × Int)) → Option R
 | 0, _, _, _, _ => none
 | K + 1, x2, x3, o, o1 =>
 (br (ilt x3 o)
 (((Zq95 N x2 x3).bind fun r =>
 Zq120_l2_0 N (fun x4 x5 x6 o2 o3 => (br (!x6)
 (k0 false)
 (Zq120_l2 N k0 k1 K x4 (IntKind.i64.wrap (x5 + 1)) o2 o3))) N x2 x3 r.1.1 0 o o1))
 (k1 ()))
noncomputable def Zq120_l2_again {R : Type} (N : Nat) (ks : KS Zq120_l2_ex R) (k : Nat) (x : Zq120_l2_sh.T) : Option R :=
 Zq120_l2 N (fun y0 => ks 0 ((y0, ()), ())) (fun (_ : Unit) => ks 1 ((), ())) k x.1.1 x.1.2.2.1 x.2.1.1 x.2.1.2.1
noncomputable def Zq120_l2_s (N : Nat) : LSum := ⟨Zq120_l2_sh, Zq120_l2_ex, fun x ks => Zq120_l2_again N ks N x⟩
theorem Zq120_l2_ok (N : Nat) : LoopOk Tryz.prog Tryz.f112.ntmps (Zq120_l2_s N) (loopAt Zq120_code 2) := loopQ (sh := Zq120_l2_sh) (ex := Zq120_l2_ex) (N := N) (L := [Zq120_l2_0_s N]) (fun R k x ks => Zq120_l2_again N ks k x) (Zq120_gok N) (fun _ _ _ => rfl) (fun R k x ks => by kernel_rfl) ⟨Zq120_l2_0_ok N, trivial⟩ (by kernel_rfl)
noncomputable def Zq120 (N : Nat) (c : (Int × (List (Int × Int)))) (c1 : Int) (c2 : (List Int)) : Option ((Bool × Unit) × (Unit)) :=
 (br (ieq c1 1)
 (Zq120_l0 N (fun x => some ((x, ()), ())) (fun (_ : Unit) => some ((true, ()), ())) N c2 0 c.1 c.2)
 ((br (ieq c1 2)
 (Zq120_l1 N (fun x1 => some ((x1, ()), ())) (fun (_ : Unit) => some ((true, ()), ())) N c2 0 c.1 c.2)
 (Zq120_l2 N (fun x2 => some ((x2, ()), ())) (fun (_ : Unit) => some ((true, ()), ())) N c2 0 c.1 c.2))))
noncomputable def Zq120_S (N : Nat) : FSum := ⟨Zq120_ps, Zq120_rs, fun x => Zq120 N x.1 x.2.1 x.2.2.1⟩
theorem Zq120_pc (N : Nat) : PC Tryz.prog 112 (Zq120_S N) := pcQ (L := [Zq120_l0_s N, Zq120_l1_s N, Zq120_l2_s N]) (Zq120_gok N) Tryz.call112 Tryz.func112 (fun x => by kernel_rfl) ⟨Zq120_l0_ok N, Zq120_l1_ok N, Zq120_l2_ok N, trivial⟩ (by kernel_rfl)

abbrev Zq104_ps : List (PV.Mode × Ty) := [(.ro, LI), (.ro, LI)]
abbrev Zq104_rs : List (Bool × Ty) := [(true, .bool)]
noncomputable def Zq104_G (N : Nat) : GTab := gOf []
theorem Zq104_gok (N : Nat) : GOk Tryz.prog (Zq104_G N) := gOf_ok trivial
noncomputable def Zq104_code : Code := (Tryz.f114.body).getD .skip
noncomputable def Zq104_l0_sh : Sh := ⟨[(0, .one (.ro LI)), (1, .one (.ro LI)), (5, .one (.ro I))], []⟩
noncomputable def Zq104_l0_ex : List (Ex × Sh) := [(.ret, ⟨[(4, .one (.ro .bool))], []⟩), (.exit 0, ⟨[(0, .one (.ro LI)), (1, .one (.ro LI))], []⟩)]
noncomputable def Zq104_l0 {R : Type} (N : Nat) (k0 : Bool → Option R) (k1 : (List Int) → (List Int) → Option R) : Nat → (List Int) → (List Int) → Int → Option R
 | 0, _, _, _ => none
 | K + 1, a1, b1, i =>
 (br (ilt i (tLen a1))
 ((br (ilt i (tLen b1))
 ((chk (inb a1 i)
 (chk (inb b1 i)
 (br (ine (rdI a1 i) (rdI b1 i))
 ((chk (inb a1 i)
 (chk (inb b1 i)
 (k0 (ilt (rdI a1 i) (rdI b1 i))))))
 (Zq104_l0 N k0 k1 K a1 b1 (IntKind.i64.wrap (i + 1)))))))
 (k1 a1 b1)))
 (k1 a1 b1))
noncomputable def Zq104_l0_again {R : Type} (N : Nat) (ks : KS Zq104_l0_ex R) (k : Nat) (x : Zq104_l0_sh.T) : Option R :=
 Zq104_l0 N (fun y0 => ks 0 ((y0, ()), ())) (fun y0 y1 => ks 1 ((y0, y1, ()), ())) k x.1.1 x.1.2.1 x.1.2.2.1
noncomputable def Zq104_l0_s (N : Nat) : LSum := ⟨Zq104_l0_sh, Zq104_l0_ex, fun x ks => Zq104_l0_again N ks N x⟩
theorem Zq104_l0_ok (N : Nat) : LoopOk Tryz.prog Tryz.f114.ntmps (Zq104_l0_s N) (loopAt Zq104_code 0) := loopQ (sh := Zq104_l0_sh) (ex := Zq104_l0_ex) (N := N) (L := []) (fun R k x ks => Zq104_l0_again N ks k x) (Zq104_gok N) (fun _ _ _ => rfl) (fun R k x ks => by kernel_rfl) trivial (by kernel_rfl)
noncomputable def Zq104 (N : Nat) (a : (List Int)) (b : (List Int)) : Option ((Bool × Unit) × (Unit)) :=
 Zq104_l0 N (fun x => some ((x, ()), ())) (fun a1 b1 => some (((ilt (tLen a1) (tLen b1)), ()), ())) N a b 0
noncomputable def Zq104_S (N : Nat) : FSum := ⟨Zq104_ps, Zq104_rs, fun x => Zq104 N x.1 x.2.1⟩
theorem Zq104_pc (N : Nat) : PC Tryz.prog 114 (Zq104_S N) := pcQ (L := [Zq104_l0_s N]) (Zq104_gok N) Tryz.call114 Tryz.func114 (fun x => by kernel_rfl) ⟨Zq104_l0_ok N, trivial⟩ (by kernel_rfl)

abbrev Zq100_ps : List (PV.Mode × Ty) := [(.ro, LI)]
abbrev Zq100_rs : List (Bool × Ty) := [(false, LI)]
noncomputable def Zq100_G (N : Nat) : GTab := gOf []
theorem Zq100_gok (N : Nat) : GOk Tryz.prog (Zq100_G N) := gOf_ok trivial
noncomputable def Zq100_code : Code := (Tryz.f67.body).getD .skip
noncomputable def Zq100 (N : Nat) (l : (List Int)) : Option (((List Int) × Unit) × (Unit)) :=
 (chk (room (α := Int) (β := Int) [] l)
 (some (((tApp [] l), ()), ())))
noncomputable def Zq100_S (N : Nat) : FSum := ⟨Zq100_ps, Zq100_rs, fun x => Zq100 N x.1⟩
theorem Zq100_pc (N : Nat) : PC Tryz.prog 67 (Zq100_S N) := pcQ (L := []) (Zq100_gok N) Tryz.call67 Tryz.func67 (fun x => by kernel_rfl) trivial (by kernel_rfl)

abbrev Zq103_ps : List (PV.Mode × Ty) := [(.ro, LI), (.ro, LI)]
abbrev Zq103_rs : List (Bool × Ty) := [(true, .bool)]
noncomputable def Zq103_G (N : Nat) : GTab := gOf []
theorem Zq103_gok (N : Nat) : GOk Tryz.prog (Zq103_G N) := gOf_ok trivial
noncomputable def Zq103_code : Code := (Tryz.f75.body).getD .skip
noncomputable def Zq103_l0_sh : Sh := ⟨[(0, .one (.ro LI)), (1, .one (.ro LI)), (5, .one (.ro I))], []⟩
noncomputable def Zq103_l0_ex : List (Ex × Sh) := [(.ret, ⟨[(4, .one (.ro .bool))], []⟩), (.exit 0, ⟨[], []⟩)]
noncomputable def Zq103_l0 {R : Type} (N : Nat) (k0 : Bool → Option R) (k1 : Unit → Option R) : Nat → (List Int) → (List Int) → Int → Option R
 | 0, _, _, _ => none
 | K + 1, a1, b1, i =>
 (br (ilt i (tLen a1))
 ((chk (inb a1 i)
 (chk (inb b1 i)
 (br (ine (rdI a1 i) (rdI b1 i))
 (k0 false)
 (Zq103_l0 N k0 k1 K a1 b1 (IntKind.i64.wrap (i + 1)))))))
 (k1 ()))
noncomputable def Zq103_l0_again {R : Type} (N : Nat) (ks : KS Zq103_l0_ex R) (k : Nat) (x : Zq103_l0_sh.T) : Option R :=
 Zq103_l0 N (fun y0 => ks 0 ((y0, ()), ())) (fun (_ : Unit) => ks 1 ((), ())) k x.1.1 x.1.2.1 x.1.2.2.1
noncomputable def Zq103_l0_s (N : Nat) : LSum := ⟨Zq103_l0_sh, Zq103_l0_ex, fun x ks => Zq103_l0_again N ks N x⟩
theorem Zq103_l0_ok (N : Nat) : LoopOk Tryz.prog Tryz.f75.ntmps (Zq103_l0_s N) (loopAt Zq103_code 0) := loopQ (sh := Zq103_l0_sh) (ex := Zq103_l0_ex) (N := N) (L := []) (fun R k x ks => Zq103_l0_again N ks k x) (Zq103_gok N) (fun _ _ _ => rfl) (fun R k x ks => by kernel_rfl) trivial (by kernel_rfl)
noncomputable def Zq103 (N : Nat) (a : (List Int)) (b : (List Int)) : Option ((Bool × Unit) × (Unit)) :=
 (br (ine (tLen a) (tLen b))
 (some ((false, ()), ()))
 (Zq103_l0 N (fun x => some ((x, ()), ())) (fun (_ : Unit) => some ((true, ()), ())) N a b 0))
noncomputable def Zq103_S (N : Nat) : FSum := ⟨Zq103_ps, Zq103_rs, fun x => Zq103 N x.1 x.2.1⟩
theorem Zq103_pc (N : Nat) : PC Tryz.prog 75 (Zq103_S N) := pcQ (L := [Zq103_l0_s N]) (Zq103_gok N) Tryz.call75 Tryz.func75 (fun x => by kernel_rfl) ⟨Zq103_l0_ok N, trivial⟩ (by kernel_rfl)

abbrev Zq114_ps : List (PV.Mode × Ty) := [(.ro, LLI)]
abbrev Zq114_rs : List (Bool × Ty) := [(false, LLI)]
noncomputable def Zq114_G (N : Nat) : GTab := gOf [(114, Zq104_S N), (67, Zq100_S N), (75, Zq103_S N)]
theorem Zq114_gok (N : Nat) : GOk Tryz.prog (Zq114_G N) := gOf_ok ⟨Zq104_pc N, Zq100_pc N, Zq103_pc N, trivial⟩
noncomputable def Zq114_code : Code := (Tryz.f70.body).getD .skip
noncomputable def Zq114_l0_0_sh : Sh := ⟨[(0, .one (.ro LLI)), (3, .one (.ref 0)), (4, .one (.ro I)), (5, .one (.ro I))], [.sl 27 LI .own]⟩
noncomputable def Zq114_l0_0_ex : List (Ex × Sh) := [(.exit 2, ⟨[(0, .one (.ro LLI)), (3, .one (.ref 0)), (4, .one (.ro I)), (5, .one (.ro I))], [.sl 27 LI .own]⟩)]
noncomputable def Zq114_l0_0 {R : Type} (N : Nat) (k0 : (List (List Int)) → Int → Int → (List (List Int)) → Option R) : Nat → (List (List Int)) → Int → Int → (List (List Int)) → Option R
 | 0, _, _, _, _ => none
 | K + 1, states4, i3, kv1, o3 =>
 (br (ilt 0 kv1)
 ((chk (inb states4 i3)
 (chk (inb o3 (IntKind.i64.wrap (kv1 - 1)))
 ((Zq104 N (rdL states4 i3) (rdL o3 (IntKind.i64.wrap (kv1 - 1)))).bind fun r =>
 (br r.1.1
 (Zq114_l0_0 N k0 K states4 i3 (IntKind.i64.wrap (kv1 - 1)) o3)
 (k0 states4 i3 kv1 o3))))))
 (k0 states4 i3 kv1 o3))
noncomputable def Zq114_l0_0_again {R : Type} (N : Nat) (ks : KS Zq114_l0_0_ex R) (k : Nat) (x : Zq114_l0_0_sh.T) : Option R :=
 Zq114_l0_0 N (fun y0 y1 y2 y3 => ks 0 ((y0, (), y1, y2, ()), (y3, ()))) k x.1.1 x.1.2.2.1 x.1.2.2.2.1 x.2.1
noncomputable def Zq114_l0_0_s (N : Nat) : LSum := ⟨Zq114_l0_0_sh, Zq114_l0_0_ex, fun x ks => Zq114_l0_0_again N ks N x⟩
theorem Zq114_l0_0_ok (N : Nat) : LoopOk Tryz.prog Tryz.f70.ntmps (Zq114_l0_0_s N) (loopAt (loopAt Zq114_code 0) 0) := loopQ (sh := Zq114_l0_0_sh) (ex := Zq114_l0_0_ex) (N := N) (L := []) (fun R k x ks => Zq114_l0_0_again N ks k x) (Zq114_gok N) (fun _ _ _ => rfl) (fun R k x ks => by kernel_rfl) trivial (by kernel_rfl)
noncomputable def Zq114_l0_sh : Sh := ⟨[(0, .one (.ro LLI)), (3, .one (.ref 0)), (4, .one (.ro I))], [.sl 27 LI .own]⟩
noncomputable def Zq114_l0_ex : List (Ex × Sh) := [(.exit 0, ⟨[(3, .one (.ref 0))], [.sl 27 LI .own]⟩)]
noncomputable def Zq114_l0 {R : Type} (N : Nat) (k0 : (List (List Int)) → Option R) : Nat → (List (List Int)) → Int → (List (List Int)) → Option R
 | 0, _, _, _ => none
 | K + 1, states3, i2, o2 =>
 (br (ilt i2 (tLen states3))
 (Zq114_l0_0 N (fun states4 i3 kv1 o3 => (br (ieq kv1 0)
 ((chk (ile 0 0 && ile 0 kv1 && ile kv1 (tLen o3))
 (chk (room (α := (List Int)) (β := (List Int)) [] (tCut o3 0 kv1))
 (chk (inb states4 i3)
 ((Zq100 N (rdL states4 i3)).bind fun r =>
 (chk (room (α := (List Int)) (β := (List Int)) (tApp [] (tCut o3 0 kv1)) [r.1.1])
 (chk (ile 0 kv1 && ile kv1 (tLen o3) && ile (tLen o3) (tLen o3))
 (chk (room (α := (List Int)) (β := (List Int)) (tApp (tApp [] (tCut o3 0 kv1)) [r.1.1]) (tCut o3 kv1 (tLen o3)))
 (Zq114_l0 N k0 K states4 (IntKind.i64.wrap (i3 + 1)) (tApp (tApp (tApp [] (tCut o3 0 kv1)) [r.1.1]) (tCut o3 kv1 (tLen o3))))))))))))
 ((chk (inb o3 (IntKind.i64.wrap (kv1 - 1)))
 (chk (inb states4 i3)
 ((Zq103 N (rdL o3 (IntKind.i64.wrap (kv1 - 1))) (rdL states4 i3)).bind fun r1 =>
 (br (!r1.1.1)
 ((chk (ile 0 0 && ile 0 kv1 && ile kv1 (tLen o3))
 (chk (room (α := (List Int)) (β := (List Int)) [] (tCut o3 0 kv1))
 (chk (inb states4 i3)
 ((Zq100 N (rdL states4 i3)).bind fun r2 =>
 (chk (room (α := (List Int)) (β := (List Int)) (tApp [] (tCut o3 0 kv1)) [r2.1.1])
 (chk (ile 0 kv1 && ile kv1 (tLen o3) && ile (tLen o3) (tLen o3))
 (chk (room (α := (List Int)) (β := (List Int)) (tApp (tApp [] (tCut o3 0 kv1)) [r2.1.1]) (tCut o3 kv1 (tLen o3)))
 (Zq114_l0 N k0 K states4 (IntKind.i64.wrap (i3 + 1)) (tApp (tApp (tApp [] (tCut o3 0 kv1)) [r2.1.1]) (tCut o3 kv1 (tLen o3))))))))))))
 (Zq114_l0 N k0 K states4 (IntKind.i64.wrap (i3 + 1)) o3)))))))) N states3 i2 (tLen o2) o2)
 (k0 o2))
noncomputable def Zq114_l0_again {R : Type} (N : Nat) (ks : KS Zq114_l0_ex R) (k : Nat) (x : Zq114_l0_sh.T) : Option R :=
 Zq114_l0 N (fun y0 => ks 0 (((), ()), (y0, ()))) k x.1.1 x.1.2.2.1 x.2.1
noncomputable def Zq114_l0_s (N : Nat) : LSum := ⟨Zq114_l0_sh, Zq114_l0_ex, fun x ks => Zq114_l0_again N ks N x⟩
theorem Zq114_l0_ok (N : Nat) : LoopOk Tryz.prog Tryz.f70.ntmps (Zq114_l0_s N) (loopAt Zq114_code 0) := loopQ (sh := Zq114_l0_sh) (ex := Zq114_l0_ex) (N := N) (L := [Zq114_l0_0_s N]) (fun R k x ks => Zq114_l0_again N ks k x) (Zq114_gok N) (fun _ _ _ => rfl) (fun R k x ks => by kernel_rfl) ⟨Zq114_l0_0_ok N, trivial⟩ (by kernel_rfl)
noncomputable def Zq114 (N : Nat) (states : (List (List Int))) : Option (((List (List Int)) × Unit) × (Unit)) :=
 Zq114_l0 N (fun o2 => some ((o2, ()), ())) N states 0 []
noncomputable def Zq114_S (N : Nat) : FSum := ⟨Zq114_ps, Zq114_rs, fun x => Zq114 N x.1⟩
theorem Zq114_pc (N : Nat) : PC Tryz.prog 70 (Zq114_S N) := pcQ (L := [Zq114_l0_s N]) (Zq114_gok N) Tryz.call70 Tryz.func70 (fun x => by kernel_rfl) ⟨Zq114_l0_ok N, trivial⟩ (by kernel_rfl)
end Go.Proofs.YtahehkidnfmfnaaGreat
