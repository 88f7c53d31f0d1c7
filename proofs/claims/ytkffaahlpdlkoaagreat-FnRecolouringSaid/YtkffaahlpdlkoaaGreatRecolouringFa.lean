/- Functions of the program as functions on data. -/
import Derived.Test.YtkffaahlpdlkoaaGreatRecolouringSa
set_option linter.all false
namespace Go.Proofs.YtkffaahlpdlkoaaGreat
open Go Go.PV
abbrev Zq47_ps : List (PV.Mode × Ty) := [(.ro, LU8)]
abbrev Zq47_rs : List (Bool × Ty) := [(true, .bool)]
noncomputable def Zq47_G (N : Nat) : GTab := gOf []
theorem Zq47_gok (N : Nat) : GOk Tryz.prog (Zq47_G N) := gOf_ok trivial
noncomputable def Zq47_code : Code := (Tryz.f6.body).getD .skip
noncomputable def Zq47 (N : Nat) (code : (List Int)) : Option ((Bool × Unit) × (Unit)) :=
 some (((ilt 65536 (tLen code)), ()), ())
noncomputable def Zq47_S (N : Nat) : FSum := ⟨Zq47_ps, Zq47_rs, fun x => Zq47 N x.1⟩
theorem Zq47_pc (N : Nat) : PC Tryz.prog 6 (Zq47_S N) := pcQ (L := []) (Zq47_gok N) Tryz.call6 Tryz.func6 (fun x => by kernel_rfl) trivial (by kernel_rfl)

abbrev Zq87_ps : List (PV.Mode × Ty) := [(.mut, BQOU8QIU64)]
abbrev Zq87_rs : List (Bool × Ty) := [(true, I)]
noncomputable def Zq87_G (N : Nat) : GTab := gOf []
theorem Zq87_gok (N : Nat) : GOk Tryz.prog (Zq87_G N) := gOf_ok trivial
noncomputable def Zq87_code : Code := (Tryz.f94.body).getD .skip
noncomputable def Zq87 (N : Nat) (c : ((List Int) × (Int × Int))) : Option ((Int × Unit) × (((List Int) × (Int × Int)) × Unit)) :=
 (br (ilt c.2.1 (tLen c.1))
 ((chk (inb c.1 c.2.1)
 (br (ile (IntKind.i64.wrap (c.2.1 + 1)) (tLen c.1))
 (some (((IntKind.i64.wrap ((rd U8 c.1 c.2.1))), ()), ((c.1, ((IntKind.i64.wrap (c.2.1 + 1)), (IntKind.u64.wrap ((IntKind.u64.wrap ((IntKind.u64.wrap (c.2.2 * 6364136223846793005)) + (IntKind.u64.wrap ((IntKind.i64.wrap ((rd U8 c.1 c.2.1))))))) + 462197)))), ())))
 (some (((IntKind.i64.wrap ((bitop .and .u64 (shrI .u64 (IntKind.u64.wrap ((IntKind.u64.wrap ((IntKind.u64.wrap (c.2.2 * 6364136223846793005)) + (IntKind.u64.wrap ((IntKind.i64.wrap ((rd U8 c.1 c.2.1))))))) + 462197)) 40) 255))), ()), ((c.1, ((IntKind.i64.wrap (c.2.1 + 1)), (IntKind.u64.wrap ((IntKind.u64.wrap ((IntKind.u64.wrap (c.2.2 * 6364136223846793005)) + (IntKind.u64.wrap ((IntKind.i64.wrap ((rd U8 c.1 c.2.1))))))) + 462197)))), ()))))))
 ((br (ile (IntKind.i64.wrap (c.2.1 + 1)) (tLen c.1))
 (some ((0, ()), ((c.1, ((IntKind.i64.wrap (c.2.1 + 1)), (IntKind.u64.wrap ((IntKind.u64.wrap ((IntKind.u64.wrap (c.2.2 * 6364136223846793005)) + 0)) + 462197)))), ())))
 (some (((IntKind.i64.wrap ((bitop .and .u64 (shrI .u64 (IntKind.u64.wrap ((IntKind.u64.wrap ((IntKind.u64.wrap (c.2.2 * 6364136223846793005)) + 0)) + 462197)) 40) 255))), ()), ((c.1, ((IntKind.i64.wrap (c.2.1 + 1)), (IntKind.u64.wrap ((IntKind.u64.wrap ((IntKind.u64.wrap (c.2.2 * 6364136223846793005)) + 0)) + 462197)))), ()))))))
noncomputable def Zq87_S (N : Nat) : FSum := ⟨Zq87_ps, Zq87_rs, fun x => Zq87 N x.1⟩
theorem Zq87_pc (N : Nat) : PC Tryz.prog 94 (Zq87_S N) := pcQ (L := []) (Zq87_gok N) Tryz.call94 Tryz.func94 (fun x => by kernel_rfl) trivial (by kernel_rfl)

abbrev Zq89_ps : List (PV.Mode × Ty) := [(.mut, BQOU8QIU64), (.ro, I)]
abbrev Zq89_rs : List (Bool × Ty) := [(true, I)]
noncomputable def Zq89_G (N : Nat) : GTab := gOf [(94, Zq87_S N)]
theorem Zq89_gok (N : Nat) : GOk Tryz.prog (Zq89_G N) := gOf_ok ⟨Zq87_pc N, trivial⟩
noncomputable def Zq89_code : Code := (Tryz.f42.body).getD .skip
noncomputable def Zq89 (N : Nat) (c : ((List Int) × (Int × Int))) (n : Int) : Option ((Int × Unit) × (((List Int) × (Int × Int)) × Unit)) :=
 (br (ile n 1)
 (some ((0, ()), (c, ())))
 (((Zq87 N c).bind fun r =>
 (br (ilt 200 n)
 (((Zq87 N r.2.1).bind fun r1 =>
 (chk (ine n 0)
 (some ((((IntKind.i64.wrap ((IntKind.i64.wrap (r.1.1 * 256)) + r1.1.1)).tmod n), ()), (r1.2.1, ()))))))
 ((chk (ine n 0)
 (some (((r.1.1.tmod n), ()), (r.2.1, ())))))))))
noncomputable def Zq89_S (N : Nat) : FSum := ⟨Zq89_ps, Zq89_rs, fun x => Zq89 N x.1 x.2.1⟩
theorem Zq89_pc (N : Nat) : PC Tryz.prog 42 (Zq89_S N) := pcQ (L := []) (Zq89_gok N) Tryz.call42 Tryz.func42 (fun x => by kernel_rfl) trivial (by kernel_rfl)

abbrev Zq82_ps : List (PV.Mode × Ty) := [(.mut, BQOU8QIU64), (.ro, LI)]
abbrev Zq82_rs : List (Bool × Ty) := [(true, I)]
noncomputable def Zq82_G (N : Nat) : GTab := gOf [(42, Zq89_S N)]
theorem Zq82_gok (N : Nat) : GOk Tryz.prog (Zq82_G N) := gOf_ok ⟨Zq89_pc N, trivial⟩
noncomputable def Zq82_code : Code := (Tryz.f91.body).getD .skip
noncomputable def Zq82 (N : Nat) (c : ((List Int) × (Int × Int))) (list : (List Int)) : Option ((Int × Unit) × (((List Int) × (Int × Int)) × Unit)) :=
 ((Zq89 N c (tLen list)).bind fun r =>
 (chk (inb list r.1.1)
 (some (((rdI list r.1.1), ()), (r.2.1, ())))))
noncomputable def Zq82_S (N : Nat) : FSum := ⟨Zq82_ps, Zq82_rs, fun x => Zq82 N x.1 x.2.1⟩
theorem Zq82_pc (N : Nat) : PC Tryz.prog 91 (Zq82_S N) := pcQ (L := []) (Zq82_gok N) Tryz.call91 Tryz.func91 (fun x => by kernel_rfl) trivial (by kernel_rfl)

abbrev Zq88_ps : List (PV.Mode × Ty) := [(.mut, BQOU8QIU64), (.ro, I)]
abbrev Zq88_rs : List (Bool × Ty) := [(true, .bool)]
noncomputable def Zq88_G (N : Nat) : GTab := gOf [(42, Zq89_S N)]
theorem Zq88_gok (N : Nat) : GOk Tryz.prog (Zq88_G N) := gOf_ok ⟨Zq89_pc N, trivial⟩
noncomputable def Zq88_code : Code := (Tryz.f61.body).getD .skip
noncomputable def Zq88 (N : Nat) (c : ((List Int) × (Int × Int))) (n : Int) : Option ((Bool × Unit) × (((List Int) × (Int × Int)) × Unit)) :=
 ((Zq89 N c n).bind fun r =>
 some (((ieq r.1.1 0), ()), (r.2.1, ())))
noncomputable def Zq88_S (N : Nat) : FSum := ⟨Zq88_ps, Zq88_rs, fun x => Zq88 N x.1 x.2.1⟩
theorem Zq88_pc (N : Nat) : PC Tryz.prog 61 (Zq88_S N) := pcQ (L := []) (Zq88_gok N) Tryz.call61 Tryz.func61 (fun x => by kernel_rfl) trivial (by kernel_rfl)

abbrev Zq93_ps : List (PV.Mode × Ty) := [(.ro, I), (.ro, I)]
abbrev Zq93_rs : List (Bool × Ty) := [(true, I)]
noncomputable def Zq93_G (N : Nat) : GTab := gOf []
theorem Zq93_gok (N : Nat) : GOk Tryz.prog (Zq93_G N) := gOf_ok trivial
noncomputable def Zq93_code : Code := (Tryz.f145.body).getD .skip
noncomputable def Zq93 (N : Nat) (a : Int) (b : Int) : Option ((Int × Unit) × (Unit)) :=
 (br (ilt a b)
 (some ((a, ()), ()))
 (some ((b, ()), ())))
noncomputable def Zq93_S (N : Nat) : FSum := ⟨Zq93_ps, Zq93_rs, fun x => Zq93 N x.1 x.2.1⟩
theorem Zq93_pc (N : Nat) : PC Tryz.prog 145 (Zq93_S N) := pcQ (L := []) (Zq93_gok N) Tryz.call145 Tryz.func145 (fun x => by kernel_rfl) trivial (by kernel_rfl)

abbrev Zq98_ps : List (PV.Mode × Ty) := [(.ro, QII), (.ro, QII)]
abbrev Zq98_rs : List (Bool × Ty) := [(true, .bool)]
noncomputable def Zq98_G (N : Nat) : GTab := gOf []
theorem Zq98_gok (N : Nat) : GOk Tryz.prog (Zq98_G N) := gOf_ok trivial
noncomputable def Zq98_code : Code := (Tryz.f131.body).getD .skip
noncomputable def Zq98 (N : Nat) (a : (Int × Int)) (b : (Int × Int)) : Option ((Bool × Unit) × (Unit)) :=
 (br (ilt a.1 b.1)
 (some ((true, ()), ()))
 ((br (ieq a.1 b.1)
 (some (((ilt a.2 b.2), ()), ()))
 (some ((false, ()), ())))))
noncomputable def Zq98_S (N : Nat) : FSum := ⟨Zq98_ps, Zq98_rs, fun x => Zq98 N x.1 x.2.1⟩
theorem Zq98_pc (N : Nat) : PC Tryz.prog 131 (Zq98_S N) := pcQ (L := []) (Zq98_gok N) Tryz.call131 Tryz.func131 (fun x => by kernel_rfl) trivial (by kernel_rfl)

abbrev Zq105_ps : List (PV.Mode × Ty) := [(.own, LQII), (.ro, QII)]
abbrev Zq105_rs : List (Bool × Ty) := [(true, LQII)]
noncomputable def Zq105_G (N : Nat) : GTab := gOf [(131, Zq98_S N)]
theorem Zq105_gok (N : Nat) : GOk Tryz.prog (Zq105_G N) := gOf_ok ⟨Zq98_pc N, trivial⟩
noncomputable def Zq105_code : Code := (Tryz.f89.body).getD .skip
noncomputable def Zq105_l0_sh : Sh := ⟨[(0, .one (.ref 0)), (3, .one (.adr 1 0)), (5, .one (.ro I))], [.sl 49 QII .own, .box [.ro I, .ro I]]⟩
noncomputable def Zq105_l0_ex : List (Ex × Sh) := [(.exit 0, ⟨[(0, .one (.ref 0)), (3, .one (.adr 1 0)), (5, .one (.ro I))], [.sl 49 QII .own, .box [.ro I, .ro I]]⟩)]
noncomputable def Zq105_l0 {R : Type} (N : Nat) (k0 : Int → (List (Int × Int)) → Int → Int → Option R) : Nat → Int → (List (Int × Int)) → Int → Int → Option R
 | 0, _, _, _, _ => none
 | K + 1, kv, o, o1, o2 =>
 (br (ilt 0 kv)
 ((chk (inb o (IntKind.i64.wrap (kv - 1)))
 ((Zq98 N (o1, o2) (rdP o (IntKind.i64.wrap (kv - 1)))).bind fun r =>
 (br r.1.1
 (Zq105_l0 N k0 K (IntKind.i64.wrap (kv - 1)) o o1 o2)
 (k0 kv o o1 o2)))))
 (k0 kv o o1 o2))
noncomputable def Zq105_l0_again {R : Type} (N : Nat) (ks : KS Zq105_l0_ex R) (k : Nat) (x : Zq105_l0_sh.T) : Option R :=
 Zq105_l0 N (fun y0 y1 y2 y3 => ks 0 (((), (), y0, ()), (y1, (y2, y3, ()), ()))) k x.1.2.2.1 x.2.1 x.2.2.1.1 x.2.2.1.2.1
noncomputable def Zq105_l0_s (N : Nat) : LSum := ⟨Zq105_l0_sh, Zq105_l0_ex, fun x ks => Zq105_l0_again N ks N x⟩
theorem Zq105_l0_ok (N : Nat) : LoopOk Tryz.prog Tryz.f89.ntmps (Zq105_l0_s N) (loopAt Zq105_code 0) := loopQ (sh := Zq105_l0_sh) (ex := Zq105_l0_ex) (N := N) (L := []) (fun R k x ks => Zq105_l0_again N ks k x) (Zq105_gok N) (fun _ _ _ => rfl) (fun R k x ks => by kernel_rfl) trivial (by kernel_rfl)
noncomputable def Zq105 (N : Nat) (list : (List (Int × Int))) (e : (Int × Int)) : Option (((List (Int × Int)) × Unit) × (Unit)) :=
 Zq105_l0 N (fun kv o o1 o2 => (br (ilt 0 kv)
 ((chk (inb o (IntKind.i64.wrap (kv - 1)))
 (br (ieq ((rdP o (IntKind.i64.wrap (kv - 1))).1) o1 && ieq ((rdP o (IntKind.i64.wrap (kv - 1))).2) o2)
 (some ((o, ()), ()))
 ((chk (ile 0 0 && ile 0 kv && ile kv (tLen o))
 (chk (room (α := (Int × Int)) (β := (Int × Int)) [] (tCut o 0 kv))
 (chk (room (tApp [] (tCut o 0 kv)) [(o1, o2)])
 (chk (ile 0 kv && ile kv (tLen o) && ile (tLen o) (tLen o))
 (chk (room (tApp (tApp [] (tCut o 0 kv)) [(o1, o2)]) (tCut o kv (tLen o)))
 (some (((tApp (tApp (tApp [] (tCut o 0 kv)) [(o1, o2)]) (tCut o kv (tLen o))), ()), ())))))))))))
 ((chk (ile 0 0 && ile 0 kv && ile kv (tLen o))
 (chk (room (α := (Int × Int)) (β := (Int × Int)) [] (tCut o 0 kv))
 (chk (room (tApp [] (tCut o 0 kv)) [(o1, o2)])
 (chk (ile 0 kv && ile kv (tLen o) && ile (tLen o) (tLen o))
 (chk (room (tApp (tApp [] (tCut o 0 kv)) [(o1, o2)]) (tCut o kv (tLen o)))
 (some (((tApp (tApp (tApp [] (tCut o 0 kv)) [(o1, o2)]) (tCut o kv (tLen o))), ()), ())))))))))) N (tLen list) list e.1 e.2
noncomputable def Zq105_S (N : Nat) : FSum := ⟨Zq105_ps, Zq105_rs, fun x => Zq105 N x.1 x.2.1⟩
theorem Zq105_pc (N : Nat) : PC Tryz.prog 89 (Zq105_S N) := pcQ (L := [Zq105_l0_s N]) (Zq105_gok N) Tryz.call89 Tryz.func89 (fun x => by kernel_rfl) ⟨Zq105_l0_ok N, trivial⟩ (by kernel_rfl)

abbrev Zq90_ps : List (PV.Mode × Ty) := [(.mut, BQOU8QIU64), (.ro, I)]
abbrev Zq90_rs : List (Bool × Ty) := [(true, QILQII)]
noncomputable def Zq90_G (N : Nat) : GTab := gOf [(91, Zq82_S N), (61, Zq88_S N), (42, Zq89_S N), (145, Zq93_S N), (89, Zq105_S N)]
theorem Zq90_gok (N : Nat) : GOk Tryz.prog (Zq90_G N) := gOf_ok ⟨Zq82_pc N, Zq88_pc N, Zq89_pc N, Zq93_pc N, Zq105_pc N, trivial⟩
noncomputable def Zq90_code : Code := (Tryz.f111.body).getD .skip
noncomputable def Zq90_l0_0_sh : Sh := ⟨[(0, .one (.adr 0 0)), (4, .one (.adr 1 0)), (5, .one (.ro I)), (6, .one (.adr 2 0)), (7, .one (.ro I)), (8, .one (.ro .bool)), (9, .one (.ro I)), (10, .one (.ro I))], [.mbox QOU8QIU64, .box [.ro I, .nilsl], .box [.ro I, .ref 3], .sl 49 QII .own]⟩
noncomputable def Zq90_l0_0_ex : List (Ex × Sh) := [(.exit 2, ⟨[(0, .one (.adr 0 0)), (4, .one (.adr 1 0)), (5, .one (.ro I)), (6, .one (.adr 2 0)), (7, .one (.ro I)), (8, .one (.ro .bool)), (9, .one (.ro I))], [.mbox QOU8QIU64, .box [.ro I, .nilsl], .box [.ro I, .ref 3], .sl 49 QII .own]⟩)]
noncomputable def Zq90_l0_0 {R : Type} (N : Nat) (k0 : Int → Int → Bool → Int → ((List Int) × (Int × Int)) → Int → Int → (List (Int × Int)) → Option R) : Nat → Int → Int → Bool → Int → Int → ((List Int) × (Int × Int)) → Int → Int → (List (Int × Int)) → Option R
 | 0, _, _, _, _, _, _, _, _, _ => none
 | K + 1, x4, x5, x6, x7, x8, o4, o5, o6, o7 =>
 (br (ilt x8 x4)
 (((Zq89 N o4 x5).bind fun r6 =>
 (br (ieq r6.1.1 0)
 (((Zq105 N o7 (x7, x8)).bind fun r7 =>
 Zq90_l0_0 N k0 K x4 x5 x6 x7 (IntKind.i64.wrap (x8 + 1)) r6.2.1 o5 o6 r7.1.1))
 (Zq90_l0_0 N k0 K x4 x5 x6 x7 (IntKind.i64.wrap (x8 + 1)) r6.2.1 o5 o6 o7))))
 (k0 x4 x5 x6 x7 o4 o5 o6 o7))
noncomputable def Zq90_l0_0_again {R : Type} (N : Nat) (ks : KS Zq90_l0_0_ex R) (k : Nat) (x : Zq90_l0_0_sh.T) : Option R :=
 Zq90_l0_0 N (fun y0 y1 y2 y3 y4 y5 y6 y7 => ks 0 (((), (), y0, (), y1, y2, y3, ()), (y4, (y5, (), ()), (y6, (), ()), y7, ()))) k x.1.2.2.1 x.1.2.2.2.2.1 x.1.2.2.2.2.2.1 x.1.2.2.2.2.2.2.1 x.1.2.2.2.2.2.2.2.1 x.2.1 x.2.2.1.1 x.2.2.2.1.1 x.2.2.2.2.1
noncomputable def Zq90_l0_0_s (N : Nat) : LSum := ⟨Zq90_l0_0_sh, Zq90_l0_0_ex, fun x ks => Zq90_l0_0_again N ks N x⟩
theorem Zq90_l0_0_ok (N : Nat) : LoopOk Tryz.prog Tryz.f111.ntmps (Zq90_l0_0_s N) (loopAt (loopAt Zq90_code 0) 0) := loopQ (sh := Zq90_l0_0_sh) (ex := Zq90_l0_0_ex) (N := N) (L := []) (fun R k x ks => Zq90_l0_0_again N ks k x) (Zq90_gok N) (fun _ _ _ => rfl) (fun R k x ks => by kernel_rfl) trivial (by kernel_rfl)
noncomputable def Zq90_l0_sh : Sh := ⟨[(0, .one (.adr 0 0)), (4, .one (.adr 1 0)), (5, .one (.ro I)), (6, .one (.adr 2 0)), (7, .one (.ro I)), (8, .one (.ro .bool)), (9, .one (.ro I))], [.mbox QOU8QIU64, .box [.ro I, .nilsl], .box [.ro I, .ref 3], .sl 49 QII .own]⟩
noncomputable def Zq90_l0_ex : List (Ex × Sh) := [(.exit 0, ⟨[(0, .one (.adr 0 0)), (4, .one (.adr 1 0)), (6, .one (.adr 2 0))], [.mbox QOU8QIU64, .box [.ro I, .nilsl], .box [.ro I, .ref 3], .sl 49 QII .own]⟩)]
noncomputable def Zq90_l0 {R : Type} (N : Nat) (k0 : ((List Int) × (Int × Int)) → Int → Int → (List (Int × Int)) → Option R) : Nat → Int → Int → Bool → Int → ((List Int) × (Int × Int)) → Int → Int → (List (Int × Int)) → Option R
 | 0, _, _, _, _, _, _, _, _ => none
 | K + 1, x, x1, x2, x3, o, o1, o2, o3 =>
 (br (ilt x3 x)
 (Zq90_l0_0 N (fun x4 x5 x6 x7 o4 o5 o6 o7 => (br (ilt 0 x7)
 ((br (!x6)
 (((Zq89 N (o4.1, (o4.2.1, o4.2.2)) x7).bind fun r6 =>
 ((Zq105 N o7 (r6.1.1, x7)).bind fun r7 =>
 Zq90_l0 N k0 K x4 x5 x6 (IntKind.i64.wrap (x7 + 1)) r6.2.1 o5 o6 r7.1.1)))
 (Zq90_l0 N k0 K x4 x5 x6 (IntKind.i64.wrap (x7 + 1)) o4 o5 o6 o7)))
 (Zq90_l0 N k0 K x4 x5 x6 (IntKind.i64.wrap (x7 + 1)) o4 o5 o6 o7))) N x x1 x2 x3 (IntKind.i64.wrap (x3 + 1)) o o1 o2 o3)
 (k0 o o1 o2 o3))
noncomputable def Zq90_l0_again {R : Type} (N : Nat) (ks : KS Zq90_l0_ex R) (k : Nat) (x : Zq90_l0_sh.T) : Option R :=
 Zq90_l0 N (fun y0 y1 y2 y3 => ks 0 (((), (), (), ()), (y0, (y1, (), ()), (y2, (), ()), y3, ()))) k x.1.2.2.1 x.1.2.2.2.2.1 x.1.2.2.2.2.2.1 x.1.2.2.2.2.2.2.1 x.2.1 x.2.2.1.1 x.2.2.2.1.1 x.2.2.2.2.1
noncomputable def Zq90_l0_s (N : Nat) : LSum := ⟨Zq90_l0_sh, Zq90_l0_ex, fun x ks => Zq90_l0_again N ks N x⟩
theorem Zq90_l0_ok (N : Nat) : LoopOk Tryz.prog Tryz.f111.ntmps (Zq90_l0_s N) (loopAt Zq90_code 0) := loopQ (sh := Zq90_l0_sh) (ex := Zq90_l0_ex) (N := N) (L := [Zq90_l0_0_s N]) (fun R k x ks => Zq90_l0_again N ks k x) (Zq90_gok N) (fun _ _ _ => rfl) (fun R k x ks => by kernel_rfl) ⟨Zq90_l0_0_ok N, trivial⟩ (by kernel_rfl)
noncomputable def Zq90 (N : Nat) (c : ((List Int) × (Int × Int))) (c1 : Int) : Option (((Int × (List (Int × Int))) × Unit) × (((List Int) × (Int × Int)) × Unit)) :=
 ((Zq82 N c [4, 5, 3, 6, 2, 1, 0]).bind fun r =>
 (br (ilt 6 c1)
 (((Zq88 N r.2.1 4).bind fun r1 =>
 (br r1.1.1
 (((Zq89 N r1.2.1 2).bind fun r2 =>
 ((Zq93 N (IntKind.i64.wrap (7 + r2.1.1)) c1).bind fun r3 =>
 ((Zq82 N r2.2.1 [1, 3, 4, 6]).bind fun r4 =>
 ((Zq88 N r4.2.1 5).bind fun r5 =>
 Zq90_l0 N (fun o o1 o2 o3 => ((Zq89 N o 50).bind fun r6 =>
 (br (ieq r6.1.1 0)
 (((Zq82 N r6.2.1 [(-1), 8, 9, 0, 4611686018427387904]).bind fun r7 =>
 some (((r7.1.1, o3), ()), (r7.2.1, ()))))
 ((br (ieq r6.1.1 1)
 (((Zq89 N (r6.2.1.1, (r6.2.1.2.1, r6.2.1.2.2)) 4).bind fun r8 =>
 ((Zq89 N r8.2.1 9).bind fun r9 =>
 (chk (room o3 [(r8.1.1, (IntKind.i64.wrap (r9.1.1 - 1)))])
 (some (((o2, (tApp o3 [(r8.1.1, (IntKind.i64.wrap (r9.1.1 - 1)))])), ()), (r9.2.1, ())))))))
 ((br (ieq r6.1.1 2)
 ((br (ilt 0 (tLen o3))
 (((Zq89 N (r6.2.1.1, (r6.2.1.2.1, r6.2.1.2.2)) (tLen o3)).bind fun r10 =>
 (chk (inb o3 r10.1.1)
 (chk (room o3 [(rdP o3 r10.1.1)])
 (some (((o2, (tApp o3 [(rdP o3 r10.1.1)])), ()), (r10.2.1, ())))))))
 (some (((o2, o3), ()), (r6.2.1, ())))))
 (some (((o2, o3), ()), (r6.2.1, ())))))))))) N r3.1.1 r4.1.1 r5.1.1 0 r5.2.1 0 r3.1.1 [])))))
 (((Zq93 N r.1.1 c1).bind fun r11 =>
 ((Zq82 N r1.2.1 [1, 3, 4, 6]).bind fun r12 =>
 ((Zq88 N r12.2.1 5).bind fun r13 =>
 Zq90_l0 N (fun o4 o5 o6 o7 => ((Zq89 N o4 50).bind fun r14 =>
 (br (ieq r14.1.1 0)
 (((Zq82 N r14.2.1 [(-1), 8, 9, 0, 4611686018427387904]).bind fun r15 =>
 some (((r15.1.1, o7), ()), (r15.2.1, ()))))
 ((br (ieq r14.1.1 1)
 (((Zq89 N (r14.2.1.1, (r14.2.1.2.1, r14.2.1.2.2)) 4).bind fun r16 =>
 ((Zq89 N r16.2.1 9).bind fun r17 =>
 (chk (room o7 [(r16.1.1, (IntKind.i64.wrap (r17.1.1 - 1)))])
 (some (((o6, (tApp o7 [(r16.1.1, (IntKind.i64.wrap (r17.1.1 - 1)))])), ()), (r17.2.1, ())))))))
 ((br (ieq r14.1.1 2)
 ((br (ilt 0 (tLen o7))
 (((Zq89 N (r14.2.1.1, (r14.2.1.2.1, r14.2.1.2.2)) (tLen o7)).bind fun r18 =>
 (chk (inb o7 r18.1.1)
 (chk (room o7 [(rdP o7 r18.1.1)])
 (some (((o6, (tApp o7 [(rdP o7 r18.1.1)])), ()), (r18.2.1, ())))))))
 (some (((o6, o7), ()), (r14.2.1, ())))))
 (some (((o6, o7), ()), (r14.2.1, ())))))))))) N r11.1.1 r12.1.1 r13.1.1 0 r13.2.1 0 r11.1.1 [])))))))
 (((Zq93 N r.1.1 c1).bind fun r19 =>
 ((Zq82 N r.2.1 [1, 3, 4, 6]).bind fun r20 =>
 ((Zq88 N r20.2.1 5).bind fun r21 =>
 Zq90_l0 N (fun o8 o9 o10 o11 => ((Zq89 N o8 50).bind fun r22 =>
 (br (ieq r22.1.1 0)
 (((Zq82 N r22.2.1 [(-1), 8, 9, 0, 4611686018427387904]).bind fun r23 =>
 some (((r23.1.1, o11), ()), (r23.2.1, ()))))
 ((br (ieq r22.1.1 1)
 (((Zq89 N (r22.2.1.1, (r22.2.1.2.1, r22.2.1.2.2)) 4).bind fun r24 =>
 ((Zq89 N r24.2.1 9).bind fun r25 =>
 (chk (room o11 [(r24.1.1, (IntKind.i64.wrap (r25.1.1 - 1)))])
 (some (((o10, (tApp o11 [(r24.1.1, (IntKind.i64.wrap (r25.1.1 - 1)))])), ()), (r25.2.1, ())))))))
 ((br (ieq r22.1.1 2)
 ((br (ilt 0 (tLen o11))
 (((Zq89 N (r22.2.1.1, (r22.2.1.2.1, r22.2.1.2.2)) (tLen o11)).bind fun r26 =>
 (chk (inb o11 r26.1.1)
 (chk (room o11 [(rdP o11 r26.1.1)])
 (some (((o10, (tApp o11 [(rdP o11 r26.1.1)])), ()), (r26.2.1, ())))))))
 (some (((o10, o11), ()), (r22.2.1, ())))))
 (some (((o10, o11), ()), (r22.2.1, ())))))))))) N r19.1.1 r20.1.1 r21.1.1 0 r21.2.1 0 r19.1.1 []))))))
noncomputable def Zq90_S (N : Nat) : FSum := ⟨Zq90_ps, Zq90_rs, fun x => Zq90 N x.1 x.2.1⟩
theorem Zq90_pc (N : Nat) : PC Tryz.prog 111 (Zq90_S N) := pcQ (L := [Zq90_l0_s N]) (Zq90_gok N) Tryz.call111 Tryz.func111 (fun x => by kernel_rfl) ⟨Zq90_l0_ok N, trivial⟩ (by kernel_rfl)

abbrev Zq85_ps : List (PV.Mode × Ty) := [(.mut, BQOU8QIU64)]
abbrev Zq85_rs : List (Bool × Ty) := [(true, QILQII)]
noncomputable def Zq85_G (N : Nat) : GTab := gOf [(111, Zq90_S N)]
theorem Zq85_gok (N : Nat) : GOk Tryz.prog (Zq85_G N) := gOf_ok ⟨Zq90_pc N, trivial⟩
noncomputable def Zq85_code : Code := (Tryz.f88.body).getD .skip
noncomputable def Zq85 (N : Nat) (c : ((List Int) × (Int × Int))) : Option (((Int × (List (Int × Int))) × Unit) × (((List Int) × (Int × Int)) × Unit)) :=
 ((Zq90 N c 6).bind fun r =>
 some (((r.1.1.1, r.1.1.2), ()), (r.2.1, ())))
noncomputable def Zq85_S (N : Nat) : FSum := ⟨Zq85_ps, Zq85_rs, fun x => Zq85 N x.1⟩
theorem Zq85_pc (N : Nat) : PC Tryz.prog 88 (Zq85_S N) := pcQ (L := []) (Zq85_gok N) Tryz.call88 Tryz.func88 (fun x => by kernel_rfl) trivial (by kernel_rfl)

abbrev Zq92_ps : List (PV.Mode × Ty) := [(.ro, I), (.ro, I), (.ro, I)]
abbrev Zq92_rs : List (Bool × Ty) := [(true, .bool)]
noncomputable def Zq92_G (N : Nat) : GTab := gOf []
theorem Zq92_gok (N : Nat) : GOk Tryz.prog (Zq92_G N) := gOf_ok trivial
noncomputable def Zq92_code : Code := (Tryz.f92.body).getD .skip
noncomputable def Zq92 (N : Nat) (x : Int) (a : Int) (b : Int) : Option ((Bool × Unit) × (Unit)) :=
 (br (ile a x)
 (some (((ile x b), ()), ()))
 (some ((false, ()), ())))
noncomputable def Zq92_S (N : Nat) : FSum := ⟨Zq92_ps, Zq92_rs, fun x => Zq92 N x.1 x.2.1 x.2.2.1⟩
theorem Zq92_pc (N : Nat) : PC Tryz.prog 92 (Zq92_S N) := pcQ (L := []) (Zq92_gok N) Tryz.call92 Tryz.func92 (fun x => by kernel_rfl) trivial (by kernel_rfl)

abbrev Zq104_ps : List (PV.Mode × Ty) := [(.ro, LQII), (.ro, I)]
abbrev Zq104_rs : List (Bool × Ty) := [(true, .bool)]
noncomputable def Zq104_G (N : Nat) : GTab := gOf [(92, Zq92_S N), (131, Zq98_S N)]
theorem Zq104_gok (N : Nat) : GOk Tryz.prog (Zq104_G N) := gOf_ok ⟨Zq92_pc N, Zq98_pc N, trivial⟩
noncomputable def Zq104_code : Code := (Tryz.f93.body).getD .skip
noncomputable def Zq104_l0_sh : Sh := ⟨[(0, .one (.ro LQII)), (1, .one (.ro I)), (5, .one (.ro I))], []⟩
noncomputable def Zq104_l0_ex : List (Ex × Sh) := [(.ret, ⟨[(4, .one (.ro .bool))], []⟩), (.exit 0, ⟨[], []⟩)]
noncomputable def Zq104_l0 {R : Type} (N : Nat) (k0 : Bool → Option R) (k1 : Unit → Option R) : Nat → (List (Int × Int)) → Int → Int → Option R
 | 0, _, _, _ => none
 | K + 1, pairs1, n1, i =>
 (br (ilt i (tLen pairs1))
 ((chk (inb pairs1 i)
 ((Zq92 N ((rdP pairs1 i).1) 0 (IntKind.i64.wrap (n1 - 1))).bind fun r =>
 (br (!r.1.1)
 (k0 false)
 (((Zq92 N ((rdP pairs1 i).2) 0 (IntKind.i64.wrap (n1 - 1))).bind fun r1 =>
 (br (!r1.1.1)
 (k0 false)
 ((br (ile ((rdP pairs1 i).2) ((rdP pairs1 i).1))
 (k0 false)
 ((br (ilt 0 i)
 ((chk (inb pairs1 (IntKind.i64.wrap (i - 1)))
 ((Zq98 N (rdP pairs1 (IntKind.i64.wrap (i - 1))) ((rdP pairs1 i).1, (rdP pairs1 i).2)).bind fun r2 =>
 (br (!r2.1.1)
 (k0 false)
 (Zq104_l0 N k0 k1 K pairs1 n1 (IntKind.i64.wrap (i + 1)))))))
 (Zq104_l0 N k0 k1 K pairs1 n1 (IntKind.i64.wrap (i + 1))))))))))))))
 (k1 ()))
noncomputable def Zq104_l0_again {R : Type} (N : Nat) (ks : KS Zq104_l0_ex R) (k : Nat) (x : Zq104_l0_sh.T) : Option R :=
 Zq104_l0 N (fun y0 => ks 0 ((y0, ()), ())) (fun (_ : Unit) => ks 1 ((), ())) k x.1.1 x.1.2.1 x.1.2.2.1
noncomputable def Zq104_l0_s (N : Nat) : LSum := ⟨Zq104_l0_sh, Zq104_l0_ex, fun x ks => Zq104_l0_again N ks N x⟩
theorem Zq104_l0_ok (N : Nat) : LoopOk Tryz.prog Tryz.f93.ntmps (Zq104_l0_s N) (loopAt Zq104_code 0) := loopQ (sh := Zq104_l0_sh) (ex := Zq104_l0_ex) (N := N) (L := []) (fun R k x ks => Zq104_l0_again N ks k x) (Zq104_gok N) (fun _ _ _ => rfl) (fun R k x ks => by kernel_rfl) trivial (by kernel_rfl)
noncomputable def Zq104 (N : Nat) (pairs : (List (Int × Int))) (n : Int) : Option ((Bool × Unit) × (Unit)) :=
 Zq104_l0 N (fun x => some ((x, ()), ())) (fun (_ : Unit) => some ((true, ()), ())) N pairs n 0
noncomputable def Zq104_S (N : Nat) : FSum := ⟨Zq104_ps, Zq104_rs, fun x => Zq104 N x.1 x.2.1⟩
theorem Zq104_pc (N : Nat) : PC Tryz.prog 93 (Zq104_S N) := pcQ (L := [Zq104_l0_s N]) (Zq104_gok N) Tryz.call93 Tryz.func93 (fun x => by kernel_rfl) ⟨Zq104_l0_ok N, trivial⟩ (by kernel_rfl)

abbrev Zq99_ps : List (PV.Mode × Ty) := [(.ro, QILQII)]
abbrev Zq99_rs : List (Bool × Ty) := [(true, .bool)]
noncomputable def Zq99_G (N : Nat) : GTab := gOf [(92, Zq92_S N), (93, Zq104_S N)]
theorem Zq99_gok (N : Nat) : GOk Tryz.prog (Zq99_G N) := gOf_ok ⟨Zq92_pc N, Zq104_pc N, trivial⟩
noncomputable def Zq99_code : Code := (Tryz.f41.body).getD .skip
noncomputable def Zq99 (N : Nat) (g : (Int × (List (Int × Int)))) : Option ((Bool × Unit) × (Unit)) :=
 ((Zq92 N g.1 0 8).bind fun r =>
 (br r.1.1
 (((Zq104 N g.2 g.1).bind fun r1 =>
 some ((r1.1.1, ()), ())))
 (some ((false, ()), ()))))
noncomputable def Zq99_S (N : Nat) : FSum := ⟨Zq99_ps, Zq99_rs, fun x => Zq99 N x.1⟩
theorem Zq99_pc (N : Nat) : PC Tryz.prog 41 (Zq99_S N) := pcQ (L := []) (Zq99_gok N) Tryz.call41 Tryz.func41 (fun x => by kernel_rfl) trivial (by kernel_rfl)

abbrev Zq102_ps : List (PV.Mode × Ty) := [(.ro, QILQII), (.ro, I), (.ro, I)]
abbrev Zq102_rs : List (Bool × Ty) := [(true, .bool)]
noncomputable def Zq102_G (N : Nat) : GTab := gOf []
theorem Zq102_gok (N : Nat) : GOk Tryz.prog (Zq102_G N) := gOf_ok trivial
noncomputable def Zq102_code : Code := (Tryz.f69.body).getD .skip
noncomputable def Zq102_l0_sh : Sh := ⟨[(1, .one (.ro I)), (2, .one (.ro I)), (3, .one (.adr 0 0)), (7, .one (.ro I))], [.box [.ro I, .ro LQII]]⟩
noncomputable def Zq102_l0_ex : List (Ex × Sh) := [(.ret, ⟨[(6, .one (.ro .bool))], []⟩), (.exit 0, ⟨[], []⟩)]
noncomputable def Zq102_l0 {R : Type} (N : Nat) (k0 : Bool → Option R) (k1 : Unit → Option R) : Nat → Int → Int → Int → Int → (List (Int × Int)) → Option R
 | 0, _, _, _, _, _ => none
 | K + 1, a1, b1, i, o, o1 =>
 (br (ilt i (tLen o1))
 ((chk (inb o1 i)
 (br (ieq ((rdP o1 i).1) a1)
 ((br (ieq ((rdP o1 i).2) b1)
 (k0 true)
 ((br (ieq ((rdP o1 i).1) b1)
 ((br (ieq ((rdP o1 i).2) a1)
 (k0 true)
 (Zq102_l0 N k0 k1 K a1 b1 (IntKind.i64.wrap (i + 1)) o o1)))
 (Zq102_l0 N k0 k1 K a1 b1 (IntKind.i64.wrap (i + 1)) o o1)))))
 ((br (ieq ((rdP o1 i).1) b1)
 ((br (ieq ((rdP o1 i).2) a1)
 (k0 true)
 (Zq102_l0 N k0 k1 K a1 b1 (IntKind.i64.wrap (i + 1)) o o1)))
 (Zq102_l0 N k0 k1 K a1 b1 (IntKind.i64.wrap (i + 1)) o o1))))))
 (k1 ()))
noncomputable def Zq102_l0_again {R : Type} (N : Nat) (ks : KS Zq102_l0_ex R) (k : Nat) (x : Zq102_l0_sh.T) : Option R :=
 Zq102_l0 N (fun y0 => ks 0 ((y0, ()), ())) (fun (_ : Unit) => ks 1 ((), ())) k x.1.1 x.1.2.1 x.1.2.2.2.1 x.2.1.1 x.2.1.2.1
noncomputable def Zq102_l0_s (N : Nat) : LSum := ⟨Zq102_l0_sh, Zq102_l0_ex, fun x ks => Zq102_l0_again N ks N x⟩
theorem Zq102_l0_ok (N : Nat) : LoopOk Tryz.prog Tryz.f69.ntmps (Zq102_l0_s N) (loopAt Zq102_code 0) := loopQ (sh := Zq102_l0_sh) (ex := Zq102_l0_ex) (N := N) (L := []) (fun R k x ks => Zq102_l0_again N ks k x) (Zq102_gok N) (fun _ _ _ => rfl) (fun R k x ks => by kernel_rfl) trivial (by kernel_rfl)
noncomputable def Zq102 (N : Nat) (g : (Int × (List (Int × Int)))) (a : Int) (b : Int) : Option ((Bool × Unit) × (Unit)) :=
 Zq102_l0 N (fun x => some ((x, ()), ())) (fun (_ : Unit) => some ((false, ()), ())) N a b 0 g.1 g.2
noncomputable def Zq102_S (N : Nat) : FSum := ⟨Zq102_ps, Zq102_rs, fun x => Zq102 N x.1 x.2.1 x.2.2.1⟩
theorem Zq102_pc (N : Nat) : PC Tryz.prog 69 (Zq102_S N) := pcQ (L := [Zq102_l0_s N]) (Zq102_gok N) Tryz.call69 Tryz.func69 (fun x => by kernel_rfl) ⟨Zq102_l0_ok N, trivial⟩ (by kernel_rfl)

abbrev Zq103_ps : List (PV.Mode × Ty) := [(.ro, QILQII), (.ro, I)]
abbrev Zq103_rs : List (Bool × Ty) := [(true, LI)]
noncomputable def Zq103_G (N : Nat) : GTab := gOf [(69, Zq102_S N)]
theorem Zq103_gok (N : Nat) : GOk Tryz.prog (Zq103_G N) := gOf_ok ⟨Zq102_pc N, trivial⟩
noncomputable def Zq103_code : Code := (Tryz.f43.body).getD .skip
noncomputable def Zq103_l0_sh : Sh := ⟨[(1, .one (.ro I)), (2, .one (.adr 0 0)), (5, .one (.ref 1)), (6, .one (.ro I))], [.box [.ro I, .ro LQII], .sl 3 I .own]⟩
noncomputable def Zq103_l0_ex : List (Ex × Sh) := [(.exit 0, ⟨[(5, .one (.ref 0))], [.sl 3 I .own]⟩)]
noncomputable def Zq103_l0 {R : Type} (N : Nat) (k0 : (List Int) → Option R) : Nat → Int → Int → Int → (List (Int × Int)) → (List Int) → Option R
 | 0, _, _, _, _, _ => none
 | K + 1, x1, y, o, o1, o2 =>
 (br (ilt y o)
 (((Zq102 N (o, o1) x1 y).bind fun r =>
 (br r.1.1
 ((chk (room o2 [y])
 (Zq103_l0 N k0 K x1 (IntKind.i64.wrap (y + 1)) o o1 (tApp o2 [y]))))
 (Zq103_l0 N k0 K x1 (IntKind.i64.wrap (y + 1)) o o1 o2))))
 (k0 o2))
noncomputable def Zq103_l0_again {R : Type} (N : Nat) (ks : KS Zq103_l0_ex R) (k : Nat) (x : Zq103_l0_sh.T) : Option R :=
 Zq103_l0 N (fun y0 => ks 0 (((), ()), (y0, ()))) k x.1.1 x.1.2.2.2.1 x.2.1.1 x.2.1.2.1 x.2.2.1
noncomputable def Zq103_l0_s (N : Nat) : LSum := ⟨Zq103_l0_sh, Zq103_l0_ex, fun x ks => Zq103_l0_again N ks N x⟩
theorem Zq103_l0_ok (N : Nat) : LoopOk Tryz.prog Tryz.f43.ntmps (Zq103_l0_s N) (loopAt Zq103_code 0) := loopQ (sh := Zq103_l0_sh) (ex := Zq103_l0_ex) (N := N) (L := []) (fun R k x ks => Zq103_l0_again N ks k x) (Zq103_gok N) (fun _ _ _ => rfl) (fun R k x ks => by kernel_rfl) trivial (by kernel_rfl)
noncomputable def Zq103 (N : Nat) (g : (Int × (List (Int × Int)))) (x : Int) : Option (((List Int) × Unit) × (Unit)) :=
 Zq103_l0 N (fun o => some ((o, ()), ())) N x 0 g.1 g.2 []
noncomputable def Zq103_S (N : Nat) : FSum := ⟨Zq103_ps, Zq103_rs, fun x => Zq103 N x.1 x.2.1⟩
theorem Zq103_pc (N : Nat) : PC Tryz.prog 43 (Zq103_S N) := pcQ (L := [Zq103_l0_s N]) (Zq103_gok N) Tryz.call43 Tryz.func43 (fun x => by kernel_rfl) ⟨Zq103_l0_ok N, trivial⟩ (by kernel_rfl)

abbrev Zq84_ps : List (PV.Mode × Ty) := [(.mut, BQOU8QIU64)]
abbrev Zq84_rs : List (Bool × Ty) := [(false, QILQII)]
noncomputable def Zq84_G (N : Nat) : GTab := gOf [(88, Zq85_S N), (41, Zq99_S N), (61, Zq88_S N), (43, Zq103_S N), (89, Zq105_S N)]
theorem Zq84_gok (N : Nat) : GOk Tryz.prog (Zq84_G N) := gOf_ok ⟨Zq85_pc N, Zq99_pc N, Zq88_pc N, Zq103_pc N, Zq105_pc N, trivial⟩
noncomputable def Zq84_code : Code := (Tryz.f39.body).getD .skip
noncomputable def Zq84_l0_sh : Sh := ⟨[(0, .one (.adr 0 0)), (2, .one (.adr 1 0)), (3, .one (.adr 2 0)), (4, .one (.ro I))], [.mbox QOU8QIU64, .box [.ro I, .nilsl], .box [.ro I, .ref 3], .sl 49 QII .own]⟩
noncomputable def Zq84_l0_ex : List (Ex × Sh) := [(.exit 0, ⟨[(0, .one (.adr 0 0)), (2, .one (.adr 1 0)), (3, .one (.adr 2 0))], [.mbox QOU8QIU64, .box [.ro I, .nilsl], .box [.ro I, .ref 3], .sl 49 QII .own]⟩)]
noncomputable def Zq84_l0 {R : Type} (N : Nat) (k0 : ((List Int) × (Int × Int)) → Int → Int → (List (Int × Int)) → Option R) : Nat → Int → ((List Int) × (Int × Int)) → Int → Int → (List (Int × Int)) → Option R
 | 0, _, _, _, _, _ => none
 | K + 1, x, o, o1, o2, o3 =>
 (br (ilt x o2)
 (((Zq103 N (o2, o3) x).bind fun r3 =>
 (br (ilt (tLen r3.1.1) 2)
 (((Zq105 N o3 ((IntKind.i64.wrap (x - 1)), x)).bind fun r4 =>
 Zq84_l0 N k0 K (IntKind.i64.wrap (x + 1)) o o1 o2 r4.1.1))
 (Zq84_l0 N k0 K (IntKind.i64.wrap (x + 1)) o o1 o2 o3))))
 (k0 o o1 o2 o3))
noncomputable def Zq84_l0_again {R : Type} (N : Nat) (ks : KS Zq84_l0_ex R) (k : Nat) (x : Zq84_l0_sh.T) : Option R :=
 Zq84_l0 N (fun y0 y1 y2 y3 => ks 0 (((), (), (), ()), (y0, (y1, (), ()), (y2, (), ()), y3, ()))) k x.1.2.2.2.1 x.2.1 x.2.2.1.1 x.2.2.2.1.1 x.2.2.2.2.1
noncomputable def Zq84_l0_s (N : Nat) : LSum := ⟨Zq84_l0_sh, Zq84_l0_ex, fun x ks => Zq84_l0_again N ks N x⟩
theorem Zq84_l0_ok (N : Nat) : LoopOk Tryz.prog Tryz.f39.ntmps (Zq84_l0_s N) (loopAt Zq84_code 0) := loopQ (sh := Zq84_l0_sh) (ex := Zq84_l0_ex) (N := N) (L := []) (fun R k x ks => Zq84_l0_again N ks k x) (Zq84_gok N) (fun _ _ _ => rfl) (fun R k x ks => by kernel_rfl) trivial (by kernel_rfl)
noncomputable def Zq84 (N : Nat) (c : ((List Int) × (Int × Int))) : Option (((Int × (List (Int × Int))) × Unit) × (((List Int) × (Int × Int)) × Unit)) :=
 ((Zq85 N c).bind fun r =>
 ((Zq99 N (r.1.1.1, r.1.1.2)).bind fun r1 =>
 (br (!r1.1.1)
 (some (((r.1.1.1, r.1.1.2), ()), (r.2.1, ())))
 (((Zq88 N r.2.1 4).bind fun r2 =>
 (br r2.1.1
 (some (((r.1.1.1, r.1.1.2), ()), (r2.2.1, ())))
 (Zq84_l0 N (fun o o1 o2 o3 => some (((o2, o3), ()), (o, ()))) N 1 r2.2.1 0 r.1.1.1 r.1.1.2)))))))
noncomputable def Zq84_S (N : Nat) : FSum := ⟨Zq84_ps, Zq84_rs, fun x => Zq84 N x.1⟩
theorem Zq84_pc (N : Nat) : PC Tryz.prog 39 (Zq84_S N) := pcQ (L := [Zq84_l0_s N]) (Zq84_gok N) Tryz.call39 Tryz.func39 (fun x => by kernel_rfl) ⟨Zq84_l0_ok N, trivial⟩ (by kernel_rfl)

abbrev Zq86_ps : List (PV.Mode × Ty) := [(.mut, BQOU8QIU64)]
abbrev Zq86_rs : List (Bool × Ty) := [(true, I)]
noncomputable def Zq86_G (N : Nat) : GTab := gOf [(42, Zq89_S N), (91, Zq82_S N)]
theorem Zq86_gok (N : Nat) : GOk Tryz.prog (Zq86_G N) := gOf_ok ⟨Zq89_pc N, Zq82_pc N, trivial⟩
noncomputable def Zq86_code : Code := (Tryz.f78.body).getD .skip
noncomputable def Zq86 (N : Nat) (c : ((List Int) × (Int × Int))) : Option ((Int × Unit) × (((List Int) × (Int × Int)) × Unit)) :=
 ((Zq89 N c 24).bind fun r =>
 (chk (ile 0 0 && ile 0 (IntKind.i64.wrap (7 + (IntKind.i64.wrap (r.1.1.tdiv 8)))) && ile (IntKind.i64.wrap (7 + (IntKind.i64.wrap (r.1.1.tdiv 8)))) (tLen [3, 3, 2, 4, 3, 1, 5, 0, 6, (-1)]))
 ((Zq82 N r.2.1 (tCut [3, 3, 2, 4, 3, 1, 5, 0, 6, (-1)] 0 (IntKind.i64.wrap (7 + (IntKind.i64.wrap (r.1.1.tdiv 8)))))).bind fun r1 =>
 some ((r1.1.1, ()), (r1.2.1, ())))))
noncomputable def Zq86_S (N : Nat) : FSum := ⟨Zq86_ps, Zq86_rs, fun x => Zq86 N x.1⟩
theorem Zq86_pc (N : Nat) : PC Tryz.prog 78 (Zq86_S N) := pcQ (L := []) (Zq86_gok N) Tryz.call78 Tryz.func78 (fun x => by kernel_rfl) trivial (by kernel_rfl)

abbrev Zq112_ps : List (PV.Mode × Ty) := [(.ro, QILQII), (.ro, I)]
abbrev Zq112_rs : List (Bool × Ty) := [(true, .bool)]
noncomputable def Zq112_G (N : Nat) : GTab := gOf [(41, Zq99_S N), (92, Zq92_S N)]
theorem Zq112_gok (N : Nat) : GOk Tryz.prog (Zq112_G N) := gOf_ok ⟨Zq99_pc N, Zq92_pc N, trivial⟩
noncomputable def Zq112_code : Code := (Tryz.f99.body).getD .skip
noncomputable def Zq112 (N : Nat) (g : (Int × (List (Int × Int)))) (kv : Int) : Option ((Bool × Unit) × (Unit)) :=
 ((Zq99 N (g.1, g.2)).bind fun r =>
 (br r.1.1
 (((Zq92 N kv 1 5).bind fun r1 =>
 some ((r1.1.1, ()), ())))
 (some ((false, ()), ()))))
noncomputable def Zq112_S (N : Nat) : FSum := ⟨Zq112_ps, Zq112_rs, fun x => Zq112 N x.1 x.2.1⟩
theorem Zq112_pc (N : Nat) : PC Tryz.prog 99 (Zq112_S N) := pcQ (L := []) (Zq112_gok N) Tryz.call99 Tryz.func99 (fun x => by kernel_rfl) trivial (by kernel_rfl)

abbrev Zq94_ps : List (PV.Mode × Ty) := [(.ro, LI)]
abbrev Zq94_rs : List (Bool × Ty) := [(true, LI)]
noncomputable def Zq94_G (N : Nat) : GTab := gOf []
theorem Zq94_gok (N : Nat) : GOk Tryz.prog (Zq94_G N) := gOf_ok trivial
noncomputable def Zq94_code : Code := (Tryz.f60.body).getD .skip
noncomputable def Zq94 (N : Nat) (l : (List Int)) : Option (((List Int) × Unit) × (Unit)) :=
 (chk (room (α := Int) (β := Int) [] l)
 (some (((tApp [] l), ()), ())))
noncomputable def Zq94_S (N : Nat) : FSum := ⟨Zq94_ps, Zq94_rs, fun x => Zq94 N x.1⟩
theorem Zq94_pc (N : Nat) : PC Tryz.prog 60 (Zq94_S N) := pcQ (L := []) (Zq94_gok N) Tryz.call60 Tryz.func60 (fun x => by kernel_rfl) trivial (by kernel_rfl)

abbrev Zq117_ps : List (PV.Mode × Ty) := [(.ro, QILQII), (.ro, I), (.ro, LI), (.own, LLI)]
abbrev Zq117_rs : List (Bool × Ty) := [(true, LLI)]
noncomputable def Zq117_T (slf : ((Int × (List (Int × Int))) → Int → (List Int) → (List (List Int)) → Option (((List (List Int)) × Unit) × (Unit)))) : FSum := ⟨Zq117_ps, Zq117_rs, fun x => slf x.1 x.2.1 x.2.2.1 x.2.2.2.1⟩
noncomputable def Zq117_G (N : Nat) (slf : ((Int × (List (Int × Int))) → Int → (List Int) → (List (List Int)) → Option (((List (List Int)) × Unit) × (Unit)))) : GTab := gOf [(132, Zq117_T slf), (60, Zq94_S N), (69, Zq102_S N)]
theorem Zq117_gok (N : Nat) (slf : ((Int × (List (Int × Int))) → Int → (List Int) → (List (List Int)) → Option (((List (List Int)) × Unit) × (Unit)))) (hslf : PC Tryz.prog 132 (Zq117_T slf)) : GOk Tryz.prog (Zq117_G N slf) := gOf_ok ⟨hslf, Zq94_pc N, Zq102_pc N, trivial⟩
noncomputable def Zq117_code : Code := (Tryz.f132.body).getD .skip
noncomputable def Zq117_l0_0_sh : Sh := ⟨[(1, .one (.ro I)), (2, .one (.ro LI)), (3, .one (.ref 0)), (4, .one (.adr 1 0)), (9, .one (.ro I)), (10, .one (.ro .bool)), (11, .one (.ro I)), (26, .one (.ref 0)), (27, .one (.ro I)), (28, .one (.ro .bool))], [.sl 27 LI .deep, .box [.ro I, .ro LQII]]⟩
noncomputable def Zq117_l0_0_ex : List (Ex × Sh) := [(.exit 2, ⟨[(1, .one (.ro I)), (2, .one (.ro LI)), (3, .one (.ref 0)), (4, .one (.adr 1 0)), (9, .one (.ro I)), (10, .one (.ro .bool)), (26, .one (.ref 0)), (27, .one (.ro I)), (28, .one (.ro .bool))], [.sl 27 LI .deep, .box [.ro I, .ro LQII]]⟩)]
noncomputable def Zq117_l0_0 {R : Type} (N : Nat) (slf : ((Int × (List (Int × Int))) → Int → (List Int) → (List (List Int)) → Option (((List (List Int)) × Unit) × (Unit)))) (k0 : Int → (List Int) → Int → Bool → Int → Bool → (List (List Int)) → Int → (List (Int × Int)) → Option R) : Nat → Int → (List Int) → Int → Bool → Int → Int → Bool → (List (List Int)) → Int → (List (Int × Int)) → Option R
 | 0, _, _, _, _, _, _, _, _, _, _ => none
 | K + 1, x3, x4, x5, x6, x7, x8, x9, o3, o4, o5 =>
 (br (ilt x7 (tLen x4))
 ((br x6
 ((chk (inb x4 x7)
 (br (ine (rdI x4 x7) x5)
 (Zq117_l0_0 N slf k0 K x3 x4 x5 true (IntKind.i64.wrap (x7 + 1)) x8 x9 o3 o4 o5)
 (((Zq102 N (o4, o5) x7 (tLen x4)).bind fun r1 =>
 Zq117_l0_0 N slf k0 K x3 x4 x5 (!r1.1.1) (IntKind.i64.wrap (x7 + 1)) x8 x9 o3 o4 o5)))))
 (Zq117_l0_0 N slf k0 K x3 x4 x5 false (IntKind.i64.wrap (x7 + 1)) x8 x9 o3 o4 o5)))
 (k0 x3 x4 x5 x6 x8 x9 o3 o4 o5))
noncomputable def Zq117_l0_0_again {R : Type} (N : Nat) (slf : ((Int × (List (Int × Int))) → Int → (List Int) → (List (List Int)) → Option (((List (List Int)) × Unit) × (Unit)))) (ks : KS Zq117_l0_0_ex R) (k : Nat) (x : Zq117_l0_0_sh.T) : Option R :=
 Zq117_l0_0 N slf (fun y0 y1 y2 y3 y4 y5 y6 y7 y8 => ks 0 ((y0, y1, (), (), y2, y3, (), y4, y5, ()), (y6, (y7, y8, ()), ()))) k x.1.1 x.1.2.1 x.1.2.2.2.2.1 x.1.2.2.2.2.2.1 x.1.2.2.2.2.2.2.1 x.1.2.2.2.2.2.2.2.2.1 x.1.2.2.2.2.2.2.2.2.2.1 x.2.1 x.2.2.1.1 x.2.2.1.2.1
noncomputable def Zq117_l0_0_s (N : Nat) (slf : ((Int × (List (Int × Int))) → Int → (List Int) → (List (List Int)) → Option (((List (List Int)) × Unit) × (Unit)))) : LSum := ⟨Zq117_l0_0_sh, Zq117_l0_0_ex, fun x ks => Zq117_l0_0_again N slf ks N x⟩
theorem Zq117_l0_0_ok (N : Nat) (slf : ((Int × (List (Int × Int))) → Int → (List Int) → (List (List Int)) → Option (((List (List Int)) × Unit) × (Unit)))) (hslf : PC Tryz.prog 132 (Zq117_T slf)) : LoopOk Tryz.prog Tryz.f132.ntmps (Zq117_l0_0_s N slf) (loopAt (loopAt Zq117_code 0) 0) := loopQ (sh := Zq117_l0_0_sh) (ex := Zq117_l0_0_ex) (N := N) (L := []) (fun R k x ks => Zq117_l0_0_again N slf ks k x) (Zq117_gok N slf hslf) (fun _ _ _ => rfl) (fun R k x ks => by kernel_rfl) trivial (by kernel_rfl)
noncomputable def Zq117_l0_sh : Sh := ⟨[(1, .one (.ro I)), (2, .one (.ro LI)), (3, .one (.ref 0)), (4, .one (.adr 1 0)), (9, .one (.ro I))], [.sl 27 LI .deep, .box [.ro I, .ro LQII]]⟩
noncomputable def Zq117_l0_ex : List (Ex × Sh) := [(.exit 0, ⟨[(3, .one (.ref 0))], [.sl 27 LI .deep]⟩)]
noncomputable def Zq117_l0 {R : Type} (N : Nat) (slf : ((Int × (List (Int × Int))) → Int → (List Int) → (List (List Int)) → Option (((List (List Int)) × Unit) × (Unit)))) (k0 : (List (List Int)) → Option R) : Nat → Int → (List Int) → Int → (List (List Int)) → Int → (List (Int × Int)) → Option R
 | 0, _, _, _, _, _, _ => none
 | K + 1, x, x1, x2, o, o1, o2 =>
 (br (ilt x2 x)
 ((br (ile (tLen o) 300)
 (Zq117_l0_0 N slf (fun x3 x4 x5 x6 x7 x8 o3 o4 o5 => (br x6
 (((Zq94 N x4).bind fun r1 =>
 (chk (room r1.1.1 [x5])
 ((slf (o4, o5) x3 (tApp r1.1.1 [x5]) o3).bind fun r2 =>
 Zq117_l0 N slf k0 K x3 x4 (IntKind.i64.wrap (x5 + 1)) r2.1.1 o4 o5))))
 (Zq117_l0 N slf k0 K x3 x4 (IntKind.i64.wrap (x5 + 1)) o3 o4 o5))) N x x1 x2 true 0 (tLen o) (ile (tLen o) 300) o o1 o2)
 (k0 o)))
 (k0 o))
noncomputable def Zq117_l0_again {R : Type} (N : Nat) (slf : ((Int × (List (Int × Int))) → Int → (List Int) → (List (List Int)) → Option (((List (List Int)) × Unit) × (Unit)))) (ks : KS Zq117_l0_ex R) (k : Nat) (x : Zq117_l0_sh.T) : Option R :=
 Zq117_l0 N slf (fun y0 => ks 0 (((), ()), (y0, ()))) k x.1.1 x.1.2.1 x.1.2.2.2.2.1 x.2.1 x.2.2.1.1 x.2.2.1.2.1
noncomputable def Zq117_l0_s (N : Nat) (slf : ((Int × (List (Int × Int))) → Int → (List Int) → (List (List Int)) → Option (((List (List Int)) × Unit) × (Unit)))) : LSum := ⟨Zq117_l0_sh, Zq117_l0_ex, fun x ks => Zq117_l0_again N slf ks N x⟩
theorem Zq117_l0_ok (N : Nat) (slf : ((Int × (List (Int × Int))) → Int → (List Int) → (List (List Int)) → Option (((List (List Int)) × Unit) × (Unit)))) (hslf : PC Tryz.prog 132 (Zq117_T slf)) : LoopOk Tryz.prog Tryz.f132.ntmps (Zq117_l0_s N slf) (loopAt Zq117_code 0) := loopQ (sh := Zq117_l0_sh) (ex := Zq117_l0_ex) (N := N) (L := [Zq117_l0_0_s N slf]) (fun R k x ks => Zq117_l0_again N slf ks k x) (Zq117_gok N slf hslf) (fun _ _ _ => rfl) (fun R k x ks => by kernel_rfl) ⟨Zq117_l0_0_ok N slf hslf, trivial⟩ (by kernel_rfl)
noncomputable def Zq117_b (N : Nat) (slf : ((Int × (List (Int × Int))) → Int → (List Int) → (List (List Int)) → Option (((List (List Int)) × Unit) × (Unit)))) (c : (Int × (List (Int × Int)))) (c1 : Int) (c2 : (List Int)) (c3 : (List (List Int))) : Option (((List (List Int)) × Unit) × (Unit)) :=
 (br (ieq (tLen c2) c.1)
 (((Zq94 N c2).bind fun r =>
 (chk (room c3 [r.1.1])
 (some (((tApp c3 [r.1.1]), ()), ())))))
 (Zq117_l0 N slf (fun o => some ((o, ()), ())) N c1 c2 0 c3 c.1 c.2))
theorem Zq117_bpc (N : Nat) (slf : ((Int × (List (Int × Int))) → Int → (List Int) → (List (List Int)) → Option (((List (List Int)) × Unit) × (Unit)))) (hslf : PC Tryz.prog 132 (Zq117_T slf)) : PC Tryz.prog 132 (Zq117_T (Zq117_b N slf)) := pcQ (L := [Zq117_l0_s N slf]) (Zq117_gok N slf hslf) Tryz.call132 Tryz.func132 (fun x => by kernel_rfl) ⟨Zq117_l0_ok N slf hslf, trivial⟩ (by kernel_rfl)
noncomputable def Zq117_r (N : Nat) : Nat → ((Int × (List (Int × Int))) → Int → (List Int) → (List (List Int)) → Option (((List (List Int)) × Unit) × (Unit)))
 | 0 => fun _ _ _ _ => none
 | K + 1 => Zq117_b N (Zq117_r N K)
theorem Zq117_rpc (N : Nat) : ∀ K, PC Tryz.prog 132 (Zq117_T (Zq117_r N K))
  | 0 => pc_none Tryz.call132
  | K + 1 => Zq117_bpc N (Zq117_r N K) (Zq117_rpc N K)
noncomputable def Zq117 (N : Nat) (c : (Int × (List (Int × Int)))) (c1 : Int) (c2 : (List Int)) (c3 : (List (List Int))) : Option (((List (List Int)) × Unit) × (Unit)) := Zq117_r N N c c1 c2 c3
noncomputable def Zq117_S (N : Nat) : FSum := ⟨Zq117_ps, Zq117_rs, fun x => Zq117 N x.1 x.2.1 x.2.2.1 x.2.2.2.1⟩
theorem Zq117_pc (N : Nat) : PC Tryz.prog 132 (Zq117_S N) := Zq117_rpc N N

abbrev Zq111_ps : List (PV.Mode × Ty) := [(.ro, QILQII), (.ro, I)]
abbrev Zq111_rs : List (Bool × Ty) := [(true, LLI), (true, .bool)]
noncomputable def Zq111_G (N : Nat) : GTab := gOf [(99, Zq112_S N), (132, Zq117_S N)]
theorem Zq111_gok (N : Nat) : GOk Tryz.prog (Zq111_G N) := gOf_ok ⟨Zq112_pc N, Zq117_pc N, trivial⟩
noncomputable def Zq111_code : Code := (Tryz.f90.body).getD .skip
noncomputable def Zq111 (N : Nat) (g : (Int × (List (Int × Int)))) (kv : Int) : Option (((List (List Int)) × Bool × Unit) × (Unit)) :=
 ((Zq112 N (g.1, g.2) kv).bind fun r =>
 (br (!r.1.1)
 (some (([], false, ()), ()))
 (((Zq117 N (g.1, g.2) kv [] []).bind fun r1 =>
 (br (ilt 300 (tLen r1.1.1))
 (some (([], false, ()), ()))
 (some ((r1.1.1, true, ()), ())))))))
noncomputable def Zq111_S (N : Nat) : FSum := ⟨Zq111_ps, Zq111_rs, fun x => Zq111 N x.1 x.2.1⟩
theorem Zq111_pc (N : Nat) : PC Tryz.prog 90 (Zq111_S N) := pcQ (L := []) (Zq111_gok N) Tryz.call90 Tryz.func90 (fun x => by kernel_rfl) trivial (by kernel_rfl)

abbrev Zq83_ps : List (PV.Mode × Ty) := [(.mut, BQOU8QIU64), (.ro, QILQII), (.ro, I)]
abbrev Zq83_rs : List (Bool × Ty) := [(true, LI)]
noncomputable def Zq83_G (N : Nat) : GTab := gOf [(90, Zq111_S N), (61, Zq88_S N), (42, Zq89_S N), (91, Zq82_S N)]
theorem Zq83_gok (N : Nat) : GOk Tryz.prog (Zq83_G N) := gOf_ok ⟨Zq111_pc N, Zq88_pc N, Zq89_pc N, Zq82_pc N, trivial⟩
noncomputable def Zq83_code : Code := (Tryz.f40.body).getD .skip
noncomputable def Zq83_l0_sh : Sh := ⟨[(0, .one (.adr 0 0)), (4, .one (.adr 1 0)), (9, .one (.ref 2)), (10, .one (.ro I))], [.mbox QOU8QIU64, .box [.ro I, .ro LQII], .sl 3 I .own]⟩
noncomputable def Zq83_l0_ex : List (Ex × Sh) := [(.exit 0, ⟨[(0, .one (.adr 0 0)), (9, .one (.ref 1))], [.mbox QOU8QIU64, .sl 3 I .own]⟩)]
noncomputable def Zq83_l0 {R : Type} (N : Nat) (k0 : ((List Int) × (Int × Int)) → (List Int) → Option R) : Nat → Int → ((List Int) × (Int × Int)) → Int → (List (Int × Int)) → (List Int) → Option R
 | 0, _, _, _, _, _ => none
 | K + 1, x, o, o1, o2, o3 =>
 (br (ilt x o1)
 ((br (ilt x 9)
 (((Zq89 N o 4).bind fun r3 =>
 (chk (room o3 [r3.1.1])
 (Zq83_l0 N k0 K (IntKind.i64.wrap (x + 1)) r3.2.1 o1 o2 (tApp o3 [r3.1.1])))))
 (k0 o o3)))
 (k0 o o3))
noncomputable def Zq83_l0_again {R : Type} (N : Nat) (ks : KS Zq83_l0_ex R) (k : Nat) (x : Zq83_l0_sh.T) : Option R :=
 Zq83_l0 N (fun y0 y1 => ks 0 (((), (), ()), (y0, y1, ()))) k x.1.2.2.2.1 x.2.1 x.2.2.1.1 x.2.2.1.2.1 x.2.2.2.1
noncomputable def Zq83_l0_s (N : Nat) : LSum := ⟨Zq83_l0_sh, Zq83_l0_ex, fun x ks => Zq83_l0_again N ks N x⟩
theorem Zq83_l0_ok (N : Nat) : LoopOk Tryz.prog Tryz.f40.ntmps (Zq83_l0_s N) (loopAt Zq83_code 0) := loopQ (sh := Zq83_l0_sh) (ex := Zq83_l0_ex) (N := N) (L := []) (fun R k x ks => Zq83_l0_again N ks k x) (Zq83_gok N) (fun _ _ _ => rfl) (fun R k x ks => by kernel_rfl) trivial (by kernel_rfl)
noncomputable def Zq83 (N : Nat) (c : ((List Int) × (Int × Int))) (g : (Int × (List (Int × Int)))) (kv : Int) : Option (((List Int) × Unit) × (((List Int) × (Int × Int)) × Unit)) :=
 ((Zq111 N (g.1, g.2) kv).bind fun r =>
 (br r.1.2.1
 ((br (ilt 0 (tLen r.1.1))
 (((Zq88 N c 10).bind fun r1 =>
 (br (!r1.1.1)
 (((Zq89 N r1.2.1 (tLen r.1.1)).bind fun r2 =>
 (chk (inb r.1.1 r2.1.1)
 (some (((rdL r.1.1 r2.1.1), ()), (r2.2.1, ()))))))
 (Zq83_l0 N (fun o o1 => ((Zq88 N o 8).bind fun r3 =>
 (br r3.1.1
 (((Zq82 N r3.2.1 [(-1), 0, 9]).bind fun r4 =>
 (chk (room o1 [r4.1.1])
 (some (((tApp o1 [r4.1.1]), ()), (r4.2.1, ()))))))
 (some ((o1, ()), (r3.2.1, ())))))) N 0 r1.2.1 g.1 g.2 []))))
 (Zq83_l0 N (fun o2 o3 => ((Zq88 N o2 8).bind fun r5 =>
 (br r5.1.1
 (((Zq82 N r5.2.1 [(-1), 0, 9]).bind fun r6 =>
 (chk (room o3 [r6.1.1])
 (some (((tApp o3 [r6.1.1]), ()), (r6.2.1, ()))))))
 (some ((o3, ()), (r5.2.1, ())))))) N 0 c g.1 g.2 [])))
 (Zq83_l0 N (fun o4 o5 => ((Zq88 N o4 8).bind fun r7 =>
 (br r7.1.1
 (((Zq82 N r7.2.1 [(-1), 0, 9]).bind fun r8 =>
 (chk (room o5 [r8.1.1])
 (some (((tApp o5 [r8.1.1]), ()), (r8.2.1, ()))))))
 (some ((o5, ()), (r7.2.1, ())))))) N 0 c g.1 g.2 [])))
noncomputable def Zq83_S (N : Nat) : FSum := ⟨Zq83_ps, Zq83_rs, fun x => Zq83 N x.1 x.2.1 x.2.2.1⟩
theorem Zq83_pc (N : Nat) : PC Tryz.prog 40 (Zq83_S N) := pcQ (L := [Zq83_l0_s N]) (Zq83_gok N) Tryz.call40 Tryz.func40 (fun x => by kernel_rfl) ⟨Zq83_l0_ok N, trivial⟩ (by kernel_rfl)

abbrev Zq75_ps : List (PV.Mode × Ty) := [(.ro, LU8)]
abbrev Zq75_rs : List (Bool × Ty) := [(false, QILQII), (false, I), (false, LI), (false, LI)]
noncomputable def Zq75_G (N : Nat) : GTab := gOf [(39, Zq84_S N), (78, Zq86_S N), (40, Zq83_S N)]
theorem Zq75_gok (N : Nat) : GOk Tryz.prog (Zq75_G N) := gOf_ok ⟨Zq84_pc N, Zq86_pc N, Zq83_pc N, trivial⟩
noncomputable def Zq75_code : Code := (Tryz.f24.body).getD .skip
noncomputable def Zq75 (N : Nat) (code : (List Int)) : Option (((Int × (List (Int × Int))) × Int × (List Int) × (List Int) × Unit) × (Unit)) :=
 ((Zq84 N (code, (0, 0))).bind fun r =>
 ((Zq86 N r.2.1).bind fun r1 =>
 ((Zq83 N (r1.2.1.1, (r1.2.1.2.1, r1.2.1.2.2)) (r.1.1.1, r.1.1.2) r1.1.1).bind fun r2 =>
 ((Zq83 N r2.2.1 (r.1.1.1, r.1.1.2) r1.1.1).bind fun r3 =>
 some (((r.1.1.1, r.1.1.2), r1.1.1, r2.1.1, r3.1.1, ()), ())))))
noncomputable def Zq75_S (N : Nat) : FSum := ⟨Zq75_ps, Zq75_rs, fun x => Zq75 N x.1⟩
theorem Zq75_pc (N : Nat) : PC Tryz.prog 24 (Zq75_S N) := pcQ (L := []) (Zq75_gok N) Tryz.call24 Tryz.func24 (fun x => by kernel_rfl) trivial (by kernel_rfl)

abbrev Zq32_ps : List (PV.Mode × Ty) := [(.ro, I), (.ro, I), (.ro, I)]
abbrev Zq32_rs : List (Bool × Ty) := [(true, .bool)]
noncomputable def Zq32_G (N : Nat) : GTab := gOf []
theorem Zq32_gok (N : Nat) : GOk Tryz.prog (Zq32_G N) := gOf_ok trivial
noncomputable def Zq32_code : Code := (Tryz.f97.body).getD .skip
noncomputable def Zq32 (N : Nat) (n : Int) (low : Int) (high : Int) : Option ((Bool × Unit) × (Unit)) :=
 (br (ile low n)
 (some (((ile n high), ()), ()))
 (some ((false, ()), ())))
noncomputable def Zq32_S (N : Nat) : FSum := ⟨Zq32_ps, Zq32_rs, fun x => Zq32 N x.1 x.2.1 x.2.2.1⟩
theorem Zq32_pc (N : Nat) : PC Tryz.prog 97 (Zq32_S N) := pcQ (L := []) (Zq32_gok N) Tryz.call97 Tryz.func97 (fun x => by kernel_rfl) trivial (by kernel_rfl)

abbrev Zq2_ps : List (PV.Mode × Ty) := [(.ro, I)]
abbrev Zq2_rs : List (Bool × Ty) := [(true, .bool)]
noncomputable def Zq2_G (N : Nat) : GTab := gOf []
theorem Zq2_gok (N : Nat) : GOk Tryz.prog (Zq2_G N) := gOf_ok trivial
noncomputable def Zq2_code : Code := (Tryz.f167.body).getD .skip
noncomputable def Zq2 (N : Nat) (x : Int) : Option ((Bool × Unit) × (Unit)) :=
 some (((ine x x), ()), ())
noncomputable def Zq2_S (N : Nat) : FSum := ⟨Zq2_ps, Zq2_rs, fun x => Zq2 N x.1⟩
theorem Zq2_pc (N : Nat) : PC Tryz.prog 167 (Zq2_S N) := pcQ (L := []) (Zq2_gok N) Tryz.call167 Tryz.func167 (fun x => by kernel_rfl) trivial (by kernel_rfl)
end Go.Proofs.YtkffaahlpdlkoaaGreat
