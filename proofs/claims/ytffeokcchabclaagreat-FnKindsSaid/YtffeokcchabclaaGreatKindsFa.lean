/- Functions of the program as functions on data. -/
import Derived.Test.YtffeokcchabclaaGreatKindsSa
set_option linter.all false
namespace Go.Proofs.YtffeokcchabclaaGreat
open Go Go.PV
abbrev Zq38_ps : List (PV.Mode × Ty) := [(.ro, LU8)]
abbrev Zq38_rs : List (Bool × Ty) := [(true, .bool)]
noncomputable def Zq38_G (N : Nat) : GTab := gOf []
theorem Zq38_gok (N : Nat) : GOk Tryz.prog (Zq38_G N) := gOf_ok trivial
noncomputable def Zq38_code : Code := (Tryz.f6.body).getD .skip
noncomputable def Zq38 (N : Nat) (code : (List Int)) : Option ((Bool × Unit) × (Unit)) :=
 some (((ilt 65536 (tLen code)), ()), ())
noncomputable def Zq38_S (N : Nat) : FSum := ⟨Zq38_ps, Zq38_rs, fun x => Zq38 N x.1⟩
theorem Zq38_pc (N : Nat) : PC Tryz.prog 6 (Zq38_S N) := pcQ (L := []) (Zq38_gok N) Tryz.call6 Tryz.func6 (fun x => by kernel_rfl) trivial (by kernel_rfl)

abbrev Zq68_ps : List (PV.Mode × Ty) := [(.mut, BQOU8QIU64)]
abbrev Zq68_rs : List (Bool × Ty) := [(true, I)]
noncomputable def Zq68_G (N : Nat) : GTab := gOf []
theorem Zq68_gok (N : Nat) : GOk Tryz.prog (Zq68_G N) := gOf_ok trivial
noncomputable def Zq68_code : Code := (Tryz.f162.body).getD .skip
noncomputable def Zq68 (N : Nat) (c : ((List Int) × (Int × Int))) : Option ((Int × Unit) × (((List Int) × (Int × Int)) × Unit)) :=
 (br (ilt c.2.1 (tLen c.1))
 ((chk (inb c.1 c.2.1)
 (br (ile (IntKind.i64.wrap (c.2.1 + 1)) (tLen c.1))
 (some (((IntKind.i64.wrap ((rd U8 c.1 c.2.1))), ()), ((c.1, ((IntKind.i64.wrap (c.2.1 + 1)), (IntKind.u64.wrap ((IntKind.u64.wrap ((IntKind.u64.wrap (c.2.2 * 6364136223846793005)) + (IntKind.u64.wrap ((IntKind.i64.wrap ((rd U8 c.1 c.2.1))))))) + 462197)))), ())))
 (some (((IntKind.i64.wrap ((bitop .and .u64 (shrI .u64 (IntKind.u64.wrap ((IntKind.u64.wrap ((IntKind.u64.wrap (c.2.2 * 6364136223846793005)) + (IntKind.u64.wrap ((IntKind.i64.wrap ((rd U8 c.1 c.2.1))))))) + 462197)) 40) 255))), ()), ((c.1, ((IntKind.i64.wrap (c.2.1 + 1)), (IntKind.u64.wrap ((IntKind.u64.wrap ((IntKind.u64.wrap (c.2.2 * 6364136223846793005)) + (IntKind.u64.wrap ((IntKind.i64.wrap ((rd U8 c.1 c.2.1))))))) + 462197)))), ()))))))
 ((br (ile (IntKind.i64.wrap (c.2.1 + 1)) (tLen c.1))
 (some ((0, ()), ((c.1, ((IntKind.i64.wrap (c.2.1 + 1)), (IntKind.u64.wrap ((IntKind.u64.wrap ((IntKind.u64.wrap (c.2.2 * 6364136223846793005)) + 0)) + 462197)))), ())))
 (some (((IntKind.i64.wrap ((bitop .and .u64 (shrI .u64 (IntKind.u64.wrap ((IntKind.u64.wrap ((IntKind.u64.wrap (c.2.2 * 6364136223846793005)) + 0)) + 462197)) 40) 255))), ()), ((c.1, ((IntKind.i64.wrap (c.2.1 + 1)), (IntKind.u64.wrap ((IntKind.u64.wrap ((IntKind.u64.wrap (c.2.2 * 6364136223846793005)) + 0)) + 462197)))), ()))))))
noncomputable def Zq68_S (N : Nat) : FSum := ⟨Zq68_ps, Zq68_rs, fun x => Zq68 N x.1⟩
theorem Zq68_pc (N : Nat) : PC Tryz.prog 162 (Zq68_S N) := pcQ (L := []) (Zq68_gok N) Tryz.call162 Tryz.func162 (fun x => by kernel_rfl) trivial (by kernel_rfl)

abbrev Zq72_ps : List (PV.Mode × Ty) := [(.mut, BQOU8QIU64), (.ro, I)]
abbrev Zq72_rs : List (Bool × Ty) := [(true, I)]
noncomputable def Zq72_G (N : Nat) : GTab := gOf [(162, Zq68_S N)]
theorem Zq72_gok (N : Nat) : GOk Tryz.prog (Zq72_G N) := gOf_ok ⟨Zq68_pc N, trivial⟩
noncomputable def Zq72_code : Code := (Tryz.f122.body).getD .skip
noncomputable def Zq72 (N : Nat) (c : ((List Int) × (Int × Int))) (n : Int) : Option ((Int × Unit) × (((List Int) × (Int × Int)) × Unit)) :=
 (br (ile n 1)
 (some ((0, ()), (c, ())))
 (((Zq68 N c).bind fun r =>
 (br (ilt 200 n)
 (((Zq68 N r.2.1).bind fun r1 =>
 (chk (ine n 0)
 (some ((((IntKind.i64.wrap ((IntKind.i64.wrap (r.1.1 * 256)) + r1.1.1)).tmod n), ()), (r1.2.1, ()))))))
 ((chk (ine n 0)
 (some (((r.1.1.tmod n), ()), (r.2.1, ())))))))))
noncomputable def Zq72_S (N : Nat) : FSum := ⟨Zq72_ps, Zq72_rs, fun x => Zq72 N x.1 x.2.1⟩
theorem Zq72_pc (N : Nat) : PC Tryz.prog 122 (Zq72_S N) := pcQ (L := []) (Zq72_gok N) Tryz.call122 Tryz.func122 (fun x => by kernel_rfl) trivial (by kernel_rfl)

abbrev Zq65_ps : List (PV.Mode × Ty) := [(.mut, BQOU8QIU64), (.ro, LI)]
abbrev Zq65_rs : List (Bool × Ty) := [(true, I)]
noncomputable def Zq65_G (N : Nat) : GTab := gOf [(122, Zq72_S N)]
theorem Zq65_gok (N : Nat) : GOk Tryz.prog (Zq65_G N) := gOf_ok ⟨Zq72_pc N, trivial⟩
noncomputable def Zq65_code : Code := (Tryz.f121.body).getD .skip
noncomputable def Zq65 (N : Nat) (c : ((List Int) × (Int × Int))) (list : (List Int)) : Option ((Int × Unit) × (((List Int) × (Int × Int)) × Unit)) :=
 ((Zq72 N c (tLen list)).bind fun r =>
 (chk (inb list r.1.1)
 (some (((rdI list r.1.1), ()), (r.2.1, ())))))
noncomputable def Zq65_S (N : Nat) : FSum := ⟨Zq65_ps, Zq65_rs, fun x => Zq65 N x.1 x.2.1⟩
theorem Zq65_pc (N : Nat) : PC Tryz.prog 121 (Zq65_S N) := pcQ (L := []) (Zq65_gok N) Tryz.call121 Tryz.func121 (fun x => by kernel_rfl) trivial (by kernel_rfl)

abbrev Zq71_ps : List (PV.Mode × Ty) := [(.mut, BQOU8QIU64), (.ro, I)]
abbrev Zq71_rs : List (Bool × Ty) := [(true, .bool)]
noncomputable def Zq71_G (N : Nat) : GTab := gOf [(122, Zq72_S N)]
theorem Zq71_gok (N : Nat) : GOk Tryz.prog (Zq71_G N) := gOf_ok ⟨Zq72_pc N, trivial⟩
noncomputable def Zq71_code : Code := (Tryz.f57.body).getD .skip
noncomputable def Zq71 (N : Nat) (c : ((List Int) × (Int × Int))) (n : Int) : Option ((Bool × Unit) × (((List Int) × (Int × Int)) × Unit)) :=
 ((Zq72 N c n).bind fun r =>
 some (((ieq r.1.1 0), ()), (r.2.1, ())))
noncomputable def Zq71_S (N : Nat) : FSum := ⟨Zq71_ps, Zq71_rs, fun x => Zq71 N x.1 x.2.1⟩
theorem Zq71_pc (N : Nat) : PC Tryz.prog 57 (Zq71_S N) := pcQ (L := []) (Zq71_gok N) Tryz.call57 Tryz.func57 (fun x => by kernel_rfl) trivial (by kernel_rfl)

abbrev Zq76_ps : List (PV.Mode × Ty) := [(.ro, I), (.ro, I)]
abbrev Zq76_rs : List (Bool × Ty) := [(true, I)]
noncomputable def Zq76_G (N : Nat) : GTab := gOf []
theorem Zq76_gok (N : Nat) : GOk Tryz.prog (Zq76_G N) := gOf_ok trivial
noncomputable def Zq76_code : Code := (Tryz.f118.body).getD .skip
noncomputable def Zq76 (N : Nat) (a : Int) (b : Int) : Option ((Int × Unit) × (Unit)) :=
 (br (ilt a b)
 (some ((a, ()), ()))
 (some ((b, ()), ())))
noncomputable def Zq76_S (N : Nat) : FSum := ⟨Zq76_ps, Zq76_rs, fun x => Zq76 N x.1 x.2.1⟩
theorem Zq76_pc (N : Nat) : PC Tryz.prog 118 (Zq76_S N) := pcQ (L := []) (Zq76_gok N) Tryz.call118 Tryz.func118 (fun x => by kernel_rfl) trivial (by kernel_rfl)

abbrev Zq85_ps : List (PV.Mode × Ty) := [(.ro, QII), (.ro, QII)]
abbrev Zq85_rs : List (Bool × Ty) := [(true, .bool)]
noncomputable def Zq85_G (N : Nat) : GTab := gOf []
theorem Zq85_gok (N : Nat) : GOk Tryz.prog (Zq85_G N) := gOf_ok trivial
noncomputable def Zq85_code : Code := (Tryz.f169.body).getD .skip
noncomputable def Zq85 (N : Nat) (a : (Int × Int)) (b : (Int × Int)) : Option ((Bool × Unit) × (Unit)) :=
 (br (ilt a.1 b.1)
 (some ((true, ()), ()))
 ((br (ieq a.1 b.1)
 (some (((ilt a.2 b.2), ()), ()))
 (some ((false, ()), ())))))
noncomputable def Zq85_S (N : Nat) : FSum := ⟨Zq85_ps, Zq85_rs, fun x => Zq85 N x.1 x.2.1⟩
theorem Zq85_pc (N : Nat) : PC Tryz.prog 169 (Zq85_S N) := pcQ (L := []) (Zq85_gok N) Tryz.call169 Tryz.func169 (fun x => by kernel_rfl) trivial (by kernel_rfl)

abbrev Zq89_ps : List (PV.Mode × Ty) := [(.own, LQII), (.ro, QII)]
abbrev Zq89_rs : List (Bool × Ty) := [(true, LQII)]
noncomputable def Zq89_G (N : Nat) : GTab := gOf [(169, Zq85_S N)]
theorem Zq89_gok (N : Nat) : GOk Tryz.prog (Zq89_G N) := gOf_ok ⟨Zq85_pc N, trivial⟩
noncomputable def Zq89_code : Code := (Tryz.f140.body).getD .skip
noncomputable def Zq89_l0_sh : Sh := ⟨[(0, .one (.ref 0)), (3, .one (.adr 1 0)), (5, .one (.ro I))], [.sl 90 QII .own, .box [.ro I, .ro I]]⟩
noncomputable def Zq89_l0_ex : List (Ex × Sh) := [(.exit 0, ⟨[(0, .one (.ref 0)), (3, .one (.adr 1 0)), (5, .one (.ro I))], [.sl 90 QII .own, .box [.ro I, .ro I]]⟩)]
noncomputable def Zq89_l0 {R : Type} (N : Nat) (k0 : Int → (List (Int × Int)) → Int → Int → Option R) : Nat → Int → (List (Int × Int)) → Int → Int → Option R
 | 0, _, _, _, _ => none
 | K + 1, kv, o, o1, o2 =>
 (br (ilt 0 kv)
 ((chk (inb o (IntKind.i64.wrap (kv - 1)))
 ((Zq85 N (o1, o2) (rdP o (IntKind.i64.wrap (kv - 1)))).bind fun r =>
 (br r.1.1
 (Zq89_l0 N k0 K (IntKind.i64.wrap (kv - 1)) o o1 o2)
 (k0 kv o o1 o2)))))
 (k0 kv o o1 o2))
noncomputable def Zq89_l0_again {R : Type} (N : Nat) (ks : KS Zq89_l0_ex R) (k : Nat) (x : Zq89_l0_sh.T) : Option R :=
 Zq89_l0 N (fun y0 y1 y2 y3 => ks 0 (((), (), y0, ()), (y1, (y2, y3, ()), ()))) k x.1.2.2.1 x.2.1 x.2.2.1.1 x.2.2.1.2.1
noncomputable def Zq89_l0_s (N : Nat) : LSum := ⟨Zq89_l0_sh, Zq89_l0_ex, fun x ks => Zq89_l0_again N ks N x⟩
theorem Zq89_l0_ok (N : Nat) : LoopOk Tryz.prog Tryz.f140.ntmps (Zq89_l0_s N) (loopAt Zq89_code 0) := loopQ (sh := Zq89_l0_sh) (ex := Zq89_l0_ex) (N := N) (L := []) (fun R k x ks => Zq89_l0_again N ks k x) (Zq89_gok N) (fun _ _ _ => rfl) (fun R k x ks => by kernel_rfl) trivial (by kernel_rfl)
noncomputable def Zq89 (N : Nat) (list : (List (Int × Int))) (e : (Int × Int)) : Option (((List (Int × Int)) × Unit) × (Unit)) :=
 Zq89_l0 N (fun kv o o1 o2 => (br (ilt 0 kv)
 ((chk (inb o (IntKind.i64.wrap (kv - 1)))
 (br (ieq ((rdP o (IntKind.i64.wrap (kv - 1))).1) o1 && ieq ((rdP o (IntKind.i64.wrap (kv - 1))).2) o2)
 (some ((o, ()), ()))
 ((chk (ile 0 0 && ile 0 kv && ile kv (tLen o))
 (chk (room (α := (Int × Int)) (β := (Int × Int)) [] (tCut o 0 kv))
 (chk (room (tApp [] (tCut o 0 kv)) [(o1, o2)])
 (chk (ile 0 kv && ile kv (tLen o) && ile (tLen o) (tLen o))
 (chk (room (tApp (tApp [] (tCut o 0 kv)) [(o1, o2)]) (tCut o kv (tLen o)))
 (some (((tApp (tApp (tApp [] (tCut o 0 kv)) [(o1, o2)]) (tCut o kv (tLen o))), ()), ())))))))))))
 ((chk (ile 0 0 && ile 0 kv && ile kv (tLen o))
 (chk (room (α := (Int × Int)) (β := (Int × Int)) [] (tCut o 0 kv))
 (chk (room (tApp [] (tCut o 0 kv)) [(o1, o2)])
 (chk (ile 0 kv && ile kv (tLen o) && ile (tLen o) (tLen o))
 (chk (room (tApp (tApp [] (tCut o 0 kv)) [(o1, o2)]) (tCut o kv (tLen o)))
 (some (((tApp (tApp (tApp [] (tCut o 0 kv)) [(o1, o2)]) (tCut o kv (tLen o))), ()), ())))))))))) N (tLen list) list e.1 e.2
noncomputable def Zq89_S (N : Nat) : FSum := ⟨Zq89_ps, Zq89_rs, fun x => Zq89 N x.1 x.2.1⟩
theorem Zq89_pc (N : Nat) : PC Tryz.prog 140 (Zq89_S N) := pcQ (L := [Zq89_l0_s N]) (Zq89_gok N) Tryz.call140 Tryz.func140 (fun x => by kernel_rfl) ⟨Zq89_l0_ok N, trivial⟩ (by kernel_rfl)

abbrev Zq73_ps : List (PV.Mode × Ty) := [(.mut, BQOU8QIU64), (.ro, I)]
abbrev Zq73_rs : List (Bool × Ty) := [(true, QILQII)]
noncomputable def Zq73_G (N : Nat) : GTab := gOf [(121, Zq65_S N), (57, Zq71_S N), (122, Zq72_S N), (118, Zq76_S N), (140, Zq89_S N)]
theorem Zq73_gok (N : Nat) : GOk Tryz.prog (Zq73_G N) := gOf_ok ⟨Zq65_pc N, Zq71_pc N, Zq72_pc N, Zq76_pc N, Zq89_pc N, trivial⟩
noncomputable def Zq73_code : Code := (Tryz.f87.body).getD .skip
noncomputable def Zq73_l0_0_sh : Sh := ⟨[(0, .one (.adr 0 0)), (4, .one (.adr 1 0)), (5, .one (.ro I)), (6, .one (.adr 2 0)), (7, .one (.ro I)), (8, .one (.ro .bool)), (9, .one (.ro I)), (10, .one (.ro I))], [.mbox QOU8QIU64, .box [.ro I, .nilsl], .box [.ro I, .ref 3], .sl 90 QII .own]⟩
noncomputable def Zq73_l0_0_ex : List (Ex × Sh) := [(.exit 2, ⟨[(0, .one (.adr 0 0)), (4, .one (.adr 1 0)), (5, .one (.ro I)), (6, .one (.adr 2 0)), (7, .one (.ro I)), (8, .one (.ro .bool)), (9, .one (.ro I))], [.mbox QOU8QIU64, .box [.ro I, .nilsl], .box [.ro I, .ref 3], .sl 90 QII .own]⟩)]
noncomputable def Zq73_l0_0 {R : Type} (N : Nat) (k0 : Int → Int → Bool → Int → ((List Int) × (Int × Int)) → Int → Int → (List (Int × Int)) → Option R) : Nat → Int → Int → Bool → Int → Int → ((List Int) × (Int × Int)) → Int → Int → (List (Int × Int)) → Option R
 | 0, _, _, _, _, _, _, _, _, _ => none
 | K + 1, x4, x5, x6, x7, x8, o4, o5, o6, o7 =>
 (br (ilt x8 x4)
 (((Zq72 N o4 x5).bind fun r6 =>
 (br (ieq r6.1.1 0)
 (((Zq89 N o7 (x7, x8)).bind fun r7 =>
 Zq73_l0_0 N k0 K x4 x5 x6 x7 (IntKind.i64.wrap (x8 + 1)) r6.2.1 o5 o6 r7.1.1))
 (Zq73_l0_0 N k0 K x4 x5 x6 x7 (IntKind.i64.wrap (x8 + 1)) r6.2.1 o5 o6 o7))))
 (k0 x4 x5 x6 x7 o4 o5 o6 o7))
noncomputable def Zq73_l0_0_again {R : Type} (N : Nat) (ks : KS Zq73_l0_0_ex R) (k : Nat) (x : Zq73_l0_0_sh.T) : Option R :=
 Zq73_l0_0 N (fun y0 y1 y2 y3 y4 y5 y6 y7 => ks 0 (((), (), y0, (), y1, y2, y3, ()), (y4, (y5, (), ()), (y6, (), ()), y7, ()))) k x.1.2.2.1 x.1.2.2.2.2.1 x.1.2.2.2.2.2.1 x.1.2.2.2.2.2.2.1 x.1.2.2.2.2.2.2.2.1 x.2.1 x.2.2.1.1 x.2.2.2.1.1 x.2.2.2.2.1
noncomputable def Zq73_l0_0_s (N : Nat) : LSum := ⟨Zq73_l0_0_sh, Zq73_l0_0_ex, fun x ks => Zq73_l0_0_again N ks N x⟩
theorem Zq73_l0_0_ok (N : Nat) : LoopOk Tryz.prog Tryz.f87.ntmps (Zq73_l0_0_s N) (loopAt (loopAt Zq73_code 0) 0) := loopQ (sh := Zq73_l0_0_sh) (ex := Zq73_l0_0_ex) (N := N) (L := []) (fun R k x ks => Zq73_l0_0_again N ks k x) (Zq73_gok N) (fun _ _ _ => rfl) (fun R k x ks => by kernel_rfl) trivial (by kernel_rfl)
noncomputable def Zq73_l0_sh : Sh := ⟨[(0, .one (.adr 0 0)), (4, .one (.adr 1 0)), (5, .one (.ro I)), (6, .one (.adr 2 0)), (7, .one (.ro I)), (8, .one (.ro .bool)), (9, .one (.ro I))], [.mbox QOU8QIU64, .box [.ro I, .nilsl], .box [.ro I, .ref 3], .sl 90 QII .own]⟩
noncomputable def Zq73_l0_ex : List (Ex × Sh) := [(.exit 0, ⟨[(0, .one (.adr 0 0)), (4, .one (.adr 1 0)), (6, .one (.adr 2 0))], [.mbox QOU8QIU64, .box [.ro I, .nilsl], .box [.ro I, .ref 3], .sl 90 QII .own]⟩)]
noncomputable def Zq73_l0 {R : Type} (N : Nat) (k0 : ((List Int) × (Int × Int)) → Int → Int → (List (Int × Int)) → Option R) : Nat → Int → Int → Bool → Int → ((List Int) × (Int × Int)) → Int → Int → (List (Int × Int)) → Option R
 | 0, _, _, _, _, _, _, _, _ => none
 | K + 1, x, x1, x2, x3, o, o1, o2, o3 =>
 (br (ilt x3 x)
 (Zq73_l0_0 N (fun x4 x5 x6 x7 o4 o5 o6 o7 => (br (ilt 0 x7)
 ((br (!x6)
 (((Zq72 N (o4.1, (o4.2.1, o4.2.2)) x7).bind fun r6 =>
 ((Zq89 N o7 (r6.1.1, x7)).bind fun r7 =>
 Zq73_l0 N k0 K x4 x5 x6 (IntKind.i64.wrap (x7 + 1)) r6.2.1 o5 o6 r7.1.1)))
 (Zq73_l0 N k0 K x4 x5 x6 (IntKind.i64.wrap (x7 + 1)) o4 o5 o6 o7)))
 (Zq73_l0 N k0 K x4 x5 x6 (IntKind.i64.wrap (x7 + 1)) o4 o5 o6 o7))) N x x1 x2 x3 (IntKind.i64.wrap (x3 + 1)) o o1 o2 o3)
 (k0 o o1 o2 o3))
noncomputable def Zq73_l0_again {R : Type} (N : Nat) (ks : KS Zq73_l0_ex R) (k : Nat) (x : Zq73_l0_sh.T) : Option R :=
 Zq73_l0 N (fun y0 y1 y2 y3 => ks 0 (((), (), (), ()), (y0, (y1, (), ()), (y2, (), ()), y3, ()))) k x.1.2.2.1 x.1.2.2.2.2.1 x.1.2.2.2.2.2.1 x.1.2.2.2.2.2.2.1 x.2.1 x.2.2.1.1 x.2.2.2.1.1 x.2.2.2.2.1
noncomputable def Zq73_l0_s (N : Nat) : LSum := ⟨Zq73_l0_sh, Zq73_l0_ex, fun x ks => Zq73_l0_again N ks N x⟩
theorem Zq73_l0_ok (N : Nat) : LoopOk Tryz.prog Tryz.f87.ntmps (Zq73_l0_s N) (loopAt Zq73_code 0) := loopQ (sh := Zq73_l0_sh) (ex := Zq73_l0_ex) (N := N) (L := [Zq73_l0_0_s N]) (fun R k x ks => Zq73_l0_again N ks k x) (Zq73_gok N) (fun _ _ _ => rfl) (fun R k x ks => by kernel_rfl) ⟨Zq73_l0_0_ok N, trivial⟩ (by kernel_rfl)
noncomputable def Zq73 (N : Nat) (c : ((List Int) × (Int × Int))) (c1 : Int) : Option (((Int × (List (Int × Int))) × Unit) × (((List Int) × (Int × Int)) × Unit)) :=
 ((Zq65 N c [4, 5, 3, 6, 2, 1, 0]).bind fun r =>
 (br (ilt 6 c1)
 (((Zq71 N r.2.1 4).bind fun r1 =>
 (br r1.1.1
 (((Zq72 N r1.2.1 2).bind fun r2 =>
 ((Zq76 N (IntKind.i64.wrap (7 + r2.1.1)) c1).bind fun r3 =>
 ((Zq65 N r2.2.1 [1, 3, 4, 6]).bind fun r4 =>
 ((Zq71 N r4.2.1 5).bind fun r5 =>
 Zq73_l0 N (fun o o1 o2 o3 => ((Zq72 N o 50).bind fun r6 =>
 (br (ieq r6.1.1 0)
 (((Zq65 N r6.2.1 [(-1), 8, 9, 0, 4611686018427387904]).bind fun r7 =>
 some (((r7.1.1, o3), ()), (r7.2.1, ()))))
 ((br (ieq r6.1.1 1)
 (((Zq72 N (r6.2.1.1, (r6.2.1.2.1, r6.2.1.2.2)) 4).bind fun r8 =>
 ((Zq72 N r8.2.1 9).bind fun r9 =>
 (chk (room o3 [(r8.1.1, (IntKind.i64.wrap (r9.1.1 - 1)))])
 (some (((o2, (tApp o3 [(r8.1.1, (IntKind.i64.wrap (r9.1.1 - 1)))])), ()), (r9.2.1, ())))))))
 ((br (ieq r6.1.1 2)
 ((br (ilt 0 (tLen o3))
 (((Zq72 N (r6.2.1.1, (r6.2.1.2.1, r6.2.1.2.2)) (tLen o3)).bind fun r10 =>
 (chk (inb o3 r10.1.1)
 (chk (room o3 [(rdP o3 r10.1.1)])
 (some (((o2, (tApp o3 [(rdP o3 r10.1.1)])), ()), (r10.2.1, ())))))))
 (some (((o2, o3), ()), (r6.2.1, ())))))
 (some (((o2, o3), ()), (r6.2.1, ())))))))))) N r3.1.1 r4.1.1 r5.1.1 0 r5.2.1 0 r3.1.1 [])))))
 (((Zq76 N r.1.1 c1).bind fun r11 =>
 ((Zq65 N r1.2.1 [1, 3, 4, 6]).bind fun r12 =>
 ((Zq71 N r12.2.1 5).bind fun r13 =>
 Zq73_l0 N (fun o4 o5 o6 o7 => ((Zq72 N o4 50).bind fun r14 =>
 (br (ieq r14.1.1 0)
 (((Zq65 N r14.2.1 [(-1), 8, 9, 0, 4611686018427387904]).bind fun r15 =>
 some (((r15.1.1, o7), ()), (r15.2.1, ()))))
 ((br (ieq r14.1.1 1)
 (((Zq72 N (r14.2.1.1, (r14.2.1.2.1, r14.2.1.2.2)) 4).bind fun r16 =>
 ((Zq72 N r16.2.1 9).bind fun r17 =>
 (chk (room o7 [(r16.1.1, (IntKind.i64.wrap (r17.1.1 - 1)))])
 (some (((o6, (tApp o7 [(r16.1.1, (IntKind.i64.wrap (r17.1.1 - 1)))])), ()), (r17.2.1, ())))))))
 ((br (ieq r14.1.1 2)
 ((br (ilt 0 (tLen o7))
 (((Zq72 N (r14.2.1.1, (r14.2.1.2.1, r14.2.1.2.2)) (tLen o7)).bind fun r18 =>
 (chk (inb o7 r18.1.1)
 (chk (room o7 [(rdP o7 r18.1.1)])
 (some (((o6, (tApp o7 [(rdP o7 r18.1.1)])), ()), (r18.2.1, ())))))))
 (some (((o6, o7), ()), (r14.2.1, ())))))
 (some (((o6, o7), ()), (r14.2.1, ())))))))))) N r11.1.1 r12.1.1 r13.1.1 0 r13.2.1 0 r11.1.1 [])))))))
 (((Zq76 N r.1.1 c1).bind fun r19 =>
 ((Zq65 N r.2.1 [1, 3, 4, 6]).bind fun r20 =>
 ((Zq71 N r20.2.1 5).bind fun r21 =>
 Zq73_l0 N (fun o8 o9 o10 o11 => ((Zq72 N o8 50).bind fun r22 =>
 (br (ieq r22.1.1 0)
 (((Zq65 N r22.2.1 [(-1), 8, 9, 0, 4611686018427387904]).bind fun r23 =>
 some (((r23.1.1, o11), ()), (r23.2.1, ()))))
 ((br (ieq r22.1.1 1)
 (((Zq72 N (r22.2.1.1, (r22.2.1.2.1, r22.2.1.2.2)) 4).bind fun r24 =>
 ((Zq72 N r24.2.1 9).bind fun r25 =>
 (chk (room o11 [(r24.1.1, (IntKind.i64.wrap (r25.1.1 - 1)))])
 (some (((o10, (tApp o11 [(r24.1.1, (IntKind.i64.wrap (r25.1.1 - 1)))])), ()), (r25.2.1, ())))))))
 ((br (ieq r22.1.1 2)
 ((br (ilt 0 (tLen o11))
 (((Zq72 N (r22.2.1.1, (r22.2.1.2.1, r22.2.1.2.2)) (tLen o11)).bind fun r26 =>
 (chk (inb o11 r26.1.1)
 (chk (room o11 [(rdP o11 r26.1.1)])
 (some (((o10, (tApp o11 [(rdP o11 r26.1.1)])), ()), (r26.2.1, ())))))))
 (some (((o10, o11), ()), (r22.2.1, ())))))
 (some (((o10, o11), ()), (r22.2.1, ())))))))))) N r19.1.1 r20.1.1 r21.1.1 0 r21.2.1 0 r19.1.1 []))))))
noncomputable def Zq73_S (N : Nat) : FSum := ⟨Zq73_ps, Zq73_rs, fun x => Zq73 N x.1 x.2.1⟩
theorem Zq73_pc (N : Nat) : PC Tryz.prog 87 (Zq73_S N) := pcQ (L := [Zq73_l0_s N]) (Zq73_gok N) Tryz.call87 Tryz.func87 (fun x => by kernel_rfl) ⟨Zq73_l0_ok N, trivial⟩ (by kernel_rfl)

abbrev Zq66_ps : List (PV.Mode × Ty) := [(.mut, BQOU8QIU64)]
abbrev Zq66_rs : List (Bool × Ty) := [(true, QILQII)]
noncomputable def Zq66_G (N : Nat) : GTab := gOf [(87, Zq73_S N)]
theorem Zq66_gok (N : Nat) : GOk Tryz.prog (Zq66_G N) := gOf_ok ⟨Zq73_pc N, trivial⟩
noncomputable def Zq66_code : Code := (Tryz.f54.body).getD .skip
noncomputable def Zq66 (N : Nat) (c : ((List Int) × (Int × Int))) : Option (((Int × (List (Int × Int))) × Unit) × (((List Int) × (Int × Int)) × Unit)) :=
 ((Zq73 N c 8).bind fun r =>
 some (((r.1.1.1, r.1.1.2), ()), (r.2.1, ())))
noncomputable def Zq66_S (N : Nat) : FSum := ⟨Zq66_ps, Zq66_rs, fun x => Zq66 N x.1⟩
theorem Zq66_pc (N : Nat) : PC Tryz.prog 54 (Zq66_S N) := pcQ (L := []) (Zq66_gok N) Tryz.call54 Tryz.func54 (fun x => by kernel_rfl) trivial (by kernel_rfl)

abbrev Zq67_ps : List (PV.Mode × Ty) := [(.mut, BQOU8QIU64)]
abbrev Zq67_rs : List (Bool × Ty) := [(true, I)]
noncomputable def Zq67_G (N : Nat) : GTab := gOf [(57, Zq71_S N), (121, Zq65_S N), (122, Zq72_S N)]
theorem Zq67_gok (N : Nat) : GOk Tryz.prog (Zq67_G N) := gOf_ok ⟨Zq71_pc N, Zq65_pc N, Zq72_pc N, trivial⟩
noncomputable def Zq67_code : Code := (Tryz.f55.body).getD .skip
noncomputable def Zq67 (N : Nat) (c : ((List Int) × (Int × Int))) : Option ((Int × Unit) × (((List Int) × (Int × Int)) × Unit)) :=
 ((Zq71 N c 24).bind fun r =>
 (br r.1.1
 (((Zq65 N r.2.1 [0, 4, (-1)]).bind fun r1 =>
 some ((r1.1.1, ()), (r1.2.1, ()))))
 (((Zq72 N r.2.1 3).bind fun r2 =>
 some (((IntKind.i64.wrap (1 + r2.1.1)), ()), (r2.2.1, ()))))))
noncomputable def Zq67_S (N : Nat) : FSum := ⟨Zq67_ps, Zq67_rs, fun x => Zq67 N x.1⟩
theorem Zq67_pc (N : Nat) : PC Tryz.prog 55 (Zq67_S N) := pcQ (L := []) (Zq67_gok N) Tryz.call55 Tryz.func55 (fun x => by kernel_rfl) trivial (by kernel_rfl)

abbrev Zq75_ps : List (PV.Mode × Ty) := [(.ro, I), (.ro, I), (.ro, I)]
abbrev Zq75_rs : List (Bool × Ty) := [(true, .bool)]
noncomputable def Zq75_G (N : Nat) : GTab := gOf []
theorem Zq75_gok (N : Nat) : GOk Tryz.prog (Zq75_G N) := gOf_ok trivial
noncomputable def Zq75_code : Code := (Tryz.f137.body).getD .skip
noncomputable def Zq75 (N : Nat) (x : Int) (a : Int) (b : Int) : Option ((Bool × Unit) × (Unit)) :=
 (br (ile a x)
 (some (((ile x b), ()), ()))
 (some ((false, ()), ())))
noncomputable def Zq75_S (N : Nat) : FSum := ⟨Zq75_ps, Zq75_rs, fun x => Zq75 N x.1 x.2.1 x.2.2.1⟩
theorem Zq75_pc (N : Nat) : PC Tryz.prog 137 (Zq75_S N) := pcQ (L := []) (Zq75_gok N) Tryz.call137 Tryz.func137 (fun x => by kernel_rfl) trivial (by kernel_rfl)

abbrev Zq88_ps : List (PV.Mode × Ty) := [(.ro, LQII), (.ro, I)]
abbrev Zq88_rs : List (Bool × Ty) := [(true, .bool)]
noncomputable def Zq88_G (N : Nat) : GTab := gOf [(137, Zq75_S N), (169, Zq85_S N)]
theorem Zq88_gok (N : Nat) : GOk Tryz.prog (Zq88_G N) := gOf_ok ⟨Zq75_pc N, Zq85_pc N, trivial⟩
noncomputable def Zq88_code : Code := (Tryz.f138.body).getD .skip
noncomputable def Zq88_l0_sh : Sh := ⟨[(0, .one (.ro LQII)), (1, .one (.ro I)), (5, .one (.ro I))], []⟩
noncomputable def Zq88_l0_ex : List (Ex × Sh) := [(.ret, ⟨[(4, .one (.ro .bool))], []⟩), (.exit 0, ⟨[], []⟩)]
noncomputable def Zq88_l0 {R : Type} (N : Nat) (k0 : Bool → Option R) (k1 : Unit → Option R) : Nat → (List (Int × Int)) → Int → Int → Option R
 | 0, _, _, _ => none
 | K + 1, pairs1, n1, i =>
 (br (ilt i (tLen pairs1))
 ((chk (inb pairs1 i)
 ((Zq75 N ((rdP pairs1 i).1) 0 (IntKind.i64.wrap (n1 - 1))).bind fun r =>
 (br (!r.1.1)
 (k0 false)
 (((Zq75 N ((rdP pairs1 i).2) 0 (IntKind.i64.wrap (n1 - 1))).bind fun r1 =>
 (br (!r1.1.1)
 (k0 false)
 ((br (ile ((rdP pairs1 i).2) ((rdP pairs1 i).1))
 (k0 false)
 ((br (ilt 0 i)
 ((chk (inb pairs1 (IntKind.i64.wrap (i - 1)))
 ((Zq85 N (rdP pairs1 (IntKind.i64.wrap (i - 1))) ((rdP pairs1 i).1, (rdP pairs1 i).2)).bind fun r2 =>
 (br (!r2.1.1)
 (k0 false)
 (Zq88_l0 N k0 k1 K pairs1 n1 (IntKind.i64.wrap (i + 1)))))))
 (Zq88_l0 N k0 k1 K pairs1 n1 (IntKind.i64.wrap (i + 1))))))))))))))
 (k1 ()))
noncomputable def Zq88_l0_again {R : Type} (N : Nat) (ks : KS Zq88_l0_ex R) (k : Nat) (x : Zq88_l0_sh.T) : Option R :=
 Zq88_l0 N (fun y0 => ks 0 ((y0, ()), ())) (fun (_ : Unit) => ks 1 ((), ())) k x.1.1 x.1.2.1 x.1.2.2.1
noncomputable def Zq88_l0_s (N : Nat) : LSum := ⟨Zq88_l0_sh, Zq88_l0_ex, fun x ks => Zq88_l0_again N ks N x⟩
theorem Zq88_l0_ok (N : Nat) : LoopOk Tryz.prog Tryz.f138.ntmps (Zq88_l0_s N) (loopAt Zq88_code 0) := loopQ (sh := Zq88_l0_sh) (ex := Zq88_l0_ex) (N := N) (L := []) (fun R k x ks => Zq88_l0_again N ks k x) (Zq88_gok N) (fun _ _ _ => rfl) (fun R k x ks => by kernel_rfl) trivial (by kernel_rfl)
noncomputable def Zq88 (N : Nat) (pairs : (List (Int × Int))) (n : Int) : Option ((Bool × Unit) × (Unit)) :=
 Zq88_l0 N (fun x => some ((x, ()), ())) (fun (_ : Unit) => some ((true, ()), ())) N pairs n 0
noncomputable def Zq88_S (N : Nat) : FSum := ⟨Zq88_ps, Zq88_rs, fun x => Zq88 N x.1 x.2.1⟩
theorem Zq88_pc (N : Nat) : PC Tryz.prog 138 (Zq88_S N) := pcQ (L := [Zq88_l0_s N]) (Zq88_gok N) Tryz.call138 Tryz.func138 (fun x => by kernel_rfl) ⟨Zq88_l0_ok N, trivial⟩ (by kernel_rfl)

abbrev Zq86_ps : List (PV.Mode × Ty) := [(.ro, QILQII)]
abbrev Zq86_rs : List (Bool × Ty) := [(true, .bool)]
noncomputable def Zq86_G (N : Nat) : GTab := gOf [(137, Zq75_S N), (138, Zq88_S N)]
theorem Zq86_gok (N : Nat) : GOk Tryz.prog (Zq86_G N) := gOf_ok ⟨Zq75_pc N, Zq88_pc N, trivial⟩
noncomputable def Zq86_code : Code := (Tryz.f82.body).getD .skip
noncomputable def Zq86 (N : Nat) (g : (Int × (List (Int × Int)))) : Option ((Bool × Unit) × (Unit)) :=
 ((Zq75 N g.1 0 8).bind fun r =>
 (br r.1.1
 (((Zq88 N g.2 g.1).bind fun r1 =>
 some ((r1.1.1, ()), ())))
 (some ((false, ()), ()))))
noncomputable def Zq86_S (N : Nat) : FSum := ⟨Zq86_ps, Zq86_rs, fun x => Zq86 N x.1⟩
theorem Zq86_pc (N : Nat) : PC Tryz.prog 82 (Zq86_S N) := pcQ (L := []) (Zq86_gok N) Tryz.call82 Tryz.func82 (fun x => by kernel_rfl) trivial (by kernel_rfl)

abbrev Zq95_ps : List (PV.Mode × Ty) := [(.ro, I)]
abbrev Zq95_rs : List (Bool × Ty) := [(true, .bool)]
noncomputable def Zq95_G (N : Nat) : GTab := gOf [(137, Zq75_S N)]
theorem Zq95_gok (N : Nat) : GOk Tryz.prog (Zq95_G N) := gOf_ok ⟨Zq75_pc N, trivial⟩
noncomputable def Zq95_code : Code := (Tryz.f126.body).getD .skip
noncomputable def Zq95 (N : Nat) (kind : Int) : Option ((Bool × Unit) × (Unit)) :=
 ((Zq75 N kind 1 3).bind fun r =>
 some ((r.1.1, ()), ()))
noncomputable def Zq95_S (N : Nat) : FSum := ⟨Zq95_ps, Zq95_rs, fun x => Zq95 N x.1⟩
theorem Zq95_pc (N : Nat) : PC Tryz.prog 126 (Zq95_S N) := pcQ (L := []) (Zq95_gok N) Tryz.call126 Tryz.func126 (fun x => by kernel_rfl) trivial (by kernel_rfl)

abbrev Zq93_ps : List (PV.Mode × Ty) := [(.ro, QILQII), (.ro, I)]
abbrev Zq93_rs : List (Bool × Ty) := [(true, .bool)]
noncomputable def Zq93_G (N : Nat) : GTab := gOf [(82, Zq86_S N), (126, Zq95_S N)]
theorem Zq93_gok (N : Nat) : GOk Tryz.prog (Zq93_G N) := gOf_ok ⟨Zq86_pc N, Zq95_pc N, trivial⟩
noncomputable def Zq93_code : Code := (Tryz.f65.body).getD .skip
noncomputable def Zq93 (N : Nat) (g : (Int × (List (Int × Int)))) (kind : Int) : Option ((Bool × Unit) × (Unit)) :=
 ((Zq86 N (g.1, g.2)).bind fun r =>
 (br r.1.1
 (((Zq95 N kind).bind fun r1 =>
 some ((r1.1.1, ()), ())))
 (some ((false, ()), ()))))
noncomputable def Zq93_S (N : Nat) : FSum := ⟨Zq93_ps, Zq93_rs, fun x => Zq93 N x.1 x.2.1⟩
theorem Zq93_pc (N : Nat) : PC Tryz.prog 65 (Zq93_S N) := pcQ (L := []) (Zq93_gok N) Tryz.call65 Tryz.func65 (fun x => by kernel_rfl) trivial (by kernel_rfl)

abbrev Zq77_ps : List (PV.Mode × Ty) := [(.ro, I), (.ro, I)]
abbrev Zq77_rs : List (Bool × Ty) := [(true, I)]
noncomputable def Zq77_G (N : Nat) : GTab := gOf []
theorem Zq77_gok (N : Nat) : GOk Tryz.prog (Zq77_G N) := gOf_ok trivial
noncomputable def Zq77_code : Code := (Tryz.f117.body).getD .skip
noncomputable def Zq77 (N : Nat) (a : Int) (b : Int) : Option ((Int × Unit) × (Unit)) :=
 (br (ilt b a)
 (some ((a, ()), ()))
 (some ((b, ()), ())))
noncomputable def Zq77_S (N : Nat) : FSum := ⟨Zq77_ps, Zq77_rs, fun x => Zq77 N x.1 x.2.1⟩
theorem Zq77_pc (N : Nat) : PC Tryz.prog 117 (Zq77_S N) := pcQ (L := []) (Zq77_gok N) Tryz.call117 Tryz.func117 (fun x => by kernel_rfl) trivial (by kernel_rfl)

abbrev Zq84_ps : List (PV.Mode × Ty) := [(.ro, I), (.ro, I)]
abbrev Zq84_rs : List (Bool × Ty) := [(true, LI)]
noncomputable def Zq84_G (N : Nat) : GTab := gOf []
theorem Zq84_gok (N : Nat) : GOk Tryz.prog (Zq84_G N) := gOf_ok trivial
noncomputable def Zq84_code : Code := (Tryz.f135.body).getD .skip
noncomputable def Zq84_l0_sh : Sh := ⟨[(0, .one (.ro I)), (1, .one (.ro I)), (5, .one (.ref 0)), (6, .one (.ro I))], [.sl 3 I .own]⟩
noncomputable def Zq84_l0_ex : List (Ex × Sh) := [(.exit 0, ⟨[(5, .one (.ref 0))], [.sl 3 I .own]⟩)]
noncomputable def Zq84_l0 {R : Type} (N : Nat) (k0 : (List Int) → Option R) : Nat → Int → Int → Int → (List Int) → Option R
 | 0, _, _, _, _ => none
 | K + 1, n1, code1, x, o =>
 (br (ilt x n1)
 ((chk (ile 0 x)
 (br (ieq (bitop .and .i64 (shrI .i64 code1 x) 1) 1)
 ((chk (room o [x])
 (Zq84_l0 N k0 K n1 code1 (IntKind.i64.wrap (x + 1)) (tApp o [x]))))
 (Zq84_l0 N k0 K n1 code1 (IntKind.i64.wrap (x + 1)) o))))
 (k0 o))
noncomputable def Zq84_l0_again {R : Type} (N : Nat) (ks : KS Zq84_l0_ex R) (k : Nat) (x : Zq84_l0_sh.T) : Option R :=
 Zq84_l0 N (fun y0 => ks 0 (((), ()), (y0, ()))) k x.1.1 x.1.2.1 x.1.2.2.2.1 x.2.1
noncomputable def Zq84_l0_s (N : Nat) : LSum := ⟨Zq84_l0_sh, Zq84_l0_ex, fun x ks => Zq84_l0_again N ks N x⟩
theorem Zq84_l0_ok (N : Nat) : LoopOk Tryz.prog Tryz.f135.ntmps (Zq84_l0_s N) (loopAt Zq84_code 0) := loopQ (sh := Zq84_l0_sh) (ex := Zq84_l0_ex) (N := N) (L := []) (fun R k x ks => Zq84_l0_again N ks k x) (Zq84_gok N) (fun _ _ _ => rfl) (fun R k x ks => by kernel_rfl) trivial (by kernel_rfl)
noncomputable def Zq84 (N : Nat) (n : Int) (code : Int) : Option (((List Int) × Unit) × (Unit)) :=
 Zq84_l0 N (fun o => some ((o, ()), ())) N n code 0 []
noncomputable def Zq84_S (N : Nat) : FSum := ⟨Zq84_ps, Zq84_rs, fun x => Zq84 N x.1 x.2.1⟩
theorem Zq84_pc (N : Nat) : PC Tryz.prog 135 (Zq84_S N) := pcQ (L := [Zq84_l0_s N]) (Zq84_gok N) Tryz.call135 Tryz.func135 (fun x => by kernel_rfl) ⟨Zq84_l0_ok N, trivial⟩ (by kernel_rfl)

abbrev Zq69_ps : List (PV.Mode × Ty) := [(.mut, BQOU8QIU64), (.ro, QILQII)]
abbrev Zq69_rs : List (Bool × Ty) := [(true, LI)]
noncomputable def Zq69_G (N : Nat) : GTab := gOf [(118, Zq76_S N), (117, Zq77_S N), (122, Zq72_S N), (135, Zq84_S N), (57, Zq71_S N), (121, Zq65_S N)]
theorem Zq69_gok (N : Nat) : GOk Tryz.prog (Zq69_G N) := gOf_ok ⟨Zq76_pc N, Zq77_pc N, Zq72_pc N, Zq84_pc N, Zq71_pc N, Zq65_pc N, trivial⟩
noncomputable def Zq69_code : Code := (Tryz.f123.body).getD .skip
noncomputable def Zq69 (N : Nat) (c : ((List Int) × (Int × Int))) (g : (Int × (List (Int × Int)))) : Option (((List Int) × Unit) × (((List Int) × (Int × Int)) × Unit)) :=
 ((Zq76 N g.1 8).bind fun r =>
 ((Zq77 N r.1.1 0).bind fun r1 =>
 ((Zq72 N c 256).bind fun r2 =>
 ((Zq84 N r1.1.1 r2.1.1).bind fun r3 =>
 ((Zq71 N r2.2.1 20).bind fun r4 =>
 (br r4.1.1
 (((Zq65 N r4.2.1 [(-1), 0, 8]).bind fun r5 =>
 (chk (room r3.1.1 [r5.1.1])
 (some (((tApp r3.1.1 [r5.1.1]), ()), (r5.2.1, ()))))))
 (some ((r3.1.1, ()), (r4.2.1, ())))))))))
noncomputable def Zq69_S (N : Nat) : FSum := ⟨Zq69_ps, Zq69_rs, fun x => Zq69 N x.1 x.2.1⟩
theorem Zq69_pc (N : Nat) : PC Tryz.prog 123 (Zq69_S N) := pcQ (L := []) (Zq69_gok N) Tryz.call123 Tryz.func123 (fun x => by kernel_rfl) trivial (by kernel_rfl)

abbrev Zq74_ps : List (PV.Mode × Ty) := [(.ro, LI), (.ro, I)]
abbrev Zq74_rs : List (Bool × Ty) := [(true, .bool)]
noncomputable def Zq74_G (N : Nat) : GTab := gOf []
theorem Zq74_gok (N : Nat) : GOk Tryz.prog (Zq74_G N) := gOf_ok trivial
noncomputable def Zq74_code : Code := (Tryz.f72.body).getD .skip
noncomputable def Zq74_l0_sh : Sh := ⟨[(0, .one (.ro LI)), (1, .one (.ro I)), (5, .one (.ro I))], []⟩
noncomputable def Zq74_l0_ex : List (Ex × Sh) := [(.ret, ⟨[(4, .one (.ro .bool))], []⟩), (.exit 0, ⟨[], []⟩)]
noncomputable def Zq74_l0 {R : Type} (N : Nat) (k0 : Bool → Option R) (k1 : Unit → Option R) : Nat → (List Int) → Int → Int → Option R
 | 0, _, _, _ => none
 | K + 1, l1, n1, i =>
 (br (ilt i (tLen l1))
 ((chk (inb l1 i)
 (br (ieq (rdI l1 i) n1)
 (k0 true)
 (Zq74_l0 N k0 k1 K l1 n1 (IntKind.i64.wrap (i + 1))))))
 (k1 ()))
noncomputable def Zq74_l0_again {R : Type} (N : Nat) (ks : KS Zq74_l0_ex R) (k : Nat) (x : Zq74_l0_sh.T) : Option R :=
 Zq74_l0 N (fun y0 => ks 0 ((y0, ()), ())) (fun (_ : Unit) => ks 1 ((), ())) k x.1.1 x.1.2.1 x.1.2.2.1
noncomputable def Zq74_l0_s (N : Nat) : LSum := ⟨Zq74_l0_sh, Zq74_l0_ex, fun x ks => Zq74_l0_again N ks N x⟩
theorem Zq74_l0_ok (N : Nat) : LoopOk Tryz.prog Tryz.f72.ntmps (Zq74_l0_s N) (loopAt Zq74_code 0) := loopQ (sh := Zq74_l0_sh) (ex := Zq74_l0_ex) (N := N) (L := []) (fun R k x ks => Zq74_l0_again N ks k x) (Zq74_gok N) (fun _ _ _ => rfl) (fun R k x ks => by kernel_rfl) trivial (by kernel_rfl)
noncomputable def Zq74 (N : Nat) (l : (List Int)) (n : Int) : Option ((Bool × Unit) × (Unit)) :=
 Zq74_l0 N (fun x => some ((x, ()), ())) (fun (_ : Unit) => some ((false, ()), ())) N l n 0
noncomputable def Zq74_S (N : Nat) : FSum := ⟨Zq74_ps, Zq74_rs, fun x => Zq74 N x.1 x.2.1⟩
theorem Zq74_pc (N : Nat) : PC Tryz.prog 72 (Zq74_S N) := pcQ (L := [Zq74_l0_s N]) (Zq74_gok N) Tryz.call72 Tryz.func72 (fun x => by kernel_rfl) ⟨Zq74_l0_ok N, trivial⟩ (by kernel_rfl)

abbrev Zq87_ps : List (PV.Mode × Ty) := [(.ro, QILQII), (.ro, I), (.ro, I)]
abbrev Zq87_rs : List (Bool × Ty) := [(true, .bool)]
noncomputable def Zq87_G (N : Nat) : GTab := gOf []
theorem Zq87_gok (N : Nat) : GOk Tryz.prog (Zq87_G N) := gOf_ok trivial
noncomputable def Zq87_code : Code := (Tryz.f85.body).getD .skip
noncomputable def Zq87_l0_sh : Sh := ⟨[(1, .one (.ro I)), (2, .one (.ro I)), (3, .one (.adr 0 0)), (7, .one (.ro I))], [.box [.ro I, .ro LQII]]⟩
noncomputable def Zq87_l0_ex : List (Ex × Sh) := [(.ret, ⟨[(6, .one (.ro .bool))], []⟩), (.exit 0, ⟨[], []⟩)]
noncomputable def Zq87_l0 {R : Type} (N : Nat) (k0 : Bool → Option R) (k1 : Unit → Option R) : Nat → Int → Int → Int → Int → (List (Int × Int)) → Option R
 | 0, _, _, _, _, _ => none
 | K + 1, a1, b1, i, o, o1 =>
 (br (ilt i (tLen o1))
 ((chk (inb o1 i)
 (br (ieq ((rdP o1 i).1) a1)
 ((br (ieq ((rdP o1 i).2) b1)
 (k0 true)
 ((br (ieq ((rdP o1 i).1) b1)
 ((br (ieq ((rdP o1 i).2) a1)
 (k0 true)
 (Zq87_l0 N k0 k1 K a1 b1 (IntKind.i64.wrap (i + 1)) o o1)))
 (Zq87_l0 N k0 k1 K a1 b1 (IntKind.i64.wrap (i + 1)) o o1)))))
 ((br (ieq ((rdP o1 i).1) b1)
 ((br (ieq ((rdP o1 i).2) a1)
 (k0 true)
 (Zq87_l0 N k0 k1 K a1 b1 (IntKind.i64.wrap (i + 1)) o o1)))
 (Zq87_l0 N k0 k1 K a1 b1 (IntKind.i64.wrap (i + 1)) o o1))))))
 (k1 ()))
noncomputable def Zq87_l0_again {R : Type} (N : Nat) (ks : KS Zq87_l0_ex R) (k : Nat) (x : Zq87_l0_sh.T) : Option R :=
 Zq87_l0 N (fun y0 => ks 0 ((y0, ()), ())) (fun (_ : Unit) => ks 1 ((), ())) k x.1.1 x.1.2.1 x.1.2.2.2.1 x.2.1.1 x.2.1.2.1
noncomputable def Zq87_l0_s (N : Nat) : LSum := ⟨Zq87_l0_sh, Zq87_l0_ex, fun x ks => Zq87_l0_again N ks N x⟩
theorem Zq87_l0_ok (N : Nat) : LoopOk Tryz.prog Tryz.f85.ntmps (Zq87_l0_s N) (loopAt Zq87_code 0) := loopQ (sh := Zq87_l0_sh) (ex := Zq87_l0_ex) (N := N) (L := []) (fun R k x ks => Zq87_l0_again N ks k x) (Zq87_gok N) (fun _ _ _ => rfl) (fun R k x ks => by kernel_rfl) trivial (by kernel_rfl)
noncomputable def Zq87 (N : Nat) (g : (Int × (List (Int × Int)))) (a : Int) (b : Int) : Option ((Bool × Unit) × (Unit)) :=
 Zq87_l0 N (fun x => some ((x, ()), ())) (fun (_ : Unit) => some ((false, ()), ())) N a b 0 g.1 g.2
noncomputable def Zq87_S (N : Nat) : FSum := ⟨Zq87_ps, Zq87_rs, fun x => Zq87 N x.1 x.2.1 x.2.2.1⟩
theorem Zq87_pc (N : Nat) : PC Tryz.prog 85 (Zq87_S N) := pcQ (L := [Zq87_l0_s N]) (Zq87_gok N) Tryz.call85 Tryz.func85 (fun x => by kernel_rfl) ⟨Zq87_l0_ok N, trivial⟩ (by kernel_rfl)

abbrev Zq94_ps : List (PV.Mode × Ty) := [(.ro, QILQII), (.ro, I), (.ro, LI)]
abbrev Zq94_rs : List (Bool × Ty) := [(true, .bool)]
noncomputable def Zq94_G (N : Nat) : GTab := gOf [(72, Zq74_S N), (85, Zq87_S N)]
theorem Zq94_gok (N : Nat) : GOk Tryz.prog (Zq94_G N) := gOf_ok ⟨Zq74_pc N, Zq87_pc N, trivial⟩
noncomputable def Zq94_code : Code := (Tryz.f67.body).getD .skip
noncomputable def Zq94_l0_sh : Sh := ⟨[(2, .one (.ro LI)), (3, .one (.adr 0 0)), (7, .one (.ro I))], [.box [.ro I, .ro LQII]]⟩
noncomputable def Zq94_l0_ex : List (Ex × Sh) := [(.ret, ⟨[(6, .one (.ro .bool))], []⟩), (.exit 1, ⟨[], []⟩)]
noncomputable def Zq94_l0 {R : Type} (N : Nat) (k0 : Bool → Option R) (k1 : Unit → Option R) : Nat → (List Int) → Int → Int → (List (Int × Int)) → Option R
 | 0, _, _, _, _ => none
 | K + 1, x, x1, o, o1 =>
 (br (ilt x1 (tLen o1))
 ((chk (inb o1 x1)
 ((Zq74 N x ((rdP o1 x1).1)).bind fun r =>
 (br (!r.1.1)
 ((chk (inb o1 x1)
 ((Zq74 N x ((rdP o1 x1).2)).bind fun r1 =>
 (br (!r1.1.1)
 (k0 false)
 (Zq94_l0 N k0 k1 K x (IntKind.i64.wrap (x1 + 1)) o o1)))))
 (Zq94_l0 N k0 k1 K x (IntKind.i64.wrap (x1 + 1)) o o1)))))
 (k1 ()))
noncomputable def Zq94_l0_again {R : Type} (N : Nat) (ks : KS Zq94_l0_ex R) (k : Nat) (x : Zq94_l0_sh.T) : Option R :=
 Zq94_l0 N (fun y0 => ks 0 ((y0, ()), ())) (fun (_ : Unit) => ks 1 ((), ())) k x.1.1 x.1.2.2.1 x.2.1.1 x.2.1.2.1
noncomputable def Zq94_l0_s (N : Nat) : LSum := ⟨Zq94_l0_sh, Zq94_l0_ex, fun x ks => Zq94_l0_again N ks N x⟩
theorem Zq94_l0_ok (N : Nat) : LoopOk Tryz.prog Tryz.f67.ntmps (Zq94_l0_s N) (loopAt Zq94_code 0) := loopQ (sh := Zq94_l0_sh) (ex := Zq94_l0_ex) (N := N) (L := []) (fun R k x ks => Zq94_l0_again N ks k x) (Zq94_gok N) (fun _ _ _ => rfl) (fun R k x ks => by kernel_rfl) trivial (by kernel_rfl)
noncomputable def Zq94_l1_0_sh : Sh := ⟨[(2, .one (.ro LI)), (3, .one (.adr 0 0)), (8, .one (.ro I)), (9, .one (.ro I))], [.box [.ro I, .ro LQII]]⟩
noncomputable def Zq94_l1_0_ex : List (Ex × Sh) := [(.ret, ⟨[(6, .one (.ro .bool))], []⟩), (.exit 5, ⟨[(2, .one (.ro LI)), (3, .one (.adr 0 0)), (8, .one (.ro I))], [.box [.ro I, .ro LQII]]⟩)]
noncomputable def Zq94_l1_0 {R : Type} (N : Nat) (k0 : Bool → Option R) (k1 : (List Int) → Int → Int → (List (Int × Int)) → Option R) : Nat → (List Int) → Int → Int → Int → (List (Int × Int)) → Option R
 | 0, _, _, _, _, _ => none
 | K + 1, x3, x4, x5, o2, o3 =>
 (br (ilt x5 x4)
 ((chk (inb x3 x4)
 (chk (inb x3 x5)
 ((Zq87 N (o2, o3) (rdI x3 x4) (rdI x3 x5)).bind fun r =>
 (br (!r.1.1)
 (k0 false)
 (Zq94_l1_0 N k0 k1 K x3 x4 (IntKind.i64.wrap (x5 + 1)) o2 o3))))))
 (k1 x3 x4 o2 o3))
noncomputable def Zq94_l1_0_again {R : Type} (N : Nat) (ks : KS Zq94_l1_0_ex R) (k : Nat) (x : Zq94_l1_0_sh.T) : Option R :=
 Zq94_l1_0 N (fun y0 => ks 0 ((y0, ()), ())) (fun y0 y1 y2 y3 => ks 1 ((y0, (), y1, ()), ((y2, y3, ()), ()))) k x.1.1 x.1.2.2.1 x.1.2.2.2.1 x.2.1.1 x.2.1.2.1
noncomputable def Zq94_l1_0_s (N : Nat) : LSum := ⟨Zq94_l1_0_sh, Zq94_l1_0_ex, fun x ks => Zq94_l1_0_again N ks N x⟩
theorem Zq94_l1_0_ok (N : Nat) : LoopOk Tryz.prog Tryz.f67.ntmps (Zq94_l1_0_s N) (loopAt (loopAt Zq94_code 1) 0) := loopQ (sh := Zq94_l1_0_sh) (ex := Zq94_l1_0_ex) (N := N) (L := []) (fun R k x ks => Zq94_l1_0_again N ks k x) (Zq94_gok N) (fun _ _ _ => rfl) (fun R k x ks => by kernel_rfl) trivial (by kernel_rfl)
noncomputable def Zq94_l1_sh : Sh := ⟨[(2, .one (.ro LI)), (3, .one (.adr 0 0)), (8, .one (.ro I))], [.box [.ro I, .ro LQII]]⟩
noncomputable def Zq94_l1_ex : List (Ex × Sh) := [(.ret, ⟨[(6, .one (.ro .bool))], []⟩), (.exit 3, ⟨[], []⟩)]
noncomputable def Zq94_l1 {R : Type} (N : Nat) (k0 : Bool → Option R) (k1 : Unit → Option R) : Nat → (List Int) → Int → Int → (List (Int × Int)) → Option R
 | 0, _, _, _, _ => none
 | K + 1, x1, x2, o, o1 =>
 (br (ilt x2 (tLen x1))
 (Zq94_l1_0 N (fun x3 => k0 x3) (fun x4 x5 o2 o3 => Zq94_l1 N k0 k1 K x4 (IntKind.i64.wrap (x5 + 1)) o2 o3) N x1 x2 0 o o1)
 (k1 ()))
noncomputable def Zq94_l1_again {R : Type} (N : Nat) (ks : KS Zq94_l1_ex R) (k : Nat) (x : Zq94_l1_sh.T) : Option R :=
 Zq94_l1 N (fun y0 => ks 0 ((y0, ()), ())) (fun (_ : Unit) => ks 1 ((), ())) k x.1.1 x.1.2.2.1 x.2.1.1 x.2.1.2.1
noncomputable def Zq94_l1_s (N : Nat) : LSum := ⟨Zq94_l1_sh, Zq94_l1_ex, fun x ks => Zq94_l1_again N ks N x⟩
theorem Zq94_l1_ok (N : Nat) : LoopOk Tryz.prog Tryz.f67.ntmps (Zq94_l1_s N) (loopAt Zq94_code 1) := loopQ (sh := Zq94_l1_sh) (ex := Zq94_l1_ex) (N := N) (L := [Zq94_l1_0_s N]) (fun R k x ks => Zq94_l1_again N ks k x) (Zq94_gok N) (fun _ _ _ => rfl) (fun R k x ks => by kernel_rfl) ⟨Zq94_l1_0_ok N, trivial⟩ (by kernel_rfl)
noncomputable def Zq94_l2_0_sh : Sh := ⟨[(2, .one (.ro LI)), (3, .one (.adr 0 0)), (10, .one (.ro I)), (11, .one (.ro .bool)), (12, .one (.ro I))], [.box [.ro I, .ro LQII]]⟩
noncomputable def Zq94_l2_0_ex : List (Ex × Sh) := [(.exit 9, ⟨[(2, .one (.ro LI)), (3, .one (.adr 0 0)), (10, .one (.ro I)), (11, .one (.ro .bool))], [.box [.ro I, .ro LQII]]⟩)]
noncomputable def Zq94_l2_0 {R : Type} (N : Nat) (k0 : (List Int) → Int → Bool → Int → (List (Int × Int)) → Option R) : Nat → (List Int) → Int → Bool → Int → Int → (List (Int × Int)) → Option R
 | 0, _, _, _, _, _, _ => none
 | K + 1, x4, x5, x6, x7, o2, o3 =>
 (br (ilt x7 (tLen x4))
 ((br x6
 (Zq94_l2_0 N k0 K x4 x5 true (IntKind.i64.wrap (x7 + 1)) o2 o3)
 ((chk (inb x4 x7)
 ((Zq87 N (o2, o3) (rdI x4 x7) x5).bind fun r1 =>
 Zq94_l2_0 N k0 K x4 x5 r1.1.1 (IntKind.i64.wrap (x7 + 1)) o2 o3)))))
 (k0 x4 x5 x6 o2 o3))
noncomputable def Zq94_l2_0_again {R : Type} (N : Nat) (ks : KS Zq94_l2_0_ex R) (k : Nat) (x : Zq94_l2_0_sh.T) : Option R :=
 Zq94_l2_0 N (fun y0 y1 y2 y3 y4 => ks 0 ((y0, (), y1, y2, ()), ((y3, y4, ()), ()))) k x.1.1 x.1.2.2.1 x.1.2.2.2.1 x.1.2.2.2.2.1 x.2.1.1 x.2.1.2.1
noncomputable def Zq94_l2_0_s (N : Nat) : LSum := ⟨Zq94_l2_0_sh, Zq94_l2_0_ex, fun x ks => Zq94_l2_0_again N ks N x⟩
theorem Zq94_l2_0_ok (N : Nat) : LoopOk Tryz.prog Tryz.f67.ntmps (Zq94_l2_0_s N) (loopAt (loopAt Zq94_code 2) 0) := loopQ (sh := Zq94_l2_0_sh) (ex := Zq94_l2_0_ex) (N := N) (L := []) (fun R k x ks => Zq94_l2_0_again N ks k x) (Zq94_gok N) (fun _ _ _ => rfl) (fun R k x ks => by kernel_rfl) trivial (by kernel_rfl)
noncomputable def Zq94_l2_sh : Sh := ⟨[(2, .one (.ro LI)), (3, .one (.adr 0 0)), (10, .one (.ro I))], [.box [.ro I, .ro LQII]]⟩
noncomputable def Zq94_l2_ex : List (Ex × Sh) := [(.ret, ⟨[(6, .one (.ro .bool))], []⟩), (.exit 7, ⟨[], []⟩)]
noncomputable def Zq94_l2 {R : Type} (N : Nat) (k0 : Bool → Option R) (k1 : Unit → Option R) : Nat → (List Int) → Int → Int → (List (Int × Int)) → Option R
 | 0, _, _, _, _ => none
 | K + 1, x2, x3, o, o1 =>
 (br (ilt x3 o)
 (((Zq74 N x2 x3).bind fun r =>
 Zq94_l2_0 N (fun x4 x5 x6 o2 o3 => (br (!x6)
 (k0 false)
 (Zq94_l2 N k0 k1 K x4 (IntKind.i64.wrap (x5 + 1)) o2 o3))) N x2 x3 r.1.1 0 o o1))
 (k1 ()))
noncomputable def Zq94_l2_again {R : Type} (N : Nat) (ks : KS Zq94_l2_ex R) (k : Nat) (x : Zq94_l2_sh.T) : Option R :=
 Zq94_l2 N (fun y0 => ks 0 ((y0, ()), ())) (fun (_ : Unit) => ks 1 ((), ())) k x.1.1 x.1.2.2.1 x.2.1.1 x.2.1.2.1
noncomputable def Zq94_l2_s (N : Nat) : LSum := ⟨Zq94_l2_sh, Zq94_l2_ex, fun x ks => Zq94_l2_again N ks N x⟩
theorem Zq94_l2_ok (N : Nat) : LoopOk Tryz.prog Tryz.f67.ntmps (Zq94_l2_s N) (loopAt Zq94_code 2) := loopQ (sh := Zq94_l2_sh) (ex := Zq94_l2_ex) (N := N) (L := [Zq94_l2_0_s N]) (fun R k x ks => Zq94_l2_again N ks k x) (Zq94_gok N) (fun _ _ _ => rfl) (fun R k x ks => by kernel_rfl) ⟨Zq94_l2_0_ok N, trivial⟩ (by kernel_rfl)
noncomputable def Zq94 (N : Nat) (c : (Int × (List (Int × Int)))) (c1 : Int) (c2 : (List Int)) : Option ((Bool × Unit) × (Unit)) :=
 (br (ieq c1 1)
 (Zq94_l0 N (fun x => some ((x, ()), ())) (fun (_ : Unit) => some ((true, ()), ())) N c2 0 c.1 c.2)
 ((br (ieq c1 2)
 (Zq94_l1 N (fun x1 => some ((x1, ()), ())) (fun (_ : Unit) => some ((true, ()), ())) N c2 0 c.1 c.2)
 (Zq94_l2 N (fun x2 => some ((x2, ()), ())) (fun (_ : Unit) => some ((true, ()), ())) N c2 0 c.1 c.2))))
noncomputable def Zq94_S (N : Nat) : FSum := ⟨Zq94_ps, Zq94_rs, fun x => Zq94 N x.1 x.2.1 x.2.2.1⟩
theorem Zq94_pc (N : Nat) : PC Tryz.prog 67 (Zq94_S N) := pcQ (L := [Zq94_l0_s N, Zq94_l1_s N, Zq94_l2_s N]) (Zq94_gok N) Tryz.call67 Tryz.func67 (fun x => by kernel_rfl) ⟨Zq94_l0_ok N, Zq94_l1_ok N, Zq94_l2_ok N, trivial⟩ (by kernel_rfl)

abbrev Zq83_ps : List (PV.Mode × Ty) := [(.ro, LI), (.ro, LI)]
abbrev Zq83_rs : List (Bool × Ty) := [(true, .bool)]
noncomputable def Zq83_G (N : Nat) : GTab := gOf []
theorem Zq83_gok (N : Nat) : GOk Tryz.prog (Zq83_G N) := gOf_ok trivial
noncomputable def Zq83_code : Code := (Tryz.f168.body).getD .skip
noncomputable def Zq83_l0_sh : Sh := ⟨[(0, .one (.ro LI)), (1, .one (.ro LI)), (5, .one (.ro I))], []⟩
noncomputable def Zq83_l0_ex : List (Ex × Sh) := [(.ret, ⟨[(4, .one (.ro .bool))], []⟩), (.exit 0, ⟨[(0, .one (.ro LI)), (1, .one (.ro LI))], []⟩)]
noncomputable def Zq83_l0 {R : Type} (N : Nat) (k0 : Bool → Option R) (k1 : (List Int) → (List Int) → Option R) : Nat → (List Int) → (List Int) → Int → Option R
 | 0, _, _, _ => none
 | K + 1, a1, b1, i =>
 (br (ilt i (tLen a1))
 ((br (ilt i (tLen b1))
 ((chk (inb a1 i)
 (chk (inb b1 i)
 (br (ine (rdI a1 i) (rdI b1 i))
 ((chk (inb a1 i)
 (chk (inb b1 i)
 (k0 (ilt (rdI a1 i) (rdI b1 i))))))
 (Zq83_l0 N k0 k1 K a1 b1 (IntKind.i64.wrap (i + 1)))))))
 (k1 a1 b1)))
 (k1 a1 b1))
noncomputable def Zq83_l0_again {R : Type} (N : Nat) (ks : KS Zq83_l0_ex R) (k : Nat) (x : Zq83_l0_sh.T) : Option R :=
 Zq83_l0 N (fun y0 => ks 0 ((y0, ()), ())) (fun y0 y1 => ks 1 ((y0, y1, ()), ())) k x.1.1 x.1.2.1 x.1.2.2.1
noncomputable def Zq83_l0_s (N : Nat) : LSum := ⟨Zq83_l0_sh, Zq83_l0_ex, fun x ks => Zq83_l0_again N ks N x⟩
theorem Zq83_l0_ok (N : Nat) : LoopOk Tryz.prog Tryz.f168.ntmps (Zq83_l0_s N) (loopAt Zq83_code 0) := loopQ (sh := Zq83_l0_sh) (ex := Zq83_l0_ex) (N := N) (L := []) (fun R k x ks => Zq83_l0_again N ks k x) (Zq83_gok N) (fun _ _ _ => rfl) (fun R k x ks => by kernel_rfl) trivial (by kernel_rfl)
noncomputable def Zq83 (N : Nat) (a : (List Int)) (b : (List Int)) : Option ((Bool × Unit) × (Unit)) :=
 Zq83_l0 N (fun x => some ((x, ()), ())) (fun a1 b1 => some (((ilt (tLen a1) (tLen b1)), ()), ())) N a b 0
noncomputable def Zq83_S (N : Nat) : FSum := ⟨Zq83_ps, Zq83_rs, fun x => Zq83 N x.1 x.2.1⟩
theorem Zq83_pc (N : Nat) : PC Tryz.prog 168 (Zq83_S N) := pcQ (L := [Zq83_l0_s N]) (Zq83_gok N) Tryz.call168 Tryz.func168 (fun x => by kernel_rfl) ⟨Zq83_l0_ok N, trivial⟩ (by kernel_rfl)

abbrev Zq79_ps : List (PV.Mode × Ty) := [(.ro, LI)]
abbrev Zq79_rs : List (Bool × Ty) := [(false, LI)]
noncomputable def Zq79_G (N : Nat) : GTab := gOf []
theorem Zq79_gok (N : Nat) : GOk Tryz.prog (Zq79_G N) := gOf_ok trivial
noncomputable def Zq79_code : Code := (Tryz.f71.body).getD .skip
noncomputable def Zq79 (N : Nat) (l : (List Int)) : Option (((List Int) × Unit) × (Unit)) :=
 (chk (room (α := Int) (β := Int) [] l)
 (some (((tApp [] l), ()), ())))
noncomputable def Zq79_S (N : Nat) : FSum := ⟨Zq79_ps, Zq79_rs, fun x => Zq79 N x.1⟩
theorem Zq79_pc (N : Nat) : PC Tryz.prog 71 (Zq79_S N) := pcQ (L := []) (Zq79_gok N) Tryz.call71 Tryz.func71 (fun x => by kernel_rfl) trivial (by kernel_rfl)

abbrev Zq82_ps : List (PV.Mode × Ty) := [(.ro, LI), (.ro, LI)]
abbrev Zq82_rs : List (Bool × Ty) := [(true, .bool)]
noncomputable def Zq82_G (N : Nat) : GTab := gOf []
theorem Zq82_gok (N : Nat) : GOk Tryz.prog (Zq82_G N) := gOf_ok trivial
noncomputable def Zq82_code : Code := (Tryz.f145.body).getD .skip
noncomputable def Zq82_l0_sh : Sh := ⟨[(0, .one (.ro LI)), (1, .one (.ro LI)), (5, .one (.ro I))], []⟩
noncomputable def Zq82_l0_ex : List (Ex × Sh) := [(.ret, ⟨[(4, .one (.ro .bool))], []⟩), (.exit 0, ⟨[], []⟩)]
noncomputable def Zq82_l0 {R : Type} (N : Nat) (k0 : Bool → Option R) (k1 : Unit → Option R) : Nat → (List Int) → (List Int) → Int → Option R
 | 0, _, _, _ => none
 | K + 1, a1, b1, i =>
 (br (ilt i (tLen a1))
 ((chk (inb a1 i)
 (chk (inb b1 i)
 (br (ine (rdI a1 i) (rdI b1 i))
 (k0 false)
 (Zq82_l0 N k0 k1 K a1 b1 (IntKind.i64.wrap (i + 1)))))))
 (k1 ()))
noncomputable def Zq82_l0_again {R : Type} (N : Nat) (ks : KS Zq82_l0_ex R) (k : Nat) (x : Zq82_l0_sh.T) : Option R :=
 Zq82_l0 N (fun y0 => ks 0 ((y0, ()), ())) (fun (_ : Unit) => ks 1 ((), ())) k x.1.1 x.1.2.1 x.1.2.2.1
noncomputable def Zq82_l0_s (N : Nat) : LSum := ⟨Zq82_l0_sh, Zq82_l0_ex, fun x ks => Zq82_l0_again N ks N x⟩
theorem Zq82_l0_ok (N : Nat) : LoopOk Tryz.prog Tryz.f145.ntmps (Zq82_l0_s N) (loopAt Zq82_code 0) := loopQ (sh := Zq82_l0_sh) (ex := Zq82_l0_ex) (N := N) (L := []) (fun R k x ks => Zq82_l0_again N ks k x) (Zq82_gok N) (fun _ _ _ => rfl) (fun R k x ks => by kernel_rfl) trivial (by kernel_rfl)
noncomputable def Zq82 (N : Nat) (a : (List Int)) (b : (List Int)) : Option ((Bool × Unit) × (Unit)) :=
 (br (ine (tLen a) (tLen b))
 (some ((false, ()), ()))
 (Zq82_l0 N (fun x => some ((x, ()), ())) (fun (_ : Unit) => some ((true, ()), ())) N a b 0))
noncomputable def Zq82_S (N : Nat) : FSum := ⟨Zq82_ps, Zq82_rs, fun x => Zq82 N x.1 x.2.1⟩
theorem Zq82_pc (N : Nat) : PC Tryz.prog 145 (Zq82_S N) := pcQ (L := [Zq82_l0_s N]) (Zq82_gok N) Tryz.call145 Tryz.func145 (fun x => by kernel_rfl) ⟨Zq82_l0_ok N, trivial⟩ (by kernel_rfl)
end Go.Proofs.YtffeokcchabclaaGreat
