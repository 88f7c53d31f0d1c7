/- Functions of the program as functions on data. -/
import Derived.Test.YtffeokcchabclaaGreatThresholdsSa
set_option linter.all false
namespace Go.Proofs.YtffeokcchabclaaGreat
open Go Go.PV
abbrev Zq56_ps : List (PV.Mode × Ty) := [(.ro, LU8)]
abbrev Zq56_rs : List (Bool × Ty) := [(true, .bool)]
noncomputable def Zq56_G (N : Nat) : GTab := gOf []
theorem Zq56_gok (N : Nat) : GOk Tryz.prog (Zq56_G N) := gOf_ok trivial
noncomputable def Zq56_code : Code := (Tryz.f6.body).getD .skip
noncomputable def Zq56 (N : Nat) (code : (List Int)) : Option ((Bool × Unit) × (Unit)) :=
 some (((ilt 65536 (tLen code)), ()), ())
noncomputable def Zq56_S (N : Nat) : FSum := ⟨Zq56_ps, Zq56_rs, fun x => Zq56 N x.1⟩
theorem Zq56_pc (N : Nat) : PC Tryz.prog 6 (Zq56_S N) := pcQ (L := []) (Zq56_gok N) Tryz.call6 Tryz.func6 (fun x => by kernel_rfl) trivial (by kernel_rfl)

abbrev Zq92_ps : List (PV.Mode × Ty) := [(.mut, BQOU8QIU64)]
abbrev Zq92_rs : List (Bool × Ty) := [(true, I)]
noncomputable def Zq92_G (N : Nat) : GTab := gOf []
theorem Zq92_gok (N : Nat) : GOk Tryz.prog (Zq92_G N) := gOf_ok trivial
noncomputable def Zq92_code : Code := (Tryz.f162.body).getD .skip
noncomputable def Zq92 (N : Nat) (c : ((List Int) × (Int × Int))) : Option ((Int × Unit) × (((List Int) × (Int × Int)) × Unit)) :=
 (br (ilt c.2.1 (tLen c.1))
 ((chk (inb c.1 c.2.1)
 (br (ile (IntKind.i64.wrap (c.2.1 + 1)) (tLen c.1))
 (some (((IntKind.i64.wrap ((rd U8 c.1 c.2.1))), ()), ((c.1, ((IntKind.i64.wrap (c.2.1 + 1)), (IntKind.u64.wrap ((IntKind.u64.wrap ((IntKind.u64.wrap (c.2.2 * 6364136223846793005)) + (IntKind.u64.wrap ((IntKind.i64.wrap ((rd U8 c.1 c.2.1))))))) + 462197)))), ())))
 (some (((IntKind.i64.wrap ((bitop .and .u64 (shrI .u64 (IntKind.u64.wrap ((IntKind.u64.wrap ((IntKind.u64.wrap (c.2.2 * 6364136223846793005)) + (IntKind.u64.wrap ((IntKind.i64.wrap ((rd U8 c.1 c.2.1))))))) + 462197)) 40) 255))), ()), ((c.1, ((IntKind.i64.wrap (c.2.1 + 1)), (IntKind.u64.wrap ((IntKind.u64.wrap ((IntKind.u64.wrap (c.2.2 * 6364136223846793005)) + (IntKind.u64.wrap ((IntKind.i64.wrap ((rd U8 c.1 c.2.1))))))) + 462197)))), ()))))))
 ((br (ile (IntKind.i64.wrap (c.2.1 + 1)) (tLen c.1))
 (some ((0, ()), ((c.1, ((IntKind.i64.wrap (c.2.1 + 1)), (IntKind.u64.wrap ((IntKind.u64.wrap ((IntKind.u64.wrap (c.2.2 * 6364136223846793005)) + 0)) + 462197)))), ())))
 (some (((IntKind.i64.wrap ((bitop .and .u64 (shrI .u64 (IntKind.u64.wrap ((IntKind.u64.wrap ((IntKind.u64.wrap (c.2.2 * 6364136223846793005)) + 0)) + 462197)) 40) 255))), ()), ((c.1, ((IntKind.i64.wrap (c.2.1 + 1)), (IntKind.u64.wrap ((IntKind.u64.wrap ((IntKind.u64.wrap (c.2.2 * 6364136223846793005)) + 0)) + 462197)))), ()))))))
noncomputable def Zq92_S (N : Nat) : FSum := ⟨Zq92_ps, Zq92_rs, fun x => Zq92 N x.1⟩
theorem Zq92_pc (N : Nat) : PC Tryz.prog 162 (Zq92_S N) := pcQ (L := []) (Zq92_gok N) Tryz.call162 Tryz.func162 (fun x => by kernel_rfl) trivial (by kernel_rfl)

abbrev Zq96_ps : List (PV.Mode × Ty) := [(.mut, BQOU8QIU64), (.ro, I)]
abbrev Zq96_rs : List (Bool × Ty) := [(true, I)]
noncomputable def Zq96_G (N : Nat) : GTab := gOf [(162, Zq92_S N)]
theorem Zq96_gok (N : Nat) : GOk Tryz.prog (Zq96_G N) := gOf_ok ⟨Zq92_pc N, trivial⟩
noncomputable def Zq96_code : Code := (Tryz.f122.body).getD .skip
noncomputable def Zq96 (N : Nat) (c : ((List Int) × (Int × Int))) (n : Int) : Option ((Int × Unit) × (((List Int) × (Int × Int)) × Unit)) :=
 (br (ile n 1)
 (some ((0, ()), (c, ())))
 (((Zq92 N c).bind fun r =>
 (br (ilt 200 n)
 (((Zq92 N r.2.1).bind fun r1 =>
 (chk (ine n 0)
 (some ((((IntKind.i64.wrap ((IntKind.i64.wrap (r.1.1 * 256)) + r1.1.1)).tmod n), ()), (r1.2.1, ()))))))
 ((chk (ine n 0)
 (some (((r.1.1.tmod n), ()), (r.2.1, ())))))))))
noncomputable def Zq96_S (N : Nat) : FSum := ⟨Zq96_ps, Zq96_rs, fun x => Zq96 N x.1 x.2.1⟩
theorem Zq96_pc (N : Nat) : PC Tryz.prog 122 (Zq96_S N) := pcQ (L := []) (Zq96_gok N) Tryz.call122 Tryz.func122 (fun x => by kernel_rfl) trivial (by kernel_rfl)

abbrev Zq89_ps : List (PV.Mode × Ty) := [(.mut, BQOU8QIU64), (.ro, LI)]
abbrev Zq89_rs : List (Bool × Ty) := [(true, I)]
noncomputable def Zq89_G (N : Nat) : GTab := gOf [(122, Zq96_S N)]
theorem Zq89_gok (N : Nat) : GOk Tryz.prog (Zq89_G N) := gOf_ok ⟨Zq96_pc N, trivial⟩
noncomputable def Zq89_code : Code := (Tryz.f121.body).getD .skip
noncomputable def Zq89 (N : Nat) (c : ((List Int) × (Int × Int))) (list : (List Int)) : Option ((Int × Unit) × (((List Int) × (Int × Int)) × Unit)) :=
 ((Zq96 N c (tLen list)).bind fun r =>
 (chk (inb list r.1.1)
 (some (((rdI list r.1.1), ()), (r.2.1, ())))))
noncomputable def Zq89_S (N : Nat) : FSum := ⟨Zq89_ps, Zq89_rs, fun x => Zq89 N x.1 x.2.1⟩
theorem Zq89_pc (N : Nat) : PC Tryz.prog 121 (Zq89_S N) := pcQ (L := []) (Zq89_gok N) Tryz.call121 Tryz.func121 (fun x => by kernel_rfl) trivial (by kernel_rfl)

abbrev Zq95_ps : List (PV.Mode × Ty) := [(.mut, BQOU8QIU64), (.ro, I)]
abbrev Zq95_rs : List (Bool × Ty) := [(true, .bool)]
noncomputable def Zq95_G (N : Nat) : GTab := gOf [(122, Zq96_S N)]
theorem Zq95_gok (N : Nat) : GOk Tryz.prog (Zq95_G N) := gOf_ok ⟨Zq96_pc N, trivial⟩
noncomputable def Zq95_code : Code := (Tryz.f57.body).getD .skip
noncomputable def Zq95 (N : Nat) (c : ((List Int) × (Int × Int))) (n : Int) : Option ((Bool × Unit) × (((List Int) × (Int × Int)) × Unit)) :=
 ((Zq96 N c n).bind fun r =>
 some (((ieq r.1.1 0), ()), (r.2.1, ())))
noncomputable def Zq95_S (N : Nat) : FSum := ⟨Zq95_ps, Zq95_rs, fun x => Zq95 N x.1 x.2.1⟩
theorem Zq95_pc (N : Nat) : PC Tryz.prog 57 (Zq95_S N) := pcQ (L := []) (Zq95_gok N) Tryz.call57 Tryz.func57 (fun x => by kernel_rfl) trivial (by kernel_rfl)

abbrev Zq100_ps : List (PV.Mode × Ty) := [(.ro, I), (.ro, I)]
abbrev Zq100_rs : List (Bool × Ty) := [(true, I)]
noncomputable def Zq100_G (N : Nat) : GTab := gOf []
theorem Zq100_gok (N : Nat) : GOk Tryz.prog (Zq100_G N) := gOf_ok trivial
noncomputable def Zq100_code : Code := (Tryz.f118.body).getD .skip
noncomputable def Zq100 (N : Nat) (a : Int) (b : Int) : Option ((Int × Unit) × (Unit)) :=
 (br (ilt a b)
 (some ((a, ()), ()))
 (some ((b, ()), ())))
noncomputable def Zq100_S (N : Nat) : FSum := ⟨Zq100_ps, Zq100_rs, fun x => Zq100 N x.1 x.2.1⟩
theorem Zq100_pc (N : Nat) : PC Tryz.prog 118 (Zq100_S N) := pcQ (L := []) (Zq100_gok N) Tryz.call118 Tryz.func118 (fun x => by kernel_rfl) trivial (by kernel_rfl)

abbrev Zq109_ps : List (PV.Mode × Ty) := [(.ro, QII), (.ro, QII)]
abbrev Zq109_rs : List (Bool × Ty) := [(true, .bool)]
noncomputable def Zq109_G (N : Nat) : GTab := gOf []
theorem Zq109_gok (N : Nat) : GOk Tryz.prog (Zq109_G N) := gOf_ok trivial
noncomputable def Zq109_code : Code := (Tryz.f169.body).getD .skip
noncomputable def Zq109 (N : Nat) (a : (Int × Int)) (b : (Int × Int)) : Option ((Bool × Unit) × (Unit)) :=
 (br (ilt a.1 b.1)
 (some ((true, ()), ()))
 ((br (ieq a.1 b.1)
 (some (((ilt a.2 b.2), ()), ()))
 (some ((false, ()), ())))))
noncomputable def Zq109_S (N : Nat) : FSum := ⟨Zq109_ps, Zq109_rs, fun x => Zq109 N x.1 x.2.1⟩
theorem Zq109_pc (N : Nat) : PC Tryz.prog 169 (Zq109_S N) := pcQ (L := []) (Zq109_gok N) Tryz.call169 Tryz.func169 (fun x => by kernel_rfl) trivial (by kernel_rfl)

abbrev Zq115_ps : List (PV.Mode × Ty) := [(.own, LQII), (.ro, QII)]
abbrev Zq115_rs : List (Bool × Ty) := [(true, LQII)]
noncomputable def Zq115_G (N : Nat) : GTab := gOf [(169, Zq109_S N)]
theorem Zq115_gok (N : Nat) : GOk Tryz.prog (Zq115_G N) := gOf_ok ⟨Zq109_pc N, trivial⟩
noncomputable def Zq115_code : Code := (Tryz.f140.body).getD .skip
noncomputable def Zq115_l0_sh : Sh := ⟨[(0, .one (.ref 0)), (3, .one (.adr 1 0)), (5, .one (.ro I))], [.sl 90 QII .own, .box [.ro I, .ro I]]⟩
noncomputable def Zq115_l0_ex : List (Ex × Sh) := [(.exit 0, ⟨[(0, .one (.ref 0)), (3, .one (.adr 1 0)), (5, .one (.ro I))], [.sl 90 QII .own, .box [.ro I, .ro I]]⟩)]
noncomputable def Zq115_l0 {R : Type} (N : Nat) (k0 : Int → (List (Int × Int)) → Int → Int → Option R) : Nat → Int → (List (Int × Int)) → Int → Int → Option R
 | 0, _, _, _, _ => none
 | K + 1, kv, o, o1, o2 =>
 (br (ilt 0 kv)
 ((chk (inb o (IntKind.i64.wrap (kv - 1)))
 ((Zq109 N (o1, o2) (rdP o (IntKind.i64.wrap (kv - 1)))).bind fun r =>
 (br r.1.1
 (Zq115_l0 N k0 K (IntKind.i64.wrap (kv - 1)) o o1 o2)
 (k0 kv o o1 o2)))))
 (k0 kv o o1 o2))
noncomputable def Zq115_l0_again {R : Type} (N : Nat) (ks : KS Zq115_l0_ex R) (k : Nat) (x : Zq115_l0_sh.T) : Option R :=
 Zq115_l0 N (fun y0 y1 y2 y3 => ks 0 (((), (), y0, ()), (y1, (y2, y3, ()), ()))) k x.1.2.2.1 x.2.1 x.2.2.1.1 x.2.2.1.2.1
noncomputable def Zq115_l0_s (N : Nat) : LSum := ⟨Zq115_l0_sh, Zq115_l0_ex, fun x ks => Zq115_l0_again N ks N x⟩
theorem Zq115_l0_ok (N : Nat) : LoopOk Tryz.prog Tryz.f140.ntmps (Zq115_l0_s N) (loopAt Zq115_code 0) := loopQ (sh := Zq115_l0_sh) (ex := Zq115_l0_ex) (N := N) (L := []) (fun R k x ks => Zq115_l0_again N ks k x) (Zq115_gok N) (fun _ _ _ => rfl) (fun R k x ks => by kernel_rfl) trivial (by kernel_rfl)
noncomputable def Zq115 (N : Nat) (list : (List (Int × Int))) (e : (Int × Int)) : Option (((List (Int × Int)) × Unit) × (Unit)) :=
 Zq115_l0 N (fun kv o o1 o2 => (br (ilt 0 kv)
 ((chk (inb o (IntKind.i64.wrap (kv - 1)))
 (br (ieq ((rdP o (IntKind.i64.wrap (kv - 1))).1) o1 && ieq ((rdP o (IntKind.i64.wrap (kv - 1))).2) o2)
 (some ((o, ()), ()))
 ((chk (ile 0 0 && ile 0 kv && ile kv (tLen o))
 (chk (room (α := (Int × Int)) (β := (Int × Int)) [] (tCut o 0 kv))
 (chk (room (tApp [] (tCut o 0 kv)) [(o1, o2)])
 (chk (ile 0 kv && ile kv (tLen o) && ile (tLen o) (tLen o))
 (chk (room (tApp (tApp [] (tCut o 0 kv)) [(o1, o2)]) (tCut o kv (tLen o)))
 (some (((tApp (tApp (tApp [] (tCut o 0 kv)) [(o1, o2)]) (tCut o kv (tLen o))), ()), ())))))))))))
 ((chk (ile 0 0 && ile 0 kv && ile kv (tLen o))
 (chk (room (α := (Int × Int)) (β := (Int × Int)) [] (tCut o 0 kv))
 (chk (room (tApp [] (tCut o 0 kv)) [(o1, o2)])
 (chk (ile 0 kv && ile kv (tLen o) && ile (tLen o) (tLen o))
 (chk (room (tApp (tApp [] (tCut o 0 kv)) [(o1, o2)]) (tCut o kv (tLen o)))
 (some (((tApp (tApp (tApp [] (tCut o 0 kv)) [(o1, o2)]) (tCut o kv (tLen o))), ()), ())))))))))) N (tLen list) list e.1 e.2
noncomputable def Zq115_S (N : Nat) : FSum := ⟨Zq115_ps, Zq115_rs, fun x => Zq115 N x.1 x.2.1⟩
theorem Zq115_pc (N : Nat) : PC Tryz.prog 140 (Zq115_S N) := pcQ (L := [Zq115_l0_s N]) (Zq115_gok N) Tryz.call140 Tryz.func140 (fun x => by kernel_rfl) ⟨Zq115_l0_ok N, trivial⟩ (by kernel_rfl)

abbrev Zq97_ps : List (PV.Mode × Ty) := [(.mut, BQOU8QIU64), (.ro, I)]
abbrev Zq97_rs : List (Bool × Ty) := [(false, QILQII)]
noncomputable def Zq97_G (N : Nat) : GTab := gOf [(121, Zq89_S N), (57, Zq95_S N), (122, Zq96_S N), (118, Zq100_S N), (140, Zq115_S N)]
theorem Zq97_gok (N : Nat) : GOk Tryz.prog (Zq97_G N) := gOf_ok ⟨Zq89_pc N, Zq95_pc N, Zq96_pc N, Zq100_pc N, Zq115_pc N, trivial⟩
noncomputable def Zq97_code : Code := (Tryz.f87.body).getD .skip
noncomputable def Zq97_l0_0_sh : Sh := ⟨[(0, .one (.adr 0 0)), (4, .one (.adr 1 0)), (5, .one (.ro I)), (6, .one (.adr 2 0)), (7, .one (.ro I)), (8, .one (.ro .bool)), (9, .one (.ro I)), (10, .one (.ro I))], [.mbox QOU8QIU64, .box [.ro I, .nilsl], .box [.ro I, .ref 3], .sl 90 QII .own]⟩
noncomputable def Zq97_l0_0_ex : List (Ex × Sh) := [(.exit 2, ⟨[(0, .one (.adr 0 0)), (4, .one (.adr 1 0)), (5, .one (.ro I)), (6, .one (.adr 2 0)), (7, .one (.ro I)), (8, .one (.ro .bool)), (9, .one (.ro I))], [.mbox QOU8QIU64, .box [.ro I, .nilsl], .box [.ro I, .ref 3], .sl 90 QII .own]⟩)]
noncomputable def Zq97_l0_0 {R : Type} (N : Nat) (k0 : Int → Int → Bool → Int → ((List Int) × (Int × Int)) → Int → Int → (List (Int × Int)) → Option R) : Nat → Int → Int → Bool → Int → Int → ((List Int) × (Int × Int)) → Int → Int → (List (Int × Int)) → Option R
 | 0, _, _, _, _, _, _, _, _, _ => none
 | K + 1, x4, x5, x6, x7, x8, o4, o5, o6, o7 =>
 (br (ilt x8 x4)
 (((Zq96 N o4 x5).bind fun r6 =>
 (br (ieq r6.1.1 0)
 (((Zq115 N o7 (x7, x8)).bind fun r7 =>
 Zq97_l0_0 N k0 K x4 x5 x6 x7 (IntKind.i64.wrap (x8 + 1)) r6.2.1 o5 o6 r7.1.1))
 (Zq97_l0_0 N k0 K x4 x5 x6 x7 (IntKind.i64.wrap (x8 + 1)) r6.2.1 o5 o6 o7))))
 (k0 x4 x5 x6 x7 o4 o5 o6 o7))
noncomputable def Zq97_l0_0_again {R : Type} (N : Nat) (ks : KS Zq97_l0_0_ex R) (k : Nat) (x : Zq97_l0_0_sh.T) : Option R :=
 Zq97_l0_0 N (fun y0 y1 y2 y3 y4 y5 y6 y7 => ks 0 (((), (), y0, (), y1, y2, y3, ()), (y4, (y5, (), ()), (y6, (), ()), y7, ()))) k x.1.2.2.1 x.1.2.2.2.2.1 x.1.2.2.2.2.2.1 x.1.2.2.2.2.2.2.1 x.1.2.2.2.2.2.2.2.1 x.2.1 x.2.2.1.1 x.2.2.2.1.1 x.2.2.2.2.1
noncomputable def Zq97_l0_0_s (N : Nat) : LSum := ⟨Zq97_l0_0_sh, Zq97_l0_0_ex, fun x ks => Zq97_l0_0_again N ks N x⟩
theorem Zq97_l0_0_ok (N : Nat) : LoopOk Tryz.prog Tryz.f87.ntmps (Zq97_l0_0_s N) (loopAt (loopAt Zq97_code 0) 0) := loopQ (sh := Zq97_l0_0_sh) (ex := Zq97_l0_0_ex) (N := N) (L := []) (fun R k x ks => Zq97_l0_0_again N ks k x) (Zq97_gok N) (fun _ _ _ => rfl) (fun R k x ks => by kernel_rfl) trivial (by kernel_rfl)
noncomputable def Zq97_l0_sh : Sh := ⟨[(0, .one (.adr 0 0)), (4, .one (.adr 1 0)), (5, .one (.ro I)), (6, .one (.adr 2 0)), (7, .one (.ro I)), (8, .one (.ro .bool)), (9, .one (.ro I))], [.mbox QOU8QIU64, .box [.ro I, .nilsl], .box [.ro I, .ref 3], .sl 90 QII .own]⟩
noncomputable def Zq97_l0_ex : List (Ex × Sh) := [(.exit 0, ⟨[(0, .one (.adr 0 0)), (4, .one (.adr 1 0)), (6, .one (.adr 2 0))], [.mbox QOU8QIU64, .box [.ro I, .nilsl], .box [.ro I, .ref 3], .sl 90 QII .own]⟩)]
noncomputable def Zq97_l0 {R : Type} (N : Nat) (k0 : ((List Int) × (Int × Int)) → Int → Int → (List (Int × Int)) → Option R) : Nat → Int → Int → Bool → Int → ((List Int) × (Int × Int)) → Int → Int → (List (Int × Int)) → Option R
 | 0, _, _, _, _, _, _, _, _ => none
 | K + 1, x, x1, x2, x3, o, o1, o2, o3 =>
 (br (ilt x3 x)
 (Zq97_l0_0 N (fun x4 x5 x6 x7 o4 o5 o6 o7 => (br (ilt 0 x7)
 ((br (!x6)
 (((Zq96 N (o4.1, (o4.2.1, o4.2.2)) x7).bind fun r6 =>
 ((Zq115 N o7 (r6.1.1, x7)).bind fun r7 =>
 Zq97_l0 N k0 K x4 x5 x6 (IntKind.i64.wrap (x7 + 1)) r6.2.1 o5 o6 r7.1.1)))
 (Zq97_l0 N k0 K x4 x5 x6 (IntKind.i64.wrap (x7 + 1)) o4 o5 o6 o7)))
 (Zq97_l0 N k0 K x4 x5 x6 (IntKind.i64.wrap (x7 + 1)) o4 o5 o6 o7))) N x x1 x2 x3 (IntKind.i64.wrap (x3 + 1)) o o1 o2 o3)
 (k0 o o1 o2 o3))
noncomputable def Zq97_l0_again {R : Type} (N : Nat) (ks : KS Zq97_l0_ex R) (k : Nat) (x : Zq97_l0_sh.T) : Option R :=
 Zq97_l0 N (fun y0 y1 y2 y3 => ks 0 (((), (), (), ()), (y0, (y1, (), ()), (y2, (), ()), y3, ()))) k x.1.2.2.1 x.1.2.2.2.2.1 x.1.2.2.2.2.2.1 x.1.2.2.2.2.2.2.1 x.2.1 x.2.2.1.1 x.2.2.2.1.1 x.2.2.2.2.1
noncomputable def Zq97_l0_s (N : Nat) : LSum := ⟨Zq97_l0_sh, Zq97_l0_ex, fun x ks => Zq97_l0_again N ks N x⟩
theorem Zq97_l0_ok (N : Nat) : LoopOk Tryz.prog Tryz.f87.ntmps (Zq97_l0_s N) (loopAt Zq97_code 0) := loopQ (sh := Zq97_l0_sh) (ex := Zq97_l0_ex) (N := N) (L := [Zq97_l0_0_s N]) (fun R k x ks => Zq97_l0_again N ks k x) (Zq97_gok N) (fun _ _ _ => rfl) (fun R k x ks => by kernel_rfl) ⟨Zq97_l0_0_ok N, trivial⟩ (by kernel_rfl)
noncomputable def Zq97 (N : Nat) (c : ((List Int) × (Int × Int))) (c1 : Int) : Option (((Int × (List (Int × Int))) × Unit) × (((List Int) × (Int × Int)) × Unit)) :=
 ((Zq89 N c [4, 5, 3, 6, 2, 1, 0]).bind fun r =>
 (br (ilt 6 c1)
 (((Zq95 N r.2.1 4).bind fun r1 =>
 (br r1.1.1
 (((Zq96 N r1.2.1 2).bind fun r2 =>
 ((Zq100 N (IntKind.i64.wrap (7 + r2.1.1)) c1).bind fun r3 =>
 ((Zq89 N r2.2.1 [1, 3, 4, 6]).bind fun r4 =>
 ((Zq95 N r4.2.1 5).bind fun r5 =>
 Zq97_l0 N (fun o o1 o2 o3 => ((Zq96 N o 50).bind fun r6 =>
 (br (ieq r6.1.1 0)
 (((Zq89 N r6.2.1 [(-1), 8, 9, 0, 4611686018427387904]).bind fun r7 =>
 some (((r7.1.1, o3), ()), (r7.2.1, ()))))
 ((br (ieq r6.1.1 1)
 (((Zq96 N (r6.2.1.1, (r6.2.1.2.1, r6.2.1.2.2)) 4).bind fun r8 =>
 ((Zq96 N r8.2.1 9).bind fun r9 =>
 (chk (room o3 [(r8.1.1, (IntKind.i64.wrap (r9.1.1 - 1)))])
 (some (((o2, (tApp o3 [(r8.1.1, (IntKind.i64.wrap (r9.1.1 - 1)))])), ()), (r9.2.1, ())))))))
 ((br (ieq r6.1.1 2)
 ((br (ilt 0 (tLen o3))
 (((Zq96 N (r6.2.1.1, (r6.2.1.2.1, r6.2.1.2.2)) (tLen o3)).bind fun r10 =>
 (chk (inb o3 r10.1.1)
 (chk (room o3 [(rdP o3 r10.1.1)])
 (some (((o2, (tApp o3 [(rdP o3 r10.1.1)])), ()), (r10.2.1, ())))))))
 (some (((o2, o3), ()), (r6.2.1, ())))))
 (some (((o2, o3), ()), (r6.2.1, ())))))))))) N r3.1.1 r4.1.1 r5.1.1 0 r5.2.1 0 r3.1.1 [])))))
 (((Zq100 N r.1.1 c1).bind fun r11 =>
 ((Zq89 N r1.2.1 [1, 3, 4, 6]).bind fun r12 =>
 ((Zq95 N r12.2.1 5).bind fun r13 =>
 Zq97_l0 N (fun o4 o5 o6 o7 => ((Zq96 N o4 50).bind fun r14 =>
 (br (ieq r14.1.1 0)
 (((Zq89 N r14.2.1 [(-1), 8, 9, 0, 4611686018427387904]).bind fun r15 =>
 some (((r15.1.1, o7), ()), (r15.2.1, ()))))
 ((br (ieq r14.1.1 1)
 (((Zq96 N (r14.2.1.1, (r14.2.1.2.1, r14.2.1.2.2)) 4).bind fun r16 =>
 ((Zq96 N r16.2.1 9).bind fun r17 =>
 (chk (room o7 [(r16.1.1, (IntKind.i64.wrap (r17.1.1 - 1)))])
 (some (((o6, (tApp o7 [(r16.1.1, (IntKind.i64.wrap (r17.1.1 - 1)))])), ()), (r17.2.1, ())))))))
 ((br (ieq r14.1.1 2)
 ((br (ilt 0 (tLen o7))
 (((Zq96 N (r14.2.1.1, (r14.2.1.2.1, r14.2.1.2.2)) (tLen o7)).bind fun r18 =>
 (chk (inb o7 r18.1.1)
 (chk (room o7 [(rdP o7 r18.1.1)])
 (some (((o6, (tApp o7 [(rdP o7 r18.1.1)])), ()), (r18.2.1, ())))))))
 (some (((o6, o7), ()), (r14.2.1, ())))))
 (some (((o6, o7), ()), (r14.2.1, ())))))))))) N r11.1.1 r12.1.1 r13.1.1 0 r13.2.1 0 r11.1.1 [])))))))
 (((Zq100 N r.1.1 c1).bind fun r19 =>
 ((Zq89 N r.2.1 [1, 3, 4, 6]).bind fun r20 =>
 ((Zq95 N r20.2.1 5).bind fun r21 =>
 Zq97_l0 N (fun o8 o9 o10 o11 => ((Zq96 N o8 50).bind fun r22 =>
 (br (ieq r22.1.1 0)
 (((Zq89 N r22.2.1 [(-1), 8, 9, 0, 4611686018427387904]).bind fun r23 =>
 some (((r23.1.1, o11), ()), (r23.2.1, ()))))
 ((br (ieq r22.1.1 1)
 (((Zq96 N (r22.2.1.1, (r22.2.1.2.1, r22.2.1.2.2)) 4).bind fun r24 =>
 ((Zq96 N r24.2.1 9).bind fun r25 =>
 (chk (room o11 [(r24.1.1, (IntKind.i64.wrap (r25.1.1 - 1)))])
 (some (((o10, (tApp o11 [(r24.1.1, (IntKind.i64.wrap (r25.1.1 - 1)))])), ()), (r25.2.1, ())))))))
 ((br (ieq r22.1.1 2)
 ((br (ilt 0 (tLen o11))
 (((Zq96 N (r22.2.1.1, (r22.2.1.2.1, r22.2.1.2.2)) (tLen o11)).bind fun r26 =>
 (chk (inb o11 r26.1.1)
 (chk (room o11 [(rdP o11 r26.1.1)])
 (some (((o10, (tApp o11 [(rdP o11 r26.1.1)])), ()), (r26.2.1, ())))))))
 (some (((o10, o11), ()), (r22.2.1, ())))))
 (some (((o10, o11), ()), (r22.2.1, ())))))))))) N r19.1.1 r20.1.1 r21.1.1 0 r21.2.1 0 r19.1.1 []))))))
noncomputable def Zq97_S (N : Nat) : FSum := ⟨Zq97_ps, Zq97_rs, fun x => Zq97 N x.1 x.2.1⟩
theorem Zq97_pc (N : Nat) : PC Tryz.prog 87 (Zq97_S N) := pcQ (L := [Zq97_l0_s N]) (Zq97_gok N) Tryz.call87 Tryz.func87 (fun x => by kernel_rfl) ⟨Zq97_l0_ok N, trivial⟩ (by kernel_rfl)

abbrev Zq90_ps : List (PV.Mode × Ty) := [(.mut, BQOU8QIU64)]
abbrev Zq90_rs : List (Bool × Ty) := [(false, QILQII)]
noncomputable def Zq90_G (N : Nat) : GTab := gOf [(87, Zq97_S N)]
theorem Zq90_gok (N : Nat) : GOk Tryz.prog (Zq90_G N) := gOf_ok ⟨Zq97_pc N, trivial⟩
noncomputable def Zq90_code : Code := (Tryz.f54.body).getD .skip
noncomputable def Zq90 (N : Nat) (c : ((List Int) × (Int × Int))) : Option (((Int × (List (Int × Int))) × Unit) × (((List Int) × (Int × Int)) × Unit)) :=
 ((Zq97 N c 8).bind fun r =>
 some (((r.1.1.1, r.1.1.2), ()), (r.2.1, ())))
noncomputable def Zq90_S (N : Nat) : FSum := ⟨Zq90_ps, Zq90_rs, fun x => Zq90 N x.1⟩
theorem Zq90_pc (N : Nat) : PC Tryz.prog 54 (Zq90_S N) := pcQ (L := []) (Zq90_gok N) Tryz.call54 Tryz.func54 (fun x => by kernel_rfl) trivial (by kernel_rfl)

abbrev Zq91_ps : List (PV.Mode × Ty) := [(.mut, BQOU8QIU64)]
abbrev Zq91_rs : List (Bool × Ty) := [(true, I)]
noncomputable def Zq91_G (N : Nat) : GTab := gOf [(57, Zq95_S N), (121, Zq89_S N), (122, Zq96_S N)]
theorem Zq91_gok (N : Nat) : GOk Tryz.prog (Zq91_G N) := gOf_ok ⟨Zq95_pc N, Zq89_pc N, Zq96_pc N, trivial⟩
noncomputable def Zq91_code : Code := (Tryz.f55.body).getD .skip
noncomputable def Zq91 (N : Nat) (c : ((List Int) × (Int × Int))) : Option ((Int × Unit) × (((List Int) × (Int × Int)) × Unit)) :=
 ((Zq95 N c 24).bind fun r =>
 (br r.1.1
 (((Zq89 N r.2.1 [0, 4, (-1)]).bind fun r1 =>
 some ((r1.1.1, ()), (r1.2.1, ()))))
 (((Zq96 N r.2.1 3).bind fun r2 =>
 some (((IntKind.i64.wrap (1 + r2.1.1)), ()), (r2.2.1, ()))))))
noncomputable def Zq91_S (N : Nat) : FSum := ⟨Zq91_ps, Zq91_rs, fun x => Zq91 N x.1⟩
theorem Zq91_pc (N : Nat) : PC Tryz.prog 55 (Zq91_S N) := pcQ (L := []) (Zq91_gok N) Tryz.call55 Tryz.func55 (fun x => by kernel_rfl) trivial (by kernel_rfl)

abbrev Zq99_ps : List (PV.Mode × Ty) := [(.ro, I), (.ro, I), (.ro, I)]
abbrev Zq99_rs : List (Bool × Ty) := [(true, .bool)]
noncomputable def Zq99_G (N : Nat) : GTab := gOf []
theorem Zq99_gok (N : Nat) : GOk Tryz.prog (Zq99_G N) := gOf_ok trivial
noncomputable def Zq99_code : Code := (Tryz.f137.body).getD .skip
noncomputable def Zq99 (N : Nat) (x : Int) (a : Int) (b : Int) : Option ((Bool × Unit) × (Unit)) :=
 (br (ile a x)
 (some (((ile x b), ()), ()))
 (some ((false, ()), ())))
noncomputable def Zq99_S (N : Nat) : FSum := ⟨Zq99_ps, Zq99_rs, fun x => Zq99 N x.1 x.2.1 x.2.2.1⟩
theorem Zq99_pc (N : Nat) : PC Tryz.prog 137 (Zq99_S N) := pcQ (L := []) (Zq99_gok N) Tryz.call137 Tryz.func137 (fun x => by kernel_rfl) trivial (by kernel_rfl)

abbrev Zq114_ps : List (PV.Mode × Ty) := [(.ro, LQII), (.ro, I)]
abbrev Zq114_rs : List (Bool × Ty) := [(true, .bool)]
noncomputable def Zq114_G (N : Nat) : GTab := gOf [(137, Zq99_S N), (169, Zq109_S N)]
theorem Zq114_gok (N : Nat) : GOk Tryz.prog (Zq114_G N) := gOf_ok ⟨Zq99_pc N, Zq109_pc N, trivial⟩
noncomputable def Zq114_code : Code := (Tryz.f138.body).getD .skip
noncomputable def Zq114_l0_sh : Sh := ⟨[(0, .one (.ro LQII)), (1, .one (.ro I)), (5, .one (.ro I))], []⟩
noncomputable def Zq114_l0_ex : List (Ex × Sh) := [(.ret, ⟨[(4, .one (.ro .bool))], []⟩), (.exit 0, ⟨[], []⟩)]
noncomputable def Zq114_l0 {R : Type} (N : Nat) (k0 : Bool → Option R) (k1 : Unit → Option R) : Nat → (List (Int × Int)) → Int → Int → Option R
 | 0, _, _, _ => none
 | K + 1, pairs1, n1, i =>
 (br (ilt i (tLen pairs1))
 ((chk (inb pairs1 i)
 ((Zq99 N ((rdP pairs1 i).1) 0 (IntKind.i64.wrap (n1 - 1))).bind fun r =>
 (br (!r.1.1)
 (k0 false)
 (((Zq99 N ((rdP pairs1 i).2) 0 (IntKind.i64.wrap (n1 - 1))).bind fun r1 =>
 (br (!r1.1.1)
 (k0 false)
 ((br (ile ((rdP pairs1 i).2) ((rdP pairs1 i).1))
 (k0 false)
 ((br (ilt 0 i)
 ((chk (inb pairs1 (IntKind.i64.wrap (i - 1)))
 ((Zq109 N (rdP pairs1 (IntKind.i64.wrap (i - 1))) ((rdP pairs1 i).1, (rdP pairs1 i).2)).bind fun r2 =>
 (br (!r2.1.1)
 (k0 false)
 (Zq114_l0 N k0 k1 K pairs1 n1 (IntKind.i64.wrap (i + 1)))))))
 (Zq114_l0 N k0 k1 K pairs1 n1 (IntKind.i64.wrap (i + 1))))))))))))))
 (k1 ()))
noncomputable def Zq114_l0_again {R : Type} (N : Nat) (ks : KS Zq114_l0_ex R) (k : Nat) (x : Zq114_l0_sh.T) : Option R :=
 Zq114_l0 N (fun y0 => ks 0 ((y0, ()), ())) (fun (_ : Unit) => ks 1 ((), ())) k x.1.1 x.1.2.1 x.1.2.2.1
noncomputable def Zq114_l0_s (N : Nat) : LSum := ⟨Zq114_l0_sh, Zq114_l0_ex, fun x ks => Zq114_l0_again N ks N x⟩
theorem Zq114_l0_ok (N : Nat) : LoopOk Tryz.prog Tryz.f138.ntmps (Zq114_l0_s N) (loopAt Zq114_code 0) := loopQ (sh := Zq114_l0_sh) (ex := Zq114_l0_ex) (N := N) (L := []) (fun R k x ks => Zq114_l0_again N ks k x) (Zq114_gok N) (fun _ _ _ => rfl) (fun R k x ks => by kernel_rfl) trivial (by kernel_rfl)
noncomputable def Zq114 (N : Nat) (pairs : (List (Int × Int))) (n : Int) : Option ((Bool × Unit) × (Unit)) :=
 Zq114_l0 N (fun x => some ((x, ()), ())) (fun (_ : Unit) => some ((true, ()), ())) N pairs n 0
noncomputable def Zq114_S (N : Nat) : FSum := ⟨Zq114_ps, Zq114_rs, fun x => Zq114 N x.1 x.2.1⟩
theorem Zq114_pc (N : Nat) : PC Tryz.prog 138 (Zq114_S N) := pcQ (L := [Zq114_l0_s N]) (Zq114_gok N) Tryz.call138 Tryz.func138 (fun x => by kernel_rfl) ⟨Zq114_l0_ok N, trivial⟩ (by kernel_rfl)

abbrev Zq110_ps : List (PV.Mode × Ty) := [(.ro, QILQII)]
abbrev Zq110_rs : List (Bool × Ty) := [(true, .bool)]
noncomputable def Zq110_G (N : Nat) : GTab := gOf [(137, Zq99_S N), (138, Zq114_S N)]
theorem Zq110_gok (N : Nat) : GOk Tryz.prog (Zq110_G N) := gOf_ok ⟨Zq99_pc N, Zq114_pc N, trivial⟩
noncomputable def Zq110_code : Code := (Tryz.f82.body).getD .skip
noncomputable def Zq110 (N : Nat) (g : (Int × (List (Int × Int)))) : Option ((Bool × Unit) × (Unit)) :=
 ((Zq99 N g.1 0 8).bind fun r =>
 (br r.1.1
 (((Zq114 N g.2 g.1).bind fun r1 =>
 some ((r1.1.1, ()), ())))
 (some ((false, ()), ()))))
noncomputable def Zq110_S (N : Nat) : FSum := ⟨Zq110_ps, Zq110_rs, fun x => Zq110 N x.1⟩
theorem Zq110_pc (N : Nat) : PC Tryz.prog 82 (Zq110_S N) := pcQ (L := []) (Zq110_gok N) Tryz.call82 Tryz.func82 (fun x => by kernel_rfl) trivial (by kernel_rfl)

abbrev Zq126_ps : List (PV.Mode × Ty) := [(.ro, I)]
abbrev Zq126_rs : List (Bool × Ty) := [(true, .bool)]
noncomputable def Zq126_G (N : Nat) : GTab := gOf [(137, Zq99_S N)]
theorem Zq126_gok (N : Nat) : GOk Tryz.prog (Zq126_G N) := gOf_ok ⟨Zq99_pc N, trivial⟩
noncomputable def Zq126_code : Code := (Tryz.f126.body).getD .skip
noncomputable def Zq126 (N : Nat) (kind : Int) : Option ((Bool × Unit) × (Unit)) :=
 ((Zq99 N kind 1 3).bind fun r =>
 some ((r.1.1, ()), ()))
noncomputable def Zq126_S (N : Nat) : FSum := ⟨Zq126_ps, Zq126_rs, fun x => Zq126 N x.1⟩
theorem Zq126_pc (N : Nat) : PC Tryz.prog 126 (Zq126_S N) := pcQ (L := []) (Zq126_gok N) Tryz.call126 Tryz.func126 (fun x => by kernel_rfl) trivial (by kernel_rfl)

abbrev Zq123_ps : List (PV.Mode × Ty) := [(.ro, QILQII), (.ro, I)]
abbrev Zq123_rs : List (Bool × Ty) := [(true, .bool)]
noncomputable def Zq123_G (N : Nat) : GTab := gOf [(82, Zq110_S N), (126, Zq126_S N)]
theorem Zq123_gok (N : Nat) : GOk Tryz.prog (Zq123_G N) := gOf_ok ⟨Zq110_pc N, Zq126_pc N, trivial⟩
noncomputable def Zq123_code : Code := (Tryz.f65.body).getD .skip
noncomputable def Zq123 (N : Nat) (g : (Int × (List (Int × Int)))) (kind : Int) : Option ((Bool × Unit) × (Unit)) :=
 ((Zq110 N (g.1, g.2)).bind fun r =>
 (br r.1.1
 (((Zq126 N kind).bind fun r1 =>
 some ((r1.1.1, ()), ())))
 (some ((false, ()), ()))))
noncomputable def Zq123_S (N : Nat) : FSum := ⟨Zq123_ps, Zq123_rs, fun x => Zq123 N x.1 x.2.1⟩
theorem Zq123_pc (N : Nat) : PC Tryz.prog 65 (Zq123_S N) := pcQ (L := []) (Zq123_gok N) Tryz.call65 Tryz.func65 (fun x => by kernel_rfl) trivial (by kernel_rfl)

abbrev Zq101_ps : List (PV.Mode × Ty) := [(.ro, I), (.ro, I)]
abbrev Zq101_rs : List (Bool × Ty) := [(true, I)]
noncomputable def Zq101_G (N : Nat) : GTab := gOf []
theorem Zq101_gok (N : Nat) : GOk Tryz.prog (Zq101_G N) := gOf_ok trivial
noncomputable def Zq101_code : Code := (Tryz.f117.body).getD .skip
noncomputable def Zq101 (N : Nat) (a : Int) (b : Int) : Option ((Int × Unit) × (Unit)) :=
 (br (ilt b a)
 (some ((a, ()), ()))
 (some ((b, ()), ())))
noncomputable def Zq101_S (N : Nat) : FSum := ⟨Zq101_ps, Zq101_rs, fun x => Zq101 N x.1 x.2.1⟩
theorem Zq101_pc (N : Nat) : PC Tryz.prog 117 (Zq101_S N) := pcQ (L := []) (Zq101_gok N) Tryz.call117 Tryz.func117 (fun x => by kernel_rfl) trivial (by kernel_rfl)

abbrev Zq108_ps : List (PV.Mode × Ty) := [(.ro, I), (.ro, I)]
abbrev Zq108_rs : List (Bool × Ty) := [(true, LI)]
noncomputable def Zq108_G (N : Nat) : GTab := gOf []
theorem Zq108_gok (N : Nat) : GOk Tryz.prog (Zq108_G N) := gOf_ok trivial
noncomputable def Zq108_code : Code := (Tryz.f135.body).getD .skip
noncomputable def Zq108_l0_sh : Sh := ⟨[(0, .one (.ro I)), (1, .one (.ro I)), (5, .one (.ref 0)), (6, .one (.ro I))], [.sl 3 I .own]⟩
noncomputable def Zq108_l0_ex : List (Ex × Sh) := [(.exit 0, ⟨[(5, .one (.ref 0))], [.sl 3 I .own]⟩)]
noncomputable def Zq108_l0 {R : Type} (N : Nat) (k0 : (List Int) → Option R) : Nat → Int → Int → Int → (List Int) → Option R
 | 0, _, _, _, _ => none
 | K + 1, n1, code1, x, o =>
 (br (ilt x n1)
 ((chk (ile 0 x)
 (br (ieq (bitop .and .i64 (shrI .i64 code1 x) 1) 1)
 ((chk (room o [x])
 (Zq108_l0 N k0 K n1 code1 (IntKind.i64.wrap (x + 1)) (tApp o [x]))))
 (Zq108_l0 N k0 K n1 code1 (IntKind.i64.wrap (x + 1)) o))))
 (k0 o))
noncomputable def Zq108_l0_again {R : Type} (N : Nat) (ks : KS Zq108_l0_ex R) (k : Nat) (x : Zq108_l0_sh.T) : Option R :=
 Zq108_l0 N (fun y0 => ks 0 (((), ()), (y0, ()))) k x.1.1 x.1.2.1 x.1.2.2.2.1 x.2.1
noncomputable def Zq108_l0_s (N : Nat) : LSum := ⟨Zq108_l0_sh, Zq108_l0_ex, fun x ks => Zq108_l0_again N ks N x⟩
theorem Zq108_l0_ok (N : Nat) : LoopOk Tryz.prog Tryz.f135.ntmps (Zq108_l0_s N) (loopAt Zq108_code 0) := loopQ (sh := Zq108_l0_sh) (ex := Zq108_l0_ex) (N := N) (L := []) (fun R k x ks => Zq108_l0_again N ks k x) (Zq108_gok N) (fun _ _ _ => rfl) (fun R k x ks => by kernel_rfl) trivial (by kernel_rfl)
noncomputable def Zq108 (N : Nat) (n : Int) (code : Int) : Option (((List Int) × Unit) × (Unit)) :=
 Zq108_l0 N (fun o => some ((o, ()), ())) N n code 0 []
noncomputable def Zq108_S (N : Nat) : FSum := ⟨Zq108_ps, Zq108_rs, fun x => Zq108 N x.1 x.2.1⟩
theorem Zq108_pc (N : Nat) : PC Tryz.prog 135 (Zq108_S N) := pcQ (L := [Zq108_l0_s N]) (Zq108_gok N) Tryz.call135 Tryz.func135 (fun x => by kernel_rfl) ⟨Zq108_l0_ok N, trivial⟩ (by kernel_rfl)

abbrev Zq93_ps : List (PV.Mode × Ty) := [(.mut, BQOU8QIU64), (.ro, QILQII)]
abbrev Zq93_rs : List (Bool × Ty) := [(true, LI)]
noncomputable def Zq93_G (N : Nat) : GTab := gOf [(118, Zq100_S N), (117, Zq101_S N), (122, Zq96_S N), (135, Zq108_S N), (57, Zq95_S N), (121, Zq89_S N)]
theorem Zq93_gok (N : Nat) : GOk Tryz.prog (Zq93_G N) := gOf_ok ⟨Zq100_pc N, Zq101_pc N, Zq96_pc N, Zq108_pc N, Zq95_pc N, Zq89_pc N, trivial⟩
noncomputable def Zq93_code : Code := (Tryz.f123.body).getD .skip
noncomputable def Zq93 (N : Nat) (c : ((List Int) × (Int × Int))) (g : (Int × (List (Int × Int)))) : Option (((List Int) × Unit) × (((List Int) × (Int × Int)) × Unit)) :=
 ((Zq100 N g.1 8).bind fun r =>
 ((Zq101 N r.1.1 0).bind fun r1 =>
 ((Zq96 N c 256).bind fun r2 =>
 ((Zq108 N r1.1.1 r2.1.1).bind fun r3 =>
 ((Zq95 N r2.2.1 20).bind fun r4 =>
 (br r4.1.1
 (((Zq89 N r4.2.1 [(-1), 0, 8]).bind fun r5 =>
 (chk (room r3.1.1 [r5.1.1])
 (some (((tApp r3.1.1 [r5.1.1]), ()), (r5.2.1, ()))))))
 (some ((r3.1.1, ()), (r4.2.1, ())))))))))
noncomputable def Zq93_S (N : Nat) : FSum := ⟨Zq93_ps, Zq93_rs, fun x => Zq93 N x.1 x.2.1⟩
theorem Zq93_pc (N : Nat) : PC Tryz.prog 123 (Zq93_S N) := pcQ (L := []) (Zq93_gok N) Tryz.call123 Tryz.func123 (fun x => by kernel_rfl) trivial (by kernel_rfl)

abbrev Zq98_ps : List (PV.Mode × Ty) := [(.ro, LI), (.ro, I)]
abbrev Zq98_rs : List (Bool × Ty) := [(true, .bool)]
noncomputable def Zq98_G (N : Nat) : GTab := gOf []
theorem Zq98_gok (N : Nat) : GOk Tryz.prog (Zq98_G N) := gOf_ok trivial
noncomputable def Zq98_code : Code := (Tryz.f72.body).getD .skip
noncomputable def Zq98_l0_sh : Sh := ⟨[(0, .one (.ro LI)), (1, .one (.ro I)), (5, .one (.ro I))], []⟩
noncomputable def Zq98_l0_ex : List (Ex × Sh) := [(.ret, ⟨[(4, .one (.ro .bool))], []⟩), (.exit 0, ⟨[], []⟩)]
noncomputable def Zq98_l0 {R : Type} (N : Nat) (k0 : Bool → Option R) (k1 : Unit → Option R) : Nat → (List Int) → Int → Int → Option R
 | 0, _, _, _ => none
 | K + 1, l1, n1, i =>
 (br (ilt i (tLen l1))
 ((chk (inb l1 i)
 (br (ieq (rdI l1 i) n1)
 (k0 true)
 (Zq98_l0 N k0 k1 K l1 n1 (IntKind.i64.wrap (i + 1))))))
 (k1 ()))
noncomputable def Zq98_l0_again {R : Type} (N : Nat) (ks : KS Zq98_l0_ex R) (k : Nat) (x : Zq98_l0_sh.T) : Option R :=
 Zq98_l0 N (fun y0 => ks 0 ((y0, ()), ())) (fun (_ : Unit) => ks 1 ((), ())) k x.1.1 x.1.2.1 x.1.2.2.1
noncomputable def Zq98_l0_s (N : Nat) : LSum := ⟨Zq98_l0_sh, Zq98_l0_ex, fun x ks => Zq98_l0_again N ks N x⟩
theorem Zq98_l0_ok (N : Nat) : LoopOk Tryz.prog Tryz.f72.ntmps (Zq98_l0_s N) (loopAt Zq98_code 0) := loopQ (sh := Zq98_l0_sh) (ex := Zq98_l0_ex) (N := N) (L := []) (fun R k x ks => Zq98_l0_again N ks k x) (Zq98_gok N) (fun _ _ _ => rfl) (fun R k x ks => by kernel_rfl) trivial (by kernel_rfl)
noncomputable def Zq98 (N : Nat) (l : (List Int)) (n : Int) : Option ((Bool × Unit) × (Unit)) :=
 Zq98_l0 N (fun x => some ((x, ()), ())) (fun (_ : Unit) => some ((false, ()), ())) N l n 0
noncomputable def Zq98_S (N : Nat) : FSum := ⟨Zq98_ps, Zq98_rs, fun x => Zq98 N x.1 x.2.1⟩
theorem Zq98_pc (N : Nat) : PC Tryz.prog 72 (Zq98_S N) := pcQ (L := [Zq98_l0_s N]) (Zq98_gok N) Tryz.call72 Tryz.func72 (fun x => by kernel_rfl) ⟨Zq98_l0_ok N, trivial⟩ (by kernel_rfl)

abbrev Zq113_ps : List (PV.Mode × Ty) := [(.ro, QILQII), (.ro, I), (.ro, I)]
abbrev Zq113_rs : List (Bool × Ty) := [(true, .bool)]
noncomputable def Zq113_G (N : Nat) : GTab := gOf []
theorem Zq113_gok (N : Nat) : GOk Tryz.prog (Zq113_G N) := gOf_ok trivial
noncomputable def Zq113_code : Code := (Tryz.f85.body).getD .skip
noncomputable def Zq113_l0_sh : Sh := ⟨[(1, .one (.ro I)), (2, .one (.ro I)), (3, .one (.adr 0 0)), (7, .one (.ro I))], [.box [.ro I, .ro LQII]]⟩
noncomputable def Zq113_l0_ex : List (Ex × Sh) := [(.ret, ⟨[(6, .one (.ro .bool))], []⟩), (.exit 0, ⟨[], []⟩)]
noncomputable def Zq113_l0 {R : Type} (N : Nat) (k0 : Bool → Option R) (k1 : Unit → Option R) : Nat → Int → Int → Int → Int → (List (Int × Int)) → Option R
 | 0, _, _, _, _, _ => none
 | K + 1, a1, b1, i, o, o1 =>
 (br (ilt i (tLen o1))
 ((chk (inb o1 i)
 (br (ieq ((rdP o1 i).1) a1)
 ((br (ieq ((rdP o1 i).2) b1)
 (k0 true)
 ((br (ieq ((rdP o1 i).1) b1)
 ((br (ieq ((rdP o1 i).2) a1)
 (k0 true)
 (Zq113_l0 N k0 k1 K a1 b1 (IntKind.i64.wrap (i + 1)) o o1)))
 (Zq113_l0 N k0 k1 K a1 b1 (IntKind.i64.wrap (i + 1)) o o1)))))
 ((br (ieq ((rdP o1 i).1) b1)
 ((br (ieq ((rdP o1 i).2) a1)
 (k0 true)
 (Zq113_l0 N k0 k1 K a1 b1 (IntKind.i64.wrap (i + 1)) o o1)))
 (Zq113_l0 N k0 k1 K a1 b1 (IntKind.i64.wrap (i + 1)) o o1))))))
 (k1 ()))
noncomputable def Zq113_l0_again {R : Type} (N : Nat) (ks : KS Zq113_l0_ex R) (k : Nat) (x : Zq113_l0_sh.T) : Option R :=
 Zq113_l0 N (fun y0 => ks 0 ((y0, ()), ())) (fun (_ : Unit) => ks 1 ((), ())) k x.1.1 x.1.2.1 x.1.2.2.2.1 x.2.1.1 x.2.1.2.1
noncomputable def Zq113_l0_s (N : Nat) : LSum := ⟨Zq113_l0_sh, Zq113_l0_ex, fun x ks => Zq113_l0_again N ks N x⟩
theorem Zq113_l0_ok (N : Nat) : LoopOk Tryz.prog Tryz.f85.ntmps (Zq113_l0_s N) (loopAt Zq113_code 0) := loopQ (sh := Zq113_l0_sh) (ex := Zq113_l0_ex) (N := N) (L := []) (fun R k x ks => Zq113_l0_again N ks k x) (Zq113_gok N) (fun _ _ _ => rfl) (fun R k x ks => by kernel_rfl) trivial (by kernel_rfl)
noncomputable def Zq113 (N : Nat) (g : (Int × (List (Int × Int)))) (a : Int) (b : Int) : Option ((Bool × Unit) × (Unit)) :=
 Zq113_l0 N (fun x => some ((x, ()), ())) (fun (_ : Unit) => some ((false, ()), ())) N a b 0 g.1 g.2
noncomputable def Zq113_S (N : Nat) : FSum := ⟨Zq113_ps, Zq113_rs, fun x => Zq113 N x.1 x.2.1 x.2.2.1⟩
theorem Zq113_pc (N : Nat) : PC Tryz.prog 85 (Zq113_S N) := pcQ (L := [Zq113_l0_s N]) (Zq113_gok N) Tryz.call85 Tryz.func85 (fun x => by kernel_rfl) ⟨Zq113_l0_ok N, trivial⟩ (by kernel_rfl)

abbrev Zq124_ps : List (PV.Mode × Ty) := [(.ro, QILQII), (.ro, I), (.ro, LI)]
abbrev Zq124_rs : List (Bool × Ty) := [(true, .bool)]
noncomputable def Zq124_G (N : Nat) : GTab := gOf [(72, Zq98_S N), (85, Zq113_S N)]
theorem Zq124_gok (N : Nat) : GOk Tryz.prog (Zq124_G N) := gOf_ok ⟨Zq98_pc N, Zq113_pc N, trivial⟩
noncomputable def Zq124_code : Code := (Tryz.f67.body).getD .skip
noncomputable def Zq124_l0_sh : Sh := ⟨[(2, .one (.ro LI)), (3, .one (.adr 0 0)), (7, .one (.ro I))], [.box [.ro I, .ro LQII]]⟩
noncomputable def Zq124_l0_ex : List (Ex × Sh) := [(.ret, ⟨[(6, .one (.ro .bool))], []⟩), (.exit 1, ⟨[], []⟩)]
noncomputable def Zq124_l0 {R : Type} (N : Nat) (k0 : Bool → Option R) (k1 : Unit → Option R) : Nat → (List Int) → Int → Int → (List (Int × Int)) → Option R
 | 0, _, _, _, _ => none
 | K + 1, x, x1, o, o1 =>
 (br (ilt x1 (tLen o1))
 ((chk (inb o1 x1)
 ((Zq98 N x ((rdP o1 x1).1)).bind fun r =>
 (br (!r.1.1)
 ((chk (inb o1 x1)
 ((Zq98 N x ((rdP o1 x1).2)).bind fun r1 =>
 (br (!r1.1.1)
 (k0 false)
 (Zq124_l0 N k0 k1 K x (IntKind.i64.wrap (x1 + 1)) o o1)))))
 (Zq124_l0 N k0 k1 K x (IntKind.i64.wrap (x1 + 1)) o o1)))))
 (k1 ()))
noncomputable def Zq124_l0_again {R : Type} (N : Nat) (ks : KS Zq124_l0_ex R) (k : Nat) (x : Zq124_l0_sh.T) : Option R :=
 Zq124_l0 N (fun y0 => ks 0 ((y0, ()), ())) (fun (_ : Unit) => ks 1 ((), ())) k x.1.1 x.1.2.2.1 x.2.1.1 x.2.1.2.1
noncomputable def Zq124_l0_s (N : Nat) : LSum := ⟨Zq124_l0_sh, Zq124_l0_ex, fun x ks => Zq124_l0_again N ks N x⟩
theorem Zq124_l0_ok (N : Nat) : LoopOk Tryz.prog Tryz.f67.ntmps (Zq124_l0_s N) (loopAt Zq124_code 0) := loopQ (sh := Zq124_l0_sh) (ex := Zq124_l0_ex) (N := N) (L := []) (fun R k x ks => Zq124_l0_again N ks k x) (Zq124_gok N) (fun _ _ _ => rfl) (fun R k x ks => by kernel_rfl) trivial (by kernel_rfl)
noncomputable def Zq124_l1_0_sh : Sh := ⟨[(2, .one (.ro LI)), (3, .one (.adr 0 0)), (8, .one (.ro I)), (9, .one (.ro I))], [.box [.ro I, .ro LQII]]⟩
noncomputable def Zq124_l1_0_ex : List (Ex × Sh) := [(.ret, ⟨[(6, .one (.ro .bool))], []⟩), (.exit 5, ⟨[(2, .one (.ro LI)), (3, .one (.adr 0 0)), (8, .one (.ro I))], [.box [.ro I, .ro LQII]]⟩)]
noncomputable def Zq124_l1_0 {R : Type} (N : Nat) (k0 : Bool → Option R) (k1 : (List Int) → Int → Int → (List (Int × Int)) → Option R) : Nat → (List Int) → Int → Int → Int → (List (Int × Int)) → Option R
 | 0, _, _, _, _, _ => none
 | K + 1, x3, x4, x5, o2, o3 =>
 (br (ilt x5 x4)
 ((chk (inb x3 x4)
 (chk (inb x3 x5)
 ((Zq113 N (o2, o3) (rdI x3 x4) (rdI x3 x5)).bind fun r =>
 (br (!r.1.1)
 (k0 false)
 (Zq124_l1_0 N k0 k1 K x3 x4 (IntKind.i64.wrap (x5 + 1)) o2 o3))))))
 (k1 x3 x4 o2 o3))
noncomputable def Zq124_l1_0_again {R : Type} (N : Nat) (ks : KS Zq124_l1_0_ex R) (k : Nat) (x : Zq124_l1_0_sh.T) : Option R :=
 Zq124_l1_0 N (fun y0 => ks 0 ((y0, ()), ())) (fun y0 y1 y2 y3 => ks 1 ((y0, (), y1, ()), ((y2, y3, ()), ()))) k x.1.1 x.1.2.2.1 x.1.2.2.2.1 x.2.1.1 x.2.1.2.1
noncomputable def Zq124_l1_0_s (N : Nat) : LSum := ⟨Zq124_l1_0_sh, Zq124_l1_0_ex, fun x ks => Zq124_l1_0_again N ks N x⟩
theorem Zq124_l1_0_ok (N : Nat) : LoopOk Tryz.prog Tryz.f67.ntmps (Zq124_l1_0_s N) (loopAt (loopAt Zq124_code 1) 0) := loopQ (sh := Zq124_l1_0_sh) (ex := Zq124_l1_0_ex) (N := N) (L := []) (fun R k x ks => Zq124_l1_0_again N ks k x) (Zq124_gok N) (fun _ _ _ => rfl) (fun R k x ks => by kernel_rfl) trivial (by kernel_rfl)
noncomputable def Zq124_l1_sh : Sh := ⟨[(2, .one (.ro LI)), (3, .one (.adr 0 0)), (8, .one (.ro I))], [.box [.ro I, .ro LQII]]⟩
noncomputable def Zq124_l1_ex : List (Ex × Sh) := [(.ret, ⟨[(6, .one (.ro .bool))], []⟩), (.exit 3, ⟨[], []⟩)]
noncomputable def Zq124_l1 {R : Type} (N : Nat) (k0 : Bool → Option R) (k1 : Unit → Option R) : Nat → (List Int) → Int → Int → (List (Int × Int)) → Option R
 | 0, _, _, _, _ => none
 | K + 1, x1, x2, o, o1 =>
 (br (ilt x2 (tLen x1))
 (Zq124_l1_0 N (fun x3 => k0 x3) (fun x4 x5 o2 o3 => Zq124_l1 N k0 k1 K x4 (IntKind.i64.wrap (x5 + 1)) o2 o3) N x1 x2 0 o o1)
 (k1 ()))
noncomputable def Zq124_l1_again {R : Type} (N : Nat) (ks : KS Zq124_l1_ex R) (k : Nat) (x : Zq124_l1_sh.T) : Option R :=
 Zq124_l1 N (fun y0 => ks 0 ((y0, ()), ())) (fun (_ : Unit) => ks 1 ((), ())) k x.1.1 x.1.2.2.1 x.2.1.1 x.2.1.2.1
noncomputable def Zq124_l1_s (N : Nat) : LSum := ⟨Zq124_l1_sh, Zq124_l1_ex, fun x ks => Zq124_l1_again N ks N x⟩
theorem Zq124_l1_ok (N : Nat) : LoopOk Tryz.prog Tryz.f67.ntmps (Zq124_l1_s N) (loopAt Zq124_code 1) := loopQ (sh := Zq124_l1_sh) (ex := Zq124_l1_ex) (N := N) (L := [Zq124_l1_0_s N]) (fun R k x ks => Zq124_l1_again N ks k x) (Zq124_gok N) (fun _ _ _ => rfl) (fun R k x ks => by kernel_rfl) ⟨Zq124_l1_0_ok N, trivial⟩ (by kernel_rfl)
noncomputable def Zq124_l2_0_sh : Sh := ⟨[(2, .one (.ro LI)), (3, .one (.adr 0 0)), (10, .one (.ro I)), (11, .one (.ro .bool)), (12, .one (.ro I))], [.box [.ro I, .ro LQII]]⟩
noncomputable def Zq124_l2_0_ex : List (Ex × Sh) := [(.exit 9, ⟨[(2, .one (.ro LI)), (3, .one (.adr 0 0)), (10, .one (.ro I)), (11, .one (.ro .bool))], [.box [.ro I, .ro LQII]]⟩)]
noncomputable def Zq124_l2_0 {R : Type} (N : Nat) (k0 : (List Int) → Int → Bool → Int → (List (Int × Int)) → Option R) : Nat → (List Int) → Int → Bool → Int → Int → (List (Int × Int)) → Option R
 | 0, _, _, _, _, _, _ => none
 | K + 1, x4, x5, x6, x7, o2, o3 =>
 (br (ilt x7 (tLen x4))
 ((br x6
 (Zq124_l2_0 N k0 K x4 x5 true (IntKind.i64.wrap (x7 + 1)) o2 o3)
 ((chk (inb x4 x7)
 ((Zq113 N (o2, o3) (rdI x4 x7) x5).bind fun r1 =>
 Zq124_l2_0 N k0 K x4 x5 r1.1.1 (IntKind.i64.wrap (x7 + 1)) o2 o3)))))
 (k0 x4 x5 x6 o2 o3))
noncomputable def Zq124_l2_0_again {R : Type} (N : Nat) (ks : KS Zq124_l2_0_ex R) (k : Nat) (x : Zq124_l2_0_sh.T) : Option R :=
 Zq124_l2_0 N (fun y0 y1 y2 y3 y4 => ks 0 ((y0, (), y1, y2, ()), ((y3, y4, ()), ()))) k x.1.1 x.1.2.2.1 x.1.2.2.2.1 x.1.2.2.2.2.1 x.2.1.1 x.2.1.2.1
noncomputable def Zq124_l2_0_s (N : Nat) : LSum := ⟨Zq124_l2_0_sh, Zq124_l2_0_ex, fun x ks => Zq124_l2_0_again N ks N x⟩
theorem Zq124_l2_0_ok (N : Nat) : LoopOk Tryz.prog Tryz.f67.ntmps (Zq124_l2_0_s N) (loopAt (loopAt Zq124_code 2) 0) := loopQ (sh := Zq124_l2_0_sh) (ex := Zq124_l2_0_ex) (N := N) (L := []) (fun R k x ks => Zq124_l2_0_again N ks k x) (Zq124_gok N) (fun _ _ _ => rfl) (fun R k x ks => by kernel_rfl) trivial (by kernel_rfl)
noncomputable def Zq124_l2_sh : Sh := ⟨[(2, .one (.ro LI)), (3, .one (.adr 0 0)), (10, .one (.ro I))], [.box [.ro I, .ro LQII]]⟩
noncomputable def Zq124_l2_ex : List (Ex × Sh) := [(.ret, ⟨[(6, .one (.ro .bool))], []⟩), (.exit 7, ⟨[], []⟩)]
noncomputable def Zq124_l2 {R : Type} (N : Nat) (k0 : Bool → Option R) (k1 : Unit → Option R) : Nat → (List Int) → Int → Int → (List (Int × Int)) → Option R
 | 0, _, _, _, _ => none
 | K + 1, x2, x3, o, o1 =>
 (br (ilt x3 o)
 (((Zq98 N x2 x3).bind fun r =>
 Zq124_l2_0 N (fun x4 x5 x6 o2 o3 => (br (!x6)
 (k0 false)
 (Zq124_l2 N k0 k1 K x4 (IntKind.i64.wrap (x5 + 1)) o2 o3))) N x2 x3 r.1.1 0 o o1))
 (k1 ()))
noncomputable def Zq124_l2_again {R : Type} (N : Nat) (ks : KS Zq124_l2_ex R) (k : Nat) (x : Zq124_l2_sh.T) : Option R :=
 Zq124_l2 N (fun y0 => ks 0 ((y0, ()), ())) (fun (_ : Unit) => ks 1 ((), ())) k x.1.1 x.1.2.2.1 x.2.1.1 x.2.1.2.1
noncomputable def Zq124_l2_s (N : Nat) : LSum := ⟨Zq124_l2_sh, Zq124_l2_ex, fun x ks => Zq124_l2_again N ks N x⟩
theorem Zq124_l2_ok (N : Nat) : LoopOk Tryz.prog Tryz.f67.ntmps (Zq124_l2_s N) (loopAt Zq124_code 2) := loopQ (sh := Zq124_l2_sh) (ex := Zq124_l2_ex) (N := N) (L := [Zq124_l2_0_s N]) (fun R k x ks => Zq124_l2_again N ks k x) (Zq124_gok N) (fun _ _ _ => rfl) (fun R k x ks => by kernel_rfl) ⟨Zq124_l2_0_ok N, trivial⟩ (by kernel_rfl)
noncomputable def Zq124 (N : Nat) (c : (Int × (List (Int × Int)))) (c1 : Int) (c2 : (List Int)) : Option ((Bool × Unit) × (Unit)) :=
 (br (ieq c1 1)
 (Zq124_l0 N (fun x => some ((x, ()), ())) (fun (_ : Unit) => some ((true, ()), ())) N c2 0 c.1 c.2)
 ((br (ieq c1 2)
 (Zq124_l1 N (fun x1 => some ((x1, ()), ())) (fun (_ : Unit) => some ((true, ()), ())) N c2 0 c.1 c.2)
 (Zq124_l2 N (fun x2 => some ((x2, ()), ())) (fun (_ : Unit) => some ((true, ()), ())) N c2 0 c.1 c.2))))
noncomputable def Zq124_S (N : Nat) : FSum := ⟨Zq124_ps, Zq124_rs, fun x => Zq124 N x.1 x.2.1 x.2.2.1⟩
theorem Zq124_pc (N : Nat) : PC Tryz.prog 67 (Zq124_S N) := pcQ (L := [Zq124_l0_s N, Zq124_l1_s N, Zq124_l2_s N]) (Zq124_gok N) Tryz.call67 Tryz.func67 (fun x => by kernel_rfl) ⟨Zq124_l0_ok N, Zq124_l1_ok N, Zq124_l2_ok N, trivial⟩ (by kernel_rfl)

abbrev Zq107_ps : List (PV.Mode × Ty) := [(.ro, LI), (.ro, LI)]
abbrev Zq107_rs : List (Bool × Ty) := [(true, .bool)]
noncomputable def Zq107_G (N : Nat) : GTab := gOf []
theorem Zq107_gok (N : Nat) : GOk Tryz.prog (Zq107_G N) := gOf_ok trivial
noncomputable def Zq107_code : Code := (Tryz.f168.body).getD .skip
noncomputable def Zq107_l0_sh : Sh := ⟨[(0, .one (.ro LI)), (1, .one (.ro LI)), (5, .one (.ro I))], []⟩
noncomputable def Zq107_l0_ex : List (Ex × Sh) := [(.ret, ⟨[(4, .one (.ro .bool))], []⟩), (.exit 0, ⟨[(0, .one (.ro LI)), (1, .one (.ro LI))], []⟩)]
noncomputable def Zq107_l0 {R : Type} (N : Nat) (k0 : Bool → Option R) (k1 : (List Int) → (List Int) → Option R) : Nat → (List Int) → (List Int) → Int → Option R
 | 0, _, _, _ => none
 | K + 1, a1, b1, i =>
 (br (ilt i (tLen a1))
 ((br (ilt i (tLen b1))
 ((chk (inb a1 i)
 (chk (inb b1 i)
 (br (ine (rdI a1 i) (rdI b1 i))
 ((chk (inb a1 i)
 (chk (inb b1 i)
 (k0 (ilt (rdI a1 i) (rdI b1 i))))))
 (Zq107_l0 N k0 k1 K a1 b1 (IntKind.i64.wrap (i + 1)))))))
 (k1 a1 b1)))
 (k1 a1 b1))
noncomputable def Zq107_l0_again {R : Type} (N : Nat) (ks : KS Zq107_l0_ex R) (k : Nat) (x : Zq107_l0_sh.T) : Option R :=
 Zq107_l0 N (fun y0 => ks 0 ((y0, ()), ())) (fun y0 y1 => ks 1 ((y0, y1, ()), ())) k x.1.1 x.1.2.1 x.1.2.2.1
noncomputable def Zq107_l0_s (N : Nat) : LSum := ⟨Zq107_l0_sh, Zq107_l0_ex, fun x ks => Zq107_l0_again N ks N x⟩
theorem Zq107_l0_ok (N : Nat) : LoopOk Tryz.prog Tryz.f168.ntmps (Zq107_l0_s N) (loopAt Zq107_code 0) := loopQ (sh := Zq107_l0_sh) (ex := Zq107_l0_ex) (N := N) (L := []) (fun R k x ks => Zq107_l0_again N ks k x) (Zq107_gok N) (fun _ _ _ => rfl) (fun R k x ks => by kernel_rfl) trivial (by kernel_rfl)
noncomputable def Zq107 (N : Nat) (a : (List Int)) (b : (List Int)) : Option ((Bool × Unit) × (Unit)) :=
 Zq107_l0 N (fun x => some ((x, ()), ())) (fun a1 b1 => some (((ilt (tLen a1) (tLen b1)), ()), ())) N a b 0
noncomputable def Zq107_S (N : Nat) : FSum := ⟨Zq107_ps, Zq107_rs, fun x => Zq107 N x.1 x.2.1⟩
theorem Zq107_pc (N : Nat) : PC Tryz.prog 168 (Zq107_S N) := pcQ (L := [Zq107_l0_s N]) (Zq107_gok N) Tryz.call168 Tryz.func168 (fun x => by kernel_rfl) ⟨Zq107_l0_ok N, trivial⟩ (by kernel_rfl)

abbrev Zq103_ps : List (PV.Mode × Ty) := [(.ro, LI)]
abbrev Zq103_rs : List (Bool × Ty) := [(false, LI)]
noncomputable def Zq103_G (N : Nat) : GTab := gOf []
theorem Zq103_gok (N : Nat) : GOk Tryz.prog (Zq103_G N) := gOf_ok trivial
noncomputable def Zq103_code : Code := (Tryz.f71.body).getD .skip
noncomputable def Zq103 (N : Nat) (l : (List Int)) : Option (((List Int) × Unit) × (Unit)) :=
 (chk (room (α := Int) (β := Int) [] l)
 (some (((tApp [] l), ()), ())))
noncomputable def Zq103_S (N : Nat) : FSum := ⟨Zq103_ps, Zq103_rs, fun x => Zq103 N x.1⟩
theorem Zq103_pc (N : Nat) : PC Tryz.prog 71 (Zq103_S N) := pcQ (L := []) (Zq103_gok N) Tryz.call71 Tryz.func71 (fun x => by kernel_rfl) trivial (by kernel_rfl)

abbrev Zq106_ps : List (PV.Mode × Ty) := [(.ro, LI), (.ro, LI)]
abbrev Zq106_rs : List (Bool × Ty) := [(true, .bool)]
noncomputable def Zq106_G (N : Nat) : GTab := gOf []
theorem Zq106_gok (N : Nat) : GOk Tryz.prog (Zq106_G N) := gOf_ok trivial
noncomputable def Zq106_code : Code := (Tryz.f145.body).getD .skip
noncomputable def Zq106_l0_sh : Sh := ⟨[(0, .one (.ro LI)), (1, .one (.ro LI)), (5, .one (.ro I))], []⟩
noncomputable def Zq106_l0_ex : List (Ex × Sh) := [(.ret, ⟨[(4, .one (.ro .bool))], []⟩), (.exit 0, ⟨[], []⟩)]
noncomputable def Zq106_l0 {R : Type} (N : Nat) (k0 : Bool → Option R) (k1 : Unit → Option R) : Nat → (List Int) → (List Int) → Int → Option R
 | 0, _, _, _ => none
 | K + 1, a1, b1, i =>
 (br (ilt i (tLen a1))
 ((chk (inb a1 i)
 (chk (inb b1 i)
 (br (ine (rdI a1 i) (rdI b1 i))
 (k0 false)
 (Zq106_l0 N k0 k1 K a1 b1 (IntKind.i64.wrap (i + 1)))))))
 (k1 ()))
noncomputable def Zq106_l0_again {R : Type} (N : Nat) (ks : KS Zq106_l0_ex R) (k : Nat) (x : Zq106_l0_sh.T) : Option R :=
 Zq106_l0 N (fun y0 => ks 0 ((y0, ()), ())) (fun (_ : Unit) => ks 1 ((), ())) k x.1.1 x.1.2.1 x.1.2.2.1
noncomputable def Zq106_l0_s (N : Nat) : LSum := ⟨Zq106_l0_sh, Zq106_l0_ex, fun x ks => Zq106_l0_again N ks N x⟩
theorem Zq106_l0_ok (N : Nat) : LoopOk Tryz.prog Tryz.f145.ntmps (Zq106_l0_s N) (loopAt Zq106_code 0) := loopQ (sh := Zq106_l0_sh) (ex := Zq106_l0_ex) (N := N) (L := []) (fun R k x ks => Zq106_l0_again N ks k x) (Zq106_gok N) (fun _ _ _ => rfl) (fun R k x ks => by kernel_rfl) trivial (by kernel_rfl)
noncomputable def Zq106 (N : Nat) (a : (List Int)) (b : (List Int)) : Option ((Bool × Unit) × (Unit)) :=
 (br (ine (tLen a) (tLen b))
 (some ((false, ()), ()))
 (Zq106_l0 N (fun x => some ((x, ()), ())) (fun (_ : Unit) => some ((true, ()), ())) N a b 0))
noncomputable def Zq106_S (N : Nat) : FSum := ⟨Zq106_ps, Zq106_rs, fun x => Zq106 N x.1 x.2.1⟩
theorem Zq106_pc (N : Nat) : PC Tryz.prog 145 (Zq106_S N) := pcQ (L := [Zq106_l0_s N]) (Zq106_gok N) Tryz.call145 Tryz.func145 (fun x => by kernel_rfl) ⟨Zq106_l0_ok N, trivial⟩ (by kernel_rfl)
end Go.Proofs.YtffeokcchabclaaGreat
