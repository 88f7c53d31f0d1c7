/- Functions of the program as functions on data. -/
import Derived.Test.YtkffaahlpdlkoaaGreatGreedyColoursLawSa
set_option linter.all false
namespace Go.Proofs.YtkffaahlpdlkoaaGreat
open Go Go.PV
/-! ### Zq37 -/
abbrev Zq37_ps : List (PV.Mode × Ty) := [(.ro, LU8)]
abbrev Zq37_rs : List (Bool × Ty) := [(true, .bool)]
noncomputable def Zq37_G (N : Nat) : GTab := gOf []
theorem Zq37_gok (N : Nat) : GOk Tryz.prog (Zq37_G N) := gOf_ok trivial
noncomputable def Zq37_code : Code := (Tryz.f6.body).getD .skip
noncomputable def Zq37 (N : Nat) (code : (List Int)) : Option ((Bool × Unit) × (Unit)) :=
 some (((ilt 65536 (tLen code)), ()), ())
noncomputable def Zq37_S (N : Nat) : FSum := ⟨Zq37_ps, Zq37_rs, fun x => Zq37 N x.1⟩
theorem Zq37_pc (N : Nat) : PC Tryz.prog 6 (Zq37_S N) := pcQ (L := []) (Zq37_gok N) Tryz.call6 Tryz.func6 (fun x => by kernel_rfl) trivial (by kernel_rfl)

/-! ### Zq63 -/
abbrev Zq63_ps : List (PV.Mode × Ty) := [(.mut, BQOU8QIU64)]
abbrev Zq63_rs : List (Bool × Ty) := [(true, I)]
noncomputable def Zq63_G (N : Nat) : GTab := gOf []
theorem Zq63_gok (N : Nat) : GOk Tryz.prog (Zq63_G N) := gOf_ok trivial
noncomputable def Zq63_code : Code := (Tryz.f94.body).getD .skip
noncomputable def Zq63 (N : Nat) (c : ((List Int) × (Int × Int))) : Option ((Int × Unit) × (((List Int) × (Int × Int)) × Unit)) :=
 (br (ilt c.2.1 (tLen c.1))
 ((chk (inb c.1 c.2.1)
 (br (ile (IntKind.i64.wrap (c.2.1 + 1)) (tLen c.1))
 (some (((IntKind.i64.wrap ((rd U8 c.1 c.2.1))), ()), ((c.1, ((IntKind.i64.wrap (c.2.1 + 1)), (IntKind.u64.wrap ((IntKind.u64.wrap ((IntKind.u64.wrap (c.2.2 * 6364136223846793005)) + (IntKind.u64.wrap ((IntKind.i64.wrap ((rd U8 c.1 c.2.1))))))) + 462197)))), ())))
 (some (((IntKind.i64.wrap ((bitop .and .u64 (shrI .u64 (IntKind.u64.wrap ((IntKind.u64.wrap ((IntKind.u64.wrap (c.2.2 * 6364136223846793005)) + (IntKind.u64.wrap ((IntKind.i64.wrap ((rd U8 c.1 c.2.1))))))) + 462197)) 40) 255))), ()), ((c.1, ((IntKind.i64.wrap (c.2.1 + 1)), (IntKind.u64.wrap ((IntKind.u64.wrap ((IntKind.u64.wrap (c.2.2 * 6364136223846793005)) + (IntKind.u64.wrap ((IntKind.i64.wrap ((rd U8 c.1 c.2.1))))))) + 462197)))), ()))))))
 ((br (ile (IntKind.i64.wrap (c.2.1 + 1)) (tLen c.1))
 (some ((0, ()), ((c.1, ((IntKind.i64.wrap (c.2.1 + 1)), (IntKind.u64.wrap ((IntKind.u64.wrap ((IntKind.u64.wrap (c.2.2 * 6364136223846793005)) + 0)) + 462197)))), ())))
 (some (((IntKind.i64.wrap ((bitop .and .u64 (shrI .u64 (IntKind.u64.wrap ((IntKind.u64.wrap ((IntKind.u64.wrap (c.2.2 * 6364136223846793005)) + 0)) + 462197)) 40) 255))), ()), ((c.1, ((IntKind.i64.wrap (c.2.1 + 1)), (IntKind.u64.wrap ((IntKind.u64.wrap ((IntKind.u64.wrap (c.2.2 * 6364136223846793005)) + 0)) + 462197)))), ()))))))
noncomputable def Zq63_S (N : Nat) : FSum := ⟨Zq63_ps, Zq63_rs, fun x => Zq63 N x.1⟩
theorem Zq63_pc (N : Nat) : PC Tryz.prog 94 (Zq63_S N) := pcQ (L := []) (Zq63_gok N) Tryz.call94 Tryz.func94 (fun x => by kernel_rfl) trivial (by kernel_rfl)

/-! ### Zq65 -/
abbrev Zq65_ps : List (PV.Mode × Ty) := [(.mut, BQOU8QIU64), (.ro, I)]
abbrev Zq65_rs : List (Bool × Ty) := [(true, I)]
noncomputable def Zq65_G (N : Nat) : GTab := gOf [(94, Zq63_S N)]
theorem Zq65_gok (N : Nat) : GOk Tryz.prog (Zq65_G N) := gOf_ok ⟨Zq63_pc N, trivial⟩
noncomputable def Zq65_code : Code := (Tryz.f42.body).getD .skip
noncomputable def Zq65 (N : Nat) (c : ((List Int) × (Int × Int))) (n : Int) : Option ((Int × Unit) × (((List Int) × (Int × Int)) × Unit)) :=
 (br (ile n 1)
 (some ((0, ()), (c, ())))
 (((Zq63 N c).bind fun r =>
 (br (ilt 200 n)
 (((Zq63 N r.2.1).bind fun r1 =>
 (chk (ine n 0)
 (some ((((IntKind.i64.wrap ((IntKind.i64.wrap (r.1.1 * 256)) + r1.1.1)).tmod n), ()), (r1.2.1, ()))))))
 ((chk (ine n 0)
 (some (((r.1.1.tmod n), ()), (r.2.1, ())))))))))
noncomputable def Zq65_S (N : Nat) : FSum := ⟨Zq65_ps, Zq65_rs, fun x => Zq65 N x.1 x.2.1⟩
theorem Zq65_pc (N : Nat) : PC Tryz.prog 42 (Zq65_S N) := pcQ (L := []) (Zq65_gok N) Tryz.call42 Tryz.func42 (fun x => by kernel_rfl) trivial (by kernel_rfl)

/-! ### Zq59 -/
abbrev Zq59_ps : List (PV.Mode × Ty) := [(.mut, BQOU8QIU64), (.ro, LI)]
abbrev Zq59_rs : List (Bool × Ty) := [(true, I)]
noncomputable def Zq59_G (N : Nat) : GTab := gOf [(42, Zq65_S N)]
theorem Zq59_gok (N : Nat) : GOk Tryz.prog (Zq59_G N) := gOf_ok ⟨Zq65_pc N, trivial⟩
noncomputable def Zq59_code : Code := (Tryz.f91.body).getD .skip
noncomputable def Zq59 (N : Nat) (c : ((List Int) × (Int × Int))) (list : (List Int)) : Option ((Int × Unit) × (((List Int) × (Int × Int)) × Unit)) :=
 ((Zq65 N c (tLen list)).bind fun r =>
 (chk (inb list r.1.1)
 (some (((rdI list r.1.1), ()), (r.2.1, ())))))
noncomputable def Zq59_S (N : Nat) : FSum := ⟨Zq59_ps, Zq59_rs, fun x => Zq59 N x.1 x.2.1⟩
theorem Zq59_pc (N : Nat) : PC Tryz.prog 91 (Zq59_S N) := pcQ (L := []) (Zq59_gok N) Tryz.call91 Tryz.func91 (fun x => by kernel_rfl) trivial (by kernel_rfl)

/-! ### Zq64 -/
abbrev Zq64_ps : List (PV.Mode × Ty) := [(.mut, BQOU8QIU64), (.ro, I)]
abbrev Zq64_rs : List (Bool × Ty) := [(true, .bool)]
noncomputable def Zq64_G (N : Nat) : GTab := gOf [(42, Zq65_S N)]
theorem Zq64_gok (N : Nat) : GOk Tryz.prog (Zq64_G N) := gOf_ok ⟨Zq65_pc N, trivial⟩
noncomputable def Zq64_code : Code := (Tryz.f61.body).getD .skip
noncomputable def Zq64 (N : Nat) (c : ((List Int) × (Int × Int))) (n : Int) : Option ((Bool × Unit) × (((List Int) × (Int × Int)) × Unit)) :=
 ((Zq65 N c n).bind fun r =>
 some (((ieq r.1.1 0), ()), (r.2.1, ())))
noncomputable def Zq64_S (N : Nat) : FSum := ⟨Zq64_ps, Zq64_rs, fun x => Zq64 N x.1 x.2.1⟩
theorem Zq64_pc (N : Nat) : PC Tryz.prog 61 (Zq64_S N) := pcQ (L := []) (Zq64_gok N) Tryz.call61 Tryz.func61 (fun x => by kernel_rfl) trivial (by kernel_rfl)

/-! ### Zq69 -/
abbrev Zq69_ps : List (PV.Mode × Ty) := [(.ro, I), (.ro, I)]
abbrev Zq69_rs : List (Bool × Ty) := [(true, I)]
noncomputable def Zq69_G (N : Nat) : GTab := gOf []
theorem Zq69_gok (N : Nat) : GOk Tryz.prog (Zq69_G N) := gOf_ok trivial
noncomputable def Zq69_code : Code := (Tryz.f145.body).getD .skip
noncomputable def Zq69 (N : Nat) (a : Int) (b : Int) : Option ((Int × Unit) × (Unit)) :=
 (br (ilt a b)
 (some ((a, ()), ()))
 (some ((b, ()), ())))
noncomputable def Zq69_S (N : Nat) : FSum := ⟨Zq69_ps, Zq69_rs, fun x => Zq69 N x.1 x.2.1⟩
theorem Zq69_pc (N : Nat) : PC Tryz.prog 145 (Zq69_S N) := pcQ (L := []) (Zq69_gok N) Tryz.call145 Tryz.func145 (fun x => by kernel_rfl) trivial (by kernel_rfl)

/-! ### Zq73 -/
abbrev Zq73_ps : List (PV.Mode × Ty) := [(.ro, QII), (.ro, QII)]
abbrev Zq73_rs : List (Bool × Ty) := [(true, .bool)]
noncomputable def Zq73_G (N : Nat) : GTab := gOf []
theorem Zq73_gok (N : Nat) : GOk Tryz.prog (Zq73_G N) := gOf_ok trivial
noncomputable def Zq73_code : Code := (Tryz.f131.body).getD .skip
noncomputable def Zq73 (N : Nat) (a : (Int × Int)) (b : (Int × Int)) : Option ((Bool × Unit) × (Unit)) :=
 (br (ilt a.1 b.1)
 (some ((true, ()), ()))
 ((br (ieq a.1 b.1)
 (some (((ilt a.2 b.2), ()), ()))
 (some ((false, ()), ())))))
noncomputable def Zq73_S (N : Nat) : FSum := ⟨Zq73_ps, Zq73_rs, fun x => Zq73 N x.1 x.2.1⟩
theorem Zq73_pc (N : Nat) : PC Tryz.prog 131 (Zq73_S N) := pcQ (L := []) (Zq73_gok N) Tryz.call131 Tryz.func131 (fun x => by kernel_rfl) trivial (by kernel_rfl)

/-! ### Zq80 -/
abbrev Zq80_ps : List (PV.Mode × Ty) := [(.own, LQII), (.ro, QII)]
abbrev Zq80_rs : List (Bool × Ty) := [(true, LQII)]
noncomputable def Zq80_G (N : Nat) : GTab := gOf [(131, Zq73_S N)]
theorem Zq80_gok (N : Nat) : GOk Tryz.prog (Zq80_G N) := gOf_ok ⟨Zq73_pc N, trivial⟩
noncomputable def Zq80_code : Code := (Tryz.f89.body).getD .skip
noncomputable def Zq80_l0_sh : Sh := ⟨[(0, .one (.ref 0)), (3, .one (.adr 1 0)), (5, .one (.ro I))], [.sl 49 QII .own, .box [.ro I, .ro I]]⟩
noncomputable def Zq80_l0_ex : List (Ex × Sh) := [(.exit 0, ⟨[(0, .one (.ref 0)), (3, .one (.adr 1 0)), (5, .one (.ro I))], [.sl 49 QII .own, .box [.ro I, .ro I]]⟩)]
noncomputable def Zq80_l0 {R : Type} (N : Nat) (k0 : Int → (List (Int × Int)) → Int → Int → Option R) : Nat → Int → (List (Int × Int)) → Int → Int → Option R
 | 0, _, _, _, _ => none
 | K + 1, kv, o, o1, o2 =>
 (br (ilt 0 kv)
 ((chk (inb o (IntKind.i64.wrap (kv - 1)))
 ((Zq73 N (o1, o2) (rdP o (IntKind.i64.wrap (kv - 1)))).bind fun r =>
 (br r.1.1
 (Zq80_l0 N k0 K (IntKind.i64.wrap (kv - 1)) o o1 o2)
 (k0 kv o o1 o2)))))
 (k0 kv o o1 o2))
noncomputable def Zq80_l0_again {R : Type} (N : Nat) (ks : KS Zq80_l0_ex R) (k : Nat) (x : Zq80_l0_sh.T) : Option R :=
 Zq80_l0 N (fun y0 y1 y2 y3 => ks 0 (((), (), y0, ()), (y1, (y2, y3, ()), ()))) k x.1.2.2.1 x.2.1 x.2.2.1.1 x.2.2.1.2.1
noncomputable def Zq80_l0_s (N : Nat) : LSum := ⟨Zq80_l0_sh, Zq80_l0_ex, fun x ks => Zq80_l0_again N ks N x⟩
theorem Zq80_l0_ok (N : Nat) : LoopOk Tryz.prog Tryz.f89.ntmps (Zq80_l0_s N) (loopAt Zq80_code 0) := loopQ (sh := Zq80_l0_sh) (ex := Zq80_l0_ex) (N := N) (L := []) (fun R k x ks => Zq80_l0_again N ks k x) (Zq80_gok N) (fun _ _ _ => rfl) (fun R k x ks => by kernel_rfl) trivial (by kernel_rfl)
noncomputable def Zq80 (N : Nat) (list : (List (Int × Int))) (e : (Int × Int)) : Option (((List (Int × Int)) × Unit) × (Unit)) :=
 Zq80_l0 N (fun kv o o1 o2 => (br (ilt 0 kv)
 ((chk (inb o (IntKind.i64.wrap (kv - 1)))
 (br (ieq ((rdP o (IntKind.i64.wrap (kv - 1))).1) o1 && ieq ((rdP o (IntKind.i64.wrap (kv - 1))).2) o2)
 (some ((o, ()), ()))
 ((chk (ile 0 0 && ile 0 kv && ile kv (tLen o))
 (chk (room (α := (Int × Int)) (β := (Int × Int)) [] (tCut o 0 kv))
 (chk (room (tApp [] (tCut o 0 kv)) [(o1, o2)])
 (chk (ile 0 kv && ile kv (tLen o) && ile (tLen o) (tLen o))
 (chk (room (tApp (tApp [] (tCut o 0 kv)) [(o1, o2)]) (tCut o kv (tLen o)))
 (some (((tApp (tApp (tApp [] (tCut o 0 kv)) [(o1, o2)]) (tCut o kv (tLen o))), ()), ())))))))))))
 ((chk (ile 0 0 && ile 0 kv && ile kv (tLen o))
 (chk (room (α := (Int × Int)) (β := (Int × Int)) [] (tCut o 0 kv))
 (chk (room (tApp [] (tCut o 0 kv)) [(o1, o2)])
 (chk (ile 0 kv && ile kv (tLen o) && ile (tLen o) (tLen o))
 (chk (room (tApp (tApp [] (tCut o 0 kv)) [(o1, o2)]) (tCut o kv (tLen o)))
 (some (((tApp (tApp (tApp [] (tCut o 0 kv)) [(o1, o2)]) (tCut o kv (tLen o))), ()), ())))))))))) N (tLen list) list e.1 e.2
noncomputable def Zq80_S (N : Nat) : FSum := ⟨Zq80_ps, Zq80_rs, fun x => Zq80 N x.1 x.2.1⟩
theorem Zq80_pc (N : Nat) : PC Tryz.prog 89 (Zq80_S N) := pcQ (L := [Zq80_l0_s N]) (Zq80_gok N) Tryz.call89 Tryz.func89 (fun x => by kernel_rfl) ⟨Zq80_l0_ok N, trivial⟩ (by kernel_rfl)

/-! ### Zq66 -/
abbrev Zq66_ps : List (PV.Mode × Ty) := [(.mut, BQOU8QIU64), (.ro, I)]
abbrev Zq66_rs : List (Bool × Ty) := [(true, QILQII)]
noncomputable def Zq66_G (N : Nat) : GTab := gOf [(91, Zq59_S N), (61, Zq64_S N), (42, Zq65_S N), (145, Zq69_S N), (89, Zq80_S N)]
theorem Zq66_gok (N : Nat) : GOk Tryz.prog (Zq66_G N) := gOf_ok ⟨Zq59_pc N, Zq64_pc N, Zq65_pc N, Zq69_pc N, Zq80_pc N, trivial⟩
noncomputable def Zq66_code : Code := (Tryz.f111.body).getD .skip
noncomputable def Zq66_l0_0_sh : Sh := ⟨[(0, .one (.adr 0 0)), (4, .one (.adr 1 0)), (5, .one (.ro I)), (6, .one (.adr 2 0)), (7, .one (.ro I)), (8, .one (.ro .bool)), (9, .one (.ro I)), (10, .one (.ro I))], [.mbox QOU8QIU64, .box [.ro I, .nilsl], .box [.ro I, .ref 3], .sl 49 QII .own]⟩
noncomputable def Zq66_l0_0_ex : List (Ex × Sh) := [(.exit 2, ⟨[(0, .one (.adr 0 0)), (4, .one (.adr 1 0)), (5, .one (.ro I)), (6, .one (.adr 2 0)), (7, .one (.ro I)), (8, .one (.ro .bool)), (9, .one (.ro I))], [.mbox QOU8QIU64, .box [.ro I, .nilsl], .box [.ro I, .ref 3], .sl 49 QII .own]⟩)]
noncomputable def Zq66_l0_0 {R : Type} (N : Nat) (k0 : Int → Int → Bool → Int → ((List Int) × (Int × Int)) → Int → Int → (List (Int × Int)) → Option R) : Nat → Int → Int → Bool → Int → Int → ((List Int) × (Int × Int)) → Int → Int → (List (Int × Int)) → Option R
 | 0, _, _, _, _, _, _, _, _, _ => none
 | K + 1, x4, x5, x6, x7, x8, o4, o5, o6, o7 =>
 (br (ilt x8 x4)
 (((Zq65 N o4 x5).bind fun r6 =>
 (br (ieq r6.1.1 0)
 (((Zq80 N o7 (x7, x8)).bind fun r7 =>
 Zq66_l0_0 N k0 K x4 x5 x6 x7 (IntKind.i64.wrap (x8 + 1)) r6.2.1 o5 o6 r7.1.1))
 (Zq66_l0_0 N k0 K x4 x5 x6 x7 (IntKind.i64.wrap (x8 + 1)) r6.2.1 o5 o6 o7))))
 (k0 x4 x5 x6 x7 o4 o5 o6 o7))
noncomputable def Zq66_l0_0_again {R : Type} (N : Nat) (ks : KS Zq66_l0_0_ex R) (k : Nat) (x : Zq66_l0_0_sh.T) : Option R :=
 Zq66_l0_0 N (fun y0 y1 y2 y3 y4 y5 y6 y7 => ks 0 (((), (), y0, (), y1, y2, y3, ()), (y4, (y5, (), ()), (y6, (), ()), y7, ()))) k x.1.2.2.1 x.1.2.2.2.2.1 x.1.2.2.2.2.2.1 x.1.2.2.2.2.2.2.1 x.1.2.2.2.2.2.2.2.1 x.2.1 x.2.2.1.1 x.2.2.2.1.1 x.2.2.2.2.1
noncomputable def Zq66_l0_0_s (N : Nat) : LSum := ⟨Zq66_l0_0_sh, Zq66_l0_0_ex, fun x ks => Zq66_l0_0_again N ks N x⟩
theorem Zq66_l0_0_ok (N : Nat) : LoopOk Tryz.prog Tryz.f111.ntmps (Zq66_l0_0_s N) (loopAt (loopAt Zq66_code 0) 0) := loopQ (sh := Zq66_l0_0_sh) (ex := Zq66_l0_0_ex) (N := N) (L := []) (fun R k x ks => Zq66_l0_0_again N ks k x) (Zq66_gok N) (fun _ _ _ => rfl) (fun R k x ks => by kernel_rfl) trivial (by kernel_rfl)
noncomputable def Zq66_l0_sh : Sh := ⟨[(0, .one (.adr 0 0)), (4, .one (.adr 1 0)), (5, .one (.ro I)), (6, .one (.adr 2 0)), (7, .one (.ro I)), (8, .one (.ro .bool)), (9, .one (.ro I))], [.mbox QOU8QIU64, .box [.ro I, .nilsl], .box [.ro I, .ref 3], .sl 49 QII .own]⟩
noncomputable def Zq66_l0_ex : List (Ex × Sh) := [(.exit 0, ⟨[(0, .one (.adr 0 0)), (4, .one (.adr 1 0)), (6, .one (.adr 2 0))], [.mbox QOU8QIU64, .box [.ro I, .nilsl], .box [.ro I, .ref 3], .sl 49 QII .own]⟩)]
noncomputable def Zq66_l0 {R : Type} (N : Nat) (k0 : ((List Int) × (Int × Int)) → Int → Int → (List (Int × Int)) → Option R) : Nat → Int → Int → Bool → Int → ((List Int) × (Int × Int)) → Int → Int → (List (Int × Int)) → Option R
 | 0, _, _, _, _, _, _, _, _ => none
 | K + 1, x, x1, x2, x3, o, o1, o2, o3 =>
 (br (ilt x3 x)
 (Zq66_l0_0 N (fun x4 x5 x6 x7 o4 o5 o6 o7 => (br (ilt 0 x7)
 ((br (!x6)
 (((Zq65 N (o4.1, (o4.2.1, o4.2.2)) x7).bind fun r6 =>
 ((Zq80 N o7 (r6.1.1, x7)).bind fun r7 =>
 Zq66_l0 N k0 K x4 x5 x6 (IntKind.i64.wrap (x7 + 1)) r6.2.1 o5 o6 r7.1.1)))
 (Zq66_l0 N k0 K x4 x5 x6 (IntKind.i64.wrap (x7 + 1)) o4 o5 o6 o7)))
 (Zq66_l0 N k0 K x4 x5 x6 (IntKind.i64.wrap (x7 + 1)) o4 o5 o6 o7))) N x x1 x2 x3 (IntKind.i64.wrap (x3 + 1)) o o1 o2 o3)
 (k0 o o1 o2 o3))
noncomputable def Zq66_l0_again {R : Type} (N : Nat) (ks : KS Zq66_l0_ex R) (k : Nat) (x : Zq66_l0_sh.T) : Option R :=
 Zq66_l0 N (fun y0 y1 y2 y3 => ks 0 (((), (), (), ()), (y0, (y1, (), ()), (y2, (), ()), y3, ()))) k x.1.2.2.1 x.1.2.2.2.2.1 x.1.2.2.2.2.2.1 x.1.2.2.2.2.2.2.1 x.2.1 x.2.2.1.1 x.2.2.2.1.1 x.2.2.2.2.1
noncomputable def Zq66_l0_s (N : Nat) : LSum := ⟨Zq66_l0_sh, Zq66_l0_ex, fun x ks => Zq66_l0_again N ks N x⟩
theorem Zq66_l0_ok (N : Nat) : LoopOk Tryz.prog Tryz.f111.ntmps (Zq66_l0_s N) (loopAt Zq66_code 0) := loopQ (sh := Zq66_l0_sh) (ex := Zq66_l0_ex) (N := N) (L := [Zq66_l0_0_s N]) (fun R k x ks => Zq66_l0_again N ks k x) (Zq66_gok N) (fun _ _ _ => rfl) (fun R k x ks => by kernel_rfl) ⟨Zq66_l0_0_ok N, trivial⟩ (by kernel_rfl)
noncomputable def Zq66 (N : Nat) (c : ((List Int) × (Int × Int))) (c1 : Int) : Option (((Int × (List (Int × Int))) × Unit) × (((List Int) × (Int × Int)) × Unit)) :=
 ((Zq59 N c [4, 5, 3, 6, 2, 1, 0]).bind fun r =>
 (br (ilt 6 c1)
 (((Zq64 N r.2.1 4).bind fun r1 =>
 (br r1.1.1
 (((Zq65 N r1.2.1 2).bind fun r2 =>
 ((Zq69 N (IntKind.i64.wrap (7 + r2.1.1)) c1).bind fun r3 =>
 ((Zq59 N r2.2.1 [1, 3, 4, 6]).bind fun r4 =>
 ((Zq64 N r4.2.1 5).bind fun r5 =>
 Zq66_l0 N (fun o o1 o2 o3 => ((Zq65 N o 50).bind fun r6 =>
 (br (ieq r6.1.1 0)
 (((Zq59 N r6.2.1 [(-1), 8, 9, 0, 4611686018427387904]).bind fun r7 =>
 some (((r7.1.1, o3), ()), (r7.2.1, ()))))
 ((br (ieq r6.1.1 1)
 (((Zq65 N (r6.2.1.1, (r6.2.1.2.1, r6.2.1.2.2)) 4).bind fun r8 =>
 ((Zq65 N r8.2.1 9).bind fun r9 =>
 (chk (room o3 [(r8.1.1, (IntKind.i64.wrap (r9.1.1 - 1)))])
 (some (((o2, (tApp o3 [(r8.1.1, (IntKind.i64.wrap (r9.1.1 - 1)))])), ()), (r9.2.1, ())))))))
 ((br (ieq r6.1.1 2)
 ((br (ilt 0 (tLen o3))
 (((Zq65 N (r6.2.1.1, (r6.2.1.2.1, r6.2.1.2.2)) (tLen o3)).bind fun r10 =>
 (chk (inb o3 r10.1.1)
 (chk (room o3 [(rdP o3 r10.1.1)])
 (some (((o2, (tApp o3 [(rdP o3 r10.1.1)])), ()), (r10.2.1, ())))))))
 (some (((o2, o3), ()), (r6.2.1, ())))))
 (some (((o2, o3), ()), (r6.2.1, ())))))))))) N r3.1.1 r4.1.1 r5.1.1 0 r5.2.1 0 r3.1.1 [])))))
 (((Zq69 N r.1.1 c1).bind fun r11 =>
 ((Zq59 N r1.2.1 [1, 3, 4, 6]).bind fun r12 =>
 ((Zq64 N r12.2.1 5).bind fun r13 =>
 Zq66_l0 N (fun o4 o5 o6 o7 => ((Zq65 N o4 50).bind fun r14 =>
 (br (ieq r14.1.1 0)
 (((Zq59 N r14.2.1 [(-1), 8, 9, 0, 4611686018427387904]).bind fun r15 =>
 some (((r15.1.1, o7), ()), (r15.2.1, ()))))
 ((br (ieq r14.1.1 1)
 (((Zq65 N (r14.2.1.1, (r14.2.1.2.1, r14.2.1.2.2)) 4).bind fun r16 =>
 ((Zq65 N r16.2.1 9).bind fun r17 =>
 (chk (room o7 [(r16.1.1, (IntKind.i64.wrap (r17.1.1 - 1)))])
 (some (((o6, (tApp o7 [(r16.1.1, (IntKind.i64.wrap (r17.1.1 - 1)))])), ()), (r17.2.1, ())))))))
 ((br (ieq r14.1.1 2)
 ((br (ilt 0 (tLen o7))
 (((Zq65 N (r14.2.1.1, (r14.2.1.2.1, r14.2.1.2.2)) (tLen o7)).bind fun r18 =>
 (chk (inb o7 r18.1.1)
 (chk (room o7 [(rdP o7 r18.1.1)])
 (some (((o6, (tApp o7 [(rdP o7 r18.1.1)])), ()), (r18.2.1, ())))))))
 (some (((o6, o7), ()), (r14.2.1, ())))))
 (some (((o6, o7), ()), (r14.2.1, ())))))))))) N r11.1.1 r12.1.1 r13.1.1 0 r13.2.1 0 r11.1.1 [])))))))
 (((Zq69 N r.1.1 c1).bind fun r19 =>
 ((Zq59 N r.2.1 [1, 3, 4, 6]).bind fun r20 =>
 ((Zq64 N r20.2.1 5).bind fun r21 =>
 Zq66_l0 N (fun o8 o9 o10 o11 => ((Zq65 N o8 50).bind fun r22 =>
 (br (ieq r22.1.1 0)
 (((Zq59 N r22.2.1 [(-1), 8, 9, 0, 4611686018427387904]).bind fun r23 =>
 some (((r23.1.1, o11), ()), (r23.2.1, ()))))
 ((br (ieq r22.1.1 1)
 (((Zq65 N (r22.2.1.1, (r22.2.1.2.1, r22.2.1.2.2)) 4).bind fun r24 =>
 ((Zq65 N r24.2.1 9).bind fun r25 =>
 (chk (room o11 [(r24.1.1, (IntKind.i64.wrap (r25.1.1 - 1)))])
 (some (((o10, (tApp o11 [(r24.1.1, (IntKind.i64.wrap (r25.1.1 - 1)))])), ()), (r25.2.1, ())))))))
 ((br (ieq r22.1.1 2)
 ((br (ilt 0 (tLen o11))
 (((Zq65 N (r22.2.1.1, (r22.2.1.2.1, r22.2.1.2.2)) (tLen o11)).bind fun r26 =>
 (chk (inb o11 r26.1.1)
 (chk (room o11 [(rdP o11 r26.1.1)])
 (some (((o10, (tApp o11 [(rdP o11 r26.1.1)])), ()), (r26.2.1, ())))))))
 (some (((o10, o11), ()), (r22.2.1, ())))))
 (some (((o10, o11), ()), (r22.2.1, ())))))))))) N r19.1.1 r20.1.1 r21.1.1 0 r21.2.1 0 r19.1.1 []))))))
noncomputable def Zq66_S (N : Nat) : FSum := ⟨Zq66_ps, Zq66_rs, fun x => Zq66 N x.1 x.2.1⟩
theorem Zq66_pc (N : Nat) : PC Tryz.prog 111 (Zq66_S N) := pcQ (L := [Zq66_l0_s N]) (Zq66_gok N) Tryz.call111 Tryz.func111 (fun x => by kernel_rfl) ⟨Zq66_l0_ok N, trivial⟩ (by kernel_rfl)

/-! ### Zq60 -/
abbrev Zq60_ps : List (PV.Mode × Ty) := [(.mut, BQOU8QIU64)]
abbrev Zq60_rs : List (Bool × Ty) := [(true, QILQII)]
noncomputable def Zq60_G (N : Nat) : GTab := gOf [(111, Zq66_S N)]
theorem Zq60_gok (N : Nat) : GOk Tryz.prog (Zq60_G N) := gOf_ok ⟨Zq66_pc N, trivial⟩
noncomputable def Zq60_code : Code := (Tryz.f59.body).getD .skip
noncomputable def Zq60 (N : Nat) (c : ((List Int) × (Int × Int))) : Option (((Int × (List (Int × Int))) × Unit) × (((List Int) × (Int × Int)) × Unit)) :=
 ((Zq66 N c 8).bind fun r =>
 some (((r.1.1.1, r.1.1.2), ()), (r.2.1, ())))
noncomputable def Zq60_S (N : Nat) : FSum := ⟨Zq60_ps, Zq60_rs, fun x => Zq60 N x.1⟩
theorem Zq60_pc (N : Nat) : PC Tryz.prog 59 (Zq60_S N) := pcQ (L := []) (Zq60_gok N) Tryz.call59 Tryz.func59 (fun x => by kernel_rfl) trivial (by kernel_rfl)

/-! ### Zq70 -/
abbrev Zq70_ps : List (PV.Mode × Ty) := [(.ro, LI)]
abbrev Zq70_rs : List (Bool × Ty) := [(true, LI)]
noncomputable def Zq70_G (N : Nat) : GTab := gOf []
theorem Zq70_gok (N : Nat) : GOk Tryz.prog (Zq70_G N) := gOf_ok trivial
noncomputable def Zq70_code : Code := (Tryz.f60.body).getD .skip
noncomputable def Zq70 (N : Nat) (l : (List Int)) : Option (((List Int) × Unit) × (Unit)) :=
 (chk (room (α := Int) (β := Int) [] l)
 (some (((tApp [] l), ()), ())))
noncomputable def Zq70_S (N : Nat) : FSum := ⟨Zq70_ps, Zq70_rs, fun x => Zq70 N x.1⟩
theorem Zq70_pc (N : Nat) : PC Tryz.prog 60 (Zq70_S N) := pcQ (L := []) (Zq70_gok N) Tryz.call60 Tryz.func60 (fun x => by kernel_rfl) trivial (by kernel_rfl)

/-! ### Zq55 -/
abbrev Zq55_ps : List (PV.Mode × Ty) := [(.ro, LU8)]
abbrev Zq55_rs : List (Bool × Ty) := [(false, QILQII), (false, LI)]
noncomputable def Zq55_G (N : Nat) : GTab := gOf [(59, Zq60_S N), (42, Zq65_S N), (60, Zq70_S N), (61, Zq64_S N)]
theorem Zq55_gok (N : Nat) : GOk Tryz.prog (Zq55_G N) := gOf_ok ⟨Zq60_pc N, Zq65_pc N, Zq70_pc N, Zq64_pc N, trivial⟩
noncomputable def Zq55_code : Code := (Tryz.f14.body).getD .skip
noncomputable def Zq55_l0_sh : Sh := ⟨[(2, .one (.adr 0 0)), (4, .one (.adr 1 0)), (5, .one (.adr 2 0)), (6, .one (.ref 3)), (7, .one (.ro I))], [.box [.ro I, .nilsl], .mbox QOU8QIU64, .box [.ro I, .ref 4], .sl 3 I .own, .sl 49 QII .own]⟩
noncomputable def Zq55_l0_ex : List (Ex × Sh) := [(.exit 0, ⟨[(2, .one (.adr 0 0)), (4, .one (.adr 1 0)), (5, .one (.adr 2 0)), (6, .one (.ref 3))], [.box [.ro I, .nilsl], .mbox QOU8QIU64, .box [.ro I, .ref 4], .sl 3 I .own, .sl 49 QII .own]⟩)]
noncomputable def Zq55_l0 {R : Type} (N : Nat) (k0 : Int → ((List Int) × (Int × Int)) → Int → (List Int) → (List (Int × Int)) → Option R) : Nat → Int → Int → ((List Int) × (Int × Int)) → Int → (List Int) → (List (Int × Int)) → Option R
 | 0, _, _, _, _, _, _ => none
 | K + 1, x, o, o1, o2, o3, o4 =>
 (br (ilt x o2)
 ((br (ilt x 9)
 (((Zq65 N o1 (IntKind.i64.wrap ((tLen o3) + 1))).bind fun r1 =>
 (chk (ile 0 0 && ile 0 r1.1.1 && ile r1.1.1 (tLen o3))
 ((Zq70 N (tCut o3 0 r1.1.1)).bind fun r2 =>
 (chk (room r2.1.1 [x])
 (chk (ile 0 r1.1.1 && ile r1.1.1 (tLen o3) && ile (tLen o3) (tLen o3))
 (chk (room (tApp r2.1.1 [x]) (tCut o3 r1.1.1 (tLen o3)))
 (Zq55_l0 N k0 K (IntKind.i64.wrap (x + 1)) o r1.2.1 o2 (tApp (tApp r2.1.1 [x]) (tCut o3 r1.1.1 (tLen o3))) o4))))))))
 (k0 o o1 o2 o3 o4)))
 (k0 o o1 o2 o3 o4))
noncomputable def Zq55_l0_again {R : Type} (N : Nat) (ks : KS Zq55_l0_ex R) (k : Nat) (x : Zq55_l0_sh.T) : Option R :=
 Zq55_l0 N (fun y0 y1 y2 y3 y4 => ks 0 (((), (), (), (), ()), ((y0, (), ()), y1, (y2, (), ()), y3, y4, ()))) k x.1.2.2.2.2.1 x.2.1.1 x.2.2.1 x.2.2.2.1.1 x.2.2.2.2.1 x.2.2.2.2.2.1
noncomputable def Zq55_l0_s (N : Nat) : LSum := ⟨Zq55_l0_sh, Zq55_l0_ex, fun x ks => Zq55_l0_again N ks N x⟩
theorem Zq55_l0_ok (N : Nat) : LoopOk Tryz.prog Tryz.f14.ntmps (Zq55_l0_s N) (loopAt Zq55_code 0) := loopQ (sh := Zq55_l0_sh) (ex := Zq55_l0_ex) (N := N) (L := []) (fun R k x ks => Zq55_l0_again N ks k x) (Zq55_gok N) (fun _ _ _ => rfl) (fun R k x ks => by kernel_rfl) trivial (by kernel_rfl)
noncomputable def Zq55 (N : Nat) (code : (List Int)) : Option (((Int × (List (Int × Int))) × (List Int) × Unit) × (Unit)) :=
 ((Zq60 N (code, (0, 0))).bind fun r =>
 Zq55_l0 N (fun o o1 o2 o3 o4 => ((Zq64 N o1 16).bind fun r1 =>
 (br r1.1.1
 ((chk (room o3 [0])
 (some (((o2, o4), (tApp o3 [0]), ()), ()))))
 (some (((o2, o4), o3, ()), ()))))) N 0 0 r.2.1 r.1.1.1 [] r.1.1.2)
noncomputable def Zq55_S (N : Nat) : FSum := ⟨Zq55_ps, Zq55_rs, fun x => Zq55 N x.1⟩
theorem Zq55_pc (N : Nat) : PC Tryz.prog 14 (Zq55_S N) := pcQ (L := [Zq55_l0_s N]) (Zq55_gok N) Tryz.call14 Tryz.func14 (fun x => by kernel_rfl) ⟨Zq55_l0_ok N, trivial⟩ (by kernel_rfl)

/-! ### Zq22 -/
abbrev Zq22_ps : List (PV.Mode × Ty) := [(.ro, I), (.ro, I), (.ro, I)]
abbrev Zq22_rs : List (Bool × Ty) := [(true, .bool)]
noncomputable def Zq22_G (N : Nat) : GTab := gOf []
theorem Zq22_gok (N : Nat) : GOk Tryz.prog (Zq22_G N) := gOf_ok trivial
noncomputable def Zq22_code : Code := (Tryz.f97.body).getD .skip
noncomputable def Zq22 (N : Nat) (n : Int) (low : Int) (high : Int) : Option ((Bool × Unit) × (Unit)) :=
 (br (ile low n)
 (some (((ile n high), ()), ()))
 (some ((false, ()), ())))
noncomputable def Zq22_S (N : Nat) : FSum := ⟨Zq22_ps, Zq22_rs, fun x => Zq22 N x.1 x.2.1 x.2.2.1⟩
theorem Zq22_pc (N : Nat) : PC Tryz.prog 97 (Zq22_S N) := pcQ (L := []) (Zq22_gok N) Tryz.call97 Tryz.func97 (fun x => by kernel_rfl) trivial (by kernel_rfl)

/-! ### Zq2 -/
abbrev Zq2_ps : List (PV.Mode × Ty) := [(.ro, I)]
abbrev Zq2_rs : List (Bool × Ty) := [(true, .bool)]
noncomputable def Zq2_G (N : Nat) : GTab := gOf []
theorem Zq2_gok (N : Nat) : GOk Tryz.prog (Zq2_G N) := gOf_ok trivial
noncomputable def Zq2_code : Code := (Tryz.f167.body).getD .skip
noncomputable def Zq2 (N : Nat) (x : Int) : Option ((Bool × Unit) × (Unit)) :=
 some (((ine x x), ()), ())
noncomputable def Zq2_S (N : Nat) : FSum := ⟨Zq2_ps, Zq2_rs, fun x => Zq2 N x.1⟩
theorem Zq2_pc (N : Nat) : PC Tryz.prog 167 (Zq2_S N) := pcQ (L := []) (Zq2_gok N) Tryz.call167 Tryz.func167 (fun x => by kernel_rfl) trivial (by kernel_rfl)

/-! ### Zq0 -/
abbrev Zq0_ps : List (PV.Mode × Ty) := [(.ro, I), (.ro, I)]
abbrev Zq0_rs : List (Bool × Ty) := [(true, I)]
noncomputable def Zq0_G (N : Nat) : GTab := gOf [(167, Zq2_S N)]
theorem Zq0_gok (N : Nat) : GOk Tryz.prog (Zq0_G N) := gOf_ok ⟨Zq2_pc N, trivial⟩
noncomputable def Zq0_code : Code := (Tryz.f140.body).getD .skip
noncomputable def Zq0 (N : Nat) (x : Int) (y : Int) : Option ((Int × Unit) × (Unit)) :=
 ((Zq2 N x).bind fun r =>
 ((Zq2 N y).bind fun r1 =>
 (br r.1.1
 ((br r1.1.1
 (some ((0, ()), ()))
 (some (((-1), ()), ()))))
 ((br r1.1.1
 (some ((1, ()), ()))
 ((br (ilt x y)
 (some (((-1), ()), ()))
 ((br (ilt y x)
 (some ((1, ()), ()))
 (some ((0, ()), ())))))))))))
noncomputable def Zq0_S (N : Nat) : FSum := ⟨Zq0_ps, Zq0_rs, fun x => Zq0 N x.1 x.2.1⟩
theorem Zq0_pc (N : Nat) : PC Tryz.prog 140 (Zq0_S N) := pcQ (L := []) (Zq0_gok N) Tryz.call140 Tryz.func140 (fun x => by kernel_rfl) trivial (by kernel_rfl)

/-! ### Zq1 -/
abbrev Zq1_ps : List (PV.Mode × Ty) := [(.ro, LI)]
abbrev Zq1_rs : List (Bool × Ty) := [(true, I)]
noncomputable def Zq1_G (N : Nat) : GTab := gOf []
theorem Zq1_gok (N : Nat) : GOk Tryz.prog (Zq1_G N) := gOf_ok trivial
noncomputable def Zq1_code : Code := (Tryz.f168.body).getD .skip
noncomputable def Zq1_l0_sh : Sh := ⟨[(3, .one (.ro I)), (6, .one (.ro LI)), (7, .one (.ro I)), (8, .one (.ro I))], []⟩
noncomputable def Zq1_l0_ex : List (Ex × Sh) := [(.ret, ⟨[(2, .one (.ro I))], []⟩), (.exit 0, ⟨[(3, .one (.ro I))], []⟩)]
noncomputable def Zq1_l0 {R : Type} (N : Nat) (k0 : Int → Option R) (k1 : Int → Option R) : Nat → Int → (List Int) → Int → Int → Option R
 | 0, _, _, _, _ => none
 | K + 1, zero, x, x1, x2 =>
 (br (ilt x2 x1)
 ((chk (inb x x2)
 (br (ine (rdI x x2) zero)
 (k0 (rdI x x2))
 (Zq1_l0 N k0 k1 K zero x x1 (IntKind.i64.wrap (x2 + 1))))))
 (k1 zero))
noncomputable def Zq1_l0_again {R : Type} (N : Nat) (ks : KS Zq1_l0_ex R) (k : Nat) (x : Zq1_l0_sh.T) : Option R :=
 Zq1_l0 N (fun y0 => ks 0 ((y0, ()), ())) (fun y0 => ks 1 ((y0, ()), ())) k x.1.1 x.1.2.1 x.1.2.2.1 x.1.2.2.2.1
noncomputable def Zq1_l0_s (N : Nat) : LSum := ⟨Zq1_l0_sh, Zq1_l0_ex, fun x ks => Zq1_l0_again N ks N x⟩
theorem Zq1_l0_ok (N : Nat) : LoopOk Tryz.prog Tryz.f168.ntmps (Zq1_l0_s N) (loopAt Zq1_code 0) := loopQ (sh := Zq1_l0_sh) (ex := Zq1_l0_ex) (N := N) (L := []) (fun R k x ks => Zq1_l0_again N ks k x) (Zq1_gok N) (fun _ _ _ => rfl) (fun R k x ks => by kernel_rfl) trivial (by kernel_rfl)
noncomputable def Zq1 (N : Nat) (vals : (List Int)) : Option ((Int × Unit) × (Unit)) :=
 Zq1_l0 N (fun x => some ((x, ()), ())) (fun zero => some ((zero, ()), ())) N 0 vals (tLen vals) 0
noncomputable def Zq1_S (N : Nat) : FSum := ⟨Zq1_ps, Zq1_rs, fun x => Zq1 N x.1⟩
theorem Zq1_pc (N : Nat) : PC Tryz.prog 168 (Zq1_S N) := pcQ (L := [Zq1_l0_s N]) (Zq1_gok N) Tryz.call168 Tryz.func168 (fun x => by kernel_rfl) ⟨Zq1_l0_ok N, trivial⟩ (by kernel_rfl)

/-! ### Zq23 -/
abbrev Zq23_ps : List (PV.Mode × Ty) := [(.ro, QII), (.ro, QII)]
abbrev Zq23_rs : List (Bool × Ty) := [(true, I)]
noncomputable def Zq23_G (N : Nat) : GTab := gOf [(140, Zq0_S N), (168, Zq1_S N)]
theorem Zq23_gok (N : Nat) : GOk Tryz.prog (Zq23_G N) := gOf_ok ⟨Zq0_pc N, Zq1_pc N, trivial⟩
noncomputable def Zq23_code : Code := (Tryz.f142.body).getD .skip
noncomputable def Zq23 (N : Nat) (a : (Int × Int)) (b : (Int × Int)) : Option ((Int × Unit) × (Unit)) :=
 ((Zq0 N a.1 b.1).bind fun r =>
 ((Zq0 N a.2 b.2).bind fun r1 =>
 ((Zq1 N [r.1.1, r1.1.1]).bind fun r2 =>
 some ((r2.1.1, ()), ()))))
noncomputable def Zq23_S (N : Nat) : FSum := ⟨Zq23_ps, Zq23_rs, fun x => Zq23 N x.1 x.2.1⟩
theorem Zq23_pc (N : Nat) : PC Tryz.prog 142 (Zq23_S N) := pcQ (L := []) (Zq23_gok N) Tryz.call142 Tryz.func142 (fun x => by kernel_rfl) trivial (by kernel_rfl)

/-! ### Zq27 -/
abbrev Zq27_ps : List (PV.Mode × Ty) := [(.ro, LQII), (.ro, I)]
abbrev Zq27_rs : List (Bool × Ty) := [(true, .bool)]
noncomputable def Zq27_G (N : Nat) : GTab := gOf [(142, Zq23_S N)]
theorem Zq27_gok (N : Nat) : GOk Tryz.prog (Zq27_G N) := gOf_ok ⟨Zq23_pc N, trivial⟩
noncomputable def Zq27_code : Code := (Tryz.f104.body).getD .skip
noncomputable def Zq27_l0_sh : Sh := ⟨[(0, .one (.ro LQII)), (1, .one (.ro I)), (7, .one (.ro LQII)), (8, .one (.ro I)), (9, .one (.ro I))], []⟩
noncomputable def Zq27_l0_ex : List (Ex × Sh) := [(.ret, ⟨[(4, .one (.ro .bool))], []⟩), (.exit 0, ⟨[], []⟩)]
noncomputable def Zq27_l0 {R : Type} (N : Nat) (k0 : Bool → Option R) (k1 : Unit → Option R) : Nat → (List (Int × Int)) → Int → (List (Int × Int)) → Int → Int → Option R
 | 0, _, _, _, _, _ => none
 | K + 1, list1, below1, x, x1, x2 =>
 (br (ilt x2 x1)
 ((chk (inb x x2)
 (br (ilt ((rdP x x2).1) 0)
 (k0 false)
 ((br (ile ((rdP x x2).2) ((rdP x x2).1))
 (k0 false)
 ((br (ile below1 ((rdP x x2).2))
 (k0 false)
 ((br (ilt 0 x2)
 ((chk (inb list1 (IntKind.i64.wrap (x2 - 1)))
 ((Zq23 N (rdP list1 (IntKind.i64.wrap (x2 - 1))) ((rdP x x2).1, (rdP x x2).2)).bind fun r =>
 (br (ile 0 r.1.1)
 (k0 false)
 (Zq27_l0 N k0 k1 K list1 below1 x x1 (IntKind.i64.wrap (x2 + 1)))))))
 (Zq27_l0 N k0 k1 K list1 below1 x x1 (IntKind.i64.wrap (x2 + 1))))))))))))
 (k1 ()))
noncomputable def Zq27_l0_again {R : Type} (N : Nat) (ks : KS Zq27_l0_ex R) (k : Nat) (x : Zq27_l0_sh.T) : Option R :=
 Zq27_l0 N (fun y0 => ks 0 ((y0, ()), ())) (fun (_ : Unit) => ks 1 ((), ())) k x.1.1 x.1.2.1 x.1.2.2.1 x.1.2.2.2.1 x.1.2.2.2.2.1
noncomputable def Zq27_l0_s (N : Nat) : LSum := ⟨Zq27_l0_sh, Zq27_l0_ex, fun x ks => Zq27_l0_again N ks N x⟩
theorem Zq27_l0_ok (N : Nat) : LoopOk Tryz.prog Tryz.f104.ntmps (Zq27_l0_s N) (loopAt Zq27_code 0) := loopQ (sh := Zq27_l0_sh) (ex := Zq27_l0_ex) (N := N) (L := []) (fun R k x ks => Zq27_l0_again N ks k x) (Zq27_gok N) (fun _ _ _ => rfl) (fun R k x ks => by kernel_rfl) trivial (by kernel_rfl)
noncomputable def Zq27 (N : Nat) (list : (List (Int × Int))) (below : Int) : Option ((Bool × Unit) × (Unit)) :=
 Zq27_l0 N (fun x => some ((x, ()), ())) (fun (_ : Unit) => some ((true, ()), ())) N list below list (tLen list) 0
noncomputable def Zq27_S (N : Nat) : FSum := ⟨Zq27_ps, Zq27_rs, fun x => Zq27 N x.1 x.2.1⟩
theorem Zq27_pc (N : Nat) : PC Tryz.prog 104 (Zq27_S N) := pcQ (L := [Zq27_l0_s N]) (Zq27_gok N) Tryz.call104 Tryz.func104 (fun x => by kernel_rfl) ⟨Zq27_l0_ok N, trivial⟩ (by kernel_rfl)

/-! ### Zq13 -/
abbrev Zq13_ps : List (PV.Mode × Ty) := [(.ro, QILQII)]
abbrev Zq13_rs : List (Bool × Ty) := [(true, .bool)]
noncomputable def Zq13_G (N : Nat) : GTab := gOf [(97, Zq22_S N), (104, Zq27_S N)]
theorem Zq13_gok (N : Nat) : GOk Tryz.prog (Zq13_G N) := gOf_ok ⟨Zq22_pc N, Zq27_pc N, trivial⟩
noncomputable def Zq13_code : Code := (Tryz.f62.body).getD .skip
noncomputable def Zq13 (N : Nat) (g : (Int × (List (Int × Int)))) : Option ((Bool × Unit) × (Unit)) :=
 ((Zq22 N g.1 0 8).bind fun r =>
 (br r.1.1
 (((Zq27 N g.2 g.1).bind fun r1 =>
 some ((r1.1.1, ()), ())))
 (some ((false, ()), ()))))
noncomputable def Zq13_S (N : Nat) : FSum := ⟨Zq13_ps, Zq13_rs, fun x => Zq13 N x.1⟩
theorem Zq13_pc (N : Nat) : PC Tryz.prog 62 (Zq13_S N) := pcQ (L := []) (Zq13_gok N) Tryz.call62 Tryz.func62 (fun x => by kernel_rfl) trivial (by kernel_rfl)

/-! ### Zq54 -/
abbrev Zq54_ps : List (PV.Mode × Ty) := [(.ro, LI)]
abbrev Zq54_rs : List (Bool × Ty) := [(false, K147ALI)]
noncomputable def Zq54_G (N : Nat) : GTab := gOf []
theorem Zq54_gok (N : Nat) : GOk Tryz.prog (Zq54_G N) := gOf_ok trivial
noncomputable def Zq54_code : Code := (Tryz.f114.body).getD .skip
noncomputable def Zq54 (N : Nat) (s : (List Int)) : Option (((List Int) × Unit) × (Unit)) :=
 some ((s, ()), ())
noncomputable def Zq54_S (N : Nat) : FSum := ⟨Zq54_ps, Zq54_rs, fun x => Zq54 N x.1⟩
theorem Zq54_pc (N : Nat) : PC Tryz.prog 114 (Zq54_S N) := pcQ (L := []) (Zq54_gok N) Tryz.call114 Tryz.func114 (fun x => by kernel_rfl) trivial (by kernel_rfl)

/-! ### Zq53 -/
abbrev Zq53_ps : List (PV.Mode × Ty) := [(.ro, K147ALI)]
abbrev Zq53_rs : List (Bool × Ty) := [(true, LI)]
noncomputable def Zq53 (N : Nat) (x : List Int) : Option ((List Int × Unit) × Unit) := sortVF x
noncomputable def Zq53_S (N : Nat) : FSum := ⟨Zq53_ps, Zq53_rs, fun x => Zq53 N x.1⟩
theorem Zq53_pc (N : Nat) : PC Tryz.prog 113 (Zq53_S N) := sortedVals_pc Tryz.sortedAt Tryz.call113

/-! ### Zq28 -/
abbrev Zq28_ps : List (PV.Mode × Ty) := [(.ro, LI), (.ro, I)]
abbrev Zq28_rs : List (Bool × Ty) := [(true, .bool)]
noncomputable def Zq28_G (N : Nat) : GTab := gOf [(97, Zq22_S N)]
theorem Zq28_gok (N : Nat) : GOk Tryz.prog (Zq28_G N) := gOf_ok ⟨Zq22_pc N, trivial⟩
noncomputable def Zq28_code : Code := (Tryz.f112.body).getD .skip
noncomputable def Zq28_l0_sh : Sh := ⟨[(0, .one (.ro LI)), (1, .one (.ro I)), (7, .one (.ro LI)), (8, .one (.ro I)), (9, .one (.ro I))], []⟩
noncomputable def Zq28_l0_ex : List (Ex × Sh) := [(.ret, ⟨[(4, .one (.ro .bool))], []⟩), (.exit 0, ⟨[], []⟩)]
noncomputable def Zq28_l0 {R : Type} (N : Nat) (k0 : Bool → Option R) (k1 : Unit → Option R) : Nat → (List Int) → Int → (List Int) → Int → Int → Option R
 | 0, _, _, _, _, _ => none
 | K + 1, list1, below1, x, x1, x2 =>
 (br (ilt x2 x1)
 ((chk (inb x x2)
 ((Zq22 N (rdI x x2) 0 (IntKind.i64.wrap (below1 - 1))).bind fun r =>
 (br (!r.1.1)
 (k0 false)
 ((br (ilt 0 x2)
 ((chk (inb list1 (IntKind.i64.wrap (x2 - 1)))
 (br (ile (rdI x x2) (rdI list1 (IntKind.i64.wrap (x2 - 1))))
 (k0 false)
 (Zq28_l0 N k0 k1 K list1 below1 x x1 (IntKind.i64.wrap (x2 + 1))))))
 (Zq28_l0 N k0 k1 K list1 below1 x x1 (IntKind.i64.wrap (x2 + 1)))))))))
 (k1 ()))
noncomputable def Zq28_l0_again {R : Type} (N : Nat) (ks : KS Zq28_l0_ex R) (k : Nat) (x : Zq28_l0_sh.T) : Option R :=
 Zq28_l0 N (fun y0 => ks 0 ((y0, ()), ())) (fun (_ : Unit) => ks 1 ((), ())) k x.1.1 x.1.2.1 x.1.2.2.1 x.1.2.2.2.1 x.1.2.2.2.2.1
noncomputable def Zq28_l0_s (N : Nat) : LSum := ⟨Zq28_l0_sh, Zq28_l0_ex, fun x ks => Zq28_l0_again N ks N x⟩
theorem Zq28_l0_ok (N : Nat) : LoopOk Tryz.prog Tryz.f112.ntmps (Zq28_l0_s N) (loopAt Zq28_code 0) := loopQ (sh := Zq28_l0_sh) (ex := Zq28_l0_ex) (N := N) (L := []) (fun R k x ks => Zq28_l0_again N ks k x) (Zq28_gok N) (fun _ _ _ => rfl) (fun R k x ks => by kernel_rfl) trivial (by kernel_rfl)
noncomputable def Zq28 (N : Nat) (list : (List Int)) (below : Int) : Option ((Bool × Unit) × (Unit)) :=
 Zq28_l0 N (fun x => some ((x, ()), ())) (fun (_ : Unit) => some ((true, ()), ())) N list below list (tLen list) 0
noncomputable def Zq28_S (N : Nat) : FSum := ⟨Zq28_ps, Zq28_rs, fun x => Zq28 N x.1 x.2.1⟩
theorem Zq28_pc (N : Nat) : PC Tryz.prog 112 (Zq28_S N) := pcQ (L := [Zq28_l0_s N]) (Zq28_gok N) Tryz.call112 Tryz.func112 (fun x => by kernel_rfl) ⟨Zq28_l0_ok N, trivial⟩ (by kernel_rfl)

/-! ### Zq26 -/
abbrev Zq26_ps : List (PV.Mode × Ty) := [(.ro, LI), (.ro, I)]
abbrev Zq26_rs : List (Bool × Ty) := [(true, .bool)]
noncomputable def Zq26_G (N : Nat) : GTab := gOf [(114, Zq54_S N), (113, Zq53_S N), (112, Zq28_S N)]
theorem Zq26_gok (N : Nat) : GOk Tryz.prog (Zq26_G N) := gOf_ok ⟨Zq54_pc N, Zq53_pc N, Zq28_pc N, trivial⟩
noncomputable def Zq26_code : Code := (Tryz.f63.body).getD .skip
noncomputable def Zq26 (N : Nat) (list : (List Int)) (below : Int) : Option ((Bool × Unit) × (Unit)) :=
 (br (ieq (tLen list) below)
 (((Zq54 N list).bind fun r =>
 ((Zq53 N r.1.1).bind fun r1 =>
 ((Zq28 N r1.1.1 below).bind fun r2 =>
 some ((r2.1.1, ()), ())))))
 (some ((false, ()), ())))
noncomputable def Zq26_S (N : Nat) : FSum := ⟨Zq26_ps, Zq26_rs, fun x => Zq26 N x.1 x.2.1⟩
theorem Zq26_pc (N : Nat) : PC Tryz.prog 63 (Zq26_S N) := pcQ (L := []) (Zq26_gok N) Tryz.call63 Tryz.func63 (fun x => by kernel_rfl) trivial (by kernel_rfl)

/-! ### Zq41 -/
abbrev Zq41_ps : List (PV.Mode × Ty) := [(.ro, U64), (.ro, U64)]
abbrev Zq41_rs : List (Bool × Ty) := [(true, U64), (true, U64)]
noncomputable def Zq41_G (N : Nat) : GTab := gOf []
theorem Zq41_gok (N : Nat) : GOk Tryz.prog (Zq41_G N) := gOf_ok trivial
noncomputable def Zq41_code : Code := (Tryz.f149.body).getD .skip
noncomputable def Zq41 (N : Nat) (x : Int) (y : Int) : Option ((Int × Int × Unit) × (Unit)) :=
 some (((IntKind.u64.wrap ((IntKind.u64.wrap ((IntKind.u64.wrap ((shrI .u64 x 32) * (shrI .u64 y 32))) + (shrI .u64 (IntKind.u64.wrap ((IntKind.u64.wrap ((shrI .u64 x 32) * (bitop .and .u64 y 4294967295))) + (shrI .u64 (IntKind.u64.wrap ((bitop .and .u64 x 4294967295) * (bitop .and .u64 y 4294967295))) 32))) 32))) + (shrI .u64 (IntKind.u64.wrap ((bitop .and .u64 (IntKind.u64.wrap ((IntKind.u64.wrap ((shrI .u64 x 32) * (bitop .and .u64 y 4294967295))) + (shrI .u64 (IntKind.u64.wrap ((bitop .and .u64 x 4294967295) * (bitop .and .u64 y 4294967295))) 32))) 4294967295) + (IntKind.u64.wrap ((bitop .and .u64 x 4294967295) * (shrI .u64 y 32))))) 32))), (IntKind.u64.wrap (x * y)), ()), ())
noncomputable def Zq41_S (N : Nat) : FSum := ⟨Zq41_ps, Zq41_rs, fun x => Zq41 N x.1 x.2.1⟩
theorem Zq41_pc (N : Nat) : PC Tryz.prog 149 (Zq41_S N) := pcQ (L := []) (Zq41_gok N) Tryz.call149 Tryz.func149 (fun x => by kernel_rfl) trivial (by kernel_rfl)

/-! ### Zq40 -/
abbrev Zq40_ps : List (PV.Mode × Ty) := [(.ro, U64), (.ro, U64)]
abbrev Zq40_rs : List (Bool × Ty) := [(true, U64), (true, U64)]
noncomputable def Zq40_G (N : Nat) : GTab := gOf [(149, Zq41_S N)]
theorem Zq40_gok (N : Nat) : GOk Tryz.prog (Zq40_G N) := gOf_ok ⟨Zq41_pc N, trivial⟩
noncomputable def Zq40_code : Code := (Tryz.f115.body).getD .skip
noncomputable def Zq40 (N : Nat) (x : Int) (y : Int) : Option ((Int × Int × Unit) × (Unit)) :=
 ((Zq41 N x y).bind fun r =>
 some ((r.1.1, r.1.2.1, ()), ()))
noncomputable def Zq40_S (N : Nat) : FSum := ⟨Zq40_ps, Zq40_rs, fun x => Zq40 N x.1 x.2.1⟩
theorem Zq40_pc (N : Nat) : PC Tryz.prog 115 (Zq40_S N) := pcQ (L := []) (Zq40_gok N) Tryz.call115 Tryz.func115 (fun x => by kernel_rfl) trivial (by kernel_rfl)
end Go.Proofs.YtkffaahlpdlkoaaGreat
