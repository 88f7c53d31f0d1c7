/- Functions of the program as functions on data. -/
import Derived.Test.YtffeokcchabclaaGreatThresholdsFa
set_option linter.all false
namespace Go.Proofs.YtffeokcchabclaaGreat
open Go Go.PV
abbrev Zq117_ps : List (PV.Mode × Ty) := [(.ro, LLI)]
abbrev Zq117_rs : List (Bool × Ty) := [(false, LLI)]
noncomputable def Zq117_G (N : Nat) : GTab := gOf [(168, Zq107_S N), (71, Zq103_S N), (145, Zq106_S N)]
theorem Zq117_gok (N : Nat) : GOk Tryz.prog (Zq117_G N) := gOf_ok ⟨Zq107_pc N, Zq103_pc N, Zq106_pc N, trivial⟩
noncomputable def Zq117_code : Code := (Tryz.f136.body).getD .skip
noncomputable def Zq117_l0_0_sh : Sh := ⟨[(0, .one (.ro LLI)), (3, .one (.ref 0)), (4, .one (.ro I)), (5, .one (.ro I))], [.sl 27 LI .own]⟩
noncomputable def Zq117_l0_0_ex : List (Ex × Sh) := [(.exit 2, ⟨[(0, .one (.ro LLI)), (3, .one (.ref 0)), (4, .one (.ro I)), (5, .one (.ro I))], [.sl 27 LI .own]⟩)]
noncomputable def Zq117_l0_0 {R : Type} (N : Nat) (k0 : (List (List Int)) → Int → Int → (List (List Int)) → Option R) : Nat → (List (List Int)) → Int → Int → (List (List Int)) → Option R
 | 0, _, _, _, _ => none
 | K + 1, states4, i3, kv1, o3 =>
 (br (ilt 0 kv1)
 ((chk (inb states4 i3)
 (chk (inb o3 (IntKind.i64.wrap (kv1 - 1)))
 ((Zq107 N (rdL states4 i3) (rdL o3 (IntKind.i64.wrap (kv1 - 1)))).bind fun r =>
 (br r.1.1
 (Zq117_l0_0 N k0 K states4 i3 (IntKind.i64.wrap (kv1 - 1)) o3)
 (k0 states4 i3 kv1 o3))))))
 (k0 states4 i3 kv1 o3))
noncomputable def Zq117_l0_0_again {R : Type} (N : Nat) (ks : KS Zq117_l0_0_ex R) (k : Nat) (x : Zq117_l0_0_sh.T) : Option R :=
 Zq117_l0_0 N (fun y0 y1 y2 y3 => ks 0 ((y0, (), y1, y2, ()), (y3, ()))) k x.1.1 x.1.2.2.1 x.1.2.2.2.1 x.2.1
noncomputable def Zq117_l0_0_s (N : Nat) : LSum := ⟨Zq117_l0_0_sh, Zq117_l0_0_ex, fun x ks => Zq117_l0_0_again N ks N x⟩
theorem Zq117_l0_0_ok (N : Nat) : LoopOk Tryz.prog Tryz.f136.ntmps (Zq117_l0_0_s N) (loopAt (loopAt Zq117_code 0) 0) := loopQ (sh := Zq117_l0_0_sh) (ex := Zq117_l0_0_ex) (N := N) (L := []) (fun R k x ks => Zq117_l0_0_again N ks k x) (Zq117_gok N) (fun _ _ _ => rfl) (fun R k x ks => by kernel_rfl) trivial (by kernel_rfl)
noncomputable def Zq117_l0_sh : Sh := ⟨[(0, .one (.ro LLI)), (3, .one (.ref 0)), (4, .one (.ro I))], [.sl 27 LI .own]⟩
noncomputable def Zq117_l0_ex : List (Ex × Sh) := [(.exit 0, ⟨[(3, .one (.ref 0))], [.sl 27 LI .own]⟩)]
noncomputable def Zq117_l0 {R : Type} (N : Nat) (k0 : (List (List Int)) → Option R) : Nat → (List (List Int)) → Int → (List (List Int)) → Option R
 | 0, _, _, _ => none
 | K + 1, states3, i2, o2 =>
 (br (ilt i2 (tLen states3))
 (Zq117_l0_0 N (fun states4 i3 kv1 o3 => (br (ieq kv1 0)
 ((chk (ile 0 0 && ile 0 kv1 && ile kv1 (tLen o3))
 (chk (room (α := (List Int)) (β := (List Int)) [] (tCut o3 0 kv1))
 (chk (inb states4 i3)
 ((Zq103 N (rdL states4 i3)).bind fun r =>
 (chk (room (tApp [] (tCut o3 0 kv1)) [r.1.1])
 (chk (ile 0 kv1 && ile kv1 (tLen o3) && ile (tLen o3) (tLen o3))
 (chk (room (tApp (tApp [] (tCut o3 0 kv1)) [r.1.1]) (tCut o3 kv1 (tLen o3)))
 (Zq117_l0 N k0 K states4 (IntKind.i64.wrap (i3 + 1)) (tApp (tApp (tApp [] (tCut o3 0 kv1)) [r.1.1]) (tCut o3 kv1 (tLen o3))))))))))))
 ((chk (inb o3 (IntKind.i64.wrap (kv1 - 1)))
 (chk (inb states4 i3)
 ((Zq106 N (rdL o3 (IntKind.i64.wrap (kv1 - 1))) (rdL states4 i3)).bind fun r1 =>
 (br (!r1.1.1)
 ((chk (ile 0 0 && ile 0 kv1 && ile kv1 (tLen o3))
 (chk (room (α := (List Int)) (β := (List Int)) [] (tCut o3 0 kv1))
 (chk (inb states4 i3)
 ((Zq103 N (rdL states4 i3)).bind fun r2 =>
 (chk (room (tApp [] (tCut o3 0 kv1)) [r2.1.1])
 (chk (ile 0 kv1 && ile kv1 (tLen o3) && ile (tLen o3) (tLen o3))
 (chk (room (tApp (tApp [] (tCut o3 0 kv1)) [r2.1.1]) (tCut o3 kv1 (tLen o3)))
 (Zq117_l0 N k0 K states4 (IntKind.i64.wrap (i3 + 1)) (tApp (tApp (tApp [] (tCut o3 0 kv1)) [r2.1.1]) (tCut o3 kv1 (tLen o3))))))))))))
 (Zq117_l0 N k0 K states4 (IntKind.i64.wrap (i3 + 1)) o3)))))))) N states3 i2 (tLen o2) o2)
 (k0 o2))
noncomputable def Zq117_l0_again {R : Type} (N : Nat) (ks : KS Zq117_l0_ex R) (k : Nat) (x : Zq117_l0_sh.T) : Option R :=
 Zq117_l0 N (fun y0 => ks 0 (((), ()), (y0, ()))) k x.1.1 x.1.2.2.1 x.2.1
noncomputable def Zq117_l0_s (N : Nat) : LSum := ⟨Zq117_l0_sh, Zq117_l0_ex, fun x ks => Zq117_l0_again N ks N x⟩
theorem Zq117_l0_ok (N : Nat) : LoopOk Tryz.prog Tryz.f136.ntmps (Zq117_l0_s N) (loopAt Zq117_code 0) := loopQ (sh := Zq117_l0_sh) (ex := Zq117_l0_ex) (N := N) (L := [Zq117_l0_0_s N]) (fun R k x ks => Zq117_l0_again N ks k x) (Zq117_gok N) (fun _ _ _ => rfl) (fun R k x ks => by kernel_rfl) ⟨Zq117_l0_0_ok N, trivial⟩ (by kernel_rfl)
noncomputable def Zq117 (N : Nat) (states : (List (List Int))) : Option (((List (List Int)) × Unit) × (Unit)) :=
 Zq117_l0 N (fun o2 => some ((o2, ()), ())) N states 0 []
noncomputable def Zq117_S (N : Nat) : FSum := ⟨Zq117_ps, Zq117_rs, fun x => Zq117 N x.1⟩
theorem Zq117_pc (N : Nat) : PC Tryz.prog 136 (Zq117_S N) := pcQ (L := [Zq117_l0_s N]) (Zq117_gok N) Tryz.call136 Tryz.func136 (fun x => by kernel_rfl) ⟨Zq117_l0_ok N, trivial⟩ (by kernel_rfl)

abbrev Zq129_ps : List (PV.Mode × Ty) := [(.ro, QILQII), (.ro, I)]
abbrev Zq129_rs : List (Bool × Ty) := [(false, LLI)]
noncomputable def Zq129_G (N : Nat) : GTab := gOf [(135, Zq108_S N), (67, Zq124_S N), (136, Zq117_S N)]
theorem Zq129_gok (N : Nat) : GOk Tryz.prog (Zq129_G N) := gOf_ok ⟨Zq108_pc N, Zq124_pc N, Zq117_pc N, trivial⟩
noncomputable def Zq129_code : Code := (Tryz.f77.body).getD .skip
noncomputable def Zq129_l0_0_sh : Sh := ⟨[(1, .one (.ro I)), (2, .one (.adr 0 0)), (5, .one (.ref 1)), (6, .one (.ro I)), (7, .one (.ref 2)), (8, .one (.ro I))], [.box [.ro I, .ro LQII], .sl 27 LI .own, .sl 27 LI .deep]⟩
noncomputable def Zq129_l0_0_ex : List (Ex × Sh) := [(.exit 2, ⟨[(1, .one (.ro I)), (2, .one (.adr 0 0)), (5, .one (.ref 1)), (6, .one (.ro I)), (7, .one (.ref 2))], [.box [.ro I, .ro LQII], .sl 27 LI .own, .sl 27 LI .deep]⟩)]
noncomputable def Zq129_l0_0 {R : Type} (N : Nat) (k0 : Int → Int → Int → (List (Int × Int)) → (List (List Int)) → (List (List Int)) → Option R) : Nat → Int → Int → Int → Int → (List (Int × Int)) → (List (List Int)) → (List (List Int)) → Option R
 | 0, _, _, _, _, _, _, _ => none
 | K + 1, kind4, size3, code, o10, o11, o12, o13 =>
 (chk (ile 0 o10)
 (br (ilt code (shlI .i64 1 o10))
 (((Zq108 N o10 code).bind fun r1 =>
 (br (ieq (tLen r1.1.1) size3)
 (((Zq124 N (o10, o11) kind4 r1.1.1).bind fun r2 =>
 (br r2.1.1
 ((chk (room o13 [r1.1.1])
 (Zq129_l0_0 N k0 K kind4 size3 (IntKind.i64.wrap (code + 1)) o10 o11 o12 (tApp o13 [r1.1.1]))))
 (Zq129_l0_0 N k0 K kind4 size3 (IntKind.i64.wrap (code + 1)) o10 o11 o12 o13))))
 (Zq129_l0_0 N k0 K kind4 size3 (IntKind.i64.wrap (code + 1)) o10 o11 o12 o13))))
 (k0 kind4 size3 o10 o11 o12 o13)))
noncomputable def Zq129_l0_0_again {R : Type} (N : Nat) (ks : KS Zq129_l0_0_ex R) (k : Nat) (x : Zq129_l0_0_sh.T) : Option R :=
 Zq129_l0_0 N (fun y0 y1 y2 y3 y4 y5 => ks 0 ((y0, (), (), y1, (), ()), ((y2, y3, ()), y4, y5, ()))) k x.1.1 x.1.2.2.2.1 x.1.2.2.2.2.2.1 x.2.1.1 x.2.1.2.1 x.2.2.1 x.2.2.2.1
noncomputable def Zq129_l0_0_s (N : Nat) : LSum := ⟨Zq129_l0_0_sh, Zq129_l0_0_ex, fun x ks => Zq129_l0_0_again N ks N x⟩
theorem Zq129_l0_0_ok (N : Nat) : LoopOk Tryz.prog Tryz.f77.ntmps (Zq129_l0_0_s N) (loopAt (loopAt Zq129_code 0) 0) := loopQ (sh := Zq129_l0_0_sh) (ex := Zq129_l0_0_ex) (N := N) (L := []) (fun R k x ks => Zq129_l0_0_again N ks k x) (Zq129_gok N) (fun _ _ _ => rfl) (fun R k x ks => by kernel_rfl) trivial (by kernel_rfl)
noncomputable def Zq129_l0_sh : Sh := ⟨[(1, .one (.ro I)), (2, .one (.adr 0 0)), (5, .one (.ref 1)), (6, .one (.ro I))], [.box [.ro I, .ro LQII], .sl 27 LI .own]⟩
noncomputable def Zq129_l0_ex : List (Ex × Sh) := [(.exit 0, ⟨[(5, .one (.ref 0))], [.sl 27 LI .own]⟩)]
noncomputable def Zq129_l0 {R : Type} (N : Nat) (k0 : (List (List Int)) → Option R) : Nat → Int → Int → Int → (List (Int × Int)) → (List (List Int)) → Option R
 | 0, _, _, _, _, _ => none
 | K + 1, kind3, size2, o7, o8, o9 =>
 (br (ile size2 o7)
 (Zq129_l0_0 N (fun kind4 size3 o10 o11 o12 o13 => ((Zq117 N o13).bind fun r1 =>
 (chk (room o12 r1.1.1)
 (Zq129_l0 N k0 K kind4 (IntKind.i64.wrap (size3 + 1)) o10 o11 (tApp o12 r1.1.1))))) N kind3 size2 0 o7 o8 o9 [])
 (k0 o9))
noncomputable def Zq129_l0_again {R : Type} (N : Nat) (ks : KS Zq129_l0_ex R) (k : Nat) (x : Zq129_l0_sh.T) : Option R :=
 Zq129_l0 N (fun y0 => ks 0 (((), ()), (y0, ()))) k x.1.1 x.1.2.2.2.1 x.2.1.1 x.2.1.2.1 x.2.2.1
noncomputable def Zq129_l0_s (N : Nat) : LSum := ⟨Zq129_l0_sh, Zq129_l0_ex, fun x ks => Zq129_l0_again N ks N x⟩
theorem Zq129_l0_ok (N : Nat) : LoopOk Tryz.prog Tryz.f77.ntmps (Zq129_l0_s N) (loopAt Zq129_code 0) := loopQ (sh := Zq129_l0_sh) (ex := Zq129_l0_ex) (N := N) (L := [Zq129_l0_0_s N]) (fun R k x ks => Zq129_l0_again N ks k x) (Zq129_gok N) (fun _ _ _ => rfl) (fun R k x ks => by kernel_rfl) ⟨Zq129_l0_0_ok N, trivial⟩ (by kernel_rfl)
noncomputable def Zq129 (N : Nat) (g : (Int × (List (Int × Int)))) (kind : Int) : Option (((List (List Int)) × Unit) × (Unit)) :=
 Zq129_l0 N (fun o7 => some ((o7, ()), ())) N kind 0 g.1 g.2 []
noncomputable def Zq129_S (N : Nat) : FSum := ⟨Zq129_ps, Zq129_rs, fun x => Zq129 N x.1 x.2.1⟩
theorem Zq129_pc (N : Nat) : PC Tryz.prog 77 (Zq129_S N) := pcQ (L := [Zq129_l0_s N]) (Zq129_gok N) Tryz.call77 Tryz.func77 (fun x => by kernel_rfl) ⟨Zq129_l0_ok N, trivial⟩ (by kernel_rfl)

abbrev Zq102_ps : List (PV.Mode × Ty) := [(.ro, LI)]
abbrev Zq102_rs : List (Bool × Ty) := [(true, LI)]
noncomputable def Zq102_G (N : Nat) : GTab := gOf []
theorem Zq102_gok (N : Nat) : GOk Tryz.prog (Zq102_G N) := gOf_ok trivial
noncomputable def Zq102_code : Code := (Tryz.f71.body).getD .skip
noncomputable def Zq102 (N : Nat) (l : (List Int)) : Option (((List Int) × Unit) × (Unit)) :=
 (chk (room (α := Int) (β := Int) [] l)
 (some (((tApp [] l), ()), ())))
noncomputable def Zq102_S (N : Nat) : FSum := ⟨Zq102_ps, Zq102_rs, fun x => Zq102 N x.1⟩
theorem Zq102_pc (N : Nat) : PC Tryz.prog 71 (Zq102_S N) := pcQ (L := []) (Zq102_gok N) Tryz.call71 Tryz.func71 (fun x => by kernel_rfl) trivial (by kernel_rfl)

abbrev Zq94_ps : List (PV.Mode × Ty) := [(.mut, BQOU8QIU64), (.ro, QILQII), (.ro, I)]
abbrev Zq94_rs : List (Bool × Ty) := [(true, LI)]
noncomputable def Zq94_G (N : Nat) : GTab := gOf [(65, Zq123_S N), (123, Zq93_S N), (57, Zq95_S N), (77, Zq129_S N), (122, Zq96_S N), (71, Zq102_S N)]
theorem Zq94_gok (N : Nat) : GOk Tryz.prog (Zq94_G N) := gOf_ok ⟨Zq123_pc N, Zq93_pc N, Zq95_pc N, Zq129_pc N, Zq96_pc N, Zq102_pc N, trivial⟩
noncomputable def Zq94_code : Code := (Tryz.f56.body).getD .skip
noncomputable def Zq94 (N : Nat) (c : ((List Int) × (Int × Int))) (g : (Int × (List (Int × Int)))) (kind : Int) : Option (((List Int) × Unit) × (((List Int) × (Int × Int)) × Unit)) :=
 ((Zq123 N (g.1, g.2) kind).bind fun r =>
 (br (!r.1.1)
 (((Zq93 N c (g.1, g.2)).bind fun r1 =>
 some ((r1.1.1, ()), (r1.2.1, ()))))
 (((Zq95 N c 8).bind fun r2 =>
 (br r2.1.1
 (((Zq93 N r2.2.1 (g.1, g.2)).bind fun r3 =>
 some ((r3.1.1, ()), (r3.2.1, ()))))
 (((Zq129 N (g.1, g.2) kind).bind fun r4 =>
 ((Zq96 N r2.2.1 (tLen r4.1.1)).bind fun r5 =>
 (chk (inb r4.1.1 r5.1.1)
 ((Zq102 N (rdL r4.1.1 r5.1.1)).bind fun r6 =>
 some ((r6.1.1, ()), (r5.2.1, ()))))))))))))
noncomputable def Zq94_S (N : Nat) : FSum := ⟨Zq94_ps, Zq94_rs, fun x => Zq94 N x.1 x.2.1 x.2.2.1⟩
theorem Zq94_pc (N : Nat) : PC Tryz.prog 56 (Zq94_S N) := pcQ (L := []) (Zq94_gok N) Tryz.call56 Tryz.func56 (fun x => by kernel_rfl) trivial (by kernel_rfl)

abbrev Zq81_ps : List (PV.Mode × Ty) := [(.ro, LU8)]
abbrev Zq81_rs : List (Bool × Ty) := [(false, QILQII), (false, I), (false, LI), (false, LI)]
noncomputable def Zq81_G (N : Nat) : GTab := gOf [(87, Zq97_S N), (57, Zq95_S N), (54, Zq90_S N), (55, Zq91_S N), (56, Zq94_S N)]
theorem Zq81_gok (N : Nat) : GOk Tryz.prog (Zq81_G N) := gOf_ok ⟨Zq97_pc N, Zq95_pc N, Zq90_pc N, Zq91_pc N, Zq94_pc N, trivial⟩
noncomputable def Zq81_code : Code := (Tryz.f45.body).getD .skip
noncomputable def Zq81 (N : Nat) (code : (List Int)) : Option (((Int × (List (Int × Int))) × Int × (List Int) × (List Int) × Unit) × (Unit)) :=
 ((Zq97 N (code, (0, 0)) 5).bind fun r =>
 ((Zq95 N r.2.1 8).bind fun r1 =>
 (br r1.1.1
 (((Zq90 N r1.2.1).bind fun r2 =>
 ((Zq91 N r2.2.1).bind fun r3 =>
 ((Zq94 N (r3.2.1.1, (r3.2.1.2.1, r3.2.1.2.2)) (r2.1.1.1, r2.1.1.2) r3.1.1).bind fun r4 =>
 ((Zq94 N r4.2.1 (r2.1.1.1, r2.1.1.2) r3.1.1).bind fun r5 =>
 some (((r2.1.1.1, r2.1.1.2), r3.1.1, r4.1.1, r5.1.1, ()), ()))))))
 (((Zq91 N r1.2.1).bind fun r6 =>
 ((Zq94 N (r6.2.1.1, (r6.2.1.2.1, r6.2.1.2.2)) (r.1.1.1, r.1.1.2) r6.1.1).bind fun r7 =>
 ((Zq94 N r7.2.1 (r.1.1.1, r.1.1.2) r6.1.1).bind fun r8 =>
 some (((r.1.1.1, r.1.1.2), r6.1.1, r7.1.1, r8.1.1, ()), ()))))))))
noncomputable def Zq81_S (N : Nat) : FSum := ⟨Zq81_ps, Zq81_rs, fun x => Zq81 N x.1⟩
theorem Zq81_pc (N : Nat) : PC Tryz.prog 45 (Zq81_S N) := pcQ (L := []) (Zq81_gok N) Tryz.call45 Tryz.func45 (fun x => by kernel_rfl) trivial (by kernel_rfl)

abbrev Zq38_ps : List (PV.Mode × Ty) := [(.ro, I), (.ro, I), (.ro, I)]
abbrev Zq38_rs : List (Bool × Ty) := [(true, .bool)]
noncomputable def Zq38_G (N : Nat) : GTab := gOf []
theorem Zq38_gok (N : Nat) : GOk Tryz.prog (Zq38_G N) := gOf_ok trivial
noncomputable def Zq38_code : Code := (Tryz.f130.body).getD .skip
noncomputable def Zq38 (N : Nat) (n : Int) (low : Int) (high : Int) : Option ((Bool × Unit) × (Unit)) :=
 (br (ile low n)
 (some (((ile n high), ()), ()))
 (some ((false, ()), ())))
noncomputable def Zq38_S (N : Nat) : FSum := ⟨Zq38_ps, Zq38_rs, fun x => Zq38 N x.1 x.2.1 x.2.2.1⟩
theorem Zq38_pc (N : Nat) : PC Tryz.prog 130 (Zq38_S N) := pcQ (L := []) (Zq38_gok N) Tryz.call130 Tryz.func130 (fun x => by kernel_rfl) trivial (by kernel_rfl)

abbrev Zq2_ps : List (PV.Mode × Ty) := [(.ro, I)]
abbrev Zq2_rs : List (Bool × Ty) := [(true, .bool)]
noncomputable def Zq2_G (N : Nat) : GTab := gOf []
theorem Zq2_gok (N : Nat) : GOk Tryz.prog (Zq2_G N) := gOf_ok trivial
noncomputable def Zq2_code : Code := (Tryz.f184.body).getD .skip
noncomputable def Zq2 (N : Nat) (x : Int) : Option ((Bool × Unit) × (Unit)) :=
 some (((ine x x), ()), ())
noncomputable def Zq2_S (N : Nat) : FSum := ⟨Zq2_ps, Zq2_rs, fun x => Zq2 N x.1⟩
theorem Zq2_pc (N : Nat) : PC Tryz.prog 184 (Zq2_S N) := pcQ (L := []) (Zq2_gok N) Tryz.call184 Tryz.func184 (fun x => by kernel_rfl) trivial (by kernel_rfl)

abbrev Zq0_ps : List (PV.Mode × Ty) := [(.ro, I), (.ro, I)]
abbrev Zq0_rs : List (Bool × Ty) := [(true, I)]
noncomputable def Zq0_G (N : Nat) : GTab := gOf [(184, Zq2_S N)]
theorem Zq0_gok (N : Nat) : GOk Tryz.prog (Zq0_G N) := gOf_ok ⟨Zq2_pc N, trivial⟩
noncomputable def Zq0_code : Code := (Tryz.f153.body).getD .skip
noncomputable def Zq0 (N : Nat) (x : Int) (y : Int) : Option ((Int × Unit) × (Unit)) :=
 ((Zq2 N x).bind fun r =>
 ((Zq2 N y).bind fun r1 =>
 (br r.1.1
 ((br r1.1.1
 (some ((0, ()), ()))
 (some (((-1), ()), ()))))
 ((br r1.1.1
 (some ((1, ()), ()))
 ((br (ilt x y)
 (some (((-1), ()), ()))
 ((br (ilt y x)
 (some ((1, ()), ()))
 (some ((0, ()), ())))))))))))
noncomputable def Zq0_S (N : Nat) : FSum := ⟨Zq0_ps, Zq0_rs, fun x => Zq0 N x.1 x.2.1⟩
theorem Zq0_pc (N : Nat) : PC Tryz.prog 153 (Zq0_S N) := pcQ (L := []) (Zq0_gok N) Tryz.call153 Tryz.func153 (fun x => by kernel_rfl) trivial (by kernel_rfl)

abbrev Zq1_ps : List (PV.Mode × Ty) := [(.ro, LI)]
abbrev Zq1_rs : List (Bool × Ty) := [(true, I)]
noncomputable def Zq1_G (N : Nat) : GTab := gOf []
theorem Zq1_gok (N : Nat) : GOk Tryz.prog (Zq1_G N) := gOf_ok trivial
noncomputable def Zq1_code : Code := (Tryz.f156.body).getD .skip
noncomputable def Zq1_l0_sh : Sh := ⟨[(3, .one (.ro I)), (6, .one (.ro LI)), (7, .one (.ro I)), (8, .one (.ro I))], []⟩
noncomputable def Zq1_l0_ex : List (Ex × Sh) := [(.ret, ⟨[(2, .one (.ro I))], []⟩), (.exit 0, ⟨[(3, .one (.ro I))], []⟩)]
noncomputable def Zq1_l0 {R : Type} (N : Nat) (k0 : Int → Option R) (k1 : Int → Option R) : Nat → Int → (List Int) → Int → Int → Option R
 | 0, _, _, _, _ => none
 | K + 1, zero, x, x1, x2 =>
 (br (ilt x2 x1)
 ((chk (inb x x2)
 (br (ine (rdI x x2) zero)
 (k0 (rdI x x2))
 (Zq1_l0 N k0 k1 K zero x x1 (IntKind.i64.wrap (x2 + 1))))))
 (k1 zero))
noncomputable def Zq1_l0_again {R : Type} (N : Nat) (ks : KS Zq1_l0_ex R) (k : Nat) (x : Zq1_l0_sh.T) : Option R :=
 Zq1_l0 N (fun y0 => ks 0 ((y0, ()), ())) (fun y0 => ks 1 ((y0, ()), ())) k x.1.1 x.1.2.1 x.1.2.2.1 x.1.2.2.2.1
noncomputable def Zq1_l0_s (N : Nat) : LSum := ⟨Zq1_l0_sh, Zq1_l0_ex, fun x ks => Zq1_l0_again N ks N x⟩
theorem Zq1_l0_ok (N : Nat) : LoopOk Tryz.prog Tryz.f156.ntmps (Zq1_l0_s N) (loopAt Zq1_code 0) := loopQ (sh := Zq1_l0_sh) (ex := Zq1_l0_ex) (N := N) (L := []) (fun R k x ks => Zq1_l0_again N ks k x) (Zq1_gok N) (fun _ _ _ => rfl) (fun R k x ks => by kernel_rfl) trivial (by kernel_rfl)
noncomputable def Zq1 (N : Nat) (vals : (List Int)) : Option ((Int × Unit) × (Unit)) :=
 Zq1_l0 N (fun x => some ((x, ()), ())) (fun zero => some ((zero, ()), ())) N 0 vals (tLen vals) 0
noncomputable def Zq1_S (N : Nat) : FSum := ⟨Zq1_ps, Zq1_rs, fun x => Zq1 N x.1⟩
theorem Zq1_pc (N : Nat) : PC Tryz.prog 156 (Zq1_S N) := pcQ (L := [Zq1_l0_s N]) (Zq1_gok N) Tryz.call156 Tryz.func156 (fun x => by kernel_rfl) ⟨Zq1_l0_ok N, trivial⟩ (by kernel_rfl)

abbrev Zq39_ps : List (PV.Mode × Ty) := [(.ro, QII), (.ro, QII)]
abbrev Zq39_rs : List (Bool × Ty) := [(true, I)]
noncomputable def Zq39_G (N : Nat) : GTab := gOf [(153, Zq0_S N), (156, Zq1_S N)]
theorem Zq39_gok (N : Nat) : GOk Tryz.prog (Zq39_G N) := gOf_ok ⟨Zq0_pc N, Zq1_pc N, trivial⟩
noncomputable def Zq39_code : Code := (Tryz.f108.body).getD .skip
noncomputable def Zq39 (N : Nat) (a : (Int × Int)) (b : (Int × Int)) : Option ((Int × Unit) × (Unit)) :=
 ((Zq0 N a.1 b.1).bind fun r =>
 ((Zq0 N a.2 b.2).bind fun r1 =>
 ((Zq1 N [r.1.1, r1.1.1]).bind fun r2 =>
 some ((r2.1.1, ()), ()))))
noncomputable def Zq39_S (N : Nat) : FSum := ⟨Zq39_ps, Zq39_rs, fun x => Zq39 N x.1 x.2.1⟩
theorem Zq39_pc (N : Nat) : PC Tryz.prog 108 (Zq39_S N) := pcQ (L := []) (Zq39_gok N) Tryz.call108 Tryz.func108 (fun x => by kernel_rfl) trivial (by kernel_rfl)

abbrev Zq44_ps : List (PV.Mode × Ty) := [(.ro, LQII), (.ro, I)]
abbrev Zq44_rs : List (Bool × Ty) := [(true, .bool)]
noncomputable def Zq44_G (N : Nat) : GTab := gOf [(108, Zq39_S N)]
theorem Zq44_gok (N : Nat) : GOk Tryz.prog (Zq44_G N) := gOf_ok ⟨Zq39_pc N, trivial⟩
noncomputable def Zq44_code : Code := (Tryz.f131.body).getD .skip
noncomputable def Zq44_l0_sh : Sh := ⟨[(0, .one (.ro LQII)), (1, .one (.ro I)), (7, .one (.ro LQII)), (8, .one (.ro I)), (9, .one (.ro I))], []⟩
noncomputable def Zq44_l0_ex : List (Ex × Sh) := [(.ret, ⟨[(4, .one (.ro .bool))], []⟩), (.exit 0, ⟨[], []⟩)]
noncomputable def Zq44_l0 {R : Type} (N : Nat) (k0 : Bool → Option R) (k1 : Unit → Option R) : Nat → (List (Int × Int)) → Int → (List (Int × Int)) → Int → Int → Option R
 | 0, _, _, _, _, _ => none
 | K + 1, list1, below1, x, x1, x2 =>
 (br (ilt x2 x1)
 ((chk (inb x x2)
 (br (ilt ((rdP x x2).1) 0)
 (k0 false)
 ((br (ile ((rdP x x2).2) ((rdP x x2).1))
 (k0 false)
 ((br (ile below1 ((rdP x x2).2))
 (k0 false)
 ((br (ilt 0 x2)
 ((chk (inb list1 (IntKind.i64.wrap (x2 - 1)))
 ((Zq39 N (rdP list1 (IntKind.i64.wrap (x2 - 1))) ((rdP x x2).1, (rdP x x2).2)).bind fun r =>
 (br (ile 0 r.1.1)
 (k0 false)
 (Zq44_l0 N k0 k1 K list1 below1 x x1 (IntKind.i64.wrap (x2 + 1)))))))
 (Zq44_l0 N k0 k1 K list1 below1 x x1 (IntKind.i64.wrap (x2 + 1))))))))))))
 (k1 ()))
noncomputable def Zq44_l0_again {R : Type} (N : Nat) (ks : KS Zq44_l0_ex R) (k : Nat) (x : Zq44_l0_sh.T) : Option R :=
 Zq44_l0 N (fun y0 => ks 0 ((y0, ()), ())) (fun (_ : Unit) => ks 1 ((), ())) k x.1.1 x.1.2.1 x.1.2.2.1 x.1.2.2.2.1 x.1.2.2.2.2.1
noncomputable def Zq44_l0_s (N : Nat) : LSum := ⟨Zq44_l0_sh, Zq44_l0_ex, fun x ks => Zq44_l0_again N ks N x⟩
theorem Zq44_l0_ok (N : Nat) : LoopOk Tryz.prog Tryz.f131.ntmps (Zq44_l0_s N) (loopAt Zq44_code 0) := loopQ (sh := Zq44_l0_sh) (ex := Zq44_l0_ex) (N := N) (L := []) (fun R k x ks => Zq44_l0_again N ks k x) (Zq44_gok N) (fun _ _ _ => rfl) (fun R k x ks => by kernel_rfl) trivial (by kernel_rfl)
noncomputable def Zq44 (N : Nat) (list : (List (Int × Int))) (below : Int) : Option ((Bool × Unit) × (Unit)) :=
 Zq44_l0 N (fun x => some ((x, ()), ())) (fun (_ : Unit) => some ((true, ()), ())) N list below list (tLen list) 0
noncomputable def Zq44_S (N : Nat) : FSum := ⟨Zq44_ps, Zq44_rs, fun x => Zq44 N x.1 x.2.1⟩
theorem Zq44_pc (N : Nat) : PC Tryz.prog 131 (Zq44_S N) := pcQ (L := [Zq44_l0_s N]) (Zq44_gok N) Tryz.call131 Tryz.func131 (fun x => by kernel_rfl) ⟨Zq44_l0_ok N, trivial⟩ (by kernel_rfl)

abbrev Zq21_ps : List (PV.Mode × Ty) := [(.ro, QILQII)]
abbrev Zq21_rs : List (Bool × Ty) := [(true, .bool)]
noncomputable def Zq21_G (N : Nat) : GTab := gOf [(130, Zq38_S N), (131, Zq44_S N)]
theorem Zq21_gok (N : Nat) : GOk Tryz.prog (Zq21_G N) := gOf_ok ⟨Zq38_pc N, Zq44_pc N, trivial⟩
noncomputable def Zq21_code : Code := (Tryz.f74.body).getD .skip
noncomputable def Zq21 (N : Nat) (g : (Int × (List (Int × Int)))) : Option ((Bool × Unit) × (Unit)) :=
 ((Zq38 N g.1 0 8).bind fun r =>
 (br r.1.1
 (((Zq44 N g.2 g.1).bind fun r1 =>
 some ((r1.1.1, ()), ())))
 (some ((false, ()), ()))))
noncomputable def Zq21_S (N : Nat) : FSum := ⟨Zq21_ps, Zq21_rs, fun x => Zq21 N x.1⟩
theorem Zq21_pc (N : Nat) : PC Tryz.prog 74 (Zq21_S N) := pcQ (L := []) (Zq21_gok N) Tryz.call74 Tryz.func74 (fun x => by kernel_rfl) trivial (by kernel_rfl)

abbrev Zq42_ps : List (PV.Mode × Ty) := [(.ro, I)]
abbrev Zq42_rs : List (Bool × Ty) := [(true, .bool)]
noncomputable def Zq42_G (N : Nat) : GTab := gOf [(130, Zq38_S N)]
theorem Zq42_gok (N : Nat) : GOk Tryz.prog (Zq42_G N) := gOf_ok ⟨Zq38_pc N, trivial⟩
noncomputable def Zq42_code : Code := (Tryz.f75.body).getD .skip
noncomputable def Zq42 (N : Nat) (kind : Int) : Option ((Bool × Unit) × (Unit)) :=
 ((Zq38 N kind 1 3).bind fun r =>
 some ((r.1.1, ()), ()))
noncomputable def Zq42_S (N : Nat) : FSum := ⟨Zq42_ps, Zq42_rs, fun x => Zq42 N x.1⟩
theorem Zq42_pc (N : Nat) : PC Tryz.prog 75 (Zq42_S N) := pcQ (L := []) (Zq42_gok N) Tryz.call75 Tryz.func75 (fun x => by kernel_rfl) trivial (by kernel_rfl)

abbrev Zq45_ps : List (PV.Mode × Ty) := [(.ro, LI), (.ro, I)]
abbrev Zq45_rs : List (Bool × Ty) := [(true, .bool)]
noncomputable def Zq45_G (N : Nat) : GTab := gOf [(130, Zq38_S N)]
theorem Zq45_gok (N : Nat) : GOk Tryz.prog (Zq45_G N) := gOf_ok ⟨Zq38_pc N, trivial⟩
noncomputable def Zq45_code : Code := (Tryz.f80.body).getD .skip
noncomputable def Zq45_l0_sh : Sh := ⟨[(0, .one (.ro LI)), (1, .one (.ro I)), (7, .one (.ro LI)), (8, .one (.ro I)), (9, .one (.ro I))], []⟩
noncomputable def Zq45_l0_ex : List (Ex × Sh) := [(.ret, ⟨[(4, .one (.ro .bool))], []⟩), (.exit 0, ⟨[], []⟩)]
noncomputable def Zq45_l0 {R : Type} (N : Nat) (k0 : Bool → Option R) (k1 : Unit → Option R) : Nat → (List Int) → Int → (List Int) → Int → Int → Option R
 | 0, _, _, _, _, _ => none
 | K + 1, list1, below1, x, x1, x2 =>
 (br (ilt x2 x1)
 ((chk (inb x x2)
 ((Zq38 N (rdI x x2) 0 (IntKind.i64.wrap (below1 - 1))).bind fun r =>
 (br (!r.1.1)
 (k0 false)
 ((br (ilt 0 x2)
 ((chk (inb list1 (IntKind.i64.wrap (x2 - 1)))
 (br (ile (rdI x x2) (rdI list1 (IntKind.i64.wrap (x2 - 1))))
 (k0 false)
 (Zq45_l0 N k0 k1 K list1 below1 x x1 (IntKind.i64.wrap (x2 + 1))))))
 (Zq45_l0 N k0 k1 K list1 below1 x x1 (IntKind.i64.wrap (x2 + 1)))))))))
 (k1 ()))
noncomputable def Zq45_l0_again {R : Type} (N : Nat) (ks : KS Zq45_l0_ex R) (k : Nat) (x : Zq45_l0_sh.T) : Option R :=
 Zq45_l0 N (fun y0 => ks 0 ((y0, ()), ())) (fun (_ : Unit) => ks 1 ((), ())) k x.1.1 x.1.2.1 x.1.2.2.1 x.1.2.2.2.1 x.1.2.2.2.2.1
noncomputable def Zq45_l0_s (N : Nat) : LSum := ⟨Zq45_l0_sh, Zq45_l0_ex, fun x ks => Zq45_l0_again N ks N x⟩
theorem Zq45_l0_ok (N : Nat) : LoopOk Tryz.prog Tryz.f80.ntmps (Zq45_l0_s N) (loopAt Zq45_code 0) := loopQ (sh := Zq45_l0_sh) (ex := Zq45_l0_ex) (N := N) (L := []) (fun R k x ks => Zq45_l0_again N ks k x) (Zq45_gok N) (fun _ _ _ => rfl) (fun R k x ks => by kernel_rfl) trivial (by kernel_rfl)
noncomputable def Zq45 (N : Nat) (list : (List Int)) (below : Int) : Option ((Bool × Unit) × (Unit)) :=
 Zq45_l0 N (fun x => some ((x, ()), ())) (fun (_ : Unit) => some ((true, ()), ())) N list below list (tLen list) 0
noncomputable def Zq45_S (N : Nat) : FSum := ⟨Zq45_ps, Zq45_rs, fun x => Zq45 N x.1 x.2.1⟩
theorem Zq45_pc (N : Nat) : PC Tryz.prog 80 (Zq45_S N) := pcQ (L := [Zq45_l0_s N]) (Zq45_gok N) Tryz.call80 Tryz.func80 (fun x => by kernel_rfl) ⟨Zq45_l0_ok N, trivial⟩ (by kernel_rfl)

abbrev Zq46_ps : List (PV.Mode × Ty) := [(.ro, QILQII), (.ro, I), (.ro, LI)]
abbrev Zq46_rs : List (Bool × Ty) := [(true, .bool)]
noncomputable def Zq46_G (N : Nat) : GTab := gOf [(74, Zq21_S N), (75, Zq42_S N), (80, Zq45_S N)]
theorem Zq46_gok (N : Nat) : GOk Tryz.prog (Zq46_G N) := gOf_ok ⟨Zq21_pc N, Zq42_pc N, Zq45_pc N, trivial⟩
noncomputable def Zq46_code : Code := (Tryz.f63.body).getD .skip
noncomputable def Zq46 (N : Nat) (g : (Int × (List (Int × Int)))) (kind : Int) (setv : (List Int)) : Option ((Bool × Unit) × (Unit)) :=
 ((Zq21 N (g.1, g.2)).bind fun r =>
 (br r.1.1
 (((Zq42 N kind).bind fun r1 =>
 (br r1.1.1
 (((Zq45 N setv g.1).bind fun r2 =>
 some ((r2.1.1, ()), ())))
 (some ((false, ()), ())))))
 (some ((false, ()), ()))))
noncomputable def Zq46_S (N : Nat) : FSum := ⟨Zq46_ps, Zq46_rs, fun x => Zq46 N x.1 x.2.1 x.2.2.1⟩
theorem Zq46_pc (N : Nat) : PC Tryz.prog 63 (Zq46_S N) := pcQ (L := []) (Zq46_gok N) Tryz.call63 Tryz.func63 (fun x => by kernel_rfl) trivial (by kernel_rfl)

abbrev Zq34_ps : List (PV.Mode × Ty) := [(.ro, LI)]
abbrev Zq34_rs : List (Bool × Ty) := [(true, U64)]
noncomputable def Zq34_G (N : Nat) : GTab := gOf []
theorem Zq34_gok (N : Nat) : GOk Tryz.prog (Zq34_G N) := gOf_ok trivial
noncomputable def Zq34_code : Code := (Tryz.f60.body).getD .skip
noncomputable def Zq34_l0_sh : Sh := ⟨[(3, .one (.ro U64)), (6, .one (.ro LI)), (7, .one (.ro I)), (8, .one (.ro I))], []⟩
noncomputable def Zq34_l0_ex : List (Ex × Sh) := [(.exit 0, ⟨[(3, .one (.ro U64))], []⟩)]
noncomputable def Zq34_l0 {R : Type} (N : Nat) (k0 : Int → Option R) : Nat → Int → (List Int) → Int → Int → Option R
 | 0, _, _, _, _ => none
 | K + 1, out, x, x1, x2 =>
 (br (ilt x2 x1)
 ((chk (inb x x2)
 (chk (ile 0 (rdI x x2))
 (Zq34_l0 N k0 K (bitop .or .u64 out (shlI .u64 1 (rdI x x2))) x x1 (IntKind.i64.wrap (x2 + 1))))))
 (k0 out))
noncomputable def Zq34_l0_again {R : Type} (N : Nat) (ks : KS Zq34_l0_ex R) (k : Nat) (x : Zq34_l0_sh.T) : Option R :=
 Zq34_l0 N (fun y0 => ks 0 ((y0, ()), ())) k x.1.1 x.1.2.1 x.1.2.2.1 x.1.2.2.2.1
noncomputable def Zq34_l0_s (N : Nat) : LSum := ⟨Zq34_l0_sh, Zq34_l0_ex, fun x ks => Zq34_l0_again N ks N x⟩
theorem Zq34_l0_ok (N : Nat) : LoopOk Tryz.prog Tryz.f60.ntmps (Zq34_l0_s N) (loopAt Zq34_code 0) := loopQ (sh := Zq34_l0_sh) (ex := Zq34_l0_ex) (N := N) (L := []) (fun R k x ks => Zq34_l0_again N ks k x) (Zq34_gok N) (fun _ _ _ => rfl) (fun R k x ks => by kernel_rfl) trivial (by kernel_rfl)
noncomputable def Zq34 (N : Nat) (list : (List Int)) : Option ((Int × Unit) × (Unit)) :=
 Zq34_l0 N (fun out => some ((out, ()), ())) N 0 list (tLen list) 0
noncomputable def Zq34_S (N : Nat) : FSum := ⟨Zq34_ps, Zq34_rs, fun x => Zq34 N x.1⟩
theorem Zq34_pc (N : Nat) : PC Tryz.prog 60 (Zq34_S N) := pcQ (L := [Zq34_l0_s N]) (Zq34_gok N) Tryz.call60 Tryz.func60 (fun x => by kernel_rfl) ⟨Zq34_l0_ok N, trivial⟩ (by kernel_rfl)

abbrev Zq4_ps : List (PV.Mode × Ty) := [(.ro, QILQII)]
abbrev Zq4_rs : List (Bool × Ty) := [(true, U64)]
noncomputable def Zq4_G (N : Nat) : GTab := gOf []
theorem Zq4_gok (N : Nat) : GOk Tryz.prog (Zq4_G N) := gOf_ok trivial
noncomputable def Zq4_code : Code := (Tryz.f81.body).getD .skip
noncomputable def Zq4 (N : Nat) (g : (Int × (List (Int × Int)))) : Option ((Int × Unit) × (Unit)) :=
 (chk (ile 0 g.1)
 (some (((IntKind.u64.wrap ((shlI .u64 1 g.1) - 1)), ()), ())))
noncomputable def Zq4_S (N : Nat) : FSum := ⟨Zq4_ps, Zq4_rs, fun x => Zq4 N x.1⟩
theorem Zq4_pc (N : Nat) : PC Tryz.prog 81 (Zq4_S N) := pcQ (L := []) (Zq4_gok N) Tryz.call81 Tryz.func81 (fun x => by kernel_rfl) trivial (by kernel_rfl)

abbrev Zq74_ps : List (PV.Mode × Ty) := [(.ro, LQII), (.ro, FQIIBo)]
abbrev Zq74_rs : List (Bool × Ty) := [(true, I)]
noncomputable def Zq74_G (N : Nat) : GTab := gOf []
theorem Zq74_gok (N : Nat) : GOk Tryz.prog (Zq74_G N) := gOf_ok trivial
noncomputable def Zq74_code : Code := (Tryz.f195.body).getD .skip
noncomputable def Zq74_l0_sh : Sh := ⟨[(0, .one (.ro LQII)), (1, .one (.ro FQIIBo)), (7, .one (.ro I)), (8, .one (.ro I))], []⟩
noncomputable def Zq74_l0_ex : List (Ex × Sh) := [(.ret, ⟨[(4, .one (.ro I))], []⟩), (.exit 0, ⟨[], []⟩)]
noncomputable def Zq74_l0 {R : Type} (N : Nat) (k0 : Int → Option R) (k1 : Unit → Option R) : Nat → (List (Int × Int)) → ((Int × Int) → Option Bool) → Int → Int → Option R
 | 0, _, _, _, _ => none
 | K + 1, s1, f1, x, x1 =>
 (br (ilt x1 x)
 ((chk (inb s1 x1)
 ((f1 (rdP s1 x1)).bind fun v =>
 (br v
 (k0 x1)
 (Zq74_l0 N k0 k1 K s1 f1 x (IntKind.i64.wrap (x1 + 1)))))))
 (k1 ()))
noncomputable def Zq74_l0_again {R : Type} (N : Nat) (ks : KS Zq74_l0_ex R) (k : Nat) (x : Zq74_l0_sh.T) : Option R :=
 Zq74_l0 N (fun y0 => ks 0 ((y0, ()), ())) (fun (_ : Unit) => ks 1 ((), ())) k x.1.1 x.1.2.1 x.1.2.2.1 x.1.2.2.2.1
noncomputable def Zq74_l0_s (N : Nat) : LSum := ⟨Zq74_l0_sh, Zq74_l0_ex, fun x ks => Zq74_l0_again N ks N x⟩
theorem Zq74_l0_ok (N : Nat) : LoopOk Tryz.prog Tryz.f195.ntmps (Zq74_l0_s N) (loopAt Zq74_code 0) := loopQ (sh := Zq74_l0_sh) (ex := Zq74_l0_ex) (N := N) (L := []) (fun R k x ks => Zq74_l0_again N ks k x) (Zq74_gok N) (fun _ _ _ => rfl) (fun R k x ks => by kernel_rfl) trivial (by kernel_rfl)
noncomputable def Zq74 (N : Nat) (s : (List (Int × Int))) (f : ((Int × Int) → Option Bool)) : Option ((Int × Unit) × (Unit)) :=
 Zq74_l0 N (fun x => some ((x, ()), ())) (fun (_ : Unit) => some (((-1), ()), ())) N s f (tLen s) 0
noncomputable def Zq74_S (N : Nat) : FSum := ⟨Zq74_ps, Zq74_rs, fun x => Zq74 N x.1 x.2.1⟩
theorem Zq74_pc (N : Nat) : PC Tryz.prog 195 (Zq74_S N) := pcQ (L := [Zq74_l0_s N]) (Zq74_gok N) Tryz.call195 Tryz.func195 (fun x => by kernel_rfl) ⟨Zq74_l0_ok N, trivial⟩ (by kernel_rfl)

abbrev Zq69_ps : List (PV.Mode × Ty) := [(.ro, LQII), (.ro, FQIIBo)]
abbrev Zq69_rs : List (Bool × Ty) := [(true, .bool)]
noncomputable def Zq69_G (N : Nat) : GTab := gOf [(195, Zq74_S N)]
theorem Zq69_gok (N : Nat) : GOk Tryz.prog (Zq69_G N) := gOf_ok ⟨Zq74_pc N, trivial⟩
noncomputable def Zq69_code : Code := (Tryz.f163.body).getD .skip
noncomputable def Zq69 (N : Nat) (s : (List (Int × Int))) (f : ((Int × Int) → Option Bool)) : Option ((Bool × Unit) × (Unit)) :=
 ((Zq74 N s f).bind fun r =>
 some (((ile 0 r.1.1), ()), ()))
noncomputable def Zq69_S (N : Nat) : FSum := ⟨Zq69_ps, Zq69_rs, fun x => Zq69 N x.1 x.2.1⟩
theorem Zq69_pc (N : Nat) : PC Tryz.prog 163 (Zq69_S N) := pcQ (L := []) (Zq69_gok N) Tryz.call163 Tryz.func163 (fun x => by kernel_rfl) trivial (by kernel_rfl)

abbrev Zq35_ps : List (PV.Mode × Ty) := [(.ro, U64), (.ro, I)]
abbrev Zq35_rs : List (Bool × Ty) := [(true, .bool)]
noncomputable def Zq35_G (N : Nat) : GTab := gOf []
theorem Zq35_gok (N : Nat) : GOk Tryz.prog (Zq35_G N) := gOf_ok trivial
noncomputable def Zq35_code : Code := (Tryz.f69.body).getD .skip
noncomputable def Zq35 (N : Nat) (b : Int) (x : Int) : Option ((Bool × Unit) × (Unit)) :=
 (chk (ile 0 x)
 (some (((ieq (bitop .and .u64 (shrI .u64 b x) 1) 1), ()), ())))
noncomputable def Zq35_S (N : Nat) : FSum := ⟨Zq35_ps, Zq35_rs, fun x => Zq35 N x.1 x.2.1⟩
theorem Zq35_pc (N : Nat) : PC Tryz.prog 69 (Zq35_S N) := pcQ (L := []) (Zq35_gok N) Tryz.call69 Tryz.func69 (fun x => by kernel_rfl) trivial (by kernel_rfl)

abbrev Zq9_ps : List (PV.Mode × Ty) := [(.ro, QII), (.ro, AU64)]
abbrev Zq9_rs : List (Bool × Ty) := [(true, .bool)]
noncomputable def Zq9_G (N : Nat) : GTab := gOf [(69, Zq35_S N)]
theorem Zq9_gok (N : Nat) : GOk Tryz.prog (Zq9_G N) := gOf_ok ⟨Zq35_pc N, trivial⟩
noncomputable def Zq9_code : Code := (Tryz.f164.body).getD .skip
noncomputable def Zq9 (N : Nat) (e : (Int × Int)) (c : Int) : Option ((Bool × Unit) × (Unit)) :=
 ((Zq35 N c e.1).bind fun r =>
 (br r.1.1
 (((Zq35 N c e.2).bind fun r1 =>
 some ((r1.1.1, ()), ())))
 (some ((false, ()), ()))))
noncomputable def Zq9_S (N : Nat) : FSum := ⟨Zq9_ps, Zq9_rs, fun x => Zq9 N x.1 x.2.1⟩
theorem Zq9_pc (N : Nat) : PC Tryz.prog 164 (Zq9_S N) := pcQ (L := []) (Zq9_gok N) Tryz.call164 Tryz.func164 (fun x => by kernel_rfl) trivial (by kernel_rfl)

abbrev Zq8_ps : List (PV.Mode × Ty) := [(.ro, QILQII), (.ro, U64)]
abbrev Zq8_rs : List (Bool × Ty) := [(true, .bool)]
noncomputable def Zq8_G (N : Nat) : GTab := gOf [(163, Zq69_S N), (164, Zq9_S N)]
theorem Zq8_gok (N : Nat) : GOk Tryz.prog (Zq8_G N) := gOf_ok ⟨Zq69_pc N, Zq9_pc N, trivial⟩
noncomputable def Zq8_code : Code := (Tryz.f124.body).getD .skip
noncomputable def Zq8 (N : Nat) (g : (Int × (List (Int × Int)))) (b : Int) : Option ((Bool × Unit) × (Unit)) :=
 ((Zq69 N g.2 (fun y0 => (Zq9 N y0 b).bind fun z => some z.1.1)).bind fun r =>
 some (((!r.1.1), ()), ()))
noncomputable def Zq8_S (N : Nat) : FSum := ⟨Zq8_ps, Zq8_rs, fun x => Zq8 N x.1 x.2.1⟩
theorem Zq8_pc (N : Nat) : PC Tryz.prog 124 (Zq8_S N) := pcQ (L := []) (Zq8_gok N) Tryz.call124 Tryz.func124 (fun x => by kernel_rfl) trivial (by kernel_rfl)

abbrev Zq36_ps : List (PV.Mode × Ty) := [(.ro, U64)]
abbrev Zq36_rs : List (Bool × Ty) := [(true, LI)]
noncomputable def Zq36_G (N : Nat) : GTab := gOf []
theorem Zq36_gok (N : Nat) : GOk Tryz.prog (Zq36_G N) := gOf_ok trivial
noncomputable def Zq36_code : Code := (Tryz.f70.body).getD .skip
noncomputable def Zq36_l0_sh : Sh := ⟨[(0, .one (.ro U64)), (3, .one (.ref 0)), (6, .one (.ro I))], [.sl 3 I .own]⟩
noncomputable def Zq36_l0_ex : List (Ex × Sh) := [(.exit 0, ⟨[(3, .one (.ref 0))], [.sl 3 I .own]⟩)]
noncomputable def Zq36_l0 {R : Type} (N : Nat) (k0 : (List Int) → Option R) : Nat → Int → Int → (List Int) → Option R
 | 0, _, _, _ => none
 | K + 1, b1, x, o =>
 (br (ilt x 8)
 ((chk (ile 0 x)
 (br (ieq (bitop .and .u64 (shrI .u64 b1 x) 1) 1)
 ((chk (room o [x])
 (Zq36_l0 N k0 K b1 (IntKind.i64.wrap (x + 1)) (tApp o [x]))))
 (Zq36_l0 N k0 K b1 (IntKind.i64.wrap (x + 1)) o))))
 (k0 o))
noncomputable def Zq36_l0_again {R : Type} (N : Nat) (ks : KS Zq36_l0_ex R) (k : Nat) (x : Zq36_l0_sh.T) : Option R :=
 Zq36_l0 N (fun y0 => ks 0 (((), ()), (y0, ()))) k x.1.1 x.1.2.2.1 x.2.1
noncomputable def Zq36_l0_s (N : Nat) : LSum := ⟨Zq36_l0_sh, Zq36_l0_ex, fun x ks => Zq36_l0_again N ks N x⟩
theorem Zq36_l0_ok (N : Nat) : LoopOk Tryz.prog Tryz.f70.ntmps (Zq36_l0_s N) (loopAt Zq36_code 0) := loopQ (sh := Zq36_l0_sh) (ex := Zq36_l0_ex) (N := N) (L := []) (fun R k x ks => Zq36_l0_again N ks k x) (Zq36_gok N) (fun _ _ _ => rfl) (fun R k x ks => by kernel_rfl) trivial (by kernel_rfl)
noncomputable def Zq36 (N : Nat) (b : Int) : Option (((List Int) × Unit) × (Unit)) :=
 Zq36_l0 N (fun o => some ((o, ()), ())) N b 0 []
noncomputable def Zq36_S (N : Nat) : FSum := ⟨Zq36_ps, Zq36_rs, fun x => Zq36 N x.1⟩
theorem Zq36_pc (N : Nat) : PC Tryz.prog 70 (Zq36_S N) := pcQ (L := [Zq36_l0_s N]) (Zq36_gok N) Tryz.call70 Tryz.func70 (fun x => by kernel_rfl) ⟨Zq36_l0_ok N, trivial⟩ (by kernel_rfl)

abbrev Zq51_ps : List (PV.Mode × Ty) := [(.ro, I), (.ro, I)]
abbrev Zq51_rs : List (Bool × Ty) := [(true, QII)]
noncomputable def Zq51_G (N : Nat) : GTab := gOf []
theorem Zq51_gok (N : Nat) : GOk Tryz.prog (Zq51_G N) := gOf_ok trivial
noncomputable def Zq51_code : Code := (Tryz.f106.body).getD .skip
noncomputable def Zq51 (N : Nat) (a : Int) (b : Int) : Option (((Int × Int) × Unit) × (Unit)) :=
 some ((((if b < a then b else a), (if b > a then b else a)), ()), ())
noncomputable def Zq51_S (N : Nat) : FSum := ⟨Zq51_ps, Zq51_rs, fun x => Zq51 N x.1 x.2.1⟩
theorem Zq51_pc (N : Nat) : PC Tryz.prog 106 (Zq51_S N) := pcQ (L := []) (Zq51_gok N) Tryz.call106 Tryz.func106 (fun x => by kernel_rfl) trivial (by kernel_rfl)

abbrev Zq75_ps : List (PV.Mode × Ty) := [(.ro, LQII), (.ro, QII)]
abbrev Zq75_rs : List (Bool × Ty) := [(true, I)]
noncomputable def Zq75_G (N : Nat) : GTab := gOf []
theorem Zq75_gok (N : Nat) : GOk Tryz.prog (Zq75_G N) := gOf_ok trivial
noncomputable def Zq75_code : Code := (Tryz.f170.body).getD .skip
noncomputable def Zq75_l0_sh : Sh := ⟨[(0, .one (.ro LQII)), (3, .one (.adr 0 0)), (7, .one (.ro I)), (8, .one (.ro I))], [.box [.ro I, .ro I]]⟩
noncomputable def Zq75_l0_ex : List (Ex × Sh) := [(.ret, ⟨[(4, .one (.ro I))], []⟩), (.exit 0, ⟨[], []⟩)]
noncomputable def Zq75_l0 {R : Type} (N : Nat) (k0 : Int → Option R) (k1 : Unit → Option R) : Nat → (List (Int × Int)) → Int → Int → Int → Int → Option R
 | 0, _, _, _, _, _ => none
 | K + 1, s1, x, x1, o, o1 =>
 (br (ilt x1 x)
 ((chk (inb s1 x1)
 (br (ieq o ((rdP s1 x1).1) && ieq o1 ((rdP s1 x1).2))
 (k0 x1)
 (Zq75_l0 N k0 k1 K s1 x (IntKind.i64.wrap (x1 + 1)) o o1))))
 (k1 ()))
noncomputable def Zq75_l0_again {R : Type} (N : Nat) (ks : KS Zq75_l0_ex R) (k : Nat) (x : Zq75_l0_sh.T) : Option R :=
 Zq75_l0 N (fun y0 => ks 0 ((y0, ()), ())) (fun (_ : Unit) => ks 1 ((), ())) k x.1.1 x.1.2.2.1 x.1.2.2.2.1 x.2.1.1 x.2.1.2.1
noncomputable def Zq75_l0_s (N : Nat) : LSum := ⟨Zq75_l0_sh, Zq75_l0_ex, fun x ks => Zq75_l0_again N ks N x⟩
theorem Zq75_l0_ok (N : Nat) : LoopOk Tryz.prog Tryz.f170.ntmps (Zq75_l0_s N) (loopAt Zq75_code 0) := loopQ (sh := Zq75_l0_sh) (ex := Zq75_l0_ex) (N := N) (L := []) (fun R k x ks => Zq75_l0_again N ks k x) (Zq75_gok N) (fun _ _ _ => rfl) (fun R k x ks => by kernel_rfl) trivial (by kernel_rfl)
noncomputable def Zq75 (N : Nat) (s : (List (Int × Int))) (v : (Int × Int)) : Option ((Int × Unit) × (Unit)) :=
 Zq75_l0 N (fun x => some ((x, ()), ())) (fun (_ : Unit) => some (((-1), ()), ())) N s (tLen s) 0 v.1 v.2
noncomputable def Zq75_S (N : Nat) : FSum := ⟨Zq75_ps, Zq75_rs, fun x => Zq75 N x.1 x.2.1⟩
theorem Zq75_pc (N : Nat) : PC Tryz.prog 170 (Zq75_S N) := pcQ (L := [Zq75_l0_s N]) (Zq75_gok N) Tryz.call170 Tryz.func170 (fun x => by kernel_rfl) ⟨Zq75_l0_ok N, trivial⟩ (by kernel_rfl)
end Go.Proofs.YtffeokcchabclaaGreat
