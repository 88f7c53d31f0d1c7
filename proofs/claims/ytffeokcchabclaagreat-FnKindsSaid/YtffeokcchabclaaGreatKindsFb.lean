/- Functions of the program as functions on data. -/
import Derived.Test.YtffeokcchabclaaGreatKindsFa
set_option linter.all false
namespace Go.Proofs.YtffeokcchabclaaGreat
open Go Go.PV
abbrev Zq91_ps : List (PV.Mode × Ty) := [(.ro, LLI)]
abbrev Zq91_rs : List (Bool × Ty) := [(false, LLI)]
noncomputable def Zq91_G (N : Nat) : GTab := gOf [(168, Zq83_S N), (71, Zq79_S N), (145, Zq82_S N)]
theorem Zq91_gok (N : Nat) : GOk Tryz.prog (Zq91_G N) := gOf_ok ⟨Zq83_pc N, Zq79_pc N, Zq82_pc N, trivial⟩
noncomputable def Zq91_code : Code := (Tryz.f136.body).getD .skip
noncomputable def Zq91_l0_0_sh : Sh := ⟨[(0, .one (.ro LLI)), (3, .one (.ref 0)), (4, .one (.ro I)), (5, .one (.ro I))], [.sl 27 LI .own]⟩
noncomputable def Zq91_l0_0_ex : List (Ex × Sh) := [(.exit 2, ⟨[(0, .one (.ro LLI)), (3, .one (.ref 0)), (4, .one (.ro I)), (5, .one (.ro I))], [.sl 27 LI .own]⟩)]
noncomputable def Zq91_l0_0 {R : Type} (N : Nat) (k0 : (List (List Int)) → Int → Int → (List (List Int)) → Option R) : Nat → (List (List Int)) → Int → Int → (List (List Int)) → Option R
 | 0, _, _, _, _ => none
 | K + 1, states4, i3, kv1, o3 =>
 (br (ilt 0 kv1)
 ((chk (inb states4 i3)
 (chk (inb o3 (IntKind.i64.wrap (kv1 - 1)))
 ((Zq83 N (rdL states4 i3) (rdL o3 (IntKind.i64.wrap (kv1 - 1)))).bind fun r =>
 (br r.1.1
 (Zq91_l0_0 N k0 K states4 i3 (IntKind.i64.wrap (kv1 - 1)) o3)
 (k0 states4 i3 kv1 o3))))))
 (k0 states4 i3 kv1 o3))
noncomputable def Zq91_l0_0_again {R : Type} (N : Nat) (ks : KS Zq91_l0_0_ex R) (k : Nat) (x : Zq91_l0_0_sh.T) : Option R :=
 Zq91_l0_0 N (fun y0 y1 y2 y3 => ks 0 ((y0, (), y1, y2, ()), (y3, ()))) k x.1.1 x.1.2.2.1 x.1.2.2.2.1 x.2.1
noncomputable def Zq91_l0_0_s (N : Nat) : LSum := ⟨Zq91_l0_0_sh, Zq91_l0_0_ex, fun x ks => Zq91_l0_0_again N ks N x⟩
theorem Zq91_l0_0_ok (N : Nat) : LoopOk Tryz.prog Tryz.f136.ntmps (Zq91_l0_0_s N) (loopAt (loopAt Zq91_code 0) 0) := loopQ (sh := Zq91_l0_0_sh) (ex := Zq91_l0_0_ex) (N := N) (L := []) (fun R k x ks => Zq91_l0_0_again N ks k x) (Zq91_gok N) (fun _ _ _ => rfl) (fun R k x ks => by kernel_rfl) trivial (by kernel_rfl)
noncomputable def Zq91_l0_sh : Sh := ⟨[(0, .one (.ro LLI)), (3, .one (.ref 0)), (4, .one (.ro I))], [.sl 27 LI .own]⟩
noncomputable def Zq91_l0_ex : List (Ex × Sh) := [(.exit 0, ⟨[(3, .one (.ref 0))], [.sl 27 LI .own]⟩)]
noncomputable def Zq91_l0 {R : Type} (N : Nat) (k0 : (List (List Int)) → Option R) : Nat → (List (List Int)) → Int → (List (List Int)) → Option R
 | 0, _, _, _ => none
 | K + 1, states3, i2, o2 =>
 (br (ilt i2 (tLen states3))
 (Zq91_l0_0 N (fun states4 i3 kv1 o3 => (br (ieq kv1 0)
 ((chk (ile 0 0 && ile 0 kv1 && ile kv1 (tLen o3))
 (chk (room (α := (List Int)) (β := (List Int)) [] (tCut o3 0 kv1))
 (chk (inb states4 i3)
 ((Zq79 N (rdL states4 i3)).bind fun r =>
 (chk (room (tApp [] (tCut o3 0 kv1)) [r.1.1])
 (chk (ile 0 kv1 && ile kv1 (tLen o3) && ile (tLen o3) (tLen o3))
 (chk (room (tApp (tApp [] (tCut o3 0 kv1)) [r.1.1]) (tCut o3 kv1 (tLen o3)))
 (Zq91_l0 N k0 K states4 (IntKind.i64.wrap (i3 + 1)) (tApp (tApp (tApp [] (tCut o3 0 kv1)) [r.1.1]) (tCut o3 kv1 (tLen o3))))))))))))
 ((chk (inb o3 (IntKind.i64.wrap (kv1 - 1)))
 (chk (inb states4 i3)
 ((Zq82 N (rdL o3 (IntKind.i64.wrap (kv1 - 1))) (rdL states4 i3)).bind fun r1 =>
 (br (!r1.1.1)
 ((chk (ile 0 0 && ile 0 kv1 && ile kv1 (tLen o3))
 (chk (room (α := (List Int)) (β := (List Int)) [] (tCut o3 0 kv1))
 (chk (inb states4 i3)
 ((Zq79 N (rdL states4 i3)).bind fun r2 =>
 (chk (room (tApp [] (tCut o3 0 kv1)) [r2.1.1])
 (chk (ile 0 kv1 && ile kv1 (tLen o3) && ile (tLen o3) (tLen o3))
 (chk (room (tApp (tApp [] (tCut o3 0 kv1)) [r2.1.1]) (tCut o3 kv1 (tLen o3)))
 (Zq91_l0 N k0 K states4 (IntKind.i64.wrap (i3 + 1)) (tApp (tApp (tApp [] (tCut o3 0 kv1)) [r2.1.1]) (tCut o3 kv1 (tLen o3))))))))))))
 (Zq91_l0 N k0 K states4 (IntKind.i64.wrap (i3 + 1)) o3)))))))) N states3 i2 (tLen o2) o2)
 (k0 o2))
noncomputable def Zq91_l0_again {R : Type} (N : Nat) (ks : KS Zq91_l0_ex R) (k : Nat) (x : Zq91_l0_sh.T) : Option R :=
 Zq91_l0 N (fun y0 => ks 0 (((), ()), (y0, ()))) k x.1.1 x.1.2.2.1 x.2.1
noncomputable def Zq91_l0_s (N : Nat) : LSum := ⟨Zq91_l0_sh, Zq91_l0_ex, fun x ks => Zq91_l0_again N ks N x⟩
theorem Zq91_l0_ok (N : Nat) : LoopOk Tryz.prog Tryz.f136.ntmps (Zq91_l0_s N) (loopAt Zq91_code 0) := loopQ (sh := Zq91_l0_sh) (ex := Zq91_l0_ex) (N := N) (L := [Zq91_l0_0_s N]) (fun R k x ks => Zq91_l0_again N ks k x) (Zq91_gok N) (fun _ _ _ => rfl) (fun R k x ks => by kernel_rfl) ⟨Zq91_l0_0_ok N, trivial⟩ (by kernel_rfl)
noncomputable def Zq91 (N : Nat) (states : (List (List Int))) : Option (((List (List Int)) × Unit) × (Unit)) :=
 Zq91_l0 N (fun o2 => some ((o2, ()), ())) N states 0 []
noncomputable def Zq91_S (N : Nat) : FSum := ⟨Zq91_ps, Zq91_rs, fun x => Zq91 N x.1⟩
theorem Zq91_pc (N : Nat) : PC Tryz.prog 136 (Zq91_S N) := pcQ (L := [Zq91_l0_s N]) (Zq91_gok N) Tryz.call136 Tryz.func136 (fun x => by kernel_rfl) ⟨Zq91_l0_ok N, trivial⟩ (by kernel_rfl)

abbrev Zq98_ps : List (PV.Mode × Ty) := [(.ro, QILQII), (.ro, I)]
abbrev Zq98_rs : List (Bool × Ty) := [(false, LLI)]
noncomputable def Zq98_G (N : Nat) : GTab := gOf [(135, Zq84_S N), (67, Zq94_S N), (136, Zq91_S N)]
theorem Zq98_gok (N : Nat) : GOk Tryz.prog (Zq98_G N) := gOf_ok ⟨Zq84_pc N, Zq94_pc N, Zq91_pc N, trivial⟩
noncomputable def Zq98_code : Code := (Tryz.f77.body).getD .skip
noncomputable def Zq98_l0_0_sh : Sh := ⟨[(1, .one (.ro I)), (2, .one (.adr 0 0)), (5, .one (.ref 1)), (6, .one (.ro I)), (7, .one (.ref 2)), (8, .one (.ro I))], [.box [.ro I, .ro LQII], .sl 27 LI .own, .sl 27 LI .deep]⟩
noncomputable def Zq98_l0_0_ex : List (Ex × Sh) := [(.exit 2, ⟨[(1, .one (.ro I)), (2, .one (.adr 0 0)), (5, .one (.ref 1)), (6, .one (.ro I)), (7, .one (.ref 2))], [.box [.ro I, .ro LQII], .sl 27 LI .own, .sl 27 LI .deep]⟩)]
noncomputable def Zq98_l0_0 {R : Type} (N : Nat) (k0 : Int → Int → Int → (List (Int × Int)) → (List (List Int)) → (List (List Int)) → Option R) : Nat → Int → Int → Int → Int → (List (Int × Int)) → (List (List Int)) → (List (List Int)) → Option R
 | 0, _, _, _, _, _, _, _ => none
 | K + 1, kind4, size3, code, o10, o11, o12, o13 =>
 (chk (ile 0 o10)
 (br (ilt code (shlI .i64 1 o10))
 (((Zq84 N o10 code).bind fun r1 =>
 (br (ieq (tLen r1.1.1) size3)
 (((Zq94 N (o10, o11) kind4 r1.1.1).bind fun r2 =>
 (br r2.1.1
 ((chk (room o13 [r1.1.1])
 (Zq98_l0_0 N k0 K kind4 size3 (IntKind.i64.wrap (code + 1)) o10 o11 o12 (tApp o13 [r1.1.1]))))
 (Zq98_l0_0 N k0 K kind4 size3 (IntKind.i64.wrap (code + 1)) o10 o11 o12 o13))))
 (Zq98_l0_0 N k0 K kind4 size3 (IntKind.i64.wrap (code + 1)) o10 o11 o12 o13))))
 (k0 kind4 size3 o10 o11 o12 o13)))
noncomputable def Zq98_l0_0_again {R : Type} (N : Nat) (ks : KS Zq98_l0_0_ex R) (k : Nat) (x : Zq98_l0_0_sh.T) : Option R :=
 Zq98_l0_0 N (fun y0 y1 y2 y3 y4 y5 => ks 0 ((y0, (), (), y1, (), ()), ((y2, y3, ()), y4, y5, ()))) k x.1.1 x.1.2.2.2.1 x.1.2.2.2.2.2.1 x.2.1.1 x.2.1.2.1 x.2.2.1 x.2.2.2.1
noncomputable def Zq98_l0_0_s (N : Nat) : LSum := ⟨Zq98_l0_0_sh, Zq98_l0_0_ex, fun x ks => Zq98_l0_0_again N ks N x⟩
theorem Zq98_l0_0_ok (N : Nat) : LoopOk Tryz.prog Tryz.f77.ntmps (Zq98_l0_0_s N) (loopAt (loopAt Zq98_code 0) 0) := loopQ (sh := Zq98_l0_0_sh) (ex := Zq98_l0_0_ex) (N := N) (L := []) (fun R k x ks => Zq98_l0_0_again N ks k x) (Zq98_gok N) (fun _ _ _ => rfl) (fun R k x ks => by kernel_rfl) trivial (by kernel_rfl)
noncomputable def Zq98_l0_sh : Sh := ⟨[(1, .one (.ro I)), (2, .one (.adr 0 0)), (5, .one (.ref 1)), (6, .one (.ro I))], [.box [.ro I, .ro LQII], .sl 27 LI .own]⟩
noncomputable def Zq98_l0_ex : List (Ex × Sh) := [(.exit 0, ⟨[(5, .one (.ref 0))], [.sl 27 LI .own]⟩)]
noncomputable def Zq98_l0 {R : Type} (N : Nat) (k0 : (List (List Int)) → Option R) : Nat → Int → Int → Int → (List (Int × Int)) → (List (List Int)) → Option R
 | 0, _, _, _, _, _ => none
 | K + 1, kind3, size2, o7, o8, o9 =>
 (br (ile size2 o7)
 (Zq98_l0_0 N (fun kind4 size3 o10 o11 o12 o13 => ((Zq91 N o13).bind fun r1 =>
 (chk (room o12 r1.1.1)
 (Zq98_l0 N k0 K kind4 (IntKind.i64.wrap (size3 + 1)) o10 o11 (tApp o12 r1.1.1))))) N kind3 size2 0 o7 o8 o9 [])
 (k0 o9))
noncomputable def Zq98_l0_again {R : Type} (N : Nat) (ks : KS Zq98_l0_ex R) (k : Nat) (x : Zq98_l0_sh.T) : Option R :=
 Zq98_l0 N (fun y0 => ks 0 (((), ()), (y0, ()))) k x.1.1 x.1.2.2.2.1 x.2.1.1 x.2.1.2.1 x.2.2.1
noncomputable def Zq98_l0_s (N : Nat) : LSum := ⟨Zq98_l0_sh, Zq98_l0_ex, fun x ks => Zq98_l0_again N ks N x⟩
theorem Zq98_l0_ok (N : Nat) : LoopOk Tryz.prog Tryz.f77.ntmps (Zq98_l0_s N) (loopAt Zq98_code 0) := loopQ (sh := Zq98_l0_sh) (ex := Zq98_l0_ex) (N := N) (L := [Zq98_l0_0_s N]) (fun R k x ks => Zq98_l0_again N ks k x) (Zq98_gok N) (fun _ _ _ => rfl) (fun R k x ks => by kernel_rfl) ⟨Zq98_l0_0_ok N, trivial⟩ (by kernel_rfl)
noncomputable def Zq98 (N : Nat) (g : (Int × (List (Int × Int)))) (kind : Int) : Option (((List (List Int)) × Unit) × (Unit)) :=
 Zq98_l0 N (fun o7 => some ((o7, ()), ())) N kind 0 g.1 g.2 []
noncomputable def Zq98_S (N : Nat) : FSum := ⟨Zq98_ps, Zq98_rs, fun x => Zq98 N x.1 x.2.1⟩
theorem Zq98_pc (N : Nat) : PC Tryz.prog 77 (Zq98_S N) := pcQ (L := [Zq98_l0_s N]) (Zq98_gok N) Tryz.call77 Tryz.func77 (fun x => by kernel_rfl) ⟨Zq98_l0_ok N, trivial⟩ (by kernel_rfl)

abbrev Zq78_ps : List (PV.Mode × Ty) := [(.ro, LI)]
abbrev Zq78_rs : List (Bool × Ty) := [(true, LI)]
noncomputable def Zq78_G (N : Nat) : GTab := gOf []
theorem Zq78_gok (N : Nat) : GOk Tryz.prog (Zq78_G N) := gOf_ok trivial
noncomputable def Zq78_code : Code := (Tryz.f71.body).getD .skip
noncomputable def Zq78 (N : Nat) (l : (List Int)) : Option (((List Int) × Unit) × (Unit)) :=
 (chk (room (α := Int) (β := Int) [] l)
 (some (((tApp [] l), ()), ())))
noncomputable def Zq78_S (N : Nat) : FSum := ⟨Zq78_ps, Zq78_rs, fun x => Zq78 N x.1⟩
theorem Zq78_pc (N : Nat) : PC Tryz.prog 71 (Zq78_S N) := pcQ (L := []) (Zq78_gok N) Tryz.call71 Tryz.func71 (fun x => by kernel_rfl) trivial (by kernel_rfl)

abbrev Zq70_ps : List (PV.Mode × Ty) := [(.mut, BQOU8QIU64), (.ro, QILQII), (.ro, I)]
abbrev Zq70_rs : List (Bool × Ty) := [(true, LI)]
noncomputable def Zq70_G (N : Nat) : GTab := gOf [(65, Zq93_S N), (123, Zq69_S N), (57, Zq71_S N), (77, Zq98_S N), (122, Zq72_S N), (71, Zq78_S N)]
theorem Zq70_gok (N : Nat) : GOk Tryz.prog (Zq70_G N) := gOf_ok ⟨Zq93_pc N, Zq69_pc N, Zq71_pc N, Zq98_pc N, Zq72_pc N, Zq78_pc N, trivial⟩
noncomputable def Zq70_code : Code := (Tryz.f56.body).getD .skip
noncomputable def Zq70 (N : Nat) (c : ((List Int) × (Int × Int))) (g : (Int × (List (Int × Int)))) (kind : Int) : Option (((List Int) × Unit) × (((List Int) × (Int × Int)) × Unit)) :=
 ((Zq93 N (g.1, g.2) kind).bind fun r =>
 (br (!r.1.1)
 (((Zq69 N c (g.1, g.2)).bind fun r1 =>
 some ((r1.1.1, ()), (r1.2.1, ()))))
 (((Zq71 N c 8).bind fun r2 =>
 (br r2.1.1
 (((Zq69 N r2.2.1 (g.1, g.2)).bind fun r3 =>
 some ((r3.1.1, ()), (r3.2.1, ()))))
 (((Zq98 N (g.1, g.2) kind).bind fun r4 =>
 ((Zq72 N r2.2.1 (tLen r4.1.1)).bind fun r5 =>
 (chk (inb r4.1.1 r5.1.1)
 ((Zq78 N (rdL r4.1.1 r5.1.1)).bind fun r6 =>
 some ((r6.1.1, ()), (r5.2.1, ()))))))))))))
noncomputable def Zq70_S (N : Nat) : FSum := ⟨Zq70_ps, Zq70_rs, fun x => Zq70 N x.1 x.2.1 x.2.2.1⟩
theorem Zq70_pc (N : Nat) : PC Tryz.prog 56 (Zq70_S N) := pcQ (L := []) (Zq70_gok N) Tryz.call56 Tryz.func56 (fun x => by kernel_rfl) trivial (by kernel_rfl)

abbrev Zq81_ps : List (PV.Mode × Ty) := [(.ro, LI), (.ro, I), (.ro, I)]
abbrev Zq81_rs : List (Bool × Ty) := [(true, .bool)]
noncomputable def Zq81_G (N : Nat) : GTab := gOf [(137, Zq75_S N)]
theorem Zq81_gok (N : Nat) : GOk Tryz.prog (Zq81_G N) := gOf_ok ⟨Zq75_pc N, trivial⟩
noncomputable def Zq81_code : Code := (Tryz.f127.body).getD .skip
noncomputable def Zq81_l0_sh : Sh := ⟨[(0, .one (.ro LI)), (1, .one (.ro I)), (2, .one (.ro I)), (7, .one (.ro I))], []⟩
noncomputable def Zq81_l0_ex : List (Ex × Sh) := [(.ret, ⟨[(6, .one (.ro .bool))], []⟩), (.exit 0, ⟨[], []⟩)]
noncomputable def Zq81_l0 {R : Type} (N : Nat) (k0 : Bool → Option R) (k1 : Unit → Option R) : Nat → (List Int) → Int → Int → Int → Option R
 | 0, _, _, _, _ => none
 | K + 1, l1, lo1, hi1, i =>
 (br (ilt i (tLen l1))
 ((chk (inb l1 i)
 ((Zq75 N (rdI l1 i) lo1 hi1).bind fun r =>
 (br (!r.1.1)
 (k0 false)
 ((br (ilt 0 i)
 ((chk (inb l1 (IntKind.i64.wrap (i - 1)))
 (chk (inb l1 i)
 (br (ile (rdI l1 i) (rdI l1 (IntKind.i64.wrap (i - 1))))
 (k0 false)
 (Zq81_l0 N k0 k1 K l1 lo1 hi1 (IntKind.i64.wrap (i + 1)))))))
 (Zq81_l0 N k0 k1 K l1 lo1 hi1 (IntKind.i64.wrap (i + 1)))))))))
 (k1 ()))
noncomputable def Zq81_l0_again {R : Type} (N : Nat) (ks : KS Zq81_l0_ex R) (k : Nat) (x : Zq81_l0_sh.T) : Option R :=
 Zq81_l0 N (fun y0 => ks 0 ((y0, ()), ())) (fun (_ : Unit) => ks 1 ((), ())) k x.1.1 x.1.2.1 x.1.2.2.1 x.1.2.2.2.1
noncomputable def Zq81_l0_s (N : Nat) : LSum := ⟨Zq81_l0_sh, Zq81_l0_ex, fun x ks => Zq81_l0_again N ks N x⟩
theorem Zq81_l0_ok (N : Nat) : LoopOk Tryz.prog Tryz.f127.ntmps (Zq81_l0_s N) (loopAt Zq81_code 0) := loopQ (sh := Zq81_l0_sh) (ex := Zq81_l0_ex) (N := N) (L := []) (fun R k x ks => Zq81_l0_again N ks k x) (Zq81_gok N) (fun _ _ _ => rfl) (fun R k x ks => by kernel_rfl) trivial (by kernel_rfl)
noncomputable def Zq81 (N : Nat) (l : (List Int)) (lo : Int) (hi : Int) : Option ((Bool × Unit) × (Unit)) :=
 Zq81_l0 N (fun x => some ((x, ()), ())) (fun (_ : Unit) => some ((true, ()), ())) N l lo hi 0
noncomputable def Zq81_S (N : Nat) : FSum := ⟨Zq81_ps, Zq81_rs, fun x => Zq81 N x.1 x.2.1 x.2.2.1⟩
theorem Zq81_pc (N : Nat) : PC Tryz.prog 127 (Zq81_S N) := pcQ (L := [Zq81_l0_s N]) (Zq81_gok N) Tryz.call127 Tryz.func127 (fun x => by kernel_rfl) ⟨Zq81_l0_ok N, trivial⟩ (by kernel_rfl)

abbrev Zq90_ps : List (PV.Mode × Ty) := [(.ro, QILQII), (.ro, LI)]
abbrev Zq90_rs : List (Bool × Ty) := [(true, .bool)]
noncomputable def Zq90_G (N : Nat) : GTab := gOf [(127, Zq81_S N)]
theorem Zq90_gok (N : Nat) : GOk Tryz.prog (Zq90_G N) := gOf_ok ⟨Zq81_pc N, trivial⟩
noncomputable def Zq90_code : Code := (Tryz.f66.body).getD .skip
noncomputable def Zq90 (N : Nat) (g : (Int × (List (Int × Int)))) (setv : (List Int)) : Option ((Bool × Unit) × (Unit)) :=
 ((Zq81 N setv 0 (IntKind.i64.wrap (g.1 - 1))).bind fun r =>
 some ((r.1.1, ()), ()))
noncomputable def Zq90_S (N : Nat) : FSum := ⟨Zq90_ps, Zq90_rs, fun x => Zq90 N x.1 x.2.1⟩
theorem Zq90_pc (N : Nat) : PC Tryz.prog 66 (Zq90_S N) := pcQ (L := []) (Zq90_gok N) Tryz.call66 Tryz.func66 (fun x => by kernel_rfl) trivial (by kernel_rfl)

abbrev Zq60_ps : List (PV.Mode × Ty) := [(.ro, QILQII), (.ro, I), (.ro, LI)]
abbrev Zq60_rs : List (Bool × Ty) := [(true, .bool), (true, .bool)]
noncomputable def Zq60_G (N : Nat) : GTab := gOf [(65, Zq93_S N), (66, Zq90_S N), (67, Zq94_S N)]
theorem Zq60_gok (N : Nat) : GOk Tryz.prog (Zq60_G N) := gOf_ok ⟨Zq93_pc N, Zq90_pc N, Zq94_pc N, trivial⟩
noncomputable def Zq60_code : Code := (Tryz.f11.body).getD .skip
noncomputable def Zq60 (N : Nat) (g : (Int × (List (Int × Int)))) (kind : Int) (setv : (List Int)) : Option ((Bool × Bool × Unit) × (Unit)) :=
 ((Zq93 N (g.1, g.2) kind).bind fun r =>
 (br (!r.1.1)
 (some ((false, false, ()), ()))
 (((Zq90 N (g.1, g.2) setv).bind fun r1 =>
 (br (!r1.1.1)
 (some ((false, false, ()), ()))
 (((Zq94 N (g.1, g.2) kind setv).bind fun r2 =>
 some ((r2.1.1, true, ()), ()))))))))
noncomputable def Zq60_S (N : Nat) : FSum := ⟨Zq60_ps, Zq60_rs, fun x => Zq60 N x.1 x.2.1 x.2.2.1⟩
theorem Zq60_pc (N : Nat) : PC Tryz.prog 11 (Zq60_S N) := pcQ (L := []) (Zq60_gok N) Tryz.call11 Tryz.func11 (fun x => by kernel_rfl) trivial (by kernel_rfl)

abbrev Zq96_ps : List (PV.Mode × Ty) := [(.ro, QILQII), (.ro, I), (.ro, LI)]
abbrev Zq96_rs : List (Bool × Ty) := [(true, .bool)]
noncomputable def Zq96_G (N : Nat) : GTab := gOf [(11, Zq60_S N)]
theorem Zq96_gok (N : Nat) : GOk Tryz.prog (Zq96_G N) := gOf_ok ⟨Zq60_pc N, trivial⟩
noncomputable def Zq96_code : Code := (Tryz.f61.body).getD .skip
noncomputable def Zq96 (N : Nat) (g : (Int × (List (Int × Int)))) (kind : Int) (setv : (List Int)) : Option ((Bool × Unit) × (Unit)) :=
 ((Zq60 N (g.1, g.2) kind setv).bind fun r =>
 (br r.1.1
 (some ((r.1.2.1, ()), ()))
 (some ((false, ()), ()))))
noncomputable def Zq96_S (N : Nat) : FSum := ⟨Zq96_ps, Zq96_rs, fun x => Zq96 N x.1 x.2.1 x.2.2.1⟩
theorem Zq96_pc (N : Nat) : PC Tryz.prog 61 (Zq96_S N) := pcQ (L := []) (Zq96_gok N) Tryz.call61 Tryz.func61 (fun x => by kernel_rfl) trivial (by kernel_rfl)

abbrev Zq101_ps : List (PV.Mode × Ty) := [(.ro, LI), (.ro, I)]
abbrev Zq101_rs : List (Bool × Ty) := [(true, LI)]
noncomputable def Zq101_G (N : Nat) : GTab := gOf []
theorem Zq101_gok (N : Nat) : GOk Tryz.prog (Zq101_G N) := gOf_ok trivial
noncomputable def Zq101_code : Code := (Tryz.f128.body).getD .skip
noncomputable def Zq101_l0_sh : Sh := ⟨[(0, .one (.ro LI)), (1, .one (.ro I)), (5, .one (.ref 0)), (6, .one (.ro I))], [.sl 3 I .own]⟩
noncomputable def Zq101_l0_ex : List (Ex × Sh) := [(.exit 0, ⟨[(5, .one (.ref 0))], [.sl 3 I .own]⟩)]
noncomputable def Zq101_l0 {R : Type} (N : Nat) (k0 : (List Int) → Option R) : Nat → (List Int) → Int → Int → (List Int) → Option R
 | 0, _, _, _, _ => none
 | K + 1, setv1, x1, i, o =>
 (br (ilt i (tLen setv1))
 ((chk (inb setv1 i)
 (br (ine (rdI setv1 i) x1)
 ((chk (inb setv1 i)
 (chk (room o [(rdI setv1 i)])
 (Zq101_l0 N k0 K setv1 x1 (IntKind.i64.wrap (i + 1)) (tApp o [(rdI setv1 i)])))))
 (Zq101_l0 N k0 K setv1 x1 (IntKind.i64.wrap (i + 1)) o))))
 (k0 o))
noncomputable def Zq101_l0_again {R : Type} (N : Nat) (ks : KS Zq101_l0_ex R) (k : Nat) (x : Zq101_l0_sh.T) : Option R :=
 Zq101_l0 N (fun y0 => ks 0 (((), ()), (y0, ()))) k x.1.1 x.1.2.1 x.1.2.2.2.1 x.2.1
noncomputable def Zq101_l0_s (N : Nat) : LSum := ⟨Zq101_l0_sh, Zq101_l0_ex, fun x ks => Zq101_l0_again N ks N x⟩
theorem Zq101_l0_ok (N : Nat) : LoopOk Tryz.prog Tryz.f128.ntmps (Zq101_l0_s N) (loopAt Zq101_code 0) := loopQ (sh := Zq101_l0_sh) (ex := Zq101_l0_ex) (N := N) (L := []) (fun R k x ks => Zq101_l0_again N ks k x) (Zq101_gok N) (fun _ _ _ => rfl) (fun R k x ks => by kernel_rfl) trivial (by kernel_rfl)
noncomputable def Zq101 (N : Nat) (setv : (List Int)) (x : Int) : Option (((List Int) × Unit) × (Unit)) :=
 Zq101_l0 N (fun o => some ((o, ()), ())) N setv x 0 []
noncomputable def Zq101_S (N : Nat) : FSum := ⟨Zq101_ps, Zq101_rs, fun x => Zq101 N x.1 x.2.1⟩
theorem Zq101_pc (N : Nat) : PC Tryz.prog 128 (Zq101_S N) := pcQ (L := [Zq101_l0_s N]) (Zq101_gok N) Tryz.call128 Tryz.func128 (fun x => by kernel_rfl) ⟨Zq101_l0_ok N, trivial⟩ (by kernel_rfl)

abbrev Zq80_ps : List (PV.Mode × Ty) := [(.ro, LI), (.ro, I)]
abbrev Zq80_rs : List (Bool × Ty) := [(false, LI)]
noncomputable def Zq80_G (N : Nat) : GTab := gOf []
theorem Zq80_gok (N : Nat) : GOk Tryz.prog (Zq80_G N) := gOf_ok trivial
noncomputable def Zq80_code : Code := (Tryz.f129.body).getD .skip
noncomputable def Zq80_l0_sh : Sh := ⟨[(0, .one (.ro LI)), (1, .one (.ro I)), (5, .one (.ro I))], []⟩
noncomputable def Zq80_l0_ex : List (Ex × Sh) := [(.exit 0, ⟨[(0, .one (.ro LI)), (1, .one (.ro I)), (5, .one (.ro I))], []⟩)]
noncomputable def Zq80_l0 {R : Type} (N : Nat) (k0 : (List Int) → Int → Int → Option R) : Nat → (List Int) → Int → Int → Option R
 | 0, _, _, _ => none
 | K + 1, l1, n1, kv =>
 (br (ilt kv (tLen l1))
 ((chk (inb l1 kv)
 (br (ilt (rdI l1 kv) n1)
 (Zq80_l0 N k0 K l1 n1 (IntKind.i64.wrap (kv + 1)))
 (k0 l1 n1 kv))))
 (k0 l1 n1 kv))
noncomputable def Zq80_l0_again {R : Type} (N : Nat) (ks : KS Zq80_l0_ex R) (k : Nat) (x : Zq80_l0_sh.T) : Option R :=
 Zq80_l0 N (fun y0 y1 y2 => ks 0 ((y0, y1, y2, ()), ())) k x.1.1 x.1.2.1 x.1.2.2.1
noncomputable def Zq80_l0_s (N : Nat) : LSum := ⟨Zq80_l0_sh, Zq80_l0_ex, fun x ks => Zq80_l0_again N ks N x⟩
theorem Zq80_l0_ok (N : Nat) : LoopOk Tryz.prog Tryz.f129.ntmps (Zq80_l0_s N) (loopAt Zq80_code 0) := loopQ (sh := Zq80_l0_sh) (ex := Zq80_l0_ex) (N := N) (L := []) (fun R k x ks => Zq80_l0_again N ks k x) (Zq80_gok N) (fun _ _ _ => rfl) (fun R k x ks => by kernel_rfl) trivial (by kernel_rfl)
noncomputable def Zq80 (N : Nat) (l : (List Int)) (n : Int) : Option (((List Int) × Unit) × (Unit)) :=
 Zq80_l0 N (fun l1 n1 kv => (br (ilt kv (tLen l1))
 ((chk (inb l1 kv)
 (br (ieq (rdI l1 kv) n1)
 (some ((l1, ()), ()))
 ((chk (ile 0 0 && ile 0 kv && ile kv (tLen l1))
 (chk (room (α := Int) (β := Int) [] (tCut l1 0 kv))
 (chk (room (tApp [] (tCut l1 0 kv)) [n1])
 (chk (ile 0 kv && ile kv (tLen l1) && ile (tLen l1) (tLen l1))
 (chk (room (tApp (tApp [] (tCut l1 0 kv)) [n1]) (tCut l1 kv (tLen l1)))
 (some (((tApp (tApp (tApp [] (tCut l1 0 kv)) [n1]) (tCut l1 kv (tLen l1))), ()), ())))))))))))
 ((chk (ile 0 0 && ile 0 kv && ile kv (tLen l1))
 (chk (room (α := Int) (β := Int) [] (tCut l1 0 kv))
 (chk (room (tApp [] (tCut l1 0 kv)) [n1])
 (chk (ile 0 kv && ile kv (tLen l1) && ile (tLen l1) (tLen l1))
 (chk (room (tApp (tApp [] (tCut l1 0 kv)) [n1]) (tCut l1 kv (tLen l1)))
 (some (((tApp (tApp (tApp [] (tCut l1 0 kv)) [n1]) (tCut l1 kv (tLen l1))), ()), ())))))))))) N l n 0
noncomputable def Zq80_S (N : Nat) : FSum := ⟨Zq80_ps, Zq80_rs, fun x => Zq80 N x.1 x.2.1⟩
theorem Zq80_pc (N : Nat) : PC Tryz.prog 129 (Zq80_S N) := pcQ (L := [Zq80_l0_s N]) (Zq80_gok N) Tryz.call129 Tryz.func129 (fun x => by kernel_rfl) ⟨Zq80_l0_ok N, trivial⟩ (by kernel_rfl)

abbrev Zq100_ps : List (PV.Mode × Ty) := [(.ro, LI), (.ro, I)]
abbrev Zq100_rs : List (Bool × Ty) := [(false, LI)]
noncomputable def Zq100_G (N : Nat) : GTab := gOf [(72, Zq74_S N), (128, Zq101_S N), (129, Zq80_S N)]
theorem Zq100_gok (N : Nat) : GOk Tryz.prog (Zq100_G N) := gOf_ok ⟨Zq74_pc N, Zq101_pc N, Zq80_pc N, trivial⟩
noncomputable def Zq100_code : Code := (Tryz.f68.body).getD .skip
noncomputable def Zq100 (N : Nat) (setv : (List Int)) (x : Int) : Option (((List Int) × Unit) × (Unit)) :=
 ((Zq74 N setv x).bind fun r =>
 (br r.1.1
 (((Zq101 N setv x).bind fun r1 =>
 some ((r1.1.1, ()), ())))
 (((Zq80 N setv x).bind fun r2 =>
 some ((r2.1.1, ()), ())))))
noncomputable def Zq100_S (N : Nat) : FSum := ⟨Zq100_ps, Zq100_rs, fun x => Zq100 N x.1 x.2.1⟩
theorem Zq100_pc (N : Nat) : PC Tryz.prog 68 (Zq100_S N) := pcQ (L := []) (Zq100_gok N) Tryz.call68 Tryz.func68 (fun x => by kernel_rfl) trivial (by kernel_rfl)

abbrev Zq59_ps : List (PV.Mode × Ty) := [(.ro, QILQII), (.ro, I), (.ro, LI)]
abbrev Zq59_rs : List (Bool × Ty) := [(false, LI), (true, .bool)]
noncomputable def Zq59_G (N : Nat) : GTab := gOf [(61, Zq96_S N), (71, Zq79_S N), (72, Zq74_S N), (68, Zq100_S N), (67, Zq94_S N)]
theorem Zq59_gok (N : Nat) : GOk Tryz.prog (Zq59_G N) := gOf_ok ⟨Zq96_pc N, Zq79_pc N, Zq74_pc N, Zq100_pc N, Zq94_pc N, trivial⟩
noncomputable def Zq59_code : Code := (Tryz.f16.body).getD .skip
noncomputable def Zq59_l0_sh : Sh := ⟨[(1, .one (.ro I)), (3, .one (.adr 0 0)), (8, .one (.ro LI)), (9, .one (.ro I))], [.box [.ro I, .ro LQII]]⟩
noncomputable def Zq59_l0_ex : List (Ex × Sh) := [(.exit 0, ⟨[(8, .one (.ro LI))], []⟩)]
noncomputable def Zq59_l0 {R : Type} (N : Nat) (k0 : (List Int) → Option R) : Nat → Int → (List Int) → Int → Int → (List (Int × Int)) → Option R
 | 0, _, _, _, _, _ => none
 | K + 1, kind1, out, x, o, o1 =>
 (br (ilt x o)
 (((Zq74 N out x).bind fun r2 =>
 (br (r2.1.1 == (ine kind1 2))
 (((Zq100 N out x).bind fun r3 =>
 ((Zq94 N (o, o1) kind1 r3.1.1).bind fun r4 =>
 (br r4.1.1
 (((Zq100 N out x).bind fun r5 =>
 Zq59_l0 N k0 K kind1 r5.1.1 (IntKind.i64.wrap (x + 1)) o o1))
 (Zq59_l0 N k0 K kind1 out (IntKind.i64.wrap (x + 1)) o o1)))))
 (Zq59_l0 N k0 K kind1 out (IntKind.i64.wrap (x + 1)) o o1))))
 (k0 out))
noncomputable def Zq59_l0_again {R : Type} (N : Nat) (ks : KS Zq59_l0_ex R) (k : Nat) (x : Zq59_l0_sh.T) : Option R :=
 Zq59_l0 N (fun y0 => ks 0 ((y0, ()), ())) k x.1.1 x.1.2.2.1 x.1.2.2.2.1 x.2.1.1 x.2.1.2.1
noncomputable def Zq59_l0_s (N : Nat) : LSum := ⟨Zq59_l0_sh, Zq59_l0_ex, fun x ks => Zq59_l0_again N ks N x⟩
theorem Zq59_l0_ok (N : Nat) : LoopOk Tryz.prog Tryz.f16.ntmps (Zq59_l0_s N) (loopAt Zq59_code 0) := loopQ (sh := Zq59_l0_sh) (ex := Zq59_l0_ex) (N := N) (L := []) (fun R k x ks => Zq59_l0_again N ks k x) (Zq59_gok N) (fun _ _ _ => rfl) (fun R k x ks => by kernel_rfl) trivial (by kernel_rfl)
noncomputable def Zq59 (N : Nat) (g : (Int × (List (Int × Int)))) (kind : Int) (setv : (List Int)) : Option (((List Int) × Bool × Unit) × (Unit)) :=
 ((Zq96 N (g.1, g.2) kind setv).bind fun r =>
 (br (!r.1.1)
 (some (([], false, ()), ()))
 (((Zq79 N setv).bind fun r1 =>
 Zq59_l0 N (fun out => some ((out, true, ()), ())) N kind r1.1.1 0 g.1 g.2))))
noncomputable def Zq59_S (N : Nat) : FSum := ⟨Zq59_ps, Zq59_rs, fun x => Zq59 N x.1 x.2.1 x.2.2.1⟩
theorem Zq59_pc (N : Nat) : PC Tryz.prog 16 (Zq59_S N) := pcQ (L := [Zq59_l0_s N]) (Zq59_gok N) Tryz.call16 Tryz.func16 (fun x => by kernel_rfl) ⟨Zq59_l0_ok N, trivial⟩ (by kernel_rfl)

abbrev Zq57_ps : List (PV.Mode × Ty) := [(.ro, LU8)]
abbrev Zq57_rs : List (Bool × Ty) := [(false, QILQII), (false, I), (false, LI)]
noncomputable def Zq57_G (N : Nat) : GTab := gOf [(54, Zq66_S N), (55, Zq67_S N), (56, Zq70_S N), (16, Zq59_S N), (57, Zq71_S N)]
theorem Zq57_gok (N : Nat) : GOk Tryz.prog (Zq57_G N) := gOf_ok ⟨Zq66_pc N, Zq67_pc N, Zq70_pc N, Zq59_pc N, Zq71_pc N, trivial⟩
noncomputable def Zq57_code : Code := (Tryz.f7.body).getD .skip
noncomputable def Zq57 (N : Nat) (code : (List Int)) : Option (((Int × (List (Int × Int))) × Int × (List Int) × Unit) × (Unit)) :=
 ((Zq66 N (code, (0, 0))).bind fun r =>
 ((Zq67 N r.2.1).bind fun r1 =>
 ((Zq70 N r1.2.1 (r.1.1.1, r.1.1.2) r1.1.1).bind fun r2 =>
 ((Zq59 N (r.1.1.1, r.1.1.2) r1.1.1 r2.1.1).bind fun r3 =>
 (br r3.1.2.1
 (((Zq71 N r2.2.1 3).bind fun r4 =>
 (br r4.1.1
 (some (((r.1.1.1, r.1.1.2), r1.1.1, r3.1.1, ()), ()))
 (some (((r.1.1.1, r.1.1.2), r1.1.1, r2.1.1, ()), ())))))
 (some (((r.1.1.1, r.1.1.2), r1.1.1, r2.1.1, ()), ())))))))
noncomputable def Zq57_S (N : Nat) : FSum := ⟨Zq57_ps, Zq57_rs, fun x => Zq57 N x.1⟩
theorem Zq57_pc (N : Nat) : PC Tryz.prog 7 (Zq57_S N) := pcQ (L := []) (Zq57_gok N) Tryz.call7 Tryz.func7 (fun x => by kernel_rfl) trivial (by kernel_rfl)

abbrev Zq28_ps : List (PV.Mode × Ty) := [(.ro, I), (.ro, I), (.ro, I)]
abbrev Zq28_rs : List (Bool × Ty) := [(true, .bool)]
noncomputable def Zq28_G (N : Nat) : GTab := gOf []
theorem Zq28_gok (N : Nat) : GOk Tryz.prog (Zq28_G N) := gOf_ok trivial
noncomputable def Zq28_code : Code := (Tryz.f130.body).getD .skip
noncomputable def Zq28 (N : Nat) (n : Int) (low : Int) (high : Int) : Option ((Bool × Unit) × (Unit)) :=
 (br (ile low n)
 (some (((ile n high), ()), ()))
 (some ((false, ()), ())))
noncomputable def Zq28_S (N : Nat) : FSum := ⟨Zq28_ps, Zq28_rs, fun x => Zq28 N x.1 x.2.1 x.2.2.1⟩
theorem Zq28_pc (N : Nat) : PC Tryz.prog 130 (Zq28_S N) := pcQ (L := []) (Zq28_gok N) Tryz.call130 Tryz.func130 (fun x => by kernel_rfl) trivial (by kernel_rfl)

abbrev Zq2_ps : List (PV.Mode × Ty) := [(.ro, I)]
abbrev Zq2_rs : List (Bool × Ty) := [(true, .bool)]
noncomputable def Zq2_G (N : Nat) : GTab := gOf []
theorem Zq2_gok (N : Nat) : GOk Tryz.prog (Zq2_G N) := gOf_ok trivial
noncomputable def Zq2_code : Code := (Tryz.f184.body).getD .skip
noncomputable def Zq2 (N : Nat) (x : Int) : Option ((Bool × Unit) × (Unit)) :=
 some (((ine x x), ()), ())
noncomputable def Zq2_S (N : Nat) : FSum := ⟨Zq2_ps, Zq2_rs, fun x => Zq2 N x.1⟩
theorem Zq2_pc (N : Nat) : PC Tryz.prog 184 (Zq2_S N) := pcQ (L := []) (Zq2_gok N) Tryz.call184 Tryz.func184 (fun x => by kernel_rfl) trivial (by kernel_rfl)

abbrev Zq0_ps : List (PV.Mode × Ty) := [(.ro, I), (.ro, I)]
abbrev Zq0_rs : List (Bool × Ty) := [(true, I)]
noncomputable def Zq0_G (N : Nat) : GTab := gOf [(184, Zq2_S N)]
theorem Zq0_gok (N : Nat) : GOk Tryz.prog (Zq0_G N) := gOf_ok ⟨Zq2_pc N, trivial⟩
noncomputable def Zq0_code : Code := (Tryz.f153.body).getD .skip
noncomputable def Zq0 (N : Nat) (x : Int) (y : Int) : Option ((Int × Unit) × (Unit)) :=
 ((Zq2 N x).bind fun r =>
 ((Zq2 N y).bind fun r1 =>
 (br r.1.1
 ((br r1.1.1
 (some ((0, ()), ()))
 (some (((-1), ()), ()))))
 ((br r1.1.1
 (some ((1, ()), ()))
 ((br (ilt x y)
 (some (((-1), ()), ()))
 ((br (ilt y x)
 (some ((1, ()), ()))
 (some ((0, ()), ())))))))))))
noncomputable def Zq0_S (N : Nat) : FSum := ⟨Zq0_ps, Zq0_rs, fun x => Zq0 N x.1 x.2.1⟩
theorem Zq0_pc (N : Nat) : PC Tryz.prog 153 (Zq0_S N) := pcQ (L := []) (Zq0_gok N) Tryz.call153 Tryz.func153 (fun x => by kernel_rfl) trivial (by kernel_rfl)

abbrev Zq1_ps : List (PV.Mode × Ty) := [(.ro, LI)]
abbrev Zq1_rs : List (Bool × Ty) := [(true, I)]
noncomputable def Zq1_G (N : Nat) : GTab := gOf []
theorem Zq1_gok (N : Nat) : GOk Tryz.prog (Zq1_G N) := gOf_ok trivial
noncomputable def Zq1_code : Code := (Tryz.f156.body).getD .skip
noncomputable def Zq1_l0_sh : Sh := ⟨[(3, .one (.ro I)), (6, .one (.ro LI)), (7, .one (.ro I)), (8, .one (.ro I))], []⟩
noncomputable def Zq1_l0_ex : List (Ex × Sh) := [(.ret, ⟨[(2, .one (.ro I))], []⟩), (.exit 0, ⟨[(3, .one (.ro I))], []⟩)]
noncomputable def Zq1_l0 {R : Type} (N : Nat) (k0 : Int → Option R) (k1 : Int → Option R) : Nat → Int → (List Int) → Int → Int → Option R
 | 0, _, _, _, _ => none
 | K + 1, zero, x, x1, x2 =>
 (br (ilt x2 x1)
 ((chk (inb x x2)
 (br (ine (rdI x x2) zero)
 (k0 (rdI x x2))
 (Zq1_l0 N k0 k1 K zero x x1 (IntKind.i64.wrap (x2 + 1))))))
 (k1 zero))
noncomputable def Zq1_l0_again {R : Type} (N : Nat) (ks : KS Zq1_l0_ex R) (k : Nat) (x : Zq1_l0_sh.T) : Option R :=
 Zq1_l0 N (fun y0 => ks 0 ((y0, ()), ())) (fun y0 => ks 1 ((y0, ()), ())) k x.1.1 x.1.2.1 x.1.2.2.1 x.1.2.2.2.1
noncomputable def Zq1_l0_s (N : Nat) : LSum := ⟨Zq1_l0_sh, Zq1_l0_ex, fun x ks => Zq1_l0_again N ks N x⟩
theorem Zq1_l0_ok (N : Nat) : LoopOk Tryz.prog Tryz.f156.ntmps (Zq1_l0_s N) (loopAt Zq1_code 0) := loopQ (sh := Zq1_l0_sh) (ex := Zq1_l0_ex) (N := N) (L := []) (fun R k x ks => Zq1_l0_again N ks k x) (Zq1_gok N) (fun _ _ _ => rfl) (fun R k x ks => by kernel_rfl) trivial (by kernel_rfl)
noncomputable def Zq1 (N : Nat) (vals : (List Int)) : Option ((Int × Unit) × (Unit)) :=
 Zq1_l0 N (fun x => some ((x, ()), ())) (fun zero => some ((zero, ()), ())) N 0 vals (tLen vals) 0
noncomputable def Zq1_S (N : Nat) : FSum := ⟨Zq1_ps, Zq1_rs, fun x => Zq1 N x.1⟩
theorem Zq1_pc (N : Nat) : PC Tryz.prog 156 (Zq1_S N) := pcQ (L := [Zq1_l0_s N]) (Zq1_gok N) Tryz.call156 Tryz.func156 (fun x => by kernel_rfl) ⟨Zq1_l0_ok N, trivial⟩ (by kernel_rfl)

abbrev Zq29_ps : List (PV.Mode × Ty) := [(.ro, QII), (.ro, QII)]
abbrev Zq29_rs : List (Bool × Ty) := [(true, I)]
noncomputable def Zq29_G (N : Nat) : GTab := gOf [(153, Zq0_S N), (156, Zq1_S N)]
theorem Zq29_gok (N : Nat) : GOk Tryz.prog (Zq29_G N) := gOf_ok ⟨Zq0_pc N, Zq1_pc N, trivial⟩
noncomputable def Zq29_code : Code := (Tryz.f108.body).getD .skip
noncomputable def Zq29 (N : Nat) (a : (Int × Int)) (b : (Int × Int)) : Option ((Int × Unit) × (Unit)) :=
 ((Zq0 N a.1 b.1).bind fun r =>
 ((Zq0 N a.2 b.2).bind fun r1 =>
 ((Zq1 N [r.1.1, r1.1.1]).bind fun r2 =>
 some ((r2.1.1, ()), ()))))
noncomputable def Zq29_S (N : Nat) : FSum := ⟨Zq29_ps, Zq29_rs, fun x => Zq29 N x.1 x.2.1⟩
theorem Zq29_pc (N : Nat) : PC Tryz.prog 108 (Zq29_S N) := pcQ (L := []) (Zq29_gok N) Tryz.call108 Tryz.func108 (fun x => by kernel_rfl) trivial (by kernel_rfl)

abbrev Zq33_ps : List (PV.Mode × Ty) := [(.ro, LQII), (.ro, I)]
abbrev Zq33_rs : List (Bool × Ty) := [(true, .bool)]
noncomputable def Zq33_G (N : Nat) : GTab := gOf [(108, Zq29_S N)]
theorem Zq33_gok (N : Nat) : GOk Tryz.prog (Zq33_G N) := gOf_ok ⟨Zq29_pc N, trivial⟩
noncomputable def Zq33_code : Code := (Tryz.f131.body).getD .skip
noncomputable def Zq33_l0_sh : Sh := ⟨[(0, .one (.ro LQII)), (1, .one (.ro I)), (7, .one (.ro LQII)), (8, .one (.ro I)), (9, .one (.ro I))], []⟩
noncomputable def Zq33_l0_ex : List (Ex × Sh) := [(.ret, ⟨[(4, .one (.ro .bool))], []⟩), (.exit 0, ⟨[], []⟩)]
noncomputable def Zq33_l0 {R : Type} (N : Nat) (k0 : Bool → Option R) (k1 : Unit → Option R) : Nat → (List (Int × Int)) → Int → (List (Int × Int)) → Int → Int → Option R
 | 0, _, _, _, _, _ => none
 | K + 1, list1, below1, x, x1, x2 =>
 (br (ilt x2 x1)
 ((chk (inb x x2)
 (br (ilt ((rdP x x2).1) 0)
 (k0 false)
 ((br (ile ((rdP x x2).2) ((rdP x x2).1))
 (k0 false)
 ((br (ile below1 ((rdP x x2).2))
 (k0 false)
 ((br (ilt 0 x2)
 ((chk (inb list1 (IntKind.i64.wrap (x2 - 1)))
 ((Zq29 N (rdP list1 (IntKind.i64.wrap (x2 - 1))) ((rdP x x2).1, (rdP x x2).2)).bind fun r =>
 (br (ile 0 r.1.1)
 (k0 false)
 (Zq33_l0 N k0 k1 K list1 below1 x x1 (IntKind.i64.wrap (x2 + 1)))))))
 (Zq33_l0 N k0 k1 K list1 below1 x x1 (IntKind.i64.wrap (x2 + 1))))))))))))
 (k1 ()))
noncomputable def Zq33_l0_again {R : Type} (N : Nat) (ks : KS Zq33_l0_ex R) (k : Nat) (x : Zq33_l0_sh.T) : Option R :=
 Zq33_l0 N (fun y0 => ks 0 ((y0, ()), ())) (fun (_ : Unit) => ks 1 ((), ())) k x.1.1 x.1.2.1 x.1.2.2.1 x.1.2.2.2.1 x.1.2.2.2.2.1
noncomputable def Zq33_l0_s (N : Nat) : LSum := ⟨Zq33_l0_sh, Zq33_l0_ex, fun x ks => Zq33_l0_again N ks N x⟩
theorem Zq33_l0_ok (N : Nat) : LoopOk Tryz.prog Tryz.f131.ntmps (Zq33_l0_s N) (loopAt Zq33_code 0) := loopQ (sh := Zq33_l0_sh) (ex := Zq33_l0_ex) (N := N) (L := []) (fun R k x ks => Zq33_l0_again N ks k x) (Zq33_gok N) (fun _ _ _ => rfl) (fun R k x ks => by kernel_rfl) trivial (by kernel_rfl)
noncomputable def Zq33 (N : Nat) (list : (List (Int × Int))) (below : Int) : Option ((Bool × Unit) × (Unit)) :=
 Zq33_l0 N (fun x => some ((x, ()), ())) (fun (_ : Unit) => some ((true, ()), ())) N list below list (tLen list) 0
noncomputable def Zq33_S (N : Nat) : FSum := ⟨Zq33_ps, Zq33_rs, fun x => Zq33 N x.1 x.2.1⟩
theorem Zq33_pc (N : Nat) : PC Tryz.prog 131 (Zq33_S N) := pcQ (L := [Zq33_l0_s N]) (Zq33_gok N) Tryz.call131 Tryz.func131 (fun x => by kernel_rfl) ⟨Zq33_l0_ok N, trivial⟩ (by kernel_rfl)

abbrev Zq20_ps : List (PV.Mode × Ty) := [(.ro, QILQII)]
abbrev Zq20_rs : List (Bool × Ty) := [(true, .bool)]
noncomputable def Zq20_G (N : Nat) : GTab := gOf [(130, Zq28_S N), (131, Zq33_S N)]
theorem Zq20_gok (N : Nat) : GOk Tryz.prog (Zq20_G N) := gOf_ok ⟨Zq28_pc N, Zq33_pc N, trivial⟩
noncomputable def Zq20_code : Code := (Tryz.f74.body).getD .skip
noncomputable def Zq20 (N : Nat) (g : (Int × (List (Int × Int)))) : Option ((Bool × Unit) × (Unit)) :=
 ((Zq28 N g.1 0 8).bind fun r =>
 (br r.1.1
 (((Zq33 N g.2 g.1).bind fun r1 =>
 some ((r1.1.1, ()), ())))
 (some ((false, ()), ()))))
noncomputable def Zq20_S (N : Nat) : FSum := ⟨Zq20_ps, Zq20_rs, fun x => Zq20 N x.1⟩
theorem Zq20_pc (N : Nat) : PC Tryz.prog 74 (Zq20_S N) := pcQ (L := []) (Zq20_gok N) Tryz.call74 Tryz.func74 (fun x => by kernel_rfl) trivial (by kernel_rfl)

abbrev Zq31_ps : List (PV.Mode × Ty) := [(.ro, I)]
abbrev Zq31_rs : List (Bool × Ty) := [(true, .bool)]
noncomputable def Zq31_G (N : Nat) : GTab := gOf [(130, Zq28_S N)]
theorem Zq31_gok (N : Nat) : GOk Tryz.prog (Zq31_G N) := gOf_ok ⟨Zq28_pc N, trivial⟩
noncomputable def Zq31_code : Code := (Tryz.f75.body).getD .skip
noncomputable def Zq31 (N : Nat) (kind : Int) : Option ((Bool × Unit) × (Unit)) :=
 ((Zq28 N kind 1 3).bind fun r =>
 some ((r.1.1, ()), ()))
noncomputable def Zq31_S (N : Nat) : FSum := ⟨Zq31_ps, Zq31_rs, fun x => Zq31 N x.1⟩
theorem Zq31_pc (N : Nat) : PC Tryz.prog 75 (Zq31_S N) := pcQ (L := []) (Zq31_gok N) Tryz.call75 Tryz.func75 (fun x => by kernel_rfl) trivial (by kernel_rfl)

abbrev Zq34_ps : List (PV.Mode × Ty) := [(.ro, LI), (.ro, I)]
abbrev Zq34_rs : List (Bool × Ty) := [(true, .bool)]
noncomputable def Zq34_G (N : Nat) : GTab := gOf [(130, Zq28_S N)]
theorem Zq34_gok (N : Nat) : GOk Tryz.prog (Zq34_G N) := gOf_ok ⟨Zq28_pc N, trivial⟩
noncomputable def Zq34_code : Code := (Tryz.f80.body).getD .skip
noncomputable def Zq34_l0_sh : Sh := ⟨[(0, .one (.ro LI)), (1, .one (.ro I)), (7, .one (.ro LI)), (8, .one (.ro I)), (9, .one (.ro I))], []⟩
noncomputable def Zq34_l0_ex : List (Ex × Sh) := [(.ret, ⟨[(4, .one (.ro .bool))], []⟩), (.exit 0, ⟨[], []⟩)]
noncomputable def Zq34_l0 {R : Type} (N : Nat) (k0 : Bool → Option R) (k1 : Unit → Option R) : Nat → (List Int) → Int → (List Int) → Int → Int → Option R
 | 0, _, _, _, _, _ => none
 | K + 1, list1, below1, x, x1, x2 =>
 (br (ilt x2 x1)
 ((chk (inb x x2)
 ((Zq28 N (rdI x x2) 0 (IntKind.i64.wrap (below1 - 1))).bind fun r =>
 (br (!r.1.1)
 (k0 false)
 ((br (ilt 0 x2)
 ((chk (inb list1 (IntKind.i64.wrap (x2 - 1)))
 (br (ile (rdI x x2) (rdI list1 (IntKind.i64.wrap (x2 - 1))))
 (k0 false)
 (Zq34_l0 N k0 k1 K list1 below1 x x1 (IntKind.i64.wrap (x2 + 1))))))
 (Zq34_l0 N k0 k1 K list1 below1 x x1 (IntKind.i64.wrap (x2 + 1)))))))))
 (k1 ()))
noncomputable def Zq34_l0_again {R : Type} (N : Nat) (ks : KS Zq34_l0_ex R) (k : Nat) (x : Zq34_l0_sh.T) : Option R :=
 Zq34_l0 N (fun y0 => ks 0 ((y0, ()), ())) (fun (_ : Unit) => ks 1 ((), ())) k x.1.1 x.1.2.1 x.1.2.2.1 x.1.2.2.2.1 x.1.2.2.2.2.1
noncomputable def Zq34_l0_s (N : Nat) : LSum := ⟨Zq34_l0_sh, Zq34_l0_ex, fun x ks => Zq34_l0_again N ks N x⟩
theorem Zq34_l0_ok (N : Nat) : LoopOk Tryz.prog Tryz.f80.ntmps (Zq34_l0_s N) (loopAt Zq34_code 0) := loopQ (sh := Zq34_l0_sh) (ex := Zq34_l0_ex) (N := N) (L := []) (fun R k x ks => Zq34_l0_again N ks k x) (Zq34_gok N) (fun _ _ _ => rfl) (fun R k x ks => by kernel_rfl) trivial (by kernel_rfl)
noncomputable def Zq34 (N : Nat) (list : (List Int)) (below : Int) : Option ((Bool × Unit) × (Unit)) :=
 Zq34_l0 N (fun x => some ((x, ()), ())) (fun (_ : Unit) => some ((true, ()), ())) N list below list (tLen list) 0
noncomputable def Zq34_S (N : Nat) : FSum := ⟨Zq34_ps, Zq34_rs, fun x => Zq34 N x.1 x.2.1⟩
theorem Zq34_pc (N : Nat) : PC Tryz.prog 80 (Zq34_S N) := pcQ (L := [Zq34_l0_s N]) (Zq34_gok N) Tryz.call80 Tryz.func80 (fun x => by kernel_rfl) ⟨Zq34_l0_ok N, trivial⟩ (by kernel_rfl)

abbrev Zq35_ps : List (PV.Mode × Ty) := [(.ro, QILQII), (.ro, I), (.ro, LI)]
abbrev Zq35_rs : List (Bool × Ty) := [(true, .bool)]
noncomputable def Zq35_G (N : Nat) : GTab := gOf [(74, Zq20_S N), (75, Zq31_S N), (80, Zq34_S N)]
theorem Zq35_gok (N : Nat) : GOk Tryz.prog (Zq35_G N) := gOf_ok ⟨Zq20_pc N, Zq31_pc N, Zq34_pc N, trivial⟩
noncomputable def Zq35_code : Code := (Tryz.f63.body).getD .skip
noncomputable def Zq35 (N : Nat) (g : (Int × (List (Int × Int)))) (kind : Int) (setv : (List Int)) : Option ((Bool × Unit) × (Unit)) :=
 ((Zq20 N (g.1, g.2)).bind fun r =>
 (br r.1.1
 (((Zq31 N kind).bind fun r1 =>
 (br r1.1.1
 (((Zq34 N setv g.1).bind fun r2 =>
 some ((r2.1.1, ()), ())))
 (some ((false, ()), ())))))
 (some ((false, ()), ()))))
noncomputable def Zq35_S (N : Nat) : FSum := ⟨Zq35_ps, Zq35_rs, fun x => Zq35 N x.1 x.2.1 x.2.2.1⟩
theorem Zq35_pc (N : Nat) : PC Tryz.prog 63 (Zq35_S N) := pcQ (L := []) (Zq35_gok N) Tryz.call63 Tryz.func63 (fun x => by kernel_rfl) trivial (by kernel_rfl)

abbrev Zq25_ps : List (PV.Mode × Ty) := [(.ro, LI)]
abbrev Zq25_rs : List (Bool × Ty) := [(true, U64)]
noncomputable def Zq25_G (N : Nat) : GTab := gOf []
theorem Zq25_gok (N : Nat) : GOk Tryz.prog (Zq25_G N) := gOf_ok trivial
noncomputable def Zq25_code : Code := (Tryz.f60.body).getD .skip
noncomputable def Zq25_l0_sh : Sh := ⟨[(3, .one (.ro U64)), (6, .one (.ro LI)), (7, .one (.ro I)), (8, .one (.ro I))], []⟩
noncomputable def Zq25_l0_ex : List (Ex × Sh) := [(.exit 0, ⟨[(3, .one (.ro U64))], []⟩)]
noncomputable def Zq25_l0 {R : Type} (N : Nat) (k0 : Int → Option R) : Nat → Int → (List Int) → Int → Int → Option R
 | 0, _, _, _, _ => none
 | K + 1, out, x, x1, x2 =>
 (br (ilt x2 x1)
 ((chk (inb x x2)
 (chk (ile 0 (rdI x x2))
 (Zq25_l0 N k0 K (bitop .or .u64 out (shlI .u64 1 (rdI x x2))) x x1 (IntKind.i64.wrap (x2 + 1))))))
 (k0 out))
noncomputable def Zq25_l0_again {R : Type} (N : Nat) (ks : KS Zq25_l0_ex R) (k : Nat) (x : Zq25_l0_sh.T) : Option R :=
 Zq25_l0 N (fun y0 => ks 0 ((y0, ()), ())) k x.1.1 x.1.2.1 x.1.2.2.1 x.1.2.2.2.1
noncomputable def Zq25_l0_s (N : Nat) : LSum := ⟨Zq25_l0_sh, Zq25_l0_ex, fun x ks => Zq25_l0_again N ks N x⟩
theorem Zq25_l0_ok (N : Nat) : LoopOk Tryz.prog Tryz.f60.ntmps (Zq25_l0_s N) (loopAt Zq25_code 0) := loopQ (sh := Zq25_l0_sh) (ex := Zq25_l0_ex) (N := N) (L := []) (fun R k x ks => Zq25_l0_again N ks k x) (Zq25_gok N) (fun _ _ _ => rfl) (fun R k x ks => by kernel_rfl) trivial (by kernel_rfl)
noncomputable def Zq25 (N : Nat) (list : (List Int)) : Option ((Int × Unit) × (Unit)) :=
 Zq25_l0 N (fun out => some ((out, ()), ())) N 0 list (tLen list) 0
noncomputable def Zq25_S (N : Nat) : FSum := ⟨Zq25_ps, Zq25_rs, fun x => Zq25 N x.1⟩
theorem Zq25_pc (N : Nat) : PC Tryz.prog 60 (Zq25_S N) := pcQ (L := [Zq25_l0_s N]) (Zq25_gok N) Tryz.call60 Tryz.func60 (fun x => by kernel_rfl) ⟨Zq25_l0_ok N, trivial⟩ (by kernel_rfl)

abbrev Zq5_ps : List (PV.Mode × Ty) := [(.ro, QILQII)]
abbrev Zq5_rs : List (Bool × Ty) := [(true, U64)]
noncomputable def Zq5_G (N : Nat) : GTab := gOf []
theorem Zq5_gok (N : Nat) : GOk Tryz.prog (Zq5_G N) := gOf_ok trivial
noncomputable def Zq5_code : Code := (Tryz.f81.body).getD .skip
noncomputable def Zq5 (N : Nat) (g : (Int × (List (Int × Int)))) : Option ((Int × Unit) × (Unit)) :=
 (chk (ile 0 g.1)
 (some (((IntKind.u64.wrap ((shlI .u64 1 g.1) - 1)), ()), ())))
noncomputable def Zq5_S (N : Nat) : FSum := ⟨Zq5_ps, Zq5_rs, fun x => Zq5 N x.1⟩
theorem Zq5_pc (N : Nat) : PC Tryz.prog 81 (Zq5_S N) := pcQ (L := []) (Zq5_gok N) Tryz.call81 Tryz.func81 (fun x => by kernel_rfl) trivial (by kernel_rfl)
end Go.Proofs.YtffeokcchabclaaGreat
