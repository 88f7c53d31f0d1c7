/- Functions of the program as functions on data. -/
import Derived.Test.YtfilchmabmfmaaaCountTreesFa
set_option linter.all false
namespace Go.Proofs.Ytfilchmabmfmaaa
open Go Go.PV
abbrev Zq5_ps : List (PV.Mode × Ty) := [(.ro, QILQII), (.ro, I)]
abbrev Zq5_rs : List (Bool × Ty) := [(true, LI)]
noncomputable def Zq5_G (N : Nat) : GTab := gOf [(23, Zq4_S N)]
theorem Zq5_gok (N : Nat) : GOk Try.prog (Zq5_G N) := gOf_ok ⟨Zq4_pc N, trivial⟩
noncomputable def Zq5_code : Code := (Try.f22.body).getD .skip
noncomputable def Zq5_l0_sh : Sh := ⟨[(1, .one (.ro I)), (2, .one (.adr 0 0)), (5, .one (.ref 1)), (9, .one (.ro I)), (10, .one (.ro I))], [.box [.ro I, .ro LQII], .sl 3 I .own]⟩
noncomputable def Zq5_l0_ex : List (Ex × Sh) := [(.exit 0, ⟨[(5, .one (.ref 0))], [.sl 3 I .own]⟩)]
noncomputable def Zq5_l0 {R : Type} (N : Nat) (k0 : (List Int) → Option R) : Nat → Int → Int → Int → Int → (List (Int × Int)) → (List Int) → Option R
 | 0, _, _, _, _, _, _ => none
 | K + 1, x1, x2, x3, o, o1, o2 =>
 (br (ilt x3 x2)
 ((br (ine x3 x1)
 (((Zq4 N (o, o1) x1 x3).bind fun r =>
 (br r.1.1
 ((chk (room o2 [x3])
 (Zq5_l0 N k0 K x1 x2 (IntKind.i64.wrap (x3 + 1)) o o1 (tApp o2 [x3]))))
 (Zq5_l0 N k0 K x1 x2 (IntKind.i64.wrap (x3 + 1)) o o1 o2))))
 (Zq5_l0 N k0 K x1 x2 (IntKind.i64.wrap (x3 + 1)) o o1 o2)))
 (k0 o2))
noncomputable def Zq5_l0_again {R : Type} (N : Nat) (ks : KS Zq5_l0_ex R) (k : Nat) (x : Zq5_l0_sh.T) : Option R :=
 Zq5_l0 N (fun y0 => ks 0 (((), ()), (y0, ()))) k x.1.1 x.1.2.2.2.1 x.1.2.2.2.2.1 x.2.1.1 x.2.1.2.1 x.2.2.1
noncomputable def Zq5_l0_s (N : Nat) : LSum := ⟨Zq5_l0_sh, Zq5_l0_ex, fun x ks => Zq5_l0_again N ks N x⟩
theorem Zq5_l0_ok (N : Nat) : LoopOk Try.prog Try.f22.ntmps (Zq5_l0_s N) (loopAt Zq5_code 0) := loopQ (sh := Zq5_l0_sh) (ex := Zq5_l0_ex) (N := N) (L := []) (fun R k x ks => Zq5_l0_again N ks k x) (Zq5_gok N) (fun _ _ _ => rfl) (fun R k x ks => by kernel_rfl) trivial (by kernel_rfl)
noncomputable def Zq5 (N : Nat) (g : (Int × (List (Int × Int)))) (x : Int) : Option (((List Int) × Unit) × (Unit)) :=
 Zq5_l0 N (fun o => some ((o, ()), ())) N x g.1 0 g.1 g.2 []
noncomputable def Zq5_S (N : Nat) : FSum := ⟨Zq5_ps, Zq5_rs, fun x => Zq5 N x.1 x.2.1⟩
theorem Zq5_pc (N : Nat) : PC Try.prog 22 (Zq5_S N) := pcQ (L := [Zq5_l0_s N]) (Zq5_gok N) Try.call22 Try.func22 (fun x => by kernel_rfl) ⟨Zq5_l0_ok N, trivial⟩ (by kernel_rfl)

abbrev Zq3_ps : List (PV.Mode × Ty) := [(.ro, QILQII)]
abbrev Zq3_rs : List (Bool × Ty) := [(true, I), (true, .bool)]
noncomputable def Zq3_G (N : Nat) : GTab := gOf [(21, Zq6_S N), (22, Zq5_S N), (23, Zq4_S N)]
theorem Zq3_gok (N : Nat) : GOk Try.prog (Zq3_G N) := gOf_ok ⟨Zq6_pc N, Zq5_pc N, Zq4_pc N, trivial⟩
noncomputable def Zq3_code : Code := (Try.f8.body).getD .skip
noncomputable def Zq3_l0_0_sh : Sh := ⟨[(1, .one (.adr 0 0)), (4, .one (.ro I)), (5, .one (.adr 1 0)), (6, .one (.ro I)), (24, .one (.ro I)), (25, .one (.ro I)), (36, .one (.ro I)), (37, .one (.ro I))], [.box [.ro I, .ro LQII], .mat]⟩
noncomputable def Zq3_l0_0_ex : List (Ex × Sh) := [(.exit 2, ⟨[(1, .one (.adr 0 0)), (4, .one (.ro I)), (5, .one (.adr 1 0)), (24, .one (.ro I)), (25, .one (.ro I))], [.box [.ro I, .ro LQII], .mat]⟩)]
noncomputable def Zq3_l0_0 {R : Type} (N : Nat) (k0 : Int → Int → Int → Int → (List (Int × Int)) → (List Int) → Option R) : Nat → Int → Int → Int → Int → Int → Int → Int → (List (Int × Int)) → (List Int) → Option R
 | 0, _, _, _, _, _, _, _, _, _ => none
 | K + 1, x3, x4, x5, x6, x7, x8, o3, o4, o5 =>
 (br (ilt x8 x7)
 ((br (ine x4 x8)
 (((Zq4 N (o3, o4) x4 x8).bind fun r2 =>
 (br r2.1.1
 ((chk (ile 0 x4 && ilt x4 8)
 (chk (ile 0 x8 && ilt x8 8)
 (chk (inb o5 ((0 + (x4 * 8)) + (x8 * 1)))
 (Zq3_l0_0 N k0 K x3 x4 x5 x6 x7 (IntKind.i64.wrap (x8 + 1)) o3 o4 (tSet o5 ((0 + (x4 * 8)) + (x8 * 1)) (-1)))))))
 (Zq3_l0_0 N k0 K x3 x4 x5 x6 x7 (IntKind.i64.wrap (x8 + 1)) o3 o4 o5))))
 (Zq3_l0_0 N k0 K x3 x4 x5 x6 x7 (IntKind.i64.wrap (x8 + 1)) o3 o4 o5)))
 (k0 x3 x5 x6 o3 o4 o5))
noncomputable def Zq3_l0_0_again {R : Type} (N : Nat) (ks : KS Zq3_l0_0_ex R) (k : Nat) (x : Zq3_l0_0_sh.T) : Option R :=
 Zq3_l0_0 N (fun y0 y1 y2 y3 y4 y5 => ks 0 (((), y0, (), y1, y2, ()), ((y3, y4, ()), y5, ()))) k x.1.2.1 x.1.2.2.2.1 x.1.2.2.2.2.1 x.1.2.2.2.2.2.1 x.1.2.2.2.2.2.2.1 x.1.2.2.2.2.2.2.2.1 x.2.1.1 x.2.1.2.1 x.2.2.1
noncomputable def Zq3_l0_0_s (N : Nat) : LSum := ⟨Zq3_l0_0_sh, Zq3_l0_0_ex, fun x ks => Zq3_l0_0_again N ks N x⟩
theorem Zq3_l0_0_ok (N : Nat) : LoopOk Try.prog Try.f8.ntmps (Zq3_l0_0_s N) (loopAt (loopAt Zq3_code 0) 0) := loopQ (sh := Zq3_l0_0_sh) (ex := Zq3_l0_0_ex) (N := N) (L := []) (fun R k x ks => Zq3_l0_0_again N ks k x) (Zq3_gok N) (fun _ _ _ => rfl) (fun R k x ks => by kernel_rfl) trivial (by kernel_rfl)
noncomputable def Zq3_l0_sh : Sh := ⟨[(1, .one (.adr 0 0)), (4, .one (.ro I)), (5, .one (.adr 1 0)), (24, .one (.ro I)), (25, .one (.ro I))], [.box [.ro I, .ro LQII], .mat]⟩
noncomputable def Zq3_l0_ex : List (Ex × Sh) := [(.exit 0, ⟨[(4, .one (.ro I)), (5, .one (.adr 0 0))], [.mat]⟩)]
noncomputable def Zq3_l0 {R : Type} (N : Nat) (k0 : Int → (List Int) → Option R) : Nat → Int → Int → Int → Int → (List (Int × Int)) → (List Int) → Option R
 | 0, _, _, _, _, _, _ => none
 | K + 1, x, x1, x2, o, o1, o2 =>
 (br (ilt x2 x1)
 (((Zq5 N (o, o1) x2).bind fun r1 =>
 (chk (ile 0 x2 && ilt x2 8)
 (chk (ile 0 x2 && ilt x2 8)
 (chk (inb o2 ((0 + (x2 * 8)) + (x2 * 1)))
 (Zq3_l0_0 N (fun x3 x4 x5 o3 o4 o5 => Zq3_l0 N k0 K x3 x4 (IntKind.i64.wrap (x5 + 1)) o3 o4 o5) N x x2 x1 x2 x 0 o o1 (tSet o2 ((0 + (x2 * 8)) + (x2 * 1)) (tLen r1.1.1))))))))
 (k0 x o2))
noncomputable def Zq3_l0_again {R : Type} (N : Nat) (ks : KS Zq3_l0_ex R) (k : Nat) (x : Zq3_l0_sh.T) : Option R :=
 Zq3_l0 N (fun y0 y1 => ks 0 ((y0, (), ()), (y1, ()))) k x.1.2.1 x.1.2.2.2.1 x.1.2.2.2.2.1 x.2.1.1 x.2.1.2.1 x.2.2.1
noncomputable def Zq3_l0_s (N : Nat) : LSum := ⟨Zq3_l0_sh, Zq3_l0_ex, fun x ks => Zq3_l0_again N ks N x⟩
theorem Zq3_l0_ok (N : Nat) : LoopOk Try.prog Try.f8.ntmps (Zq3_l0_s N) (loopAt Zq3_code 0) := loopQ (sh := Zq3_l0_sh) (ex := Zq3_l0_ex) (N := N) (L := [Zq3_l0_0_s N]) (fun R k x ks => Zq3_l0_again N ks k x) (Zq3_gok N) (fun _ _ _ => rfl) (fun R k x ks => by kernel_rfl) ⟨Zq3_l0_0_ok N, trivial⟩ (by kernel_rfl)
noncomputable def Zq3_l1_0_0_sh : Sh := ⟨[(4, .one (.ro I)), (5, .one (.adr 0 0)), (8, .one (.ro I)), (9, .one (.ro I)), (10, .one (.ro I)), (11, .one (.ro I)), (55, .one (.ro I)), (56, .one (.ro I))], [.mat]⟩
noncomputable def Zq3_l1_0_0_ex : List (Ex × Sh) := [(.exit 8, ⟨[(4, .one (.ro I)), (5, .one (.adr 0 0)), (8, .one (.ro I)), (9, .one (.ro I)), (10, .one (.ro I)), (55, .one (.ro I)), (56, .one (.ro I))], [.mat]⟩)]
noncomputable def Zq3_l1_0_0 {R : Type} (N : Nat) (k0 : Int → Int → Int → Int → Int → Int → (List Int) → Option R) : Nat → Int → Int → Int → Int → Int → Int → Int → (List Int) → Option R
 | 0, _, _, _, _, _, _, _, _ => none
 | K + 1, x11, x12, x13, x14, x15, x16, x17, o3 =>
 (br (ilt x15 x11)
 ((chk (ile 0 x14 && ilt x14 8)
 (chk (ile 0 x15 && ilt x15 8)
 (chk (inb o3 ((0 + (x14 * 8)) + (x15 * 1)))
 (chk (ile 0 x13 && ilt x13 8)
 (chk (ile 0 x13 && ilt x13 8)
 (chk (inb o3 ((0 + (x13 * 8)) + (x13 * 1)))
 (chk (ile 0 x14 && ilt x14 8)
 (chk (ile 0 x13 && ilt x13 8)
 (chk (inb o3 ((0 + (x14 * 8)) + (x13 * 1)))
 (chk (ile 0 x13 && ilt x13 8)
 (chk (ile 0 x15 && ilt x15 8)
 (chk (inb o3 ((0 + (x13 * 8)) + (x15 * 1)))
 (chk (ine x12 0)
 (chk (ile 0 x14 && ilt x14 8)
 (chk (ile 0 x15 && ilt x15 8)
 (chk (inb o3 ((0 + (x14 * 8)) + (x15 * 1)))
 (Zq3_l1_0_0 N k0 K x11 x12 x13 x14 (IntKind.i64.wrap (x15 + 1)) x16 x17 (tSet o3 ((0 + (x14 * 8)) + (x15 * 1)) (IntKind.i64.wrap ((IntKind.i64.wrap ((IntKind.i64.wrap ((rdI o3 ((0 + (x14 * 8)) + (x15 * 1))) * (rdI o3 ((0 + (x13 * 8)) + (x13 * 1))))) - (IntKind.i64.wrap ((rdI o3 ((0 + (x14 * 8)) + (x13 * 1))) * (rdI o3 ((0 + (x13 * 8)) + (x15 * 1))))))).tdiv x12)))))))))))))))))))))
 (k0 x11 x12 x13 x14 x16 x17 o3))
noncomputable def Zq3_l1_0_0_again {R : Type} (N : Nat) (ks : KS Zq3_l1_0_0_ex R) (k : Nat) (x : Zq3_l1_0_0_sh.T) : Option R :=
 Zq3_l1_0_0 N (fun y0 y1 y2 y3 y4 y5 y6 => ks 0 ((y0, (), y1, y2, y3, y4, y5, ()), (y6, ()))) k x.1.1 x.1.2.2.1 x.1.2.2.2.1 x.1.2.2.2.2.1 x.1.2.2.2.2.2.1 x.1.2.2.2.2.2.2.1 x.1.2.2.2.2.2.2.2.1 x.2.1
noncomputable def Zq3_l1_0_0_s (N : Nat) : LSum := ⟨Zq3_l1_0_0_sh, Zq3_l1_0_0_ex, fun x ks => Zq3_l1_0_0_again N ks N x⟩
theorem Zq3_l1_0_0_ok (N : Nat) : LoopOk Try.prog Try.f8.ntmps (Zq3_l1_0_0_s N) (loopAt (loopAt (loopAt Zq3_code 1) 0) 0) := loopQ (sh := Zq3_l1_0_0_sh) (ex := Zq3_l1_0_0_ex) (N := N) (L := []) (fun R k x ks => Zq3_l1_0_0_again N ks k x) (Zq3_gok N) (fun _ _ _ => rfl) (fun R k x ks => by kernel_rfl) trivial (by kernel_rfl)
noncomputable def Zq3_l1_0_sh : Sh := ⟨[(4, .one (.ro I)), (5, .one (.adr 0 0)), (8, .one (.ro I)), (9, .one (.ro I)), (10, .one (.ro I)), (55, .one (.ro I)), (56, .one (.ro I))], [.mat]⟩
noncomputable def Zq3_l1_0_ex : List (Ex × Sh) := [(.exit 6, ⟨[(4, .one (.ro I)), (5, .one (.adr 0 0)), (9, .one (.ro I)), (55, .one (.ro I)), (56, .one (.ro I))], [.mat]⟩)]
noncomputable def Zq3_l1_0 {R : Type} (N : Nat) (k0 : Int → Int → Int → Int → (List Int) → Option R) : Nat → Int → Int → Int → Int → Int → Int → (List Int) → Option R
 | 0, _, _, _, _, _, _, _ => none
 | K + 1, x5, x6, x7, x8, x9, x10, o2 =>
 (br (ilt x8 x5)
 (Zq3_l1_0_0 N (fun x11 x12 x13 x14 x15 x16 o3 => Zq3_l1_0 N k0 K x11 x12 x13 (IntKind.i64.wrap (x14 + 1)) x15 x16 o3) N x5 x6 x7 x8 (IntKind.i64.wrap (x7 + 1)) x9 x10 o2)
 (k0 x5 x7 x9 x10 o2))
noncomputable def Zq3_l1_0_again {R : Type} (N : Nat) (ks : KS Zq3_l1_0_ex R) (k : Nat) (x : Zq3_l1_0_sh.T) : Option R :=
 Zq3_l1_0 N (fun y0 y1 y2 y3 y4 => ks 0 ((y0, (), y1, y2, y3, ()), (y4, ()))) k x.1.1 x.1.2.2.1 x.1.2.2.2.1 x.1.2.2.2.2.1 x.1.2.2.2.2.2.1 x.1.2.2.2.2.2.2.1 x.2.1
noncomputable def Zq3_l1_0_s (N : Nat) : LSum := ⟨Zq3_l1_0_sh, Zq3_l1_0_ex, fun x ks => Zq3_l1_0_again N ks N x⟩
theorem Zq3_l1_0_ok (N : Nat) : LoopOk Try.prog Try.f8.ntmps (Zq3_l1_0_s N) (loopAt (loopAt Zq3_code 1) 0) := loopQ (sh := Zq3_l1_0_sh) (ex := Zq3_l1_0_ex) (N := N) (L := [Zq3_l1_0_0_s N]) (fun R k x ks => Zq3_l1_0_again N ks k x) (Zq3_gok N) (fun _ _ _ => rfl) (fun R k x ks => by kernel_rfl) ⟨Zq3_l1_0_0_ok N, trivial⟩ (by kernel_rfl)
noncomputable def Zq3_l1_sh : Sh := ⟨[(4, .one (.ro I)), (5, .one (.adr 0 0)), (8, .one (.ro I)), (55, .one (.ro I)), (56, .one (.ro I))], [.mat]⟩
noncomputable def Zq3_l1_ex : List (Ex × Sh) := [(.ret, ⟨[(2, .one (.ro I)), (3, .one (.ro .bool))], []⟩), (.exit 4, ⟨[(8, .one (.ro I))], []⟩)]
noncomputable def Zq3_l1 {R : Type} (N : Nat) (k0 : Int → Bool → Option R) (k1 : Int → Option R) : Nat → Int → Int → Int → Int → (List Int) → Option R
 | 0, _, _, _, _, _ => none
 | K + 1, x1, x2, x3, x4, o1 =>
 (br (ilt x4 x3)
 ((chk (ile 0 x4 && ilt x4 8)
 (chk (ile 0 x4 && ilt x4 8)
 (chk (inb o1 ((0 + (x4 * 8)) + (x4 * 1)))
 (br (ieq (rdI o1 ((0 + (x4 * 8)) + (x4 * 1))) 0)
 (k0 0 true)
 (Zq3_l1_0 N (fun x5 x6 x7 x8 o2 => (chk (ile 0 x6 && ilt x6 8)
 (chk (ile 0 x6 && ilt x6 8)
 (chk (inb o2 ((0 + (x6 * 8)) + (x6 * 1)))
 (Zq3_l1 N k0 k1 K x5 (rdI o2 ((0 + (x6 * 8)) + (x6 * 1))) x7 (IntKind.i64.wrap (x8 + 1)) o2))))) N x1 x2 x4 (IntKind.i64.wrap (x4 + 1)) x3 x4 o1))))))
 (k1 x2))
noncomputable def Zq3_l1_again {R : Type} (N : Nat) (ks : KS Zq3_l1_ex R) (k : Nat) (x : Zq3_l1_sh.T) : Option R :=
 Zq3_l1 N (fun y0 y1 => ks 0 ((y0, y1, ()), ())) (fun y0 => ks 1 ((y0, ()), ())) k x.1.1 x.1.2.2.1 x.1.2.2.2.1 x.1.2.2.2.2.1 x.2.1
noncomputable def Zq3_l1_s (N : Nat) : LSum := ⟨Zq3_l1_sh, Zq3_l1_ex, fun x ks => Zq3_l1_again N ks N x⟩
theorem Zq3_l1_ok (N : Nat) : LoopOk Try.prog Try.f8.ntmps (Zq3_l1_s N) (loopAt Zq3_code 1) := loopQ (sh := Zq3_l1_sh) (ex := Zq3_l1_ex) (N := N) (L := [Zq3_l1_0_s N]) (fun R k x ks => Zq3_l1_again N ks k x) (Zq3_gok N) (fun _ _ _ => rfl) (fun R k x ks => by kernel_rfl) ⟨Zq3_l1_0_ok N, trivial⟩ (by kernel_rfl)
noncomputable def Zq3 (N : Nat) (c : (Int × (List (Int × Int)))) : Option ((Int × Bool × Unit) × (Unit)) :=
 ((Zq6 N (c.1, c.2)).bind fun r =>
 (br (!r.1.1)
 (some ((0, false, ()), ()))
 ((br (ieq c.1 0)
 (some ((0, false, ()), ()))
 ((chk (ieq (tLen (tRep 64 (0 : Int))) 64)
 (Zq3_l0 N (fun x o => Zq3_l1 N (fun x1 x2 => some ((x1, x2, ()), ())) (fun x3 => some ((x3, true, ()), ())) N x 1 x 0 o) N (IntKind.i64.wrap (c.1 - 1)) (IntKind.i64.wrap (c.1 - 1)) 0 c.1 c.2 [0, 0, 0, 0, 0, 0, 0, 0, 0, 0, 0, 0, 0, 0, 0, 0, 0, 0, 0, 0, 0, 0, 0, 0, 0, 0, 0, 0, 0, 0, 0, 0, 0, 0, 0, 0, 0, 0, 0, 0, 0, 0, 0, 0, 0, 0, 0, 0, 0, 0, 0, 0, 0, 0, 0, 0, 0, 0, 0, 0, 0, 0, 0, 0])))))))
noncomputable def Zq3_S (N : Nat) : FSum := ⟨Zq3_ps, Zq3_rs, fun x => Zq3 N x.1⟩
theorem Zq3_pc (N : Nat) : PC Try.prog 8 (Zq3_S N) := pcQ (L := [Zq3_l0_s N, Zq3_l1_s N]) (Zq3_gok N) Try.call8 Try.func8 (fun x => by kernel_rfl) ⟨Zq3_l0_ok N, Zq3_l1_ok N, trivial⟩ (by kernel_rfl)

abbrev Zq13_ps : List (PV.Mode × Ty) := [(.ro, QII), (.ro, QII)]
abbrev Zq13_rs : List (Bool × Ty) := [(true, .bool)]
noncomputable def Zq13_G (N : Nat) : GTab := gOf []
theorem Zq13_gok (N : Nat) : GOk Try.prog (Zq13_G N) := gOf_ok trivial
noncomputable def Zq13_code : Code := (Try.f42.body).getD .skip
noncomputable def Zq13_l0_sh : Sh := ⟨[(2, .one (.adr 0 0)), (3, .one (.adr 1 0)), (5, .one (.num .i64 0))], [.box [.ro I, .ro I], .box [.ro I, .ro I]]⟩
noncomputable def Zq13_l0_ex : List (Ex × Sh) := [(.ret, ⟨[(4, .one (.ro .bool))], []⟩), (.exit 0, ⟨[], []⟩)]
noncomputable def Zq13_l0 {R : Type} (N : Nat) (k0 : Bool → Option R) (k1 : Unit → Option R) (_ : Nat) (o4 : Int) (o5 : Int) (o6 : Int) (o7 : Int) : Option R :=
 (br (ine o4 o6)
 (k0 false)
 ((br (ine o5 o7)
 (k0 false)
 (k1 ()))))
noncomputable def Zq13_l0_again {R : Type} (N : Nat) (ks : KS Zq13_l0_ex R) (x : Zq13_l0_sh.T) : Option R :=
 Zq13_l0 N (fun y0 => ks 0 ((y0, ()), ())) (fun (_ : Unit) => ks 1 ((), ())) N x.2.1.1 x.2.1.2.1 x.2.2.1.1 x.2.2.1.2.1
noncomputable def Zq13_l0_s (N : Nat) : LSum := ⟨Zq13_l0_sh, Zq13_l0_ex, fun x ks => Zq13_l0_again N ks x⟩
theorem Zq13_l0_unr (N : Nat) (R : Type) (x : Zq13_l0_sh.T) (ks : KS Zq13_l0_ex R) : Zq13_l0_again N ks x = unrF (Zq13_G N) tab (loopAt Zq13_code 0) Zq13_l0_ex ks 3 (fill Zq13_l0_sh x) := by kernel_rfl
theorem Zq13_l0_ok (N : Nat) : LoopOk Try.prog Try.f42.ntmps (Zq13_l0_s N) (loopAt Zq13_code 0) :=
  unroll_ok (l := Zq13_l0_s N) progOk (Zq13_gok N) (draw_ok progOk (Zq13_gok N)) (fun R x ks r h => ⟨3, (Zq13_l0_unr N R x ks).symm.trans h⟩) (by kernel_rfl) (by kernel_rfl)
noncomputable def Zq13 (N : Nat) (a : (Int × Int)) (b : (Int × Int)) : Option ((Bool × Unit) × (Unit)) :=
 Zq13_l0 N (fun x => some ((x, ()), ())) (fun (_ : Unit) => some ((true, ()), ())) N a.1 a.2 b.1 b.2
noncomputable def Zq13_S (N : Nat) : FSum := ⟨Zq13_ps, Zq13_rs, fun x => Zq13 N x.1 x.2.1⟩
theorem Zq13_pc (N : Nat) : PC Try.prog 42 (Zq13_S N) := pcQ (L := [Zq13_l0_s N]) (Zq13_gok N) Try.call42 Try.func42 (fun x => by kernel_rfl) ⟨Zq13_l0_ok N, trivial⟩ (by kernel_rfl)

abbrev Zq14_ps : List (PV.Mode × Ty) := [(.ro, LQII), (.ro, LQII)]
abbrev Zq14_rs : List (Bool × Ty) := [(true, .bool)]
noncomputable def Zq14_G (N : Nat) : GTab := gOf [(42, Zq13_S N)]
theorem Zq14_gok (N : Nat) : GOk Try.prog (Zq14_G N) := gOf_ok ⟨Zq13_pc N, trivial⟩
noncomputable def Zq14_code : Code := (Try.f24.body).getD .skip
noncomputable def Zq14_l0_sh : Sh := ⟨[(0, .one (.ro LQII)), (1, .one (.ro LQII)), (5, .one (.ro I))], []⟩
noncomputable def Zq14_l0_ex : List (Ex × Sh) := [(.ret, ⟨[(4, .one (.ro .bool))], []⟩), (.exit 0, ⟨[], []⟩)]
noncomputable def Zq14_l0 {R : Type} (N : Nat) (k0 : Bool → Option R) (k1 : Unit → Option R) : Nat → (List (Int × Int)) → (List (Int × Int)) → Int → Option R
 | 0, _, _, _ => none
 | K + 1, a1, b1, i =>
 (br (ilt i (tLen a1))
 ((chk (inb a1 i)
 (chk (inb b1 i)
 ((Zq13 N (rdP a1 i) (rdP b1 i)).bind fun r =>
 (br (!r.1.1)
 (k0 false)
 (Zq14_l0 N k0 k1 K a1 b1 (IntKind.i64.wrap (i + 1))))))))
 (k1 ()))
noncomputable def Zq14_l0_again {R : Type} (N : Nat) (ks : KS Zq14_l0_ex R) (k : Nat) (x : Zq14_l0_sh.T) : Option R :=
 Zq14_l0 N (fun y0 => ks 0 ((y0, ()), ())) (fun (_ : Unit) => ks 1 ((), ())) k x.1.1 x.1.2.1 x.1.2.2.1
noncomputable def Zq14_l0_s (N : Nat) : LSum := ⟨Zq14_l0_sh, Zq14_l0_ex, fun x ks => Zq14_l0_again N ks N x⟩
theorem Zq14_l0_ok (N : Nat) : LoopOk Try.prog Try.f24.ntmps (Zq14_l0_s N) (loopAt Zq14_code 0) := loopQ (sh := Zq14_l0_sh) (ex := Zq14_l0_ex) (N := N) (L := []) (fun R k x ks => Zq14_l0_again N ks k x) (Zq14_gok N) (fun _ _ _ => rfl) (fun R k x ks => by kernel_rfl) trivial (by kernel_rfl)
noncomputable def Zq14 (N : Nat) (a : (List (Int × Int))) (b : (List (Int × Int))) : Option ((Bool × Unit) × (Unit)) :=
 (br (ine (tLen a) (tLen b))
 (some ((false, ()), ()))
 (Zq14_l0 N (fun x => some ((x, ()), ())) (fun (_ : Unit) => some ((true, ()), ())) N a b 0))
noncomputable def Zq14_S (N : Nat) : FSum := ⟨Zq14_ps, Zq14_rs, fun x => Zq14 N x.1 x.2.1⟩
theorem Zq14_pc (N : Nat) : PC Try.prog 24 (Zq14_S N) := pcQ (L := [Zq14_l0_s N]) (Zq14_gok N) Try.call24 Try.func24 (fun x => by kernel_rfl) ⟨Zq14_l0_ok N, trivial⟩ (by kernel_rfl)

abbrev Zq12_ps : List (PV.Mode × Ty) := [(.ro, QILQII), (.ro, QILQII)]
abbrev Zq12_rs : List (Bool × Ty) := [(true, .bool)]
noncomputable def Zq12_G (N : Nat) : GTab := gOf [(24, Zq14_S N)]
theorem Zq12_gok (N : Nat) : GOk Try.prog (Zq12_G N) := gOf_ok ⟨Zq14_pc N, trivial⟩
noncomputable def Zq12_code : Code := (Try.f9.body).getD .skip
noncomputable def Zq12 (N : Nat) (a : (Int × (List (Int × Int)))) (b : (Int × (List (Int × Int)))) : Option ((Bool × Unit) × (Unit)) :=
 (br (ine a.1 b.1)
 (some ((false, ()), ()))
 (((Zq14 N a.2 b.2).bind fun r =>
 (br (!r.1.1)
 (some ((false, ()), ()))
 (some ((true, ()), ()))))))
noncomputable def Zq12_S (N : Nat) : FSum := ⟨Zq12_ps, Zq12_rs, fun x => Zq12 N x.1 x.2.1⟩
theorem Zq12_pc (N : Nat) : PC Try.prog 9 (Zq12_S N) := pcQ (L := []) (Zq12_gok N) Try.call9 Try.func9 (fun x => by kernel_rfl) trivial (by kernel_rfl)

abbrev Zq11_ps : List (PV.Mode × Ty) := [(.ro, QILQII)]
abbrev Zq11_rs : List (Bool × Ty) := [(true, .bool)]
noncomputable def Zq11_G (N : Nat) : GTab := gOf [(5, Zq15_S N), (7, Zq17_S N), (6, Zq22_S N), (8, Zq3_S N), (9, Zq12_S N)]
theorem Zq11_gok (N : Nat) : GOk Try.prog (Zq11_G N) := gOf_ok ⟨Zq15_pc N, Zq17_pc N, Zq22_pc N, Zq3_pc N, Zq12_pc N, trivial⟩
noncomputable def Zq11_code : Code := (Try.f3.body).getD .skip
noncomputable def Zq11 (N : Nat) (aG : (Int × (List (Int × Int)))) : Option ((Bool × Unit) × (Unit)) :=
 ((Zq15 N (aG.1, aG.2) 1048576).bind fun r =>
 (br (ilt r.1.1 0)
 (some ((true, ()), ()))
 (((Zq17 N (aG.1, aG.2)).bind fun r1 =>
 ((Zq22 N (r1.1.1.1, r1.1.1.2)).bind fun r2 =>
 ((Zq17 N (aG.1, aG.2)).bind fun r3 =>
 ((Zq3 N (r3.1.1.1, r3.1.1.2)).bind fun r4 =>
 (br (ine r4.1.1 r2.1.1)
 (some ((false, ()), ()))
 ((br (!(r4.1.2.1 == r2.1.2.1))
 (some ((false, ()), ()))
 (((Zq17 N (aG.1, aG.2)).bind fun r5 =>
 ((Zq12 N (r3.1.1.1, r3.1.1.2) (r5.1.1.1, r5.1.1.2)).bind fun r6 =>
 (br (!r6.1.1)
 (some ((false, ()), ()))
 (some ((true, ()), ()))))))))))))))))
noncomputable def Zq11_S (N : Nat) : FSum := ⟨Zq11_ps, Zq11_rs, fun x => Zq11 N x.1⟩
theorem Zq11_pc (N : Nat) : PC Try.prog 3 (Zq11_S N) := pcQ (L := []) (Zq11_gok N) Try.call3 Try.func3 (fun x => by kernel_rfl) trivial (by kernel_rfl)
end Go.Proofs.Ytfilchmabmfmaaa
