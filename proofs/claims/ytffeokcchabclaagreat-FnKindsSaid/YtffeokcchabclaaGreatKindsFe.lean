/- Functions of the program as functions on data. -/
import Derived.Test.YtffeokcchabclaaGreatKindsFd
set_option linter.all false
namespace Go.Proofs.YtffeokcchabclaaGreat
open Go Go.PV
abbrev Zq40_ps : List (PV.Mode × Ty) := [(.ro, LI), (.ro, I)]
abbrev Zq40_rs : List (Bool × Ty) := [(true, .bool)]
noncomputable def Zq40_G (N : Nat) : GTab := gOf []
theorem Zq40_gok (N : Nat) : GOk Tryz.prog (Zq40_G N) := gOf_ok trivial
noncomputable def Zq40_code : Code := (Tryz.f29.body).getD .skip
noncomputable def Zq40_l0_sh : Sh := ⟨[(0, .one (.ro LI)), (1, .one (.ro I)), (5, .one (.ro I))], []⟩
noncomputable def Zq40_l0_ex : List (Ex × Sh) := [(.ret, ⟨[(4, .one (.ro .bool))], []⟩), (.exit 0, ⟨[], []⟩)]
noncomputable def Zq40_l0 {R : Type} (N : Nat) (k0 : Bool → Option R) (k1 : Unit → Option R) : Nat → (List Int) → Int → Int → Option R
 | 0, _, _, _ => none
 | K + 1, list1, x1, i =>
 (br (ilt i (tLen list1))
 ((chk (inb list1 i)
 (br (ieq (rdI list1 i) x1)
 (k0 true)
 (Zq40_l0 N k0 k1 K list1 x1 (IntKind.i64.wrap (i + 1))))))
 (k1 ()))
noncomputable def Zq40_l0_again {R : Type} (N : Nat) (ks : KS Zq40_l0_ex R) (k : Nat) (x : Zq40_l0_sh.T) : Option R :=
 Zq40_l0 N (fun y0 => ks 0 ((y0, ()), ())) (fun (_ : Unit) => ks 1 ((), ())) k x.1.1 x.1.2.1 x.1.2.2.1
noncomputable def Zq40_l0_s (N : Nat) : LSum := ⟨Zq40_l0_sh, Zq40_l0_ex, fun x ks => Zq40_l0_again N ks N x⟩
theorem Zq40_l0_ok (N : Nat) : LoopOk Tryz.prog Tryz.f29.ntmps (Zq40_l0_s N) (loopAt Zq40_code 0) := loopQ (sh := Zq40_l0_sh) (ex := Zq40_l0_ex) (N := N) (L := []) (fun R k x ks => Zq40_l0_again N ks k x) (Zq40_gok N) (fun _ _ _ => rfl) (fun R k x ks => by kernel_rfl) trivial (by kernel_rfl)
noncomputable def Zq40 (N : Nat) (list : (List Int)) (x : Int) : Option ((Bool × Unit) × (Unit)) :=
 Zq40_l0 N (fun x1 => some ((x1, ()), ())) (fun (_ : Unit) => some ((false, ()), ())) N list x 0
noncomputable def Zq40_S (N : Nat) : FSum := ⟨Zq40_ps, Zq40_rs, fun x => Zq40 N x.1 x.2.1⟩
theorem Zq40_pc (N : Nat) : PC Tryz.prog 29 (Zq40_S N) := pcQ (L := [Zq40_l0_s N]) (Zq40_gok N) Tryz.call29 Tryz.func29 (fun x => by kernel_rfl) ⟨Zq40_l0_ok N, trivial⟩ (by kernel_rfl)

abbrev Zq37_ps : List (PV.Mode × Ty) := [(.ro, LU8)]
abbrev Zq37_rs : List (Bool × Ty) := [(true, .bool)]
noncomputable def Zq37_G (N : Nat) : GTab := gOf [(6, Zq38_S N), (7, Zq57_S N), (8, Zq21_S N), (9, Zq61_S N), (10, Zq19_S N), (11, Zq60_S N), (12, Zq22_S N), (13, Zq62_S N), (14, Zq42_S N), (15, Zq18_S N), (16, Zq59_S N), (17, Zq58_S N), (18, Zq24_S N), (19, Zq64_S N), (20, Zq44_S N), (21, Zq3_S N), (22, Zq54_S N), (23, Zq41_S N), (24, Zq23_S N), (25, Zq63_S N), (26, Zq4_S N), (27, Zq55_S N), (28, Zq39_S N), (29, Zq40_S N)]
theorem Zq37_gok (N : Nat) : GOk Tryz.prog (Zq37_G N) := gOf_ok ⟨Zq38_pc N, Zq57_pc N, Zq21_pc N, Zq61_pc N, Zq19_pc N, Zq60_pc N, Zq22_pc N, Zq62_pc N, Zq42_pc N, Zq18_pc N, Zq59_pc N, Zq58_pc N, Zq24_pc N, Zq64_pc N, Zq44_pc N, Zq3_pc N, Zq54_pc N, Zq41_pc N, Zq23_pc N, Zq63_pc N, Zq4_pc N, Zq55_pc N, Zq39_pc N, Zq40_pc N, trivial⟩
noncomputable def Zq37_code : Code := (Tryz.f3.body).getD .skip
noncomputable def Zq37_l0_sh : Sh := ⟨[(3, .one (.adr 0 0)), (4, .one (.ro I)), (5, .one (.ro LI)), (6, .one (.ro .bool)), (14, .one (.ref 1)), (46, .one (.ro I))], [.box [.ro I, .ro LQII], .sl 3 I .own]⟩
noncomputable def Zq37_l0_ex : List (Ex × Sh) := [(.ret, ⟨[(2, .one (.ro .bool))], []⟩), (.exit 0, ⟨[], []⟩)]
noncomputable def Zq37_l0 {R : Type} (N : Nat) (k0 : Bool → Option R) (k1 : Unit → Option R) : Nat → Int → (List Int) → Bool → Int → Int → (List (Int × Int)) → (List Int) → Option R
 | 0, _, _, _, _, _, _, _ => none
 | K + 1, x, x1, x2, x3, o, o1, o2 =>
 (br (ilt x3 o)
 (((Zq40 N x1 x3).bind fun r30 =>
 (br x2
 ((br (r30.1.1 == (ine x 2))
 (((Zq40 N o2 x3).bind fun r31 =>
 (br r31.1.1
 (k0 false)
 ((br (!(r30.1.1 == (ine x 2)))
 (((Zq40 N o2 x3).bind fun r32 =>
 (br (!r32.1.1)
 (k0 false)
 (Zq37_l0 N k0 k1 K x x1 x2 (IntKind.i64.wrap (x3 + 1)) o o1 o2))))
 (Zq37_l0 N k0 k1 K x x1 x2 (IntKind.i64.wrap (x3 + 1)) o o1 o2))))))
 ((br (!(r30.1.1 == (ine x 2)))
 (((Zq40 N o2 x3).bind fun r33 =>
 (br (!r33.1.1)
 (k0 false)
 (Zq37_l0 N k0 k1 K x x1 x2 (IntKind.i64.wrap (x3 + 1)) o o1 o2))))
 (Zq37_l0 N k0 k1 K x x1 x2 (IntKind.i64.wrap (x3 + 1)) o o1 o2)))))
 ((br (!(r30.1.1 == (ine x 2)))
 (((Zq40 N o2 x3).bind fun r34 =>
 (br (!r34.1.1)
 (k0 false)
 (Zq37_l0 N k0 k1 K x x1 x2 (IntKind.i64.wrap (x3 + 1)) o o1 o2))))
 (Zq37_l0 N k0 k1 K x x1 x2 (IntKind.i64.wrap (x3 + 1)) o o1 o2))))))
 (k1 ()))
noncomputable def Zq37_l0_again {R : Type} (N : Nat) (ks : KS Zq37_l0_ex R) (k : Nat) (x : Zq37_l0_sh.T) : Option R :=
 Zq37_l0 N (fun y0 => ks 0 ((y0, ()), ())) (fun (_ : Unit) => ks 1 ((), ())) k x.1.2.1 x.1.2.2.1 x.1.2.2.2.1 x.1.2.2.2.2.2.1 x.2.1.1 x.2.1.2.1 x.2.2.1
noncomputable def Zq37_l0_s (N : Nat) : LSum := ⟨Zq37_l0_sh, Zq37_l0_ex, fun x ks => Zq37_l0_again N ks N x⟩
theorem Zq37_l0_ok (N : Nat) : LoopOk Tryz.prog Tryz.f3.ntmps (Zq37_l0_s N) (loopAt Zq37_code 0) := loopQ (sh := Zq37_l0_sh) (ex := Zq37_l0_ex) (N := N) (L := []) (fun R k x ks => Zq37_l0_again N ks k x) (Zq37_gok N) (fun _ _ _ => rfl) (fun R k x ks => by kernel_rfl) trivial (by kernel_rfl)
noncomputable def Zq37 (N : Nat) (c : (List Int)) : Option ((Bool × Unit) × (Unit)) :=
 ((Zq38 N c).bind fun r =>
 (br r.1.1
 (some ((true, ()), ()))
 (((Zq57 N c).bind fun r1 =>
 ((Zq21 N (r1.1.1.1, r1.1.1.2) r1.1.2.1 r1.1.2.2.1).bind fun r2 =>
 ((Zq61 N (r1.1.1.1, r1.1.1.2) r1.1.2.1 r1.1.2.2.1).bind fun r3 =>
 (br (!(r2.1.1 == r3.1.1))
 (some ((false, ()), ()))
 ((br (!(r2.1.2.1 == r3.1.2.1))
 (some ((false, ()), ()))
 (((Zq19 N (r1.1.1.1, r1.1.1.2) r1.1.2.1 r1.1.2.2.1).bind fun r4 =>
 ((Zq60 N (r1.1.1.1, r1.1.1.2) r1.1.2.1 r1.1.2.2.1).bind fun r5 =>
 (br (!(r4.1.1 == r5.1.1))
 (some ((false, ()), ()))
 ((br (!(r4.1.2.1 == r5.1.2.1))
 (some ((false, ()), ()))
 ((br r4.1.2.1
 ((br (!(r2.1.2.1 == r4.1.1))
 (some ((false, ()), ()))
 (((Zq22 N (r1.1.1.1, r1.1.1.2) r1.1.2.1 r1.1.2.2.1).bind fun r6 =>
 ((Zq62 N (r1.1.1.1, r1.1.1.2) r1.1.2.1 r1.1.2.2.1).bind fun r7 =>
 (br (!(r6.1.2.1 == r7.1.2.1))
 (some ((false, ()), ()))
 ((br (!(r6.1.2.1 == r2.1.2.1))
 (some ((false, ()), ()))
 (((Zq42 N r6.1.1 r7.1.1).bind fun r8 =>
 (br (!r8.1.1)
 (some ((false, ()), ()))
 (((Zq18 N (r1.1.1.1, r1.1.1.2) r1.1.2.1 r1.1.2.2.1).bind fun r9 =>
 ((Zq59 N (r1.1.1.1, r1.1.1.2) r1.1.2.1 r1.1.2.2.1).bind fun r10 =>
 (br (!(r9.1.2.1 == r10.1.2.1))
 (some ((false, ()), ()))
 ((br (!(r9.1.2.1 == r2.1.2.1))
 (some ((false, ()), ()))
 (((Zq42 N r9.1.1 r10.1.1).bind fun r11 =>
 (br (!r11.1.1)
 (some ((false, ()), ()))
 (((Zq58 N c).bind fun r12 =>
 ((Zq24 N (r12.1.1.1, r12.1.1.2) r12.1.2.1).bind fun r13 =>
 ((Zq64 N (r12.1.1.1, r12.1.1.2) r12.1.2.1).bind fun r14 =>
 (br (!(r13.1.2.1 == r14.1.2.1))
 (some ((false, ()), ()))
 (((Zq44 N r13.1.1 r14.1.1).bind fun r15 =>
 (br (!r15.1.1)
 (some ((false, ()), ()))
 (((Zq3 N (r12.1.1.1, r12.1.1.2) r12.1.2.1).bind fun r16 =>
 ((Zq54 N (r12.1.1.1, r12.1.1.2) r12.1.2.1).bind fun r17 =>
 (br (!(r16.1.2.1 == r17.1.2.1))
 (some ((false, ()), ()))
 ((br (!(r16.1.2.1 == r13.1.2.1))
 (some ((false, ()), ()))
 (((Zq42 N r16.1.1 r17.1.1).bind fun r18 =>
 (br (!r18.1.1)
 (some ((false, ()), ()))
 ((br r16.1.2.1
 (((Zq41 N r13.1.1 r16.1.1).bind fun r19 =>
 (br (ilt r19.1.1 0)
 (some ((false, ()), ()))
 (((Zq23 N (r1.1.1.1, r1.1.1.2) r1.1.2.2.1).bind fun r20 =>
 ((Zq63 N (r1.1.1.1, r1.1.1.2) r1.1.2.2.1).bind fun r21 =>
 (br (!(r20.1.2.1 == r21.1.2.1))
 (some ((false, ()), ()))
 (((Zq42 N r20.1.1 r21.1.1).bind fun r22 =>
 (br (!r22.1.1)
 (some ((false, ()), ()))
 (((Zq4 N (r1.1.1.1, r1.1.1.2)).bind fun r23 =>
 ((Zq55 N (r1.1.1.1, r1.1.1.2)).bind fun r24 =>
 (br (!(r23.1.2.1 == r24.1.2.1))
 (some ((false, ()), ()))
 (((Zq39 N (r23.1.1.1, r23.1.1.2) (r24.1.1.1, r24.1.1.2)).bind fun r25 =>
 (br (!r25.1.1)
 (some ((false, ()), ()))
 ((br r20.1.2.1
 ((br r23.1.2.1
 (((Zq19 N (r1.1.1.1, r1.1.1.2) 2 r1.1.2.2.1).bind fun r26 =>
 ((Zq19 N (r23.1.1.1, r23.1.1.2) 1 r20.1.1).bind fun r27 =>
 (br (!r26.1.2.1)
 (some ((false, ()), ()))
 ((br (!r27.1.2.1)
 (some ((false, ()), ()))
 ((br (!(r26.1.1 == r27.1.1))
 (some ((false, ()), ()))
 ((br (!r2.1.2.1)
 (some ((true, ()), ()))
 (((Zq21 N (r1.1.1.1, r1.1.1.2) r1.1.2.1 r9.1.1).bind fun r28 =>
 (br (!r28.1.2.1)
 (some ((false, ()), ()))
 ((br (!r28.1.1)
 (some ((false, ()), ()))
 ((br r2.1.1
 (((Zq42 N r9.1.1 r1.1.2.2.1).bind fun r29 =>
 (br (!r29.1.1)
 (some ((false, ()), ()))
 (Zq37_l0 N (fun x => some ((x, ()), ())) (fun (_ : Unit) => some ((true, ()), ())) N r1.1.2.1 r1.1.2.2.1 r2.1.1 0 r1.1.1.1 r1.1.1.2 r6.1.1))))
 (Zq37_l0 N (fun x1 => some ((x1, ()), ())) (fun (_ : Unit) => some ((true, ()), ())) N r1.1.2.1 r1.1.2.2.1 r2.1.1 0 r1.1.1.1 r1.1.1.2 r6.1.1))))))))))))))))))
 ((br (!r2.1.2.1)
 (some ((true, ()), ()))
 (((Zq21 N (r1.1.1.1, r1.1.1.2) r1.1.2.1 r9.1.1).bind fun r30 =>
 (br (!r30.1.2.1)
 (some ((false, ()), ()))
 ((br (!r30.1.1)
 (some ((false, ()), ()))
 ((br r2.1.1
 (((Zq42 N r9.1.1 r1.1.2.2.1).bind fun r31 =>
 (br (!r31.1.1)
 (some ((false, ()), ()))
 (Zq37_l0 N (fun x2 => some ((x2, ()), ())) (fun (_ : Unit) => some ((true, ()), ())) N r1.1.2.1 r1.1.2.2.1 r2.1.1 0 r1.1.1.1 r1.1.1.2 r6.1.1))))
 (Zq37_l0 N (fun x3 => some ((x3, ()), ())) (fun (_ : Unit) => some ((true, ()), ())) N r1.1.2.1 r1.1.2.2.1 r2.1.1 0 r1.1.1.1 r1.1.1.2 r6.1.1))))))))))))
 ((br (!r2.1.2.1)
 (some ((true, ()), ()))
 (((Zq21 N (r1.1.1.1, r1.1.1.2) r1.1.2.1 r9.1.1).bind fun r32 =>
 (br (!r32.1.2.1)
 (some ((false, ()), ()))
 ((br (!r32.1.1)
 (some ((false, ()), ()))
 ((br r2.1.1
 (((Zq42 N r9.1.1 r1.1.2.2.1).bind fun r33 =>
 (br (!r33.1.1)
 (some ((false, ()), ()))
 (Zq37_l0 N (fun x4 => some ((x4, ()), ())) (fun (_ : Unit) => some ((true, ()), ())) N r1.1.2.1 r1.1.2.2.1 r2.1.1 0 r1.1.1.1 r1.1.1.2 r6.1.1))))
 (Zq37_l0 N (fun x5 => some ((x5, ()), ())) (fun (_ : Unit) => some ((true, ()), ())) N r1.1.2.1 r1.1.2.2.1 r2.1.1 0 r1.1.1.1 r1.1.1.2 r6.1.1)))))))))))))))))))))))))))))
 (((Zq23 N (r1.1.1.1, r1.1.1.2) r1.1.2.2.1).bind fun r34 =>
 ((Zq63 N (r1.1.1.1, r1.1.1.2) r1.1.2.2.1).bind fun r35 =>
 (br (!(r34.1.2.1 == r35.1.2.1))
 (some ((false, ()), ()))
 (((Zq42 N r34.1.1 r35.1.1).bind fun r36 =>
 (br (!r36.1.1)
 (some ((false, ()), ()))
 (((Zq4 N (r1.1.1.1, r1.1.1.2)).bind fun r37 =>
 ((Zq55 N (r1.1.1.1, r1.1.1.2)).bind fun r38 =>
 (br (!(r37.1.2.1 == r38.1.2.1))
 (some ((false, ()), ()))
 (((Zq39 N (r37.1.1.1, r37.1.1.2) (r38.1.1.1, r38.1.1.2)).bind fun r39 =>
 (br (!r39.1.1)
 (some ((false, ()), ()))
 ((br r34.1.2.1
 ((br r37.1.2.1
 (((Zq19 N (r1.1.1.1, r1.1.1.2) 2 r1.1.2.2.1).bind fun r40 =>
 ((Zq19 N (r37.1.1.1, r37.1.1.2) 1 r34.1.1).bind fun r41 =>
 (br (!r40.1.2.1)
 (some ((false, ()), ()))
 ((br (!r41.1.2.1)
 (some ((false, ()), ()))
 ((br (!(r40.1.1 == r41.1.1))
 (some ((false, ()), ()))
 ((br (!r2.1.2.1)
 (some ((true, ()), ()))
 (((Zq21 N (r1.1.1.1, r1.1.1.2) r1.1.2.1 r9.1.1).bind fun r42 =>
 (br (!r42.1.2.1)
 (some ((false, ()), ()))
 ((br (!r42.1.1)
 (some ((false, ()), ()))
 ((br r2.1.1
 (((Zq42 N r9.1.1 r1.1.2.2.1).bind fun r43 =>
 (br (!r43.1.1)
 (some ((false, ()), ()))
 (Zq37_l0 N (fun x6 => some ((x6, ()), ())) (fun (_ : Unit) => some ((true, ()), ())) N r1.1.2.1 r1.1.2.2.1 r2.1.1 0 r1.1.1.1 r1.1.1.2 r6.1.1))))
 (Zq37_l0 N (fun x7 => some ((x7, ()), ())) (fun (_ : Unit) => some ((true, ()), ())) N r1.1.2.1 r1.1.2.2.1 r2.1.1 0 r1.1.1.1 r1.1.1.2 r6.1.1))))))))))))))))))
 ((br (!r2.1.2.1)
 (some ((true, ()), ()))
 (((Zq21 N (r1.1.1.1, r1.1.1.2) r1.1.2.1 r9.1.1).bind fun r44 =>
 (br (!r44.1.2.1)
 (some ((false, ()), ()))
 ((br (!r44.1.1)
 (some ((false, ()), ()))
 ((br r2.1.1
 (((Zq42 N r9.1.1 r1.1.2.2.1).bind fun r45 =>
 (br (!r45.1.1)
 (some ((false, ()), ()))
 (Zq37_l0 N (fun x8 => some ((x8, ()), ())) (fun (_ : Unit) => some ((true, ()), ())) N r1.1.2.1 r1.1.2.2.1 r2.1.1 0 r1.1.1.1 r1.1.1.2 r6.1.1))))
 (Zq37_l0 N (fun x9 => some ((x9, ()), ())) (fun (_ : Unit) => some ((true, ()), ())) N r1.1.2.1 r1.1.2.2.1 r2.1.1 0 r1.1.1.1 r1.1.1.2 r6.1.1))))))))))))
 ((br (!r2.1.2.1)
 (some ((true, ()), ()))
 (((Zq21 N (r1.1.1.1, r1.1.1.2) r1.1.2.1 r9.1.1).bind fun r46 =>
 (br (!r46.1.2.1)
 (some ((false, ()), ()))
 ((br (!r46.1.1)
 (some ((false, ()), ()))
 ((br r2.1.1
 (((Zq42 N r9.1.1 r1.1.2.2.1).bind fun r47 =>
 (br (!r47.1.1)
 (some ((false, ()), ()))
 (Zq37_l0 N (fun x10 => some ((x10, ()), ())) (fun (_ : Unit) => some ((true, ()), ())) N r1.1.2.1 r1.1.2.2.1 r2.1.1 0 r1.1.1.1 r1.1.1.2 r6.1.1))))
 (Zq37_l0 N (fun x11 => some ((x11, ()), ())) (fun (_ : Unit) => some ((true, ()), ())) N r1.1.2.1 r1.1.2.2.1 r2.1.1 0 r1.1.1.1 r1.1.1.2 r6.1.1)))))))))))))))))))))))))))))))))))))))))))))))))))))))))))))))))
 ((br (!(r2.1.2.1 == false))
 (some ((false, ()), ()))
 (((Zq22 N (r1.1.1.1, r1.1.1.2) r1.1.2.1 r1.1.2.2.1).bind fun r48 =>
 ((Zq62 N (r1.1.1.1, r1.1.1.2) r1.1.2.1 r1.1.2.2.1).bind fun r49 =>
 (br (!(r48.1.2.1 == r49.1.2.1))
 (some ((false, ()), ()))
 ((br (!(r48.1.2.1 == r2.1.2.1))
 (some ((false, ()), ()))
 (((Zq42 N r48.1.1 r49.1.1).bind fun r50 =>
 (br (!r50.1.1)
 (some ((false, ()), ()))
 (((Zq18 N (r1.1.1.1, r1.1.1.2) r1.1.2.1 r1.1.2.2.1).bind fun r51 =>
 ((Zq59 N (r1.1.1.1, r1.1.1.2) r1.1.2.1 r1.1.2.2.1).bind fun r52 =>
 (br (!(r51.1.2.1 == r52.1.2.1))
 (some ((false, ()), ()))
 ((br (!(r51.1.2.1 == r2.1.2.1))
 (some ((false, ()), ()))
 (((Zq42 N r51.1.1 r52.1.1).bind fun r53 =>
 (br (!r53.1.1)
 (some ((false, ()), ()))
 (((Zq58 N c).bind fun r54 =>
 ((Zq24 N (r54.1.1.1, r54.1.1.2) r54.1.2.1).bind fun r55 =>
 ((Zq64 N (r54.1.1.1, r54.1.1.2) r54.1.2.1).bind fun r56 =>
 (br (!(r55.1.2.1 == r56.1.2.1))
 (some ((false, ()), ()))
 (((Zq44 N r55.1.1 r56.1.1).bind fun r57 =>
 (br (!r57.1.1)
 (some ((false, ()), ()))
 (((Zq3 N (r54.1.1.1, r54.1.1.2) r54.1.2.1).bind fun r58 =>
 ((Zq54 N (r54.1.1.1, r54.1.1.2) r54.1.2.1).bind fun r59 =>
 (br (!(r58.1.2.1 == r59.1.2.1))
 (some ((false, ()), ()))
 ((br (!(r58.1.2.1 == r55.1.2.1))
 (some ((false, ()), ()))
 (((Zq42 N r58.1.1 r59.1.1).bind fun r60 =>
 (br (!r60.1.1)
 (some ((false, ()), ()))
 ((br r58.1.2.1
 (((Zq41 N r55.1.1 r58.1.1).bind fun r61 =>
 (br (ilt r61.1.1 0)
 (some ((false, ()), ()))
 (((Zq23 N (r1.1.1.1, r1.1.1.2) r1.1.2.2.1).bind fun r62 =>
 ((Zq63 N (r1.1.1.1, r1.1.1.2) r1.1.2.2.1).bind fun r63 =>
 (br (!(r62.1.2.1 == r63.1.2.1))
 (some ((false, ()), ()))
 (((Zq42 N r62.1.1 r63.1.1).bind fun r64 =>
 (br (!r64.1.1)
 (some ((false, ()), ()))
 (((Zq4 N (r1.1.1.1, r1.1.1.2)).bind fun r65 =>
 ((Zq55 N (r1.1.1.1, r1.1.1.2)).bind fun r66 =>
 (br (!(r65.1.2.1 == r66.1.2.1))
 (some ((false, ()), ()))
 (((Zq39 N (r65.1.1.1, r65.1.1.2) (r66.1.1.1, r66.1.1.2)).bind fun r67 =>
 (br (!r67.1.1)
 (some ((false, ()), ()))
 ((br r62.1.2.1
 ((br r65.1.2.1
 (((Zq19 N (r1.1.1.1, r1.1.1.2) 2 r1.1.2.2.1).bind fun r68 =>
 ((Zq19 N (r65.1.1.1, r65.1.1.2) 1 r62.1.1).bind fun r69 =>
 (br (!r68.1.2.1)
 (some ((false, ()), ()))
 ((br (!r69.1.2.1)
 (some ((false, ()), ()))
 ((br (!(r68.1.1 == r69.1.1))
 (some ((false, ()), ()))
 ((br (!r2.1.2.1)
 (some ((true, ()), ()))
 (((Zq21 N (r1.1.1.1, r1.1.1.2) r1.1.2.1 r51.1.1).bind fun r70 =>
 (br (!r70.1.2.1)
 (some ((false, ()), ()))
 ((br (!r70.1.1)
 (some ((false, ()), ()))
 ((br r2.1.1
 (((Zq42 N r51.1.1 r1.1.2.2.1).bind fun r71 =>
 (br (!r71.1.1)
 (some ((false, ()), ()))
 (Zq37_l0 N (fun x12 => some ((x12, ()), ())) (fun (_ : Unit) => some ((true, ()), ())) N r1.1.2.1 r1.1.2.2.1 r2.1.1 0 r1.1.1.1 r1.1.1.2 r48.1.1))))
 (Zq37_l0 N (fun x13 => some ((x13, ()), ())) (fun (_ : Unit) => some ((true, ()), ())) N r1.1.2.1 r1.1.2.2.1 r2.1.1 0 r1.1.1.1 r1.1.1.2 r48.1.1))))))))))))))))))
 ((br (!r2.1.2.1)
 (some ((true, ()), ()))
 (((Zq21 N (r1.1.1.1, r1.1.1.2) r1.1.2.1 r51.1.1).bind fun r72 =>
 (br (!r72.1.2.1)
 (some ((false, ()), ()))
 ((br (!r72.1.1)
 (some ((false, ()), ()))
 ((br r2.1.1
 (((Zq42 N r51.1.1 r1.1.2.2.1).bind fun r73 =>
 (br (!r73.1.1)
 (some ((false, ()), ()))
 (Zq37_l0 N (fun x14 => some ((x14, ()), ())) (fun (_ : Unit) => some ((true, ()), ())) N r1.1.2.1 r1.1.2.2.1 r2.1.1 0 r1.1.1.1 r1.1.1.2 r48.1.1))))
 (Zq37_l0 N (fun x15 => some ((x15, ()), ())) (fun (_ : Unit) => some ((true, ()), ())) N r1.1.2.1 r1.1.2.2.1 r2.1.1 0 r1.1.1.1 r1.1.1.2 r48.1.1))))))))))))
 ((br (!r2.1.2.1)
 (some ((true, ()), ()))
 (((Zq21 N (r1.1.1.1, r1.1.1.2) r1.1.2.1 r51.1.1).bind fun r74 =>
 (br (!r74.1.2.1)
 (some ((false, ()), ()))
 ((br (!r74.1.1)
 (some ((false, ()), ()))
 ((br r2.1.1
 (((Zq42 N r51.1.1 r1.1.2.2.1).bind fun r75 =>
 (br (!r75.1.1)
 (some ((false, ()), ()))
 (Zq37_l0 N (fun x16 => some ((x16, ()), ())) (fun (_ : Unit) => some ((true, ()), ())) N r1.1.2.1 r1.1.2.2.1 r2.1.1 0 r1.1.1.1 r1.1.1.2 r48.1.1))))
 (Zq37_l0 N (fun x17 => some ((x17, ()), ())) (fun (_ : Unit) => some ((true, ()), ())) N r1.1.2.1 r1.1.2.2.1 r2.1.1 0 r1.1.1.1 r1.1.1.2 r48.1.1)))))))))))))))))))))))))))))
 (((Zq23 N (r1.1.1.1, r1.1.1.2) r1.1.2.2.1).bind fun r76 =>
 ((Zq63 N (r1.1.1.1, r1.1.1.2) r1.1.2.2.1).bind fun r77 =>
 (br (!(r76.1.2.1 == r77.1.2.1))
 (some ((false, ()), ()))
 (((Zq42 N r76.1.1 r77.1.1).bind fun r78 =>
 (br (!r78.1.1)
 (some ((false, ()), ()))
 (((Zq4 N (r1.1.1.1, r1.1.1.2)).bind fun r79 =>
 ((Zq55 N (r1.1.1.1, r1.1.1.2)).bind fun r80 =>
 (br (!(r79.1.2.1 == r80.1.2.1))
 (some ((false, ()), ()))
 (((Zq39 N (r79.1.1.1, r79.1.1.2) (r80.1.1.1, r80.1.1.2)).bind fun r81 =>
 (br (!r81.1.1)
 (some ((false, ()), ()))
 ((br r76.1.2.1
 ((br r79.1.2.1
 (((Zq19 N (r1.1.1.1, r1.1.1.2) 2 r1.1.2.2.1).bind fun r82 =>
 ((Zq19 N (r79.1.1.1, r79.1.1.2) 1 r76.1.1).bind fun r83 =>
 (br (!r82.1.2.1)
 (some ((false, ()), ()))
 ((br (!r83.1.2.1)
 (some ((false, ()), ()))
 ((br (!(r82.1.1 == r83.1.1))
 (some ((false, ()), ()))
 ((br (!r2.1.2.1)
 (some ((true, ()), ()))
 (((Zq21 N (r1.1.1.1, r1.1.1.2) r1.1.2.1 r51.1.1).bind fun r84 =>
 (br (!r84.1.2.1)
 (some ((false, ()), ()))
 ((br (!r84.1.1)
 (some ((false, ()), ()))
 ((br r2.1.1
 (((Zq42 N r51.1.1 r1.1.2.2.1).bind fun r85 =>
 (br (!r85.1.1)
 (some ((false, ()), ()))
 (Zq37_l0 N (fun x18 => some ((x18, ()), ())) (fun (_ : Unit) => some ((true, ()), ())) N r1.1.2.1 r1.1.2.2.1 r2.1.1 0 r1.1.1.1 r1.1.1.2 r48.1.1))))
 (Zq37_l0 N (fun x19 => some ((x19, ()), ())) (fun (_ : Unit) => some ((true, ()), ())) N r1.1.2.1 r1.1.2.2.1 r2.1.1 0 r1.1.1.1 r1.1.1.2 r48.1.1))))))))))))))))))
 ((br (!r2.1.2.1)
 (some ((true, ()), ()))
 (((Zq21 N (r1.1.1.1, r1.1.1.2) r1.1.2.1 r51.1.1).bind fun r86 =>
 (br (!r86.1.2.1)
 (some ((false, ()), ()))
 ((br (!r86.1.1)
 (some ((false, ()), ()))
 ((br r2.1.1
 (((Zq42 N r51.1.1 r1.1.2.2.1).bind fun r87 =>
 (br (!r87.1.1)
 (some ((false, ()), ()))
 (Zq37_l0 N (fun x20 => some ((x20, ()), ())) (fun (_ : Unit) => some ((true, ()), ())) N r1.1.2.1 r1.1.2.2.1 r2.1.1 0 r1.1.1.1 r1.1.1.2 r48.1.1))))
 (Zq37_l0 N (fun x21 => some ((x21, ()), ())) (fun (_ : Unit) => some ((true, ()), ())) N r1.1.2.1 r1.1.2.2.1 r2.1.1 0 r1.1.1.1 r1.1.1.2 r48.1.1))))))))))))
 ((br (!r2.1.2.1)
 (some ((true, ()), ()))
 (((Zq21 N (r1.1.1.1, r1.1.1.2) r1.1.2.1 r51.1.1).bind fun r88 =>
 (br (!r88.1.2.1)
 (some ((false, ()), ()))
 ((br (!r88.1.1)
 (some ((false, ()), ()))
 ((br r2.1.1
 (((Zq42 N r51.1.1 r1.1.2.2.1).bind fun r89 =>
 (br (!r89.1.1)
 (some ((false, ()), ()))
 (Zq37_l0 N (fun x22 => some ((x22, ()), ())) (fun (_ : Unit) => some ((true, ()), ())) N r1.1.2.1 r1.1.2.2.1 r2.1.1 0 r1.1.1.1 r1.1.1.2 r48.1.1))))
 (Zq37_l0 N (fun x23 => some ((x23, ()), ())) (fun (_ : Unit) => some ((true, ()), ())) N r1.1.2.1 r1.1.2.2.1 r2.1.1 0 r1.1.1.1 r1.1.1.2 r48.1.1))))))))))))))))))))))))))))))))))))))))))))))))))))))))))))))))))))))))))))))))))
noncomputable def Zq37_S (N : Nat) : FSum := ⟨Zq37_ps, Zq37_rs, fun x => Zq37 N x.1⟩
theorem Zq37_pc (N : Nat) : PC Tryz.prog 3 (Zq37_S N) := pcQ (L := [Zq37_l0_s N]) (Zq37_gok N) Tryz.call3 Tryz.func3 (fun x => by kernel_rfl) ⟨Zq37_l0_ok N, trivial⟩ (by kernel_rfl)
end Go.Proofs.YtffeokcchabclaaGreat
