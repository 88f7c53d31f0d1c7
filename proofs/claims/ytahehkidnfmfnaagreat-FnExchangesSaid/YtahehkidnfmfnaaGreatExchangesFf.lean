/- Functions of the program as functions on data. -/
import Derived.Test.YtahehkidnfmfnaaGreatExchangesFe
set_option linter.all false
namespace Go.Proofs.YtahehkidnfmfnaaGreat
open Go Go.PV
abbrev Zq84_ps : List (PV.Mode × Ty) := [(.ro, QILQII), (.ro, I), (.ro, I)]
abbrev Zq84_rs : List (Bool × Ty) := [(false, QLLILQII), (true, .bool)]
noncomputable def Zq84_G (N : Nat) : GTab := gOf [(38, Zq121_S N), (54, Zq127_S N)]
theorem Zq84_gok (N : Nat) : GOk Tryz.prog (Zq84_G N) := gOf_ok ⟨Zq121_pc N, Zq127_pc N, trivial⟩
noncomputable def Zq84_code : Code := (Tryz.f18.body).getD .skip
noncomputable def Zq84 (N : Nat) (g : (Int × (List (Int × Int)))) (kind : Int) (kv : Int) : Option ((((List (List Int)) × (List (Int × Int))) × Bool × Unit) × (Unit)) :=
 ((Zq121 N (g.1, g.2) kind kv).bind fun r =>
 (br (!r.1.1)
 (some ((([], []), false, ()), ()))
 (((Zq127 N (g.1, g.2) kind kv).bind fun r1 =>
 some (((r1.1.1.1, r1.1.1.2), true, ()), ())))))
noncomputable def Zq84_S (N : Nat) : FSum := ⟨Zq84_ps, Zq84_rs, fun x => Zq84 N x.1 x.2.1 x.2.2.1⟩
theorem Zq84_pc (N : Nat) : PC Tryz.prog 18 (Zq84_S N) := pcQ (L := []) (Zq84_gok N) Tryz.call18 Tryz.func18 (fun x => by kernel_rfl) trivial (by kernel_rfl)

abbrev Zq23_ps : List (PV.Mode × Ty) := [(.ro, QLLILQII), (.ro, LI)]
abbrev Zq23_rs : List (Bool × Ty) := [(true, I), (true, .bool)]
noncomputable def Zq23_G (N : Nat) : GTab := gOf [(41, Zq20_S N), (47, Zq26_S N)]
theorem Zq23_gok (N : Nat) : GOk Tryz.prog (Zq23_G N) := gOf_ok ⟨Zq20_pc N, Zq26_pc N, trivial⟩
noncomputable def Zq23_code : Code := (Tryz.f21.body).getD .skip
noncomputable def Zq23 (N : Nat) (x : ((List (List Int)) × (List (Int × Int)))) (state : (List Int)) : Option ((Int × Bool × Unit) × (Unit)) :=
 ((Zq20 N (x.1, x.2)).bind fun r =>
 (br (!r.1.1)
 (some ((0, false, ()), ()))
 (((Zq26 N (x.1, x.2) state).bind fun r1 =>
 (br (!r1.1.2.1)
 (some ((0, false, ()), ()))
 (some ((r1.1.1, true, ()), ())))))))
noncomputable def Zq23_S (N : Nat) : FSum := ⟨Zq23_ps, Zq23_rs, fun x => Zq23 N x.1 x.2.1⟩
theorem Zq23_pc (N : Nat) : PC Tryz.prog 21 (Zq23_S N) := pcQ (L := []) (Zq23_gok N) Tryz.call21 Tryz.func21 (fun x => by kernel_rfl) trivial (by kernel_rfl)

abbrev Zq25_ps : List (PV.Mode × Ty) := [(.ro, QLLILQII), (.ro, I)]
abbrev Zq25_rs : List (Bool × Ty) := [(true, .bool)]
noncomputable def Zq25_G (N : Nat) : GTab := gOf [(78, Zq34_S N)]
theorem Zq25_gok (N : Nat) : GOk Tryz.prog (Zq25_G N) := gOf_ok ⟨Zq34_pc N, trivial⟩
noncomputable def Zq25_code : Code := (Tryz.f58.body).getD .skip
noncomputable def Zq25 (N : Nat) (x : ((List (List Int)) × (List (Int × Int)))) (i : Int) : Option ((Bool × Unit) × (Unit)) :=
 ((Zq34 N i 0 (IntKind.i64.wrap ((tLen x.1) - 1))).bind fun r =>
 some ((r.1.1, ()), ()))
noncomputable def Zq25_S (N : Nat) : FSum := ⟨Zq25_ps, Zq25_rs, fun x => Zq25 N x.1 x.2.1⟩
theorem Zq25_pc (N : Nat) : PC Tryz.prog 58 (Zq25_S N) := pcQ (L := []) (Zq25_gok N) Tryz.call58 Tryz.func58 (fun x => by kernel_rfl) trivial (by kernel_rfl)

abbrev Zq5_ps : List (PV.Mode × Ty) := [(.ro, QLLILQII), (.ro, I), (.ro, I)]
abbrev Zq5_rs : List (Bool × Ty) := [(true, LI), (true, .bool)]
noncomputable def Zq5_G (N : Nat) : GTab := gOf [(41, Zq20_S N), (58, Zq25_S N), (59, Zq24_S N)]
theorem Zq5_gok (N : Nat) : GOk Tryz.prog (Zq5_G N) := gOf_ok ⟨Zq20_pc N, Zq25_pc N, Zq24_pc N, trivial⟩
noncomputable def Zq5_code : Code := (Tryz.f22.body).getD .skip
noncomputable def Zq5 (N : Nat) (x : ((List (List Int)) × (List (Int × Int)))) (i : Int) (j : Int) : Option (((List Int) × Bool × Unit) × (Unit)) :=
 ((Zq20 N (x.1, x.2)).bind fun r =>
 (br (!r.1.1)
 (some (([], false, ()), ()))
 (((Zq25 N (x.1, x.2) i).bind fun r1 =>
 (br (!r1.1.1)
 (some (([], false, ()), ()))
 (((Zq25 N (x.1, x.2) j).bind fun r2 =>
 (br (!r2.1.1)
 (some (([], false, ()), ()))
 (((Zq24 N (x.1, x.2) i j).bind fun r3 =>
 some ((r3.1.1, r3.1.2.1, ()), ())))))))))))
noncomputable def Zq5_S (N : Nat) : FSum := ⟨Zq5_ps, Zq5_rs, fun x => Zq5 N x.1 x.2.1 x.2.2.1⟩
theorem Zq5_pc (N : Nat) : PC Tryz.prog 22 (Zq5_S N) := pcQ (L := []) (Zq5_gok N) Tryz.call22 Tryz.func22 (fun x => by kernel_rfl) trivial (by kernel_rfl)

abbrev Zq51_ps : List (PV.Mode × Ty) := [(.ro, LU8)]
abbrev Zq51_rs : List (Bool × Ty) := [(true, .bool)]
noncomputable def Zq51_G (N : Nat) : GTab := gOf [(4, Zq52_S N), (5, Zq78_S N), (6, Zq4_S N), (7, Zq81_S N), (8, Zq56_S N), (9, Zq77_S N), (10, Zq3_S N), (11, Zq80_S N), (12, Zq55_S N), (13, Zq22_S N), (14, Zq83_S N), (15, Zq21_S N), (16, Zq79_S N), (17, Zq29_S N), (18, Zq84_S N), (19, Zq18_S N), (20, Zq53_S N), (21, Zq23_S N), (22, Zq5_S N)]
theorem Zq51_gok (N : Nat) : GOk Tryz.prog (Zq51_G N) := gOf_ok ⟨Zq52_pc N, Zq78_pc N, Zq4_pc N, Zq81_pc N, Zq56_pc N, Zq77_pc N, Zq3_pc N, Zq80_pc N, Zq55_pc N, Zq22_pc N, Zq83_pc N, Zq21_pc N, Zq79_pc N, Zq29_pc N, Zq84_pc N, Zq18_pc N, Zq53_pc N, Zq23_pc N, Zq5_pc N, trivial⟩
noncomputable def Zq51_code : Code := (Tryz.f3.body).getD .skip
noncomputable def Zq51 (N : Nat) (c : (List Int)) : Option ((Bool × Unit) × (Unit)) :=
 ((Zq52 N c).bind fun r =>
 (br r.1.1
 (some ((true, ()), ()))
 (((Zq78 N c).bind fun r1 =>
 ((Zq4 N (r1.1.1.1, r1.1.1.2) r1.1.2.1 r1.1.2.2.1 r1.1.2.2.2.1).bind fun r2 =>
 ((Zq81 N (r1.1.1.1, r1.1.1.2) r1.1.2.1 r1.1.2.2.1 r1.1.2.2.2.1).bind fun r3 =>
 (br (!(r2.1.2.1 == r3.1.2.1))
 (some ((false, ()), ()))
 (((Zq56 N r2.1.1 r3.1.1).bind fun r4 =>
 (br (!r4.1.1)
 (some ((false, ()), ()))
 (((Zq77 N c).bind fun r5 =>
 ((Zq3 N (r5.1.1.1, r5.1.1.2) r5.1.2.1 r5.1.2.2.1).bind fun r6 =>
 ((Zq80 N (r5.1.1.1, r5.1.1.2) r5.1.2.1 r5.1.2.2.1).bind fun r7 =>
 (br (!(r6.1.2.1 == r7.1.2.1))
 (some ((false, ()), ()))
 (((Zq55 N (r6.1.1.1, r6.1.1.2) (r7.1.1.1, r7.1.1.2)).bind fun r8 =>
 (br (!r8.1.1)
 (some ((false, ()), ()))
 (((Zq22 N (r5.1.1.1, r5.1.1.2) r5.1.2.1 r5.1.2.2.1).bind fun r9 =>
 ((Zq83 N (r5.1.1.1, r5.1.1.2) r5.1.2.1 r5.1.2.2.1).bind fun r10 =>
 (br (!(r9.1.2.1 == r10.1.2.1))
 (some ((false, ()), ()))
 ((br (!(r9.1.2.1 == r6.1.2.1))
 (some ((false, ()), ()))
 (((Zq55 N (r9.1.1.1, r9.1.1.2) (r10.1.1.1, r10.1.1.2)).bind fun r11 =>
 (br (!r11.1.1)
 (some ((false, ()), ()))
 ((br r6.1.2.1
 (((Zq21 N (r6.1.1.1, r6.1.1.2) (r9.1.1.1, r9.1.1.2)).bind fun r12 =>
 (br (!r12.1.2.1)
 (some ((false, ()), ()))
 (((Zq55 N (r12.1.1.1, r12.1.1.2) (r6.1.1.1, r6.1.1.2)).bind fun r13 =>
 (br (!r13.1.1)
 (some ((false, ()), ()))
 (((Zq56 N r6.1.1.1 r9.1.1.1).bind fun r14 =>
 (br (!r14.1.1)
 (some ((false, ()), ()))
 (((Zq79 N c).bind fun r15 =>
 ((Zq29 N (r15.1.1.1, r15.1.1.2) r15.1.2.1 r15.1.2.2.1).bind fun r16 =>
 ((Zq84 N (r15.1.1.1, r15.1.1.2) r15.1.2.1 r15.1.2.2.1).bind fun r17 =>
 (br (!(r16.1.2.1 == r17.1.2.1))
 (some ((false, ()), ()))
 (((Zq55 N (r16.1.1.1, r16.1.1.2) (r17.1.1.1, r17.1.1.2)).bind fun r18 =>
 (br (!r18.1.1)
 (some ((false, ()), ()))
 (((Zq18 N (r1.1.1.1, r1.1.1.2) r1.1.2.1 r1.1.2.2.1).bind fun r19 =>
 ((Zq18 N (r1.1.1.1, r1.1.1.2) r1.1.2.1 r1.1.2.2.2.1).bind fun r20 =>
 (br (!r19.1.2.1)
 (some (((!r2.1.2.1), ()), ()))
 ((br (!r20.1.2.1)
 (some (((!r2.1.2.1), ()), ()))
 ((br (!r19.1.1)
 (some (((!r2.1.2.1), ()), ()))
 ((br (!r20.1.1)
 (some (((!r2.1.2.1), ()), ()))
 ((br (ine (tLen r1.1.2.2.1) (tLen r1.1.2.2.2.1))
 (some (((!r2.1.2.1), ()), ()))
 ((br (ieq r1.1.2.1 2)
 ((br (ilt (IntKind.i64.wrap ((tLen r1.1.2.2.1) - 1)) 0)
 (((Zq53 N r1.1.2.2.1 r1.1.2.2.2.1).bind fun r21 =>
 some (((r2.1.2.1 == r21.1.1), ()), ())))
 ((br (ilt r1.1.1.1 (IntKind.i64.wrap ((tLen r1.1.2.2.1) - 1)))
 (((Zq53 N r1.1.2.2.1 r1.1.2.2.2.1).bind fun r22 =>
 some (((r2.1.2.1 == r22.1.1), ()), ())))
 (((Zq29 N (r1.1.1.1, r1.1.1.2) r1.1.2.1 (IntKind.i64.wrap ((tLen r1.1.2.2.1) - 1))).bind fun r23 =>
 ((Zq84 N (r1.1.1.1, r1.1.1.2) r1.1.2.1 (IntKind.i64.wrap ((tLen r1.1.2.2.1) - 1))).bind fun r24 =>
 (br (!r23.1.2.1)
 (some ((false, ()), ()))
 ((br (!r24.1.2.1)
 (some ((false, ()), ()))
 (((Zq55 N (r23.1.1.1, r23.1.1.2) (r24.1.1.1, r24.1.1.2)).bind fun r25 =>
 (br (!r25.1.1)
 (some ((false, ()), ()))
 (((Zq23 N (r23.1.1.1, r23.1.1.2) r1.1.2.2.1).bind fun r26 =>
 ((Zq23 N (r23.1.1.1, r23.1.1.2) r1.1.2.2.2.1).bind fun r27 =>
 ((Zq5 N (r23.1.1.1, r23.1.1.2) r26.1.1 r27.1.1).bind fun r28 =>
 (br r26.1.2.1
 ((br r27.1.2.1
 (some (((r28.1.2.1 == r2.1.2.1), ()), ()))
 (some ((false, ()), ()))))
 (some ((false, ()), ()))))))))))))))))))))
 ((br (ilt (IntKind.i64.wrap ((tLen r1.1.2.2.1) + 1)) 0)
 (((Zq53 N r1.1.2.2.1 r1.1.2.2.2.1).bind fun r29 =>
 some (((r2.1.2.1 == r29.1.1), ()), ())))
 ((br (ilt r1.1.1.1 (IntKind.i64.wrap ((tLen r1.1.2.2.1) + 1)))
 (((Zq53 N r1.1.2.2.1 r1.1.2.2.2.1).bind fun r30 =>
 some (((r2.1.2.1 == r30.1.1), ()), ())))
 (((Zq29 N (r1.1.1.1, r1.1.1.2) r1.1.2.1 (IntKind.i64.wrap ((tLen r1.1.2.2.1) + 1))).bind fun r31 =>
 ((Zq84 N (r1.1.1.1, r1.1.1.2) r1.1.2.1 (IntKind.i64.wrap ((tLen r1.1.2.2.1) + 1))).bind fun r32 =>
 (br (!r31.1.2.1)
 (some ((false, ()), ()))
 ((br (!r32.1.2.1)
 (some ((false, ()), ()))
 (((Zq55 N (r31.1.1.1, r31.1.1.2) (r32.1.1.1, r32.1.1.2)).bind fun r33 =>
 (br (!r33.1.1)
 (some ((false, ()), ()))
 (((Zq23 N (r31.1.1.1, r31.1.1.2) r1.1.2.2.1).bind fun r34 =>
 ((Zq23 N (r31.1.1.1, r31.1.1.2) r1.1.2.2.2.1).bind fun r35 =>
 ((Zq5 N (r31.1.1.1, r31.1.1.2) r34.1.1 r35.1.1).bind fun r36 =>
 (br r34.1.2.1
 ((br r35.1.2.1
 (some (((r36.1.2.1 == r2.1.2.1), ()), ()))
 (some ((false, ()), ()))))
 (some ((false, ()), ())))))))))))))))))))))))))))))))))))))))))))))))))))
 (((Zq79 N c).bind fun r37 =>
 ((Zq29 N (r37.1.1.1, r37.1.1.2) r37.1.2.1 r37.1.2.2.1).bind fun r38 =>
 ((Zq84 N (r37.1.1.1, r37.1.1.2) r37.1.2.1 r37.1.2.2.1).bind fun r39 =>
 (br (!(r38.1.2.1 == r39.1.2.1))
 (some ((false, ()), ()))
 (((Zq55 N (r38.1.1.1, r38.1.1.2) (r39.1.1.1, r39.1.1.2)).bind fun r40 =>
 (br (!r40.1.1)
 (some ((false, ()), ()))
 (((Zq18 N (r1.1.1.1, r1.1.1.2) r1.1.2.1 r1.1.2.2.1).bind fun r41 =>
 ((Zq18 N (r1.1.1.1, r1.1.1.2) r1.1.2.1 r1.1.2.2.2.1).bind fun r42 =>
 (br (!r41.1.2.1)
 (some (((!r2.1.2.1), ()), ()))
 ((br (!r42.1.2.1)
 (some (((!r2.1.2.1), ()), ()))
 ((br (!r41.1.1)
 (some (((!r2.1.2.1), ()), ()))
 ((br (!r42.1.1)
 (some (((!r2.1.2.1), ()), ()))
 ((br (ine (tLen r1.1.2.2.1) (tLen r1.1.2.2.2.1))
 (some (((!r2.1.2.1), ()), ()))
 ((br (ieq r1.1.2.1 2)
 ((br (ilt (IntKind.i64.wrap ((tLen r1.1.2.2.1) - 1)) 0)
 (((Zq53 N r1.1.2.2.1 r1.1.2.2.2.1).bind fun r43 =>
 some (((r2.1.2.1 == r43.1.1), ()), ())))
 ((br (ilt r1.1.1.1 (IntKind.i64.wrap ((tLen r1.1.2.2.1) - 1)))
 (((Zq53 N r1.1.2.2.1 r1.1.2.2.2.1).bind fun r44 =>
 some (((r2.1.2.1 == r44.1.1), ()), ())))
 (((Zq29 N (r1.1.1.1, r1.1.1.2) r1.1.2.1 (IntKind.i64.wrap ((tLen r1.1.2.2.1) - 1))).bind fun r45 =>
 ((Zq84 N (r1.1.1.1, r1.1.1.2) r1.1.2.1 (IntKind.i64.wrap ((tLen r1.1.2.2.1) - 1))).bind fun r46 =>
 (br (!r45.1.2.1)
 (some ((false, ()), ()))
 ((br (!r46.1.2.1)
 (some ((false, ()), ()))
 (((Zq55 N (r45.1.1.1, r45.1.1.2) (r46.1.1.1, r46.1.1.2)).bind fun r47 =>
 (br (!r47.1.1)
 (some ((false, ()), ()))
 (((Zq23 N (r45.1.1.1, r45.1.1.2) r1.1.2.2.1).bind fun r48 =>
 ((Zq23 N (r45.1.1.1, r45.1.1.2) r1.1.2.2.2.1).bind fun r49 =>
 ((Zq5 N (r45.1.1.1, r45.1.1.2) r48.1.1 r49.1.1).bind fun r50 =>
 (br r48.1.2.1
 ((br r49.1.2.1
 (some (((r50.1.2.1 == r2.1.2.1), ()), ()))
 (some ((false, ()), ()))))
 (some ((false, ()), ()))))))))))))))))))))
 ((br (ilt (IntKind.i64.wrap ((tLen r1.1.2.2.1) + 1)) 0)
 (((Zq53 N r1.1.2.2.1 r1.1.2.2.2.1).bind fun r51 =>
 some (((r2.1.2.1 == r51.1.1), ()), ())))
 ((br (ilt r1.1.1.1 (IntKind.i64.wrap ((tLen r1.1.2.2.1) + 1)))
 (((Zq53 N r1.1.2.2.1 r1.1.2.2.2.1).bind fun r52 =>
 some (((r2.1.2.1 == r52.1.1), ()), ())))
 (((Zq29 N (r1.1.1.1, r1.1.1.2) r1.1.2.1 (IntKind.i64.wrap ((tLen r1.1.2.2.1) + 1))).bind fun r53 =>
 ((Zq84 N (r1.1.1.1, r1.1.1.2) r1.1.2.1 (IntKind.i64.wrap ((tLen r1.1.2.2.1) + 1))).bind fun r54 =>
 (br (!r53.1.2.1)
 (some ((false, ()), ()))
 ((br (!r54.1.2.1)
 (some ((false, ()), ()))
 (((Zq55 N (r53.1.1.1, r53.1.1.2) (r54.1.1.1, r54.1.1.2)).bind fun r55 =>
 (br (!r55.1.1)
 (some ((false, ()), ()))
 (((Zq23 N (r53.1.1.1, r53.1.1.2) r1.1.2.2.1).bind fun r56 =>
 ((Zq23 N (r53.1.1.1, r53.1.1.2) r1.1.2.2.2.1).bind fun r57 =>
 ((Zq5 N (r53.1.1.1, r53.1.1.2) r56.1.1 r57.1.1).bind fun r58 =>
 (br r56.1.2.1
 ((br r57.1.2.1
 (some (((r58.1.2.1 == r2.1.2.1), ()), ()))
 (some ((false, ()), ()))))
 (some ((false, ()), ())))))))))))))))))))))))))))))))))))))))))))))))))))))))))))))))))))))))
noncomputable def Zq51_S (N : Nat) : FSum := ⟨Zq51_ps, Zq51_rs, fun x => Zq51 N x.1⟩
theorem Zq51_pc (N : Nat) : PC Tryz.prog 3 (Zq51_S N) := pcQ (L := []) (Zq51_gok N) Tryz.call3 Tryz.func3 (fun x => by kernel_rfl) trivial (by kernel_rfl)
end Go.Proofs.YtahehkidnfmfnaaGreat
