/- Functions of the program as functions on data. -/
import Derived.Test.YtffeokcchabclaaGreatThresholdsFc
set_option linter.all false
namespace Go.Proofs.YtffeokcchabclaaGreat
open Go Go.PV
abbrev Zq25_ps : List (PV.Mode × Ty) := [(.ro, QLLILQII), (.ro, I), (.ro, I)]
abbrev Zq25_rs : List (Bool × Ty) := [(true, LI), (true, .bool)]
noncomputable def Zq25_G (N : Nat) : GTab := gOf [(120, Zq28_S N), (160, Zq54_S N)]
theorem Zq25_gok (N : Nat) : GOk Tryz.prog (Zq25_G N) := gOf_ok ⟨Zq28_pc N, Zq54_pc N, trivial⟩
noncomputable def Zq25_code : Code := (Tryz.f114.body).getD .skip
noncomputable def Zq25_l0_0_sh : Sh := ⟨[(1, .one (.ro I)), (2, .one (.ro I)), (8, .one (.ref 0)), (9, .one (.ref 1)), (10, .one (.ref 2)), (31, .one (.el 0)), (32, .one (.ro I)), (33, .one (.ro I))], [.sl 27 LI .deep, .sl 3 I .own, .sl 3 I .own]⟩
noncomputable def Zq25_l0_0_ex : List (Ex × Sh) := [(.exit 2, ⟨[(1, .one (.ro I)), (2, .one (.ro I)), (8, .one (.ref 0)), (9, .one (.ref 1)), (10, .one (.ref 2))], [.sl 27 LI .deep, .sl 3 I .own, .sl 3 I .own]⟩)]
noncomputable def Zq25_l0_0 {R : Type} (N : Nat) (k0 : Int → Int → (List (List Int)) → (List Int) → (List Int) → Option R) : Nat → Int → Int → Int → Int → Int → (List (List Int)) → (List Int) → (List Int) → Option R
 | 0, _, _, _, _, _, _, _, _ => none
 | K + 1, i2, j2, x1, x2, x3, o3, o4, o5 =>
 (br (ilt x3 x2)
 ((chk (inb (rdL o3 x1) x3)
 (chk (inb o4 (rdI (rdL o3 x1) x3))
 (chk (inb o4 i2)
 (br (ieq (rdI o4 (rdI (rdL o3 x1) x3)) (IntKind.i64.wrap ((rdI o4 i2) - 1)))
 (k0 (rdI (rdL o3 x1) x3) j2 o3 o4 o5)
 (Zq25_l0_0 N k0 K i2 j2 x1 x2 (IntKind.i64.wrap (x3 + 1)) o3 o4 o5))))))
 (k0 i2 j2 o3 o4 o5))
noncomputable def Zq25_l0_0_again {R : Type} (N : Nat) (ks : KS Zq25_l0_0_ex R) (k : Nat) (x : Zq25_l0_0_sh.T) : Option R :=
 Zq25_l0_0 N (fun y0 y1 y2 y3 y4 => ks 0 ((y0, y1, (), (), (), ()), (y2, y3, y4, ()))) k x.1.1 x.1.2.1 x.1.2.2.2.2.2.1 x.1.2.2.2.2.2.2.1 x.1.2.2.2.2.2.2.2.1 x.2.1 x.2.2.1 x.2.2.2.1
noncomputable def Zq25_l0_0_s (N : Nat) : LSum := ⟨Zq25_l0_0_sh, Zq25_l0_0_ex, fun x ks => Zq25_l0_0_again N ks N x⟩
theorem Zq25_l0_0_ok (N : Nat) : LoopOk Tryz.prog Tryz.f114.ntmps (Zq25_l0_0_s N) (loopAt (loopAt Zq25_code 0) 0) := loopQ (sh := Zq25_l0_0_sh) (ex := Zq25_l0_0_ex) (N := N) (L := []) (fun R k x ks => Zq25_l0_0_again N ks k x) (Zq25_gok N) (fun _ _ _ => rfl) (fun R k x ks => by kernel_rfl) trivial (by kernel_rfl)
noncomputable def Zq25_l0_sh : Sh := ⟨[(1, .one (.ro I)), (2, .one (.ro I)), (8, .one (.ref 0)), (9, .one (.ref 1)), (10, .one (.ref 2))], [.sl 27 LI .deep, .sl 3 I .own, .sl 3 I .own]⟩
noncomputable def Zq25_l0_ex : List (Ex × Sh) := [(.exit 0, ⟨[(10, .one (.ref 0))], [.sl 3 I .own]⟩)]
noncomputable def Zq25_l0 {R : Type} (N : Nat) (k0 : (List Int) → Option R) : Nat → Int → Int → (List (List Int)) → (List Int) → (List Int) → Option R
 | 0, _, _, _, _, _ => none
 | K + 1, i1, j1, o, o1, o2 =>
 (br (ine i1 j1)
 ((chk (inb o i1)
 (Zq25_l0_0 N (fun i2 j2 o3 o4 o5 => (chk (room o5 [i2])
 (Zq25_l0 N k0 K i2 j2 o3 o4 (tApp o5 [i2])))) N i1 j1 i1 (tLen (rdL o i1)) 0 o o1 o2)))
 (k0 o2))
noncomputable def Zq25_l0_again {R : Type} (N : Nat) (ks : KS Zq25_l0_ex R) (k : Nat) (x : Zq25_l0_sh.T) : Option R :=
 Zq25_l0 N (fun y0 => ks 0 (((), ()), (y0, ()))) k x.1.1 x.1.2.1 x.2.1 x.2.2.1 x.2.2.2.1
noncomputable def Zq25_l0_s (N : Nat) : LSum := ⟨Zq25_l0_sh, Zq25_l0_ex, fun x ks => Zq25_l0_again N ks N x⟩
theorem Zq25_l0_ok (N : Nat) : LoopOk Tryz.prog Tryz.f114.ntmps (Zq25_l0_s N) (loopAt Zq25_code 0) := loopQ (sh := Zq25_l0_sh) (ex := Zq25_l0_ex) (N := N) (L := [Zq25_l0_0_s N]) (fun R k x ks => Zq25_l0_again N ks k x) (Zq25_gok N) (fun _ _ _ => rfl) (fun R k x ks => by kernel_rfl) ⟨Zq25_l0_0_ok N, trivial⟩ (by kernel_rfl)
noncomputable def Zq25 (N : Nat) (x : ((List (List Int)) × (List (Int × Int)))) (i : Int) (j : Int) : Option (((List Int) × Bool × Unit) × (Unit)) :=
 ((Zq28 N (x.1, x.2)).bind fun r =>
 ((Zq54 N r.1.1 j).bind fun r1 =>
 (chk (inb r1.1.1 i)
 (br (ilt (rdI r1.1.1 i) 0)
 (some (([], false, ()), ()))
 (Zq25_l0 N (fun o => some ((o, true, ()), ())) N i j r.1.1 r1.1.1 [i])))))
noncomputable def Zq25_S (N : Nat) : FSum := ⟨Zq25_ps, Zq25_rs, fun x => Zq25 N x.1 x.2.1 x.2.2.1⟩
theorem Zq25_pc (N : Nat) : PC Tryz.prog 114 (Zq25_S N) := pcQ (L := [Zq25_l0_s N]) (Zq25_gok N) Tryz.call114 Tryz.func114 (fun x => by kernel_rfl) ⟨Zq25_l0_ok N, trivial⟩ (by kernel_rfl)

abbrev Zq66_ps : List (PV.Mode × Ty) := [(.ro, LI)]
abbrev Zq66_rs : List (Bool × Ty) := [(true, LI)]
noncomputable def Zq66_G (N : Nat) : GTab := gOf []
theorem Zq66_gok (N : Nat) : GOk Tryz.prog (Zq66_G N) := gOf_ok trivial
noncomputable def Zq66_code : Code := (Tryz.f141.body).getD .skip
noncomputable def Zq66 (N : Nat) (s : (List Int)) : Option (((List Int) × Unit) × (Unit)) :=
 (br (ieq (tLen s) 0)
 ((amb
 (some (([], ()), ()))
 ((chk (room (α := Int) (β := Int) [] s)
 (some (((tApp [] s), ()), ()))))))
 ((chk (room (α := Int) (β := Int) [] s)
 (some (((tApp [] s), ()), ())))))
noncomputable def Zq66_S (N : Nat) : FSum := ⟨Zq66_ps, Zq66_rs, fun x => Zq66 N x.1⟩
theorem Zq66_pc (N : Nat) : PC Tryz.prog 141 (Zq66_S N) := pcQ (L := []) (Zq66_gok N) Tryz.call141 Tryz.func141 (fun x => by kernel_rfl) trivial (by kernel_rfl)

abbrev Zq29_ps : List (PV.Mode × Ty) := [(.ro, QLLILQII), (.ro, LI), (.ro, LI)]
abbrev Zq29_rs : List (Bool × Ty) := [(true, LLI), (true, .bool)]
noncomputable def Zq29_G (N : Nat) : GTab := gOf [(105, Zq27_S N), (114, Zq25_S N), (141, Zq66_S N)]
theorem Zq29_gok (N : Nat) : GOk Tryz.prog (Zq29_G N) := gOf_ok ⟨Zq27_pc N, Zq25_pc N, Zq66_pc N, trivial⟩
noncomputable def Zq29_code : Code := (Tryz.f88.body).getD .skip
noncomputable def Zq29_l0_sh : Sh := ⟨[(3, .one (.adr 0 0)), (13, .one (.ro .bool)), (14, .one (.ref 1)), (43, .one (.ref 2)), (44, .one (.ro I)), (45, .one (.ro I))], [.box [.ro LLI, .ro LQII], .sl 27 LI .deep, .sl 3 I .own]⟩
noncomputable def Zq29_l0_ex : List (Ex × Sh) := [(.exit 0, ⟨[(13, .one (.ro .bool)), (14, .one (.ref 0))], [.sl 27 LI .deep]⟩)]
noncomputable def Zq29_l0 {R : Type} (N : Nat) (k0 : Bool → (List (List Int)) → Option R) : Nat → Bool → Int → Int → (List (List Int)) → (List (Int × Int)) → (List (List Int)) → (List Int) → Option R
 | 0, _, _, _, _, _, _, _ => none
 | K + 1, ok, x1, x2, o, o1, o2, o3 =>
 (br (ilt x2 x1)
 ((chk (inb o3 x2)
 (chk (inb o (rdI o3 x2))
 ((Zq66 N (rdL o (rdI o3 x2))).bind fun r3 =>
 (chk (room o2 [r3.1.1])
 (Zq29_l0 N k0 K ok x1 (IntKind.i64.wrap (x2 + 1)) o o1 (tApp o2 [r3.1.1]) o3))))))
 (k0 ok o2))
noncomputable def Zq29_l0_again {R : Type} (N : Nat) (ks : KS Zq29_l0_ex R) (k : Nat) (x : Zq29_l0_sh.T) : Option R :=
 Zq29_l0 N (fun y0 y1 => ks 0 ((y0, (), ()), (y1, ()))) k x.1.2.1 x.1.2.2.2.2.1 x.1.2.2.2.2.2.1 x.2.1.1 x.2.1.2.1 x.2.2.1 x.2.2.2.1
noncomputable def Zq29_l0_s (N : Nat) : LSum := ⟨Zq29_l0_sh, Zq29_l0_ex, fun x ks => Zq29_l0_again N ks N x⟩
theorem Zq29_l0_ok (N : Nat) : LoopOk Tryz.prog Tryz.f88.ntmps (Zq29_l0_s N) (loopAt Zq29_code 0) := loopQ (sh := Zq29_l0_sh) (ex := Zq29_l0_ex) (N := N) (L := []) (fun R k x ks => Zq29_l0_again N ks k x) (Zq29_gok N) (fun _ _ _ => rfl) (fun R k x ks => by kernel_rfl) trivial (by kernel_rfl)
noncomputable def Zq29 (N : Nat) (x : ((List (List Int)) × (List (Int × Int)))) (a : (List Int)) (b : (List Int)) : Option (((List (List Int)) × Bool × Unit) × (Unit)) :=
 ((Zq27 N (x.1, x.2) a).bind fun r =>
 ((Zq27 N (x.1, x.2) b).bind fun r1 =>
 (br (!r.1.2.1)
 (some (([], false, ()), ()))
 ((br (!r1.1.2.1)
 (some (([], false, ()), ()))
 (((Zq25 N (x.1, x.2) r.1.1 r1.1.1).bind fun r2 =>
 Zq29_l0 N (fun ok o => some ((o, ok, ()), ())) N r2.1.2.1 (tLen r2.1.1) 0 x.1 x.2 [] r2.1.1)))))))
noncomputable def Zq29_S (N : Nat) : FSum := ⟨Zq29_ps, Zq29_rs, fun x => Zq29 N x.1 x.2.1 x.2.2.1⟩
theorem Zq29_pc (N : Nat) : PC Tryz.prog 88 (Zq29_S N) := pcQ (L := [Zq29_l0_s N]) (Zq29_gok N) Tryz.call88 Tryz.func88 (fun x => by kernel_rfl) ⟨Zq29_l0_ok N, trivial⟩ (by kernel_rfl)

abbrev Zq14_ps : List (PV.Mode × Ty) := [(.ro, QILQII), (.ro, I), (.ro, LI), (.ro, LI)]
abbrev Zq14_rs : List (Bool × Ty) := [(true, I), (true, LLI), (true, .bool)]
noncomputable def Zq14_G (N : Nat) : GTab := gOf [(130, Zq38_S N), (111, Zq16_S N), (88, Zq29_S N)]
theorem Zq14_gok (N : Nat) : GOk Tryz.prog (Zq14_G N) := gOf_ok ⟨Zq38_pc N, Zq16_pc N, Zq29_pc N, trivial⟩
noncomputable def Zq14_code : Code := (Tryz.f115.body).getD .skip
noncomputable def Zq14_l0_sh : Sh := ⟨[(1, .one (.ro I)), (2, .one (.ro LI)), (3, .one (.ro LI)), (4, .one (.adr 0 0)), (11, .one (.ro I)), (12, .one (.ro I))], [.box [.ro I, .ro LQII]]⟩
noncomputable def Zq14_l0_ex : List (Ex × Sh) := [(.ret, ⟨[(8, .one (.ro I)), (9, .one (.ref 0)), (10, .one (.ro .bool))], [.sl 27 LI .deep]⟩), (.exit 0, ⟨[], []⟩)]
noncomputable def Zq14_l0 {R : Type} (N : Nat) (k0 : Int → Bool → (List (List Int)) → Option R) (k1 : Unit → Option R) : Nat → Int → (List Int) → (List Int) → Int → Int → Int → (List (Int × Int)) → Option R
 | 0, _, _, _, _, _, _, _ => none
 | K + 1, kind1, a1, b1, kv, byv, o, o1 =>
 ((Zq38 N kv 0 o).bind fun r =>
 (br r.1.1
 (((Zq16 N (o, o1) kind1 kv).bind fun r1 =>
 ((Zq29 N (r1.1.1.1, r1.1.1.2) a1 b1).bind fun r2 =>
 (br r2.1.2.1
 (k0 kv true r2.1.1)
 (Zq14_l0 N k0 k1 K kind1 a1 b1 (IntKind.i64.wrap (kv + byv)) byv o o1)))))
 (k1 ())))
noncomputable def Zq14_l0_again {R : Type} (N : Nat) (ks : KS Zq14_l0_ex R) (k : Nat) (x : Zq14_l0_sh.T) : Option R :=
 Zq14_l0 N (fun y0 y1 y2 => ks 0 ((y0, (), y1, ()), (y2, ()))) (fun (_ : Unit) => ks 1 ((), ())) k x.1.1 x.1.2.1 x.1.2.2.1 x.1.2.2.2.2.1 x.1.2.2.2.2.2.1 x.2.1.1 x.2.1.2.1
noncomputable def Zq14_l0_s (N : Nat) : LSum := ⟨Zq14_l0_sh, Zq14_l0_ex, fun x ks => Zq14_l0_again N ks N x⟩
theorem Zq14_l0_ok (N : Nat) : LoopOk Tryz.prog Tryz.f115.ntmps (Zq14_l0_s N) (loopAt Zq14_code 0) := loopQ (sh := Zq14_l0_sh) (ex := Zq14_l0_ex) (N := N) (L := []) (fun R k x ks => Zq14_l0_again N ks k x) (Zq14_gok N) (fun _ _ _ => rfl) (fun R k x ks => by kernel_rfl) trivial (by kernel_rfl)
noncomputable def Zq14 (N : Nat) (g : (Int × (List (Int × Int)))) (kind : Int) (a : (List Int)) (b : (List Int)) : Option ((Int × (List (List Int)) × Bool × Unit) × (Unit)) :=
 (br (ieq kind 2)
 (Zq14_l0 N (fun x x1 o => some ((x, o, x1, ()), ())) (fun (_ : Unit) => some ((0, [], false, ()), ())) N kind a b (if (tLen b) < (tLen a) then (tLen b) else (tLen a)) (-1) g.1 g.2)
 (Zq14_l0 N (fun x2 x3 o1 => some ((x2, o1, x3, ()), ())) (fun (_ : Unit) => some ((0, [], false, ()), ())) N kind a b (if (tLen b) > (tLen a) then (tLen b) else (tLen a)) 1 g.1 g.2))
noncomputable def Zq14_S (N : Nat) : FSum := ⟨Zq14_ps, Zq14_rs, fun x => Zq14 N x.1 x.2.1 x.2.2.1 x.2.2.2.1⟩
theorem Zq14_pc (N : Nat) : PC Tryz.prog 115 (Zq14_S N) := pcQ (L := [Zq14_l0_s N]) (Zq14_gok N) Tryz.call115 Tryz.func115 (fun x => by kernel_rfl) ⟨Zq14_l0_ok N, trivial⟩ (by kernel_rfl)

abbrev Zq30_ps : List (PV.Mode × Ty) := [(.ro, QILQII), (.ro, I), (.ro, LI), (.ro, LI)]
abbrev Zq30_rs : List (Bool × Ty) := [(true, I), (true, .bool)]
noncomputable def Zq30_G (N : Nat) : GTab := gOf [(58, Zq43_S N), (115, Zq14_S N)]
theorem Zq30_gok (N : Nat) : GOk Tryz.prog (Zq30_G N) := gOf_ok ⟨Zq43_pc N, Zq14_pc N, trivial⟩
noncomputable def Zq30_code : Code := (Tryz.f46.body).getD .skip
noncomputable def Zq30 (N : Nat) (g : (Int × (List (Int × Int)))) (kind : Int) (a : (List Int)) (b : (List Int)) : Option ((Int × Bool × Unit) × (Unit)) :=
 ((Zq43 N (g.1, g.2) kind a).bind fun r =>
 (br (!r.1.1)
 (some ((0, false, ()), ()))
 (((Zq43 N (g.1, g.2) kind b).bind fun r1 =>
 (br (!r1.1.1)
 (some ((0, false, ()), ()))
 (((Zq14 N (g.1, g.2) kind a b).bind fun r2 =>
 some ((r2.1.1, r2.1.2.2.1, ()), ()))))))))
noncomputable def Zq30_S (N : Nat) : FSum := ⟨Zq30_ps, Zq30_rs, fun x => Zq30 N x.1 x.2.1 x.2.2.1 x.2.2.2.1⟩
theorem Zq30_pc (N : Nat) : PC Tryz.prog 46 (Zq30_S N) := pcQ (L := []) (Zq30_gok N) Tryz.call46 Tryz.func46 (fun x => by kernel_rfl) trivial (by kernel_rfl)

abbrev Zq105_ps : List (PV.Mode × Ty) := [(.ro, LI), (.ro, I), (.ro, I)]
abbrev Zq105_rs : List (Bool × Ty) := [(true, .bool)]
noncomputable def Zq105_G (N : Nat) : GTab := gOf [(137, Zq99_S N)]
theorem Zq105_gok (N : Nat) : GOk Tryz.prog (Zq105_G N) := gOf_ok ⟨Zq99_pc N, trivial⟩
noncomputable def Zq105_code : Code := (Tryz.f127.body).getD .skip
noncomputable def Zq105_l0_sh : Sh := ⟨[(0, .one (.ro LI)), (1, .one (.ro I)), (2, .one (.ro I)), (7, .one (.ro I))], []⟩
noncomputable def Zq105_l0_ex : List (Ex × Sh) := [(.ret, ⟨[(6, .one (.ro .bool))], []⟩), (.exit 0, ⟨[], []⟩)]
noncomputable def Zq105_l0 {R : Type} (N : Nat) (k0 : Bool → Option R) (k1 : Unit → Option R) : Nat → (List Int) → Int → Int → Int → Option R
 | 0, _, _, _, _ => none
 | K + 1, l1, lo1, hi1, i =>
 (br (ilt i (tLen l1))
 ((chk (inb l1 i)
 ((Zq99 N (rdI l1 i) lo1 hi1).bind fun r =>
 (br (!r.1.1)
 (k0 false)
 ((br (ilt 0 i)
 ((chk (inb l1 (IntKind.i64.wrap (i - 1)))
 (chk (inb l1 i)
 (br (ile (rdI l1 i) (rdI l1 (IntKind.i64.wrap (i - 1))))
 (k0 false)
 (Zq105_l0 N k0 k1 K l1 lo1 hi1 (IntKind.i64.wrap (i + 1)))))))
 (Zq105_l0 N k0 k1 K l1 lo1 hi1 (IntKind.i64.wrap (i + 1)))))))))
 (k1 ()))
noncomputable def Zq105_l0_again {R : Type} (N : Nat) (ks : KS Zq105_l0_ex R) (k : Nat) (x : Zq105_l0_sh.T) : Option R :=
 Zq105_l0 N (fun y0 => ks 0 ((y0, ()), ())) (fun (_ : Unit) => ks 1 ((), ())) k x.1.1 x.1.2.1 x.1.2.2.1 x.1.2.2.2.1
noncomputable def Zq105_l0_s (N : Nat) : LSum := ⟨Zq105_l0_sh, Zq105_l0_ex, fun x ks => Zq105_l0_again N ks N x⟩
theorem Zq105_l0_ok (N : Nat) : LoopOk Tryz.prog Tryz.f127.ntmps (Zq105_l0_s N) (loopAt Zq105_code 0) := loopQ (sh := Zq105_l0_sh) (ex := Zq105_l0_ex) (N := N) (L := []) (fun R k x ks => Zq105_l0_again N ks k x) (Zq105_gok N) (fun _ _ _ => rfl) (fun R k x ks => by kernel_rfl) trivial (by kernel_rfl)
noncomputable def Zq105 (N : Nat) (l : (List Int)) (lo : Int) (hi : Int) : Option ((Bool × Unit) × (Unit)) :=
 Zq105_l0 N (fun x => some ((x, ()), ())) (fun (_ : Unit) => some ((true, ()), ())) N l lo hi 0
noncomputable def Zq105_S (N : Nat) : FSum := ⟨Zq105_ps, Zq105_rs, fun x => Zq105 N x.1 x.2.1 x.2.2.1⟩
theorem Zq105_pc (N : Nat) : PC Tryz.prog 127 (Zq105_S N) := pcQ (L := [Zq105_l0_s N]) (Zq105_gok N) Tryz.call127 Tryz.func127 (fun x => by kernel_rfl) ⟨Zq105_l0_ok N, trivial⟩ (by kernel_rfl)

abbrev Zq116_ps : List (PV.Mode × Ty) := [(.ro, QILQII), (.ro, LI)]
abbrev Zq116_rs : List (Bool × Ty) := [(true, .bool)]
noncomputable def Zq116_G (N : Nat) : GTab := gOf [(127, Zq105_S N)]
theorem Zq116_gok (N : Nat) : GOk Tryz.prog (Zq116_G N) := gOf_ok ⟨Zq105_pc N, trivial⟩
noncomputable def Zq116_code : Code := (Tryz.f66.body).getD .skip
noncomputable def Zq116 (N : Nat) (g : (Int × (List (Int × Int)))) (setv : (List Int)) : Option ((Bool × Unit) × (Unit)) :=
 ((Zq105 N setv 0 (IntKind.i64.wrap (g.1 - 1))).bind fun r =>
 some ((r.1.1, ()), ()))
noncomputable def Zq116_S (N : Nat) : FSum := ⟨Zq116_ps, Zq116_rs, fun x => Zq116 N x.1 x.2.1⟩
theorem Zq116_pc (N : Nat) : PC Tryz.prog 66 (Zq116_S N) := pcQ (L := []) (Zq116_gok N) Tryz.call66 Tryz.func66 (fun x => by kernel_rfl) trivial (by kernel_rfl)

abbrev Zq83_ps : List (PV.Mode × Ty) := [(.ro, QILQII), (.ro, I), (.ro, LI)]
abbrev Zq83_rs : List (Bool × Ty) := [(true, .bool), (true, .bool)]
noncomputable def Zq83_G (N : Nat) : GTab := gOf [(65, Zq123_S N), (66, Zq116_S N), (67, Zq124_S N)]
theorem Zq83_gok (N : Nat) : GOk Tryz.prog (Zq83_G N) := gOf_ok ⟨Zq123_pc N, Zq116_pc N, Zq124_pc N, trivial⟩
noncomputable def Zq83_code : Code := (Tryz.f11.body).getD .skip
noncomputable def Zq83 (N : Nat) (g : (Int × (List (Int × Int)))) (kind : Int) (setv : (List Int)) : Option ((Bool × Bool × Unit) × (Unit)) :=
 ((Zq123 N (g.1, g.2) kind).bind fun r =>
 (br (!r.1.1)
 (some ((false, false, ()), ()))
 (((Zq116 N (g.1, g.2) setv).bind fun r1 =>
 (br (!r1.1.1)
 (some ((false, false, ()), ()))
 (((Zq124 N (g.1, g.2) kind setv).bind fun r2 =>
 some ((r2.1.1, true, ()), ()))))))))
noncomputable def Zq83_S (N : Nat) : FSum := ⟨Zq83_ps, Zq83_rs, fun x => Zq83 N x.1 x.2.1 x.2.2.1⟩
theorem Zq83_pc (N : Nat) : PC Tryz.prog 11 (Zq83_S N) := pcQ (L := []) (Zq83_gok N) Tryz.call11 Tryz.func11 (fun x => by kernel_rfl) trivial (by kernel_rfl)

abbrev Zq128_ps : List (PV.Mode × Ty) := [(.ro, QILQII), (.ro, I), (.ro, LI)]
abbrev Zq128_rs : List (Bool × Ty) := [(true, .bool)]
noncomputable def Zq128_G (N : Nat) : GTab := gOf [(11, Zq83_S N)]
theorem Zq128_gok (N : Nat) : GOk Tryz.prog (Zq128_G N) := gOf_ok ⟨Zq83_pc N, trivial⟩
noncomputable def Zq128_code : Code := (Tryz.f61.body).getD .skip
noncomputable def Zq128 (N : Nat) (g : (Int × (List (Int × Int)))) (kind : Int) (setv : (List Int)) : Option ((Bool × Unit) × (Unit)) :=
 ((Zq83 N (g.1, g.2) kind setv).bind fun r =>
 (br r.1.1
 (some ((r.1.2.1, ()), ()))
 (some ((false, ()), ()))))
noncomputable def Zq128_S (N : Nat) : FSum := ⟨Zq128_ps, Zq128_rs, fun x => Zq128 N x.1 x.2.1 x.2.2.1⟩
theorem Zq128_pc (N : Nat) : PC Tryz.prog 61 (Zq128_S N) := pcQ (L := []) (Zq128_gok N) Tryz.call61 Tryz.func61 (fun x => by kernel_rfl) trivial (by kernel_rfl)

abbrev Zq122_ps : List (PV.Mode × Ty) := [(.ro, I), (.ro, I), (.ro, I)]
abbrev Zq122_rs : List (Bool × Ty) := [(true, .bool)]
noncomputable def Zq122_G (N : Nat) : GTab := gOf []
theorem Zq122_gok (N : Nat) : GOk Tryz.prog (Zq122_G N) := gOf_ok trivial
noncomputable def Zq122_code : Code := (Tryz.f159.body).getD .skip
noncomputable def Zq122 (N : Nat) (kind : Int) (size : Int) (kv : Int) : Option ((Bool × Unit) × (Unit)) :=
 (br (ieq kind 2)
 (some (((ile kv size), ()), ()))
 (some (((ile size kv), ()), ())))
noncomputable def Zq122_S (N : Nat) : FSum := ⟨Zq122_ps, Zq122_rs, fun x => Zq122 N x.1 x.2.1 x.2.2.1⟩
theorem Zq122_pc (N : Nat) : PC Tryz.prog 159 (Zq122_S N) := pcQ (L := []) (Zq122_gok N) Tryz.call159 Tryz.func159 (fun x => by kernel_rfl) trivial (by kernel_rfl)

abbrev Zq133_ps : List (PV.Mode × Ty) := [(.ro, LI), (.ro, I)]
abbrev Zq133_rs : List (Bool × Ty) := [(true, LI)]
noncomputable def Zq133_G (N : Nat) : GTab := gOf []
theorem Zq133_gok (N : Nat) : GOk Tryz.prog (Zq133_G N) := gOf_ok trivial
noncomputable def Zq133_code : Code := (Tryz.f128.body).getD .skip
noncomputable def Zq133_l0_sh : Sh := ⟨[(0, .one (.ro LI)), (1, .one (.ro I)), (5, .one (.ref 0)), (6, .one (.ro I))], [.sl 3 I .own]⟩
noncomputable def Zq133_l0_ex : List (Ex × Sh) := [(.exit 0, ⟨[(5, .one (.ref 0))], [.sl 3 I .own]⟩)]
noncomputable def Zq133_l0 {R : Type} (N : Nat) (k0 : (List Int) → Option R) : Nat → (List Int) → Int → Int → (List Int) → Option R
 | 0, _, _, _, _ => none
 | K + 1, setv1, x1, i, o =>
 (br (ilt i (tLen setv1))
 ((chk (inb setv1 i)
 (br (ine (rdI setv1 i) x1)
 ((chk (inb setv1 i)
 (chk (room o [(rdI setv1 i)])
 (Zq133_l0 N k0 K setv1 x1 (IntKind.i64.wrap (i + 1)) (tApp o [(rdI setv1 i)])))))
 (Zq133_l0 N k0 K setv1 x1 (IntKind.i64.wrap (i + 1)) o))))
 (k0 o))
noncomputable def Zq133_l0_again {R : Type} (N : Nat) (ks : KS Zq133_l0_ex R) (k : Nat) (x : Zq133_l0_sh.T) : Option R :=
 Zq133_l0 N (fun y0 => ks 0 (((), ()), (y0, ()))) k x.1.1 x.1.2.1 x.1.2.2.2.1 x.2.1
noncomputable def Zq133_l0_s (N : Nat) : LSum := ⟨Zq133_l0_sh, Zq133_l0_ex, fun x ks => Zq133_l0_again N ks N x⟩
theorem Zq133_l0_ok (N : Nat) : LoopOk Tryz.prog Tryz.f128.ntmps (Zq133_l0_s N) (loopAt Zq133_code 0) := loopQ (sh := Zq133_l0_sh) (ex := Zq133_l0_ex) (N := N) (L := []) (fun R k x ks => Zq133_l0_again N ks k x) (Zq133_gok N) (fun _ _ _ => rfl) (fun R k x ks => by kernel_rfl) trivial (by kernel_rfl)
noncomputable def Zq133 (N : Nat) (setv : (List Int)) (x : Int) : Option (((List Int) × Unit) × (Unit)) :=
 Zq133_l0 N (fun o => some ((o, ()), ())) N setv x 0 []
noncomputable def Zq133_S (N : Nat) : FSum := ⟨Zq133_ps, Zq133_rs, fun x => Zq133 N x.1 x.2.1⟩
theorem Zq133_pc (N : Nat) : PC Tryz.prog 128 (Zq133_S N) := pcQ (L := [Zq133_l0_s N]) (Zq133_gok N) Tryz.call128 Tryz.func128 (fun x => by kernel_rfl) ⟨Zq133_l0_ok N, trivial⟩ (by kernel_rfl)

abbrev Zq104_ps : List (PV.Mode × Ty) := [(.ro, LI), (.ro, I)]
abbrev Zq104_rs : List (Bool × Ty) := [(false, LI)]
noncomputable def Zq104_G (N : Nat) : GTab := gOf []
theorem Zq104_gok (N : Nat) : GOk Tryz.prog (Zq104_G N) := gOf_ok trivial
noncomputable def Zq104_code : Code := (Tryz.f129.body).getD .skip
noncomputable def Zq104_l0_sh : Sh := ⟨[(0, .one (.ro LI)), (1, .one (.ro I)), (5, .one (.ro I))], []⟩
noncomputable def Zq104_l0_ex : List (Ex × Sh) := [(.exit 0, ⟨[(0, .one (.ro LI)), (1, .one (.ro I)), (5, .one (.ro I))], []⟩)]
noncomputable def Zq104_l0 {R : Type} (N : Nat) (k0 : (List Int) → Int → Int → Option R) : Nat → (List Int) → Int → Int → Option R
 | 0, _, _, _ => none
 | K + 1, l1, n1, kv =>
 (br (ilt kv (tLen l1))
 ((chk (inb l1 kv)
 (br (ilt (rdI l1 kv) n1)
 (Zq104_l0 N k0 K l1 n1 (IntKind.i64.wrap (kv + 1)))
 (k0 l1 n1 kv))))
 (k0 l1 n1 kv))
noncomputable def Zq104_l0_again {R : Type} (N : Nat) (ks : KS Zq104_l0_ex R) (k : Nat) (x : Zq104_l0_sh.T) : Option R :=
 Zq104_l0 N (fun y0 y1 y2 => ks 0 ((y0, y1, y2, ()), ())) k x.1.1 x.1.2.1 x.1.2.2.1
noncomputable def Zq104_l0_s (N : Nat) : LSum := ⟨Zq104_l0_sh, Zq104_l0_ex, fun x ks => Zq104_l0_again N ks N x⟩
theorem Zq104_l0_ok (N : Nat) : LoopOk Tryz.prog Tryz.f129.ntmps (Zq104_l0_s N) (loopAt Zq104_code 0) := loopQ (sh := Zq104_l0_sh) (ex := Zq104_l0_ex) (N := N) (L := []) (fun R k x ks => Zq104_l0_again N ks k x) (Zq104_gok N) (fun _ _ _ => rfl) (fun R k x ks => by kernel_rfl) trivial (by kernel_rfl)
noncomputable def Zq104 (N : Nat) (l : (List Int)) (n : Int) : Option (((List Int) × Unit) × (Unit)) :=
 Zq104_l0 N (fun l1 n1 kv => (br (ilt kv (tLen l1))
 ((chk (inb l1 kv)
 (br (ieq (rdI l1 kv) n1)
 (some ((l1, ()), ()))
 ((chk (ile 0 0 && ile 0 kv && ile kv (tLen l1))
 (chk (room (α := Int) (β := Int) [] (tCut l1 0 kv))
 (chk (room (tApp [] (tCut l1 0 kv)) [n1])
 (chk (ile 0 kv && ile kv (tLen l1) && ile (tLen l1) (tLen l1))
 (chk (room (tApp (tApp [] (tCut l1 0 kv)) [n1]) (tCut l1 kv (tLen l1)))
 (some (((tApp (tApp (tApp [] (tCut l1 0 kv)) [n1]) (tCut l1 kv (tLen l1))), ()), ())))))))))))
 ((chk (ile 0 0 && ile 0 kv && ile kv (tLen l1))
 (chk (room (α := Int) (β := Int) [] (tCut l1 0 kv))
 (chk (room (tApp [] (tCut l1 0 kv)) [n1])
 (chk (ile 0 kv && ile kv (tLen l1) && ile (tLen l1) (tLen l1))
 (chk (room (tApp (tApp [] (tCut l1 0 kv)) [n1]) (tCut l1 kv (tLen l1)))
 (some (((tApp (tApp (tApp [] (tCut l1 0 kv)) [n1]) (tCut l1 kv (tLen l1))), ()), ())))))))))) N l n 0
noncomputable def Zq104_S (N : Nat) : FSum := ⟨Zq104_ps, Zq104_rs, fun x => Zq104 N x.1 x.2.1⟩
theorem Zq104_pc (N : Nat) : PC Tryz.prog 129 (Zq104_S N) := pcQ (L := [Zq104_l0_s N]) (Zq104_gok N) Tryz.call129 Tryz.func129 (fun x => by kernel_rfl) ⟨Zq104_l0_ok N, trivial⟩ (by kernel_rfl)

abbrev Zq132_ps : List (PV.Mode × Ty) := [(.ro, LI), (.ro, I)]
abbrev Zq132_rs : List (Bool × Ty) := [(false, LI)]
noncomputable def Zq132_G (N : Nat) : GTab := gOf [(72, Zq98_S N), (128, Zq133_S N), (129, Zq104_S N)]
theorem Zq132_gok (N : Nat) : GOk Tryz.prog (Zq132_G N) := gOf_ok ⟨Zq98_pc N, Zq133_pc N, Zq104_pc N, trivial⟩
noncomputable def Zq132_code : Code := (Tryz.f68.body).getD .skip
noncomputable def Zq132 (N : Nat) (setv : (List Int)) (x : Int) : Option (((List Int) × Unit) × (Unit)) :=
 ((Zq98 N setv x).bind fun r =>
 (br r.1.1
 (((Zq133 N setv x).bind fun r1 =>
 some ((r1.1.1, ()), ())))
 (((Zq104 N setv x).bind fun r2 =>
 some ((r2.1.1, ()), ())))))
noncomputable def Zq132_S (N : Nat) : FSum := ⟨Zq132_ps, Zq132_rs, fun x => Zq132 N x.1 x.2.1⟩
theorem Zq132_pc (N : Nat) : PC Tryz.prog 68 (Zq132_S N) := pcQ (L := []) (Zq132_gok N) Tryz.call68 Tryz.func68 (fun x => by kernel_rfl) trivial (by kernel_rfl)

abbrev Zq111_ps : List (PV.Mode × Ty) := [(.ro, QLLILQII), (.ro, LI)]
abbrev Zq111_rs : List (Bool × Ty) := [(true, I)]
noncomputable def Zq111_G (N : Nat) : GTab := gOf [(145, Zq106_S N)]
theorem Zq111_gok (N : Nat) : GOk Tryz.prog (Zq111_G N) := gOf_ok ⟨Zq106_pc N, trivial⟩
noncomputable def Zq111_code : Code := (Tryz.f91.body).getD .skip
noncomputable def Zq111_l0_sh : Sh := ⟨[(1, .one (.ro LI)), (2, .one (.adr 0 0)), (5, .one (.ro I))], [.box [.ro LLI, .ro LQII]]⟩
noncomputable def Zq111_l0_ex : List (Ex × Sh) := [(.ret, ⟨[(4, .one (.ro I))], []⟩), (.exit 0, ⟨[], []⟩)]
noncomputable def Zq111_l0 {R : Type} (N : Nat) (k0 : Int → Option R) (k1 : Unit → Option R) : Nat → (List Int) → Int → (List (List Int)) → (List (Int × Int)) → Option R
 | 0, _, _, _, _ => none
 | K + 1, state1, i, o, o1 =>
 (br (ilt i (tLen o))
 ((chk (inb o i)
 ((Zq106 N (rdL o i) state1).bind fun r =>
 (br r.1.1
 (k0 i)
 (Zq111_l0 N k0 k1 K state1 (IntKind.i64.wrap (i + 1)) o o1)))))
 (k1 ()))
noncomputable def Zq111_l0_again {R : Type} (N : Nat) (ks : KS Zq111_l0_ex R) (k : Nat) (x : Zq111_l0_sh.T) : Option R :=
 Zq111_l0 N (fun y0 => ks 0 ((y0, ()), ())) (fun (_ : Unit) => ks 1 ((), ())) k x.1.1 x.1.2.2.1 x.2.1.1 x.2.1.2.1
noncomputable def Zq111_l0_s (N : Nat) : LSum := ⟨Zq111_l0_sh, Zq111_l0_ex, fun x ks => Zq111_l0_again N ks N x⟩
theorem Zq111_l0_ok (N : Nat) : LoopOk Tryz.prog Tryz.f91.ntmps (Zq111_l0_s N) (loopAt Zq111_code 0) := loopQ (sh := Zq111_l0_sh) (ex := Zq111_l0_ex) (N := N) (L := []) (fun R k x ks => Zq111_l0_again N ks k x) (Zq111_gok N) (fun _ _ _ => rfl) (fun R k x ks => by kernel_rfl) trivial (by kernel_rfl)
noncomputable def Zq111 (N : Nat) (x : ((List (List Int)) × (List (Int × Int)))) (state : (List Int)) : Option ((Int × Unit) × (Unit)) :=
 Zq111_l0 N (fun x1 => some ((x1, ()), ())) (fun (_ : Unit) => some (((-1), ()), ())) N state 0 x.1 x.2
noncomputable def Zq111_S (N : Nat) : FSum := ⟨Zq111_ps, Zq111_rs, fun x => Zq111 N x.1 x.2.1⟩
theorem Zq111_pc (N : Nat) : PC Tryz.prog 91 (Zq111_S N) := pcQ (L := [Zq111_l0_s N]) (Zq111_gok N) Tryz.call91 Tryz.func91 (fun x => by kernel_rfl) ⟨Zq111_l0_ok N, trivial⟩ (by kernel_rfl)

abbrev Zq130_ps : List (PV.Mode × Ty) := [(.ro, QILQII), (.ro, I), (.ro, I)]
abbrev Zq130_rs : List (Bool × Ty) := [(false, QLLILQII)]
noncomputable def Zq130_G (N : Nat) : GTab := gOf [(77, Zq129_S N), (159, Zq122_S N), (136, Zq117_S N), (68, Zq132_S N), (91, Zq111_S N), (140, Zq115_S N)]
theorem Zq130_gok (N : Nat) : GOk Tryz.prog (Zq130_G N) := gOf_ok ⟨Zq129_pc N, Zq122_pc N, Zq117_pc N, Zq132_pc N, Zq111_pc N, Zq115_pc N, trivial⟩
noncomputable def Zq130_code : Code := (Tryz.f112.body).getD .skip
noncomputable def Zq130_l0_sh : Sh := ⟨[(1, .one (.ro I)), (2, .one (.ro I)), (3, .one (.adr 0 0)), (6, .one (.adr 1 0)), (7, .one (.ro LLI)), (8, .one (.ref 2)), (9, .one (.ro I))], [.box [.ro I, .ro LQII], .box [.nilsl, .nilsl], .sl 27 LI .own]⟩
noncomputable def Zq130_l0_ex : List (Ex × Sh) := [(.exit 0, ⟨[(3, .one (.adr 0 0)), (6, .one (.adr 1 0)), (8, .one (.ref 2))], [.box [.ro I, .ro LQII], .box [.nilsl, .nilsl], .sl 27 LI .own]⟩)]
noncomputable def Zq130_l0 {R : Type} (N : Nat) (k0 : Int → (List (Int × Int)) → (List (List Int)) → Option R) : Nat → Int → Int → (List (List Int)) → Int → Int → (List (Int × Int)) → (List (List Int)) → Option R
 | 0, _, _, _, _, _, _, _ => none
 | K + 1, x4, x5, x6, x7, o3, o4, o5 =>
 (br (ilt x7 (tLen x6))
 ((chk (inb x6 x7)
 ((Zq122 N x4 (tLen (rdL x6 x7)) x5).bind fun r2 =>
 (br r2.1.1
 ((chk (inb x6 x7)
 (chk (room o5 [(rdL x6 x7)])
 (Zq130_l0 N k0 K x4 x5 x6 (IntKind.i64.wrap (x7 + 1)) o3 o4 (tApp o5 [(rdL x6 x7)])))))
 (Zq130_l0 N k0 K x4 x5 x6 (IntKind.i64.wrap (x7 + 1)) o3 o4 o5)))))
 (k0 o3 o4 o5))
noncomputable def Zq130_l0_again {R : Type} (N : Nat) (ks : KS Zq130_l0_ex R) (k : Nat) (x : Zq130_l0_sh.T) : Option R :=
 Zq130_l0 N (fun y0 y1 y2 => ks 0 (((), (), (), ()), ((y0, y1, ()), ((), (), ()), y2, ()))) k x.1.1 x.1.2.1 x.1.2.2.2.2.1 x.1.2.2.2.2.2.2.1 x.2.1.1 x.2.1.2.1 x.2.2.2.1
noncomputable def Zq130_l0_s (N : Nat) : LSum := ⟨Zq130_l0_sh, Zq130_l0_ex, fun x ks => Zq130_l0_again N ks N x⟩
theorem Zq130_l0_ok (N : Nat) : LoopOk Tryz.prog Tryz.f112.ntmps (Zq130_l0_s N) (loopAt Zq130_code 0) := loopQ (sh := Zq130_l0_sh) (ex := Zq130_l0_ex) (N := N) (L := []) (fun R k x ks => Zq130_l0_again N ks k x) (Zq130_gok N) (fun _ _ _ => rfl) (fun R k x ks => by kernel_rfl) trivial (by kernel_rfl)
noncomputable def Zq130_l1_0_sh : Sh := ⟨[(3, .one (.adr 0 0)), (6, .one (.adr 1 0)), (10, .one (.adr 2 0)), (11, .one (.ro I)), (12, .one (.ro I))], [.box [.ro I, .ro LQII], .box [.nilsl, .nilsl], .box [.ro LLI, .ref 3], .sl 90 QII .own]⟩
noncomputable def Zq130_l1_0_ex : List (Ex × Sh) := [(.exit 4, ⟨[(3, .one (.adr 0 0)), (6, .one (.adr 1 0)), (10, .one (.adr 2 0)), (11, .one (.ro I))], [.box [.ro I, .ro LQII], .box [.nilsl, .nilsl], .box [.ro LLI, .ref 3], .sl 90 QII .own]⟩)]
noncomputable def Zq130_l1_0 {R : Type} (N : Nat) (k0 : Int → Int → (List (Int × Int)) → (List (List Int)) → (List (Int × Int)) → Option R) : Nat → Int → Int → Int → (List (Int × Int)) → (List (List Int)) → (List (Int × Int)) → Option R
 | 0, _, _, _, _, _, _ => none
 | K + 1, x5, x6, o10, o11, o12, o13 =>
 (br (ilt x6 o10)
 ((chk (inb o12 x5)
 ((Zq132 N (rdL o12 x5) x6).bind fun r3 =>
 ((Zq111 N (o12, o13) r3.1.1).bind fun r4 =>
 (br (ilt x5 r4.1.1)
 (((Zq115 N o13 (x5, r4.1.1)).bind fun r5 =>
 Zq130_l1_0 N k0 K x5 (IntKind.i64.wrap (x6 + 1)) o10 o11 o12 r5.1.1))
 (Zq130_l1_0 N k0 K x5 (IntKind.i64.wrap (x6 + 1)) o10 o11 o12 o13))))))
 (k0 x5 o10 o11 o12 o13))
noncomputable def Zq130_l1_0_again {R : Type} (N : Nat) (ks : KS Zq130_l1_0_ex R) (k : Nat) (x : Zq130_l1_0_sh.T) : Option R :=
 Zq130_l1_0 N (fun y0 y1 y2 y3 y4 => ks 0 (((), (), (), y0, ()), ((y1, y2, ()), ((), (), ()), (y3, (), ()), y4, ()))) k x.1.2.2.2.1 x.1.2.2.2.2.1 x.2.1.1 x.2.1.2.1 x.2.2.2.1.1 x.2.2.2.2.1
noncomputable def Zq130_l1_0_s (N : Nat) : LSum := ⟨Zq130_l1_0_sh, Zq130_l1_0_ex, fun x ks => Zq130_l1_0_again N ks N x⟩
theorem Zq130_l1_0_ok (N : Nat) : LoopOk Tryz.prog Tryz.f112.ntmps (Zq130_l1_0_s N) (loopAt (loopAt Zq130_code 1) 0) := loopQ (sh := Zq130_l1_0_sh) (ex := Zq130_l1_0_ex) (N := N) (L := []) (fun R k x ks => Zq130_l1_0_again N ks k x) (Zq130_gok N) (fun _ _ _ => rfl) (fun R k x ks => by kernel_rfl) trivial (by kernel_rfl)
noncomputable def Zq130_l1_sh : Sh := ⟨[(3, .one (.adr 0 0)), (6, .one (.adr 1 0)), (10, .one (.adr 2 0)), (11, .one (.ro I))], [.box [.ro I, .ro LQII], .box [.nilsl, .nilsl], .box [.ro LLI, .ref 3], .sl 90 QII .own]⟩
noncomputable def Zq130_l1_ex : List (Ex × Sh) := [(.exit 2, ⟨[(6, .one (.adr 0 0)), (10, .one (.adr 1 0))], [.box [.nilsl, .nilsl], .box [.ro LLI, .ref 2], .sl 90 QII .own]⟩)]
noncomputable def Zq130_l1 {R : Type} (N : Nat) (k0 : (List (List Int)) → (List (Int × Int)) → Option R) : Nat → Int → Int → (List (Int × Int)) → (List (List Int)) → (List (Int × Int)) → Option R
 | 0, _, _, _, _, _ => none
 | K + 1, x4, o6, o7, o8, o9 =>
 (br (ilt x4 (tLen o8))
 (Zq130_l1_0 N (fun x5 o10 o11 o12 o13 => Zq130_l1 N k0 K (IntKind.i64.wrap (x5 + 1)) o10 o11 o12 o13) N x4 0 o6 o7 o8 o9)
 (k0 o8 o9))
noncomputable def Zq130_l1_again {R : Type} (N : Nat) (ks : KS Zq130_l1_ex R) (k : Nat) (x : Zq130_l1_sh.T) : Option R :=
 Zq130_l1 N (fun y0 y1 => ks 0 (((), (), ()), (((), (), ()), (y0, (), ()), y1, ()))) k x.1.2.2.2.1 x.2.1.1 x.2.1.2.1 x.2.2.2.1.1 x.2.2.2.2.1
noncomputable def Zq130_l1_s (N : Nat) : LSum := ⟨Zq130_l1_sh, Zq130_l1_ex, fun x ks => Zq130_l1_again N ks N x⟩
theorem Zq130_l1_ok (N : Nat) : LoopOk Tryz.prog Tryz.f112.ntmps (Zq130_l1_s N) (loopAt Zq130_code 1) := loopQ (sh := Zq130_l1_sh) (ex := Zq130_l1_ex) (N := N) (L := [Zq130_l1_0_s N]) (fun R k x ks => Zq130_l1_again N ks k x) (Zq130_gok N) (fun _ _ _ => rfl) (fun R k x ks => by kernel_rfl) ⟨Zq130_l1_0_ok N, trivial⟩ (by kernel_rfl)
noncomputable def Zq130 (N : Nat) (c : (Int × (List (Int × Int)))) (c1 : Int) (c2 : Int) : Option ((((List (List Int)) × (List (Int × Int))) × Unit) × (Unit)) :=
 ((Zq129 N (c.1, c.2) c1).bind fun r =>
 Zq130_l0 N (fun o3 o4 o5 => ((Zq117 N o5).bind fun r2 =>
 Zq130_l1 N (fun o6 o7 => some (((o6, o7), ()), ())) N 0 o3 o4 r2.1.1 [])) N c1 c2 r.1.1 0 c.1 c.2 [])
noncomputable def Zq130_S (N : Nat) : FSum := ⟨Zq130_ps, Zq130_rs, fun x => Zq130 N x.1 x.2.1 x.2.2.1⟩
theorem Zq130_pc (N : Nat) : PC Tryz.prog 112 (Zq130_S N) := pcQ (L := [Zq130_l0_s N, Zq130_l1_s N]) (Zq130_gok N) Tryz.call112 Tryz.func112 (fun x => by kernel_rfl) ⟨Zq130_l0_ok N, Zq130_l1_ok N, trivial⟩ (by kernel_rfl)

abbrev Zq112_ps : List (PV.Mode × Ty) := [(.ro, QLLILQII)]
abbrev Zq112_rs : List (Bool × Ty) := [(true, LLI)]
noncomputable def Zq112_G (N : Nat) : GTab := gOf []
theorem Zq112_gok (N : Nat) : GOk Tryz.prog (Zq112_G N) := gOf_ok trivial
noncomputable def Zq112_code : Code := (Tryz.f143.body).getD .skip
noncomputable def Zq112_l0_sh : Sh := ⟨[(1, .one (.adr 0 0)), (3, .one (.ref 1)), (4, .one (.ro I))], [.box [.ro LLI, .ro LQII], .sl 27 LI .deep]⟩
noncomputable def Zq112_l0_ex : List (Ex × Sh) := [(.exit 0, ⟨[(1, .one (.adr 0 0)), (3, .one (.ref 1))], [.box [.ro LLI, .ro LQII], .sl 27 LI .deep]⟩)]
noncomputable def Zq112_l0 {R : Type} (N : Nat) (k0 : (List (List Int)) → (List (Int × Int)) → (List (List Int)) → Option R) : Nat → Int → (List (List Int)) → (List (Int × Int)) → (List (List Int)) → Option R
 | 0, _, _, _, _ => none
 | K + 1, x, o, o1, o2 =>
 (br (ilt x (tLen o1))
 ((chk (inb o1 x)
 (chk (inb o1 x)
 (chk (inb o2 ((rdP o1 x).2))
 (chk (room (rdL o2 ((rdP o1 x).2)) [(rdP o1 x).1])
 (chk (inb o2 ((rdP o1 x).2))
 (chk (ieq ((rdP o1 x).2) ((rdP o1 x).2))
 (Zq112_l0 N k0 K (IntKind.i64.wrap (x + 1)) o o1 (tSet o2 ((rdP o1 x).2) (tApp (rdL o2 ((rdP o1 x).2)) [(rdP o1 x).1]))))))))))
 (k0 o o1 o2))
noncomputable def Zq112_l0_again {R : Type} (N : Nat) (ks : KS Zq112_l0_ex R) (k : Nat) (x : Zq112_l0_sh.T) : Option R :=
 Zq112_l0 N (fun y0 y1 y2 => ks 0 (((), (), ()), ((y0, y1, ()), y2, ()))) k x.1.2.2.1 x.2.1.1 x.2.1.2.1 x.2.2.1
noncomputable def Zq112_l0_s (N : Nat) : LSum := ⟨Zq112_l0_sh, Zq112_l0_ex, fun x ks => Zq112_l0_again N ks N x⟩
theorem Zq112_l0_ok (N : Nat) : LoopOk Tryz.prog Tryz.f143.ntmps (Zq112_l0_s N) (loopAt Zq112_code 0) := loopQ (sh := Zq112_l0_sh) (ex := Zq112_l0_ex) (N := N) (L := []) (fun R k x ks => Zq112_l0_again N ks k x) (Zq112_gok N) (fun _ _ _ => rfl) (fun R k x ks => by kernel_rfl) trivial (by kernel_rfl)
noncomputable def Zq112_l1_sh : Sh := ⟨[(1, .one (.adr 0 0)), (3, .one (.ref 1)), (7, .one (.ro I))], [.box [.ro LLI, .ro LQII], .sl 27 LI .deep]⟩
noncomputable def Zq112_l1_ex : List (Ex × Sh) := [(.exit 2, ⟨[(3, .one (.ref 0))], [.sl 27 LI .deep]⟩)]
noncomputable def Zq112_l1 {R : Type} (N : Nat) (k0 : (List (List Int)) → Option R) : Nat → Int → (List (List Int)) → (List (Int × Int)) → (List (List Int)) → Option R
 | 0, _, _, _, _ => none
 | K + 1, x, o3, o4, o5 =>
 (br (ilt x (tLen o4))
 ((chk (inb o4 x)
 (chk (inb o4 x)
 (chk (inb o5 ((rdP o4 x).1))
 (chk (room (rdL o5 ((rdP o4 x).1)) [(rdP o4 x).2])
 (chk (inb o5 ((rdP o4 x).1))
 (chk (ieq ((rdP o4 x).1) ((rdP o4 x).1))
 (Zq112_l1 N k0 K (IntKind.i64.wrap (x + 1)) o3 o4 (tSet o5 ((rdP o4 x).1) (tApp (rdL o5 ((rdP o4 x).1)) [(rdP o4 x).2]))))))))))
 (k0 o5))
noncomputable def Zq112_l1_again {R : Type} (N : Nat) (ks : KS Zq112_l1_ex R) (k : Nat) (x : Zq112_l1_sh.T) : Option R :=
 Zq112_l1 N (fun y0 => ks 0 (((), ()), (y0, ()))) k x.1.2.2.1 x.2.1.1 x.2.1.2.1 x.2.2.1
noncomputable def Zq112_l1_s (N : Nat) : LSum := ⟨Zq112_l1_sh, Zq112_l1_ex, fun x ks => Zq112_l1_again N ks N x⟩
theorem Zq112_l1_ok (N : Nat) : LoopOk Tryz.prog Tryz.f143.ntmps (Zq112_l1_s N) (loopAt Zq112_code 1) := loopQ (sh := Zq112_l1_sh) (ex := Zq112_l1_ex) (N := N) (L := []) (fun R k x ks => Zq112_l1_again N ks k x) (Zq112_gok N) (fun _ _ _ => rfl) (fun R k x ks => by kernel_rfl) trivial (by kernel_rfl)
noncomputable def Zq112 (N : Nat) (c : ((List (List Int)) × (List (Int × Int)))) : Option (((List (List Int)) × Unit) × (Unit)) :=
 (chk (ile 0 (tLen c.1) && ile (tLen c.1) (tLen c.1) && fits (tLen c.1))
 (Zq112_l0 N (fun o o1 o2 => Zq112_l1 N (fun o3 => some ((o3, ()), ())) N 0 o o1 o2) N 0 c.1 c.2 (tRep (tLen c.1) [])))
noncomputable def Zq112_S (N : Nat) : FSum := ⟨Zq112_ps, Zq112_rs, fun x => Zq112 N x.1⟩
theorem Zq112_pc (N : Nat) : PC Tryz.prog 143 (Zq112_S N) := pcQ (L := [Zq112_l0_s N, Zq112_l1_s N]) (Zq112_gok N) Tryz.call143 Tryz.func143 (fun x => by kernel_rfl) ⟨Zq112_l0_ok N, Zq112_l1_ok N, trivial⟩ (by kernel_rfl)

abbrev Zq118_ps : List (PV.Mode × Ty) := [(.ro, LLI), (.ro, I)]
abbrev Zq118_rs : List (Bool × Ty) := [(true, LI)]
noncomputable def Zq118_G (N : Nat) : GTab := gOf []
theorem Zq118_gok (N : Nat) : GOk Tryz.prog (Zq118_G N) := gOf_ok trivial
noncomputable def Zq118_code : Code := (Tryz.f144.body).getD .skip
noncomputable def Zq118_l0_sh : Sh := ⟨[(0, .one (.ro LLI)), (1, .one (.ro I)), (5, .one (.ref 0)), (6, .one (.ro I))], [.sl 3 I .own]⟩
noncomputable def Zq118_l0_ex : List (Ex × Sh) := [(.exit 0, ⟨[(0, .one (.ro LLI)), (1, .one (.ro I)), (5, .one (.ref 0))], [.sl 3 I .own]⟩)]
noncomputable def Zq118_l0 {R : Type} (N : Nat) (k0 : (List (List Int)) → Int → (List Int) → Option R) : Nat → (List (List Int)) → Int → Int → (List Int) → Option R
 | 0, _, _, _, _ => none
 | K + 1, x, x1, x2, o =>
 (br (ilt x2 (tLen o))
 ((chk (inb o x2)
 (Zq118_l0 N k0 K x x1 (IntKind.i64.wrap (x2 + 1)) (tSet o x2 (-1)))))
 (k0 x x1 o))
noncomputable def Zq118_l0_again {R : Type} (N : Nat) (ks : KS Zq118_l0_ex R) (k : Nat) (x : Zq118_l0_sh.T) : Option R :=
 Zq118_l0 N (fun y0 y1 y2 => ks 0 ((y0, y1, (), ()), (y2, ()))) k x.1.1 x.1.2.1 x.1.2.2.2.1 x.2.1
noncomputable def Zq118_l0_s (N : Nat) : LSum := ⟨Zq118_l0_sh, Zq118_l0_ex, fun x ks => Zq118_l0_again N ks N x⟩
theorem Zq118_l0_ok (N : Nat) : LoopOk Tryz.prog Tryz.f144.ntmps (Zq118_l0_s N) (loopAt Zq118_code 0) := loopQ (sh := Zq118_l0_sh) (ex := Zq118_l0_ex) (N := N) (L := []) (fun R k x ks => Zq118_l0_again N ks k x) (Zq118_gok N) (fun _ _ _ => rfl) (fun R k x ks => by kernel_rfl) trivial (by kernel_rfl)
noncomputable def Zq118_l1_0_sh : Sh := ⟨[(0, .one (.ro LLI)), (5, .one (.ref 0)), (7, .one (.ref 1)), (8, .one (.ro I)), (9, .one (.ro LI)), (10, .one (.ro I))], [.sl 3 I .own, .sl 3 I .own]⟩
noncomputable def Zq118_l1_0_ex : List (Ex × Sh) := [(.exit 4, ⟨[(0, .one (.ro LLI)), (5, .one (.ref 0)), (7, .one (.ref 1)), (8, .one (.ro I))], [.sl 3 I .own, .sl 3 I .own]⟩)]
noncomputable def Zq118_l1_0 {R : Type} (N : Nat) (k0 : (List (List Int)) → Int → (List Int) → (List Int) → Option R) : Nat → (List (List Int)) → Int → (List Int) → Int → (List Int) → (List Int) → Option R
 | 0, _, _, _, _, _, _ => none
 | K + 1, x4, x5, x6, x7, o3, o4 =>
 (br (ilt x7 (tLen x6))
 ((chk (inb x6 x7)
 (chk (inb o3 (rdI x6 x7))
 (br (ilt (rdI o3 (rdI x6 x7)) 0)
 ((chk (inb x6 x7)
 (chk (inb o4 x5)
 (chk (inb o3 (rdI o4 x5))
 (chk (inb o3 (rdI x6 x7))
 (chk (inb x6 x7)
 (chk (room o4 [(rdI x6 x7)])
 (Zq118_l1_0 N k0 K x4 x5 x6 (IntKind.i64.wrap (x7 + 1)) (tSet o3 (rdI x6 x7) (IntKind.i64.wrap ((rdI o3 (rdI o4 x5)) + 1))) (tApp o4 [(rdI x6 x7)])))))))))
 (Zq118_l1_0 N k0 K x4 x5 x6 (IntKind.i64.wrap (x7 + 1)) o3 o4)))))
 (k0 x4 x5 o3 o4))
noncomputable def Zq118_l1_0_again {R : Type} (N : Nat) (ks : KS Zq118_l1_0_ex R) (k : Nat) (x : Zq118_l1_0_sh.T) : Option R :=
 Zq118_l1_0 N (fun y0 y1 y2 y3 => ks 0 ((y0, (), (), y1, ()), (y2, y3, ()))) k x.1.1 x.1.2.2.2.1 x.1.2.2.2.2.1 x.1.2.2.2.2.2.1 x.2.1 x.2.2.1
noncomputable def Zq118_l1_0_s (N : Nat) : LSum := ⟨Zq118_l1_0_sh, Zq118_l1_0_ex, fun x ks => Zq118_l1_0_again N ks N x⟩
theorem Zq118_l1_0_ok (N : Nat) : LoopOk Tryz.prog Tryz.f144.ntmps (Zq118_l1_0_s N) (loopAt (loopAt Zq118_code 1) 0) := loopQ (sh := Zq118_l1_0_sh) (ex := Zq118_l1_0_ex) (N := N) (L := []) (fun R k x ks => Zq118_l1_0_again N ks k x) (Zq118_gok N) (fun _ _ _ => rfl) (fun R k x ks => by kernel_rfl) trivial (by kernel_rfl)
noncomputable def Zq118_l1_sh : Sh := ⟨[(0, .one (.ro LLI)), (5, .one (.ref 0)), (7, .one (.ref 1)), (8, .one (.ro I))], [.sl 3 I .own, .sl 3 I .own]⟩
noncomputable def Zq118_l1_ex : List (Ex × Sh) := [(.exit 2, ⟨[(5, .one (.ref 0))], [.sl 3 I .own]⟩)]
noncomputable def Zq118_l1 {R : Type} (N : Nat) (k0 : (List Int) → Option R) : Nat → (List (List Int)) → Int → (List Int) → (List Int) → Option R
 | 0, _, _, _, _ => none
 | K + 1, x2, x3, o1, o2 =>
 (br (ilt x3 (tLen o2))
 ((chk (inb o2 x3)
 (chk (inb x2 (rdI o2 x3))
 (Zq118_l1_0 N (fun x4 x5 o3 o4 => Zq118_l1 N k0 K x4 (IntKind.i64.wrap (x5 + 1)) o3 o4) N x2 x3 (rdL x2 (rdI o2 x3)) 0 o1 o2))))
 (k0 o1))
noncomputable def Zq118_l1_again {R : Type} (N : Nat) (ks : KS Zq118_l1_ex R) (k : Nat) (x : Zq118_l1_sh.T) : Option R :=
 Zq118_l1 N (fun y0 => ks 0 (((), ()), (y0, ()))) k x.1.1 x.1.2.2.2.1 x.2.1 x.2.2.1
noncomputable def Zq118_l1_s (N : Nat) : LSum := ⟨Zq118_l1_sh, Zq118_l1_ex, fun x ks => Zq118_l1_again N ks N x⟩
theorem Zq118_l1_ok (N : Nat) : LoopOk Tryz.prog Tryz.f144.ntmps (Zq118_l1_s N) (loopAt Zq118_code 1) := loopQ (sh := Zq118_l1_sh) (ex := Zq118_l1_ex) (N := N) (L := [Zq118_l1_0_s N]) (fun R k x ks => Zq118_l1_again N ks k x) (Zq118_gok N) (fun _ _ _ => rfl) (fun R k x ks => by kernel_rfl) ⟨Zq118_l1_0_ok N, trivial⟩ (by kernel_rfl)
noncomputable def Zq118 (N : Nat) (c : (List (List Int))) (c1 : Int) : Option (((List Int) × Unit) × (Unit)) :=
 (chk (ile 0 (tLen c) && ile (tLen c) (tLen c) && fits (tLen c))
 (Zq118_l0 N (fun x x1 o => (chk (inb o x1)
 (Zq118_l1 N (fun o1 => some ((o1, ()), ())) N x 0 (tSet o x1 0) [x1]))) N c c1 0 (tRep (tLen c) (0 : Int))))
noncomputable def Zq118_S (N : Nat) : FSum := ⟨Zq118_ps, Zq118_rs, fun x => Zq118 N x.1 x.2.1⟩
theorem Zq118_pc (N : Nat) : PC Tryz.prog 144 (Zq118_S N) := pcQ (L := [Zq118_l0_s N, Zq118_l1_s N]) (Zq118_gok N) Tryz.call144 Tryz.func144 (fun x => by kernel_rfl) ⟨Zq118_l0_ok N, Zq118_l1_ok N, trivial⟩ (by kernel_rfl)

abbrev Zq119_ps : List (PV.Mode × Ty) := [(.ro, QLLILQII), (.ro, I), (.ro, I)]
abbrev Zq119_rs : List (Bool × Ty) := [(true, LI)]
noncomputable def Zq119_G (N : Nat) : GTab := gOf [(143, Zq112_S N), (144, Zq118_S N)]
theorem Zq119_gok (N : Nat) : GOk Tryz.prog (Zq119_G N) := gOf_ok ⟨Zq112_pc N, Zq118_pc N, trivial⟩
noncomputable def Zq119_code : Code := (Tryz.f90.body).getD .skip
noncomputable def Zq119_l0_0_sh : Sh := ⟨[(1, .one (.ro I)), (2, .one (.ro I)), (7, .one (.ref 0)), (8, .one (.ref 1)), (9, .one (.ref 2)), (10, .one (.ro I))], [.sl 27 LI .deep, .sl 3 I .own, .sl 3 I .own]⟩
noncomputable def Zq119_l0_0_ex : List (Ex × Sh) := [(.exit 2, ⟨[(1, .one (.ro I)), (2, .one (.ro I)), (7, .one (.ref 0)), (8, .one (.ref 1)), (9, .one (.ref 2)), (10, .one (.ro I))], [.sl 27 LI .deep, .sl 3 I .own, .sl 3 I .own]⟩)]
noncomputable def Zq119_l0_0 {R : Type} (N : Nat) (k0 : Int → Int → Int → (List (List Int)) → (List Int) → (List Int) → Option R) : Nat → Int → Int → Int → (List (List Int)) → (List Int) → (List Int) → Option R
 | 0, _, _, _, _, _, _ => none
 | K + 1, i2, j2, kv, o3, o4, o5 =>
 (chk (inb o3 i2)
 (chk (inb (rdL o3 i2) kv)
 (chk (inb o4 (rdI (rdL o3 i2) kv))
 (chk (inb o4 i2)
 (br (ine (rdI o4 (rdI (rdL o3 i2) kv)) (IntKind.i64.wrap ((rdI o4 i2) - 1)))
 (Zq119_l0_0 N k0 K i2 j2 (IntKind.i64.wrap (kv + 1)) o3 o4 o5)
 (k0 i2 j2 kv o3 o4 o5))))))
noncomputable def Zq119_l0_0_again {R : Type} (N : Nat) (ks : KS Zq119_l0_0_ex R) (k : Nat) (x : Zq119_l0_0_sh.T) : Option R :=
 Zq119_l0_0 N (fun y0 y1 y2 y3 y4 y5 => ks 0 ((y0, y1, (), (), (), y2, ()), (y3, y4, y5, ()))) k x.1.1 x.1.2.1 x.1.2.2.2.2.2.1 x.2.1 x.2.2.1 x.2.2.2.1
noncomputable def Zq119_l0_0_s (N : Nat) : LSum := ⟨Zq119_l0_0_sh, Zq119_l0_0_ex, fun x ks => Zq119_l0_0_again N ks N x⟩
theorem Zq119_l0_0_ok (N : Nat) : LoopOk Tryz.prog Tryz.f90.ntmps (Zq119_l0_0_s N) (loopAt (loopAt Zq119_code 0) 0) := loopQ (sh := Zq119_l0_0_sh) (ex := Zq119_l0_0_ex) (N := N) (L := []) (fun R k x ks => Zq119_l0_0_again N ks k x) (Zq119_gok N) (fun _ _ _ => rfl) (fun R k x ks => by kernel_rfl) trivial (by kernel_rfl)
noncomputable def Zq119_l0_sh : Sh := ⟨[(1, .one (.ro I)), (2, .one (.ro I)), (7, .one (.ref 0)), (8, .one (.ref 1)), (9, .one (.ref 2))], [.sl 27 LI .deep, .sl 3 I .own, .sl 3 I .own]⟩
noncomputable def Zq119_l0_ex : List (Ex × Sh) := [(.exit 0, ⟨[(9, .one (.ref 0))], [.sl 3 I .own]⟩)]
noncomputable def Zq119_l0 {R : Type} (N : Nat) (k0 : (List Int) → Option R) : Nat → Int → Int → (List (List Int)) → (List Int) → (List Int) → Option R
 | 0, _, _, _, _, _ => none
 | K + 1, i1, j1, o, o1, o2 =>
 (br (ine i1 j1)
 (Zq119_l0_0 N (fun i2 j2 kv o3 o4 o5 => (chk (inb o3 i2)
 (chk (inb (rdL o3 i2) kv)
 (chk (room o5 [(rdI (rdL o3 i2) kv)])
 (Zq119_l0 N k0 K (rdI (rdL o3 i2) kv) j2 o3 o4 (tApp o5 [(rdI (rdL o3 i2) kv)])))))) N i1 j1 0 o o1 o2)
 (k0 o2))
noncomputable def Zq119_l0_again {R : Type} (N : Nat) (ks : KS Zq119_l0_ex R) (k : Nat) (x : Zq119_l0_sh.T) : Option R :=
 Zq119_l0 N (fun y0 => ks 0 (((), ()), (y0, ()))) k x.1.1 x.1.2.1 x.2.1 x.2.2.1 x.2.2.2.1
noncomputable def Zq119_l0_s (N : Nat) : LSum := ⟨Zq119_l0_sh, Zq119_l0_ex, fun x ks => Zq119_l0_again N ks N x⟩
theorem Zq119_l0_ok (N : Nat) : LoopOk Tryz.prog Tryz.f90.ntmps (Zq119_l0_s N) (loopAt Zq119_code 0) := loopQ (sh := Zq119_l0_sh) (ex := Zq119_l0_ex) (N := N) (L := [Zq119_l0_0_s N]) (fun R k x ks => Zq119_l0_again N ks k x) (Zq119_gok N) (fun _ _ _ => rfl) (fun R k x ks => by kernel_rfl) ⟨Zq119_l0_0_ok N, trivial⟩ (by kernel_rfl)
noncomputable def Zq119 (N : Nat) (x : ((List (List Int)) × (List (Int × Int)))) (i : Int) (j : Int) : Option (((List Int) × Unit) × (Unit)) :=
 ((Zq112 N (x.1, x.2)).bind fun r =>
 ((Zq118 N r.1.1 j).bind fun r1 =>
 (chk (inb r1.1.1 i)
 (br (ilt (rdI r1.1.1 i) 0)
 (some (([], ()), ()))
 (Zq119_l0 N (fun o => some ((o, ()), ())) N i j r.1.1 r1.1.1 [i])))))
noncomputable def Zq119_S (N : Nat) : FSum := ⟨Zq119_ps, Zq119_rs, fun x => Zq119 N x.1 x.2.1 x.2.2.1⟩
theorem Zq119_pc (N : Nat) : PC Tryz.prog 90 (Zq119_S N) := pcQ (L := [Zq119_l0_s N]) (Zq119_gok N) Tryz.call90 Tryz.func90 (fun x => by kernel_rfl) ⟨Zq119_l0_ok N, trivial⟩ (by kernel_rfl)

abbrev Zq127_ps : List (PV.Mode × Ty) := [(.ro, QLLILQII), (.ro, LI)]
abbrev Zq127_rs : List (Bool × Ty) := [(true, LLI)]
noncomputable def Zq127_G (N : Nat) : GTab := gOf [(71, Zq102_S N)]
theorem Zq127_gok (N : Nat) : GOk Tryz.prog (Zq127_G N) := gOf_ok ⟨Zq102_pc N, trivial⟩
noncomputable def Zq127_code : Code := (Tryz.f92.body).getD .skip
noncomputable def Zq127_l0_sh : Sh := ⟨[(1, .one (.ro LI)), (2, .one (.adr 0 0)), (5, .one (.ref 1)), (6, .one (.ro I))], [.box [.ro LLI, .ro LQII], .sl 27 LI .deep]⟩
noncomputable def Zq127_l0_ex : List (Ex × Sh) := [(.exit 0, ⟨[(5, .one (.ref 0))], [.sl 27 LI .deep]⟩)]
noncomputable def Zq127_l0 {R : Type} (N : Nat) (k0 : (List (List Int)) → Option R) : Nat → (List Int) → Int → (List (List Int)) → (List (Int × Int)) → (List (List Int)) → Option R
 | 0, _, _, _, _, _ => none
 | K + 1, walk1, i, o, o1, o2 =>
 (br (ilt i (tLen walk1))
 ((chk (inb walk1 i)
 (chk (inb o (rdI walk1 i))
 ((Zq102 N (rdL o (rdI walk1 i))).bind fun r =>
 (chk (room o2 [r.1.1])
 (Zq127_l0 N k0 K walk1 (IntKind.i64.wrap (i + 1)) o o1 (tApp o2 [r.1.1])))))))
 (k0 o2))
noncomputable def Zq127_l0_again {R : Type} (N : Nat) (ks : KS Zq127_l0_ex R) (k : Nat) (x : Zq127_l0_sh.T) : Option R :=
 Zq127_l0 N (fun y0 => ks 0 (((), ()), (y0, ()))) k x.1.1 x.1.2.2.2.1 x.2.1.1 x.2.1.2.1 x.2.2.1
noncomputable def Zq127_l0_s (N : Nat) : LSum := ⟨Zq127_l0_sh, Zq127_l0_ex, fun x ks => Zq127_l0_again N ks N x⟩
theorem Zq127_l0_ok (N : Nat) : LoopOk Tryz.prog Tryz.f92.ntmps (Zq127_l0_s N) (loopAt Zq127_code 0) := loopQ (sh := Zq127_l0_sh) (ex := Zq127_l0_ex) (N := N) (L := []) (fun R k x ks => Zq127_l0_again N ks k x) (Zq127_gok N) (fun _ _ _ => rfl) (fun R k x ks => by kernel_rfl) trivial (by kernel_rfl)
noncomputable def Zq127 (N : Nat) (x : ((List (List Int)) × (List (Int × Int)))) (walk : (List Int)) : Option (((List (List Int)) × Unit) × (Unit)) :=
 Zq127_l0 N (fun o => some ((o, ()), ())) N walk 0 x.1 x.2 []
noncomputable def Zq127_S (N : Nat) : FSum := ⟨Zq127_ps, Zq127_rs, fun x => Zq127 N x.1 x.2.1⟩
theorem Zq127_pc (N : Nat) : PC Tryz.prog 92 (Zq127_S N) := pcQ (L := [Zq127_l0_s N]) (Zq127_gok N) Tryz.call92 Tryz.func92 (fun x => by kernel_rfl) ⟨Zq127_l0_ok N, trivial⟩ (by kernel_rfl)

abbrev Zq121_ps : List (PV.Mode × Ty) := [(.ro, QILQII), (.ro, I), (.ro, LI), (.ro, LI)]
abbrev Zq121_rs : List (Bool × Ty) := [(true, I), (true, LLI)]
noncomputable def Zq121_G (N : Nat) : GTab := gOf [(117, Zq101_S N), (118, Zq100_S N), (112, Zq130_S N), (91, Zq111_S N), (90, Zq119_S N), (92, Zq127_S N)]
theorem Zq121_gok (N : Nat) : GOk Tryz.prog (Zq121_G N) := gOf_ok ⟨Zq101_pc N, Zq100_pc N, Zq130_pc N, Zq111_pc N, Zq119_pc N, Zq127_pc N, trivial⟩
noncomputable def Zq121_code : Code := (Tryz.f116.body).getD .skip
noncomputable def Zq121_l0_sh : Sh := ⟨[(1, .one (.ro I)), (2, .one (.ro LI)), (3, .one (.ro LI)), (4, .one (.adr 0 0)), (10, .one (.ro I)), (11, .one (.ro I))], [.box [.ro I, .ro LQII]]⟩
noncomputable def Zq121_l0_ex : List (Ex × Sh) := [(.ret, ⟨[(8, .one (.ro I)), (9, .one (.ref 0))], [.sl 27 LI .deep]⟩)]
noncomputable def Zq121_l0 {R : Type} (N : Nat) (k0 : Int → (List (List Int)) → Option R) : Nat → Int → (List Int) → (List Int) → Int → Int → Int → (List (Int × Int)) → Option R
 | 0, _, _, _, _, _, _, _ => none
 | K + 1, kind1, a1, b1, kv, byv, o, o1 =>
 ((Zq130 N (o, o1) kind1 kv).bind fun r2 =>
 ((Zq111 N (r2.1.1.1, r2.1.1.2) a1).bind fun r3 =>
 ((Zq111 N (r2.1.1.1, r2.1.1.2) b1).bind fun r4 =>
 ((Zq119 N (r2.1.1.1, r2.1.1.2) r3.1.1 r4.1.1).bind fun r5 =>
 (br (ilt 0 (tLen r5.1.1))
 (((Zq127 N (r2.1.1.1, r2.1.1.2) r5.1.1).bind fun r6 =>
 k0 kv r6.1.1))
 (Zq121_l0 N k0 K kind1 a1 b1 (IntKind.i64.wrap (kv + byv)) byv o o1))))))
noncomputable def Zq121_l0_again {R : Type} (N : Nat) (ks : KS Zq121_l0_ex R) (k : Nat) (x : Zq121_l0_sh.T) : Option R :=
 Zq121_l0 N (fun y0 y1 => ks 0 ((y0, (), ()), (y1, ()))) k x.1.1 x.1.2.1 x.1.2.2.1 x.1.2.2.2.2.1 x.1.2.2.2.2.2.1 x.2.1.1 x.2.1.2.1
noncomputable def Zq121_l0_s (N : Nat) : LSum := ⟨Zq121_l0_sh, Zq121_l0_ex, fun x ks => Zq121_l0_again N ks N x⟩
theorem Zq121_l0_ok (N : Nat) : LoopOk Tryz.prog Tryz.f116.ntmps (Zq121_l0_s N) (loopAt Zq121_code 0) := loopQ (sh := Zq121_l0_sh) (ex := Zq121_l0_ex) (N := N) (L := []) (fun R k x ks => Zq121_l0_again N ks k x) (Zq121_gok N) (fun _ _ _ => rfl) (fun R k x ks => by kernel_rfl) trivial (by kernel_rfl)
noncomputable def Zq121 (N : Nat) (g : (Int × (List (Int × Int)))) (kind : Int) (a : (List Int)) (b : (List Int)) : Option ((Int × (List (List Int)) × Unit) × (Unit)) :=
 ((Zq101 N (tLen a) (tLen b)).bind fun r =>
 (br (ieq kind 2)
 (((Zq100 N (tLen a) (tLen b)).bind fun r1 =>
 Zq121_l0 N (fun x o => some ((x, o, ()), ())) N kind a b r1.1.1 (-1) g.1 g.2))
 (Zq121_l0 N (fun x1 o1 => some ((x1, o1, ()), ())) N kind a b r.1.1 1 g.1 g.2)))
noncomputable def Zq121_S (N : Nat) : FSum := ⟨Zq121_ps, Zq121_rs, fun x => Zq121 N x.1 x.2.1 x.2.2.1 x.2.2.2.1⟩
theorem Zq121_pc (N : Nat) : PC Tryz.prog 116 (Zq121_S N) := pcQ (L := [Zq121_l0_s N]) (Zq121_gok N) Tryz.call116 Tryz.func116 (fun x => by kernel_rfl) ⟨Zq121_l0_ok N, trivial⟩ (by kernel_rfl)

abbrev Zq84_ps : List (PV.Mode × Ty) := [(.ro, QILQII), (.ro, I), (.ro, LI), (.ro, LI)]
abbrev Zq84_rs : List (Bool × Ty) := [(true, I), (true, .bool)]
noncomputable def Zq84_G (N : Nat) : GTab := gOf [(61, Zq128_S N), (116, Zq121_S N)]
theorem Zq84_gok (N : Nat) : GOk Tryz.prog (Zq84_G N) := gOf_ok ⟨Zq128_pc N, Zq121_pc N, trivial⟩
noncomputable def Zq84_code : Code := (Tryz.f47.body).getD .skip
noncomputable def Zq84 (N : Nat) (g : (Int × (List (Int × Int)))) (kind : Int) (a : (List Int)) (b : (List Int)) : Option ((Int × Bool × Unit) × (Unit)) :=
 ((Zq128 N (g.1, g.2) kind a).bind fun r =>
 (br (!r.1.1)
 (some ((0, false, ()), ()))
 (((Zq128 N (g.1, g.2) kind b).bind fun r1 =>
 (br (!r1.1.1)
 (some ((0, false, ()), ()))
 (((Zq121 N (g.1, g.2) kind a b).bind fun r2 =>
 some ((r2.1.1, true, ()), ()))))))))
noncomputable def Zq84_S (N : Nat) : FSum := ⟨Zq84_ps, Zq84_rs, fun x => Zq84 N x.1 x.2.1 x.2.2.1 x.2.2.2.1⟩
theorem Zq84_pc (N : Nat) : PC Tryz.prog 47 (Zq84_S N) := pcQ (L := []) (Zq84_gok N) Tryz.call47 Tryz.func47 (fun x => by kernel_rfl) trivial (by kernel_rfl)

abbrev Zq32_ps : List (PV.Mode × Ty) := [(.ro, QILQII), (.ro, I), (.ro, LI), (.ro, LI)]
abbrev Zq32_rs : List (Bool × Ty) := [(true, LLI), (true, .bool)]
noncomputable def Zq32_G (N : Nat) : GTab := gOf [(58, Zq43_S N), (115, Zq14_S N)]
theorem Zq32_gok (N : Nat) : GOk Tryz.prog (Zq32_G N) := gOf_ok ⟨Zq43_pc N, Zq14_pc N, trivial⟩
noncomputable def Zq32_code : Code := (Tryz.f48.body).getD .skip
noncomputable def Zq32 (N : Nat) (g : (Int × (List (Int × Int)))) (kind : Int) (a : (List Int)) (b : (List Int)) : Option (((List (List Int)) × Bool × Unit) × (Unit)) :=
 ((Zq43 N (g.1, g.2) kind a).bind fun r =>
 (br (!r.1.1)
 (some (([], false, ()), ()))
 (((Zq43 N (g.1, g.2) kind b).bind fun r1 =>
 (br (!r1.1.1)
 (some (([], false, ()), ()))
 (((Zq14 N (g.1, g.2) kind a b).bind fun r2 =>
 some ((r2.1.2.1, r2.1.2.2.1, ()), ()))))))))
noncomputable def Zq32_S (N : Nat) : FSum := ⟨Zq32_ps, Zq32_rs, fun x => Zq32 N x.1 x.2.1 x.2.2.1 x.2.2.2.1⟩
theorem Zq32_pc (N : Nat) : PC Tryz.prog 48 (Zq32_S N) := pcQ (L := []) (Zq32_gok N) Tryz.call48 Tryz.func48 (fun x => by kernel_rfl) trivial (by kernel_rfl)

abbrev Zq86_ps : List (PV.Mode × Ty) := [(.ro, QILQII), (.ro, I), (.ro, LI), (.ro, LI)]
abbrev Zq86_rs : List (Bool × Ty) := [(true, LLI), (true, .bool)]
noncomputable def Zq86_G (N : Nat) : GTab := gOf [(61, Zq128_S N), (116, Zq121_S N)]
theorem Zq86_gok (N : Nat) : GOk Tryz.prog (Zq86_G N) := gOf_ok ⟨Zq128_pc N, Zq121_pc N, trivial⟩
noncomputable def Zq86_code : Code := (Tryz.f49.body).getD .skip
noncomputable def Zq86 (N : Nat) (g : (Int × (List (Int × Int)))) (kind : Int) (a : (List Int)) (b : (List Int)) : Option (((List (List Int)) × Bool × Unit) × (Unit)) :=
 ((Zq128 N (g.1, g.2) kind a).bind fun r =>
 (br (!r.1.1)
 (some (([], false, ()), ()))
 (((Zq128 N (g.1, g.2) kind b).bind fun r1 =>
 (br (!r1.1.1)
 (some (([], false, ()), ()))
 (((Zq121 N (g.1, g.2) kind a b).bind fun r2 =>
 some ((r2.1.2.1, true, ()), ()))))))))
noncomputable def Zq86_S (N : Nat) : FSum := ⟨Zq86_ps, Zq86_rs, fun x => Zq86 N x.1 x.2.1 x.2.2.1 x.2.2.2.1⟩
theorem Zq86_pc (N : Nat) : PC Tryz.prog 49 (Zq86_S N) := pcQ (L := []) (Zq86_gok N) Tryz.call49 Tryz.func49 (fun x => by kernel_rfl) trivial (by kernel_rfl)

abbrev Zq57_ps : List (PV.Mode × Ty) := [(.ro, LI), (.ro, LI)]
abbrev Zq57_rs : List (Bool × Ty) := [(true, .bool)]
noncomputable def Zq57_G (N : Nat) : GTab := gOf []
theorem Zq57_gok (N : Nat) : GOk Tryz.prog (Zq57_G N) := gOf_ok trivial
noncomputable def Zq57_code : Code := (Tryz.f14.body).getD .skip
noncomputable def Zq57_l0_sh : Sh := ⟨[(0, .one (.ro LI)), (1, .one (.ro LI)), (5, .one (.ro I))], []⟩
noncomputable def Zq57_l0_ex : List (Ex × Sh) := [(.ret, ⟨[(4, .one (.ro .bool))], []⟩), (.exit 0, ⟨[], []⟩)]
noncomputable def Zq57_l0 {R : Type} (N : Nat) (k0 : Bool → Option R) (k1 : Unit → Option R) : Nat → (List Int) → (List Int) → Int → Option R
 | 0, _, _, _ => none
 | K + 1, a1, b1, i =>
 (br (ilt i (tLen a1))
 ((chk (inb a1 i)
 (chk (inb b1 i)
 (br (ine (rdI a1 i) (rdI b1 i))
 (k0 false)
 (Zq57_l0 N k0 k1 K a1 b1 (IntKind.i64.wrap (i + 1)))))))
 (k1 ()))
noncomputable def Zq57_l0_again {R : Type} (N : Nat) (ks : KS Zq57_l0_ex R) (k : Nat) (x : Zq57_l0_sh.T) : Option R :=
 Zq57_l0 N (fun y0 => ks 0 ((y0, ()), ())) (fun (_ : Unit) => ks 1 ((), ())) k x.1.1 x.1.2.1 x.1.2.2.1
noncomputable def Zq57_l0_s (N : Nat) : LSum := ⟨Zq57_l0_sh, Zq57_l0_ex, fun x ks => Zq57_l0_again N ks N x⟩
theorem Zq57_l0_ok (N : Nat) : LoopOk Tryz.prog Tryz.f14.ntmps (Zq57_l0_s N) (loopAt Zq57_code 0) := loopQ (sh := Zq57_l0_sh) (ex := Zq57_l0_ex) (N := N) (L := []) (fun R k x ks => Zq57_l0_again N ks k x) (Zq57_gok N) (fun _ _ _ => rfl) (fun R k x ks => by kernel_rfl) trivial (by kernel_rfl)
noncomputable def Zq57 (N : Nat) (a : (List Int)) (b : (List Int)) : Option ((Bool × Unit) × (Unit)) :=
 (br (ine (tLen a) (tLen b))
 (some ((false, ()), ()))
 (Zq57_l0 N (fun x => some ((x, ()), ())) (fun (_ : Unit) => some ((true, ()), ())) N a b 0))
noncomputable def Zq57_S (N : Nat) : FSum := ⟨Zq57_ps, Zq57_rs, fun x => Zq57 N x.1 x.2.1⟩
theorem Zq57_pc (N : Nat) : PC Tryz.prog 14 (Zq57_S N) := pcQ (L := [Zq57_l0_s N]) (Zq57_gok N) Tryz.call14 Tryz.func14 (fun x => by kernel_rfl) ⟨Zq57_l0_ok N, trivial⟩ (by kernel_rfl)

abbrev Zq60_ps : List (PV.Mode × Ty) := [(.ro, LLI), (.ro, LLI)]
abbrev Zq60_rs : List (Bool × Ty) := [(true, .bool)]
noncomputable def Zq60_G (N : Nat) : GTab := gOf [(14, Zq57_S N)]
theorem Zq60_gok (N : Nat) : GOk Tryz.prog (Zq60_G N) := gOf_ok ⟨Zq57_pc N, trivial⟩
noncomputable def Zq60_code : Code := (Tryz.f20.body).getD .skip
noncomputable def Zq60_l0_sh : Sh := ⟨[(0, .one (.ro LLI)), (1, .one (.ro LLI)), (5, .one (.ro I))], []⟩
noncomputable def Zq60_l0_ex : List (Ex × Sh) := [(.ret, ⟨[(4, .one (.ro .bool))], []⟩), (.exit 0, ⟨[], []⟩)]
noncomputable def Zq60_l0 {R : Type} (N : Nat) (k0 : Bool → Option R) (k1 : Unit → Option R) : Nat → (List (List Int)) → (List (List Int)) → Int → Option R
 | 0, _, _, _ => none
 | K + 1, a1, b1, i =>
 (br (ilt i (tLen a1))
 ((chk (inb a1 i)
 (chk (inb b1 i)
 ((Zq57 N (rdL a1 i) (rdL b1 i)).bind fun r =>
 (br (!r.1.1)
 (k0 false)
 (Zq60_l0 N k0 k1 K a1 b1 (IntKind.i64.wrap (i + 1))))))))
 (k1 ()))
noncomputable def Zq60_l0_again {R : Type} (N : Nat) (ks : KS Zq60_l0_ex R) (k : Nat) (x : Zq60_l0_sh.T) : Option R :=
 Zq60_l0 N (fun y0 => ks 0 ((y0, ()), ())) (fun (_ : Unit) => ks 1 ((), ())) k x.1.1 x.1.2.1 x.1.2.2.1
noncomputable def Zq60_l0_s (N : Nat) : LSum := ⟨Zq60_l0_sh, Zq60_l0_ex, fun x ks => Zq60_l0_again N ks N x⟩
theorem Zq60_l0_ok (N : Nat) : LoopOk Tryz.prog Tryz.f20.ntmps (Zq60_l0_s N) (loopAt Zq60_code 0) := loopQ (sh := Zq60_l0_sh) (ex := Zq60_l0_ex) (N := N) (L := []) (fun R k x ks => Zq60_l0_again N ks k x) (Zq60_gok N) (fun _ _ _ => rfl) (fun R k x ks => by kernel_rfl) trivial (by kernel_rfl)
noncomputable def Zq60 (N : Nat) (a : (List (List Int))) (b : (List (List Int))) : Option ((Bool × Unit) × (Unit)) :=
 (br (ine (tLen a) (tLen b))
 (some ((false, ()), ()))
 (Zq60_l0 N (fun x => some ((x, ()), ())) (fun (_ : Unit) => some ((true, ()), ())) N a b 0))
noncomputable def Zq60_S (N : Nat) : FSum := ⟨Zq60_ps, Zq60_rs, fun x => Zq60 N x.1 x.2.1⟩
theorem Zq60_pc (N : Nat) : PC Tryz.prog 20 (Zq60_S N) := pcQ (L := [Zq60_l0_s N]) (Zq60_gok N) Tryz.call20 Tryz.func20 (fun x => by kernel_rfl) ⟨Zq60_l0_ok N, trivial⟩ (by kernel_rfl)
end Go.Proofs.YtffeokcchabclaaGreat
