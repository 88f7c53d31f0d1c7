/- Functions of the program as functions on data. -/
import Derived.Test.YtkffaahlpdlkoaaGreatRecolouringFa
set_option linter.all false
namespace Go.Proofs.YtkffaahlpdlkoaaGreat
open Go Go.PV
abbrev Zq0_ps : List (PV.Mode × Ty) := [(.ro, I), (.ro, I)]
abbrev Zq0_rs : List (Bool × Ty) := [(true, I)]
noncomputable def Zq0_G (N : Nat) : GTab := gOf [(167, Zq2_S N)]
theorem Zq0_gok (N : Nat) : GOk Tryz.prog (Zq0_G N) := gOf_ok ⟨Zq2_pc N, trivial⟩
noncomputable def Zq0_code : Code := (Tryz.f140.body).getD .skip
noncomputable def Zq0 (N : Nat) (x : Int) (y : Int) : Option ((Int × Unit) × (Unit)) :=
 ((Zq2 N x).bind fun r =>
 ((Zq2 N y).bind fun r1 =>
 (br r.1.1
 ((br r1.1.1
 (some ((0, ()), ()))
 (some (((-1), ()), ()))))
 ((br r1.1.1
 (some ((1, ()), ()))
 ((br (ilt x y)
 (some (((-1), ()), ()))
 ((br (ilt y x)
 (some ((1, ()), ()))
 (some ((0, ()), ())))))))))))
noncomputable def Zq0_S (N : Nat) : FSum := ⟨Zq0_ps, Zq0_rs, fun x => Zq0 N x.1 x.2.1⟩
theorem Zq0_pc (N : Nat) : PC Tryz.prog 140 (Zq0_S N) := pcQ (L := []) (Zq0_gok N) Tryz.call140 Tryz.func140 (fun x => by kernel_rfl) trivial (by kernel_rfl)

abbrev Zq1_ps : List (PV.Mode × Ty) := [(.ro, LI)]
abbrev Zq1_rs : List (Bool × Ty) := [(true, I)]
noncomputable def Zq1_G (N : Nat) : GTab := gOf []
theorem Zq1_gok (N : Nat) : GOk Tryz.prog (Zq1_G N) := gOf_ok trivial
noncomputable def Zq1_code : Code := (Tryz.f168.body).getD .skip
noncomputable def Zq1_l0_sh : Sh := ⟨[(3, .one (.ro I)), (6, .one (.ro LI)), (7, .one (.ro I)), (8, .one (.ro I))], []⟩
noncomputable def Zq1_l0_ex : List (Ex × Sh) := [(.ret, ⟨[(2, .one (.ro I))], []⟩), (.exit 0, ⟨[(3, .one (.ro I))], []⟩)]
noncomputable def Zq1_l0 {R : Type} (N : Nat) (k0 : Int → Option R) (k1 : Int → Option R) : Nat → Int → (List Int) → Int → Int → Option R
 | 0, _, _, _, _ => none
 | K + 1, zero, x, x1, x2 =>
 (br (ilt x2 x1)
 ((chk (inb x x2)
 (br (ine (rdI x x2) zero)
 (k0 (rdI x x2))
 (Zq1_l0 N k0 k1 K zero x x1 (IntKind.i64.wrap (x2 + 1))))))
 (k1 zero))
noncomputable def Zq1_l0_again {R : Type} (N : Nat) (ks : KS Zq1_l0_ex R) (k : Nat) (x : Zq1_l0_sh.T) : Option R :=
 Zq1_l0 N (fun y0 => ks 0 ((y0, ()), ())) (fun y0 => ks 1 ((y0, ()), ())) k x.1.1 x.1.2.1 x.1.2.2.1 x.1.2.2.2.1
noncomputable def Zq1_l0_s (N : Nat) : LSum := ⟨Zq1_l0_sh, Zq1_l0_ex, fun x ks => Zq1_l0_again N ks N x⟩
theorem Zq1_l0_ok (N : Nat) : LoopOk Tryz.prog Tryz.f168.ntmps (Zq1_l0_s N) (loopAt Zq1_code 0) := loopQ (sh := Zq1_l0_sh) (ex := Zq1_l0_ex) (N := N) (L := []) (fun R k x ks => Zq1_l0_again N ks k x) (Zq1_gok N) (fun _ _ _ => rfl) (fun R k x ks => by kernel_rfl) trivial (by kernel_rfl)
noncomputable def Zq1 (N : Nat) (vals : (List Int)) : Option ((Int × Unit) × (Unit)) :=
 Zq1_l0 N (fun x => some ((x, ()), ())) (fun zero => some ((zero, ()), ())) N 0 vals (tLen vals) 0
noncomputable def Zq1_S (N : Nat) : FSum := ⟨Zq1_ps, Zq1_rs, fun x => Zq1 N x.1⟩
theorem Zq1_pc (N : Nat) : PC Tryz.prog 168 (Zq1_S N) := pcQ (L := [Zq1_l0_s N]) (Zq1_gok N) Tryz.call168 Tryz.func168 (fun x => by kernel_rfl) ⟨Zq1_l0_ok N, trivial⟩ (by kernel_rfl)

abbrev Zq33_ps : List (PV.Mode × Ty) := [(.ro, QII), (.ro, QII)]
abbrev Zq33_rs : List (Bool × Ty) := [(true, I)]
noncomputable def Zq33_G (N : Nat) : GTab := gOf [(140, Zq0_S N), (168, Zq1_S N)]
theorem Zq33_gok (N : Nat) : GOk Tryz.prog (Zq33_G N) := gOf_ok ⟨Zq0_pc N, Zq1_pc N, trivial⟩
noncomputable def Zq33_code : Code := (Tryz.f142.body).getD .skip
noncomputable def Zq33 (N : Nat) (a : (Int × Int)) (b : (Int × Int)) : Option ((Int × Unit) × (Unit)) :=
 ((Zq0 N a.1 b.1).bind fun r =>
 ((Zq0 N a.2 b.2).bind fun r1 =>
 ((Zq1 N [r.1.1, r1.1.1]).bind fun r2 =>
 some ((r2.1.1, ()), ()))))
noncomputable def Zq33_S (N : Nat) : FSum := ⟨Zq33_ps, Zq33_rs, fun x => Zq33 N x.1 x.2.1⟩
theorem Zq33_pc (N : Nat) : PC Tryz.prog 142 (Zq33_S N) := pcQ (L := []) (Zq33_gok N) Tryz.call142 Tryz.func142 (fun x => by kernel_rfl) trivial (by kernel_rfl)

abbrev Zq39_ps : List (PV.Mode × Ty) := [(.ro, LQII), (.ro, I)]
abbrev Zq39_rs : List (Bool × Ty) := [(true, .bool)]
noncomputable def Zq39_G (N : Nat) : GTab := gOf [(142, Zq33_S N)]
theorem Zq39_gok (N : Nat) : GOk Tryz.prog (Zq39_G N) := gOf_ok ⟨Zq33_pc N, trivial⟩
noncomputable def Zq39_code : Code := (Tryz.f104.body).getD .skip
noncomputable def Zq39_l0_sh : Sh := ⟨[(0, .one (.ro LQII)), (1, .one (.ro I)), (7, .one (.ro LQII)), (8, .one (.ro I)), (9, .one (.ro I))], []⟩
noncomputable def Zq39_l0_ex : List (Ex × Sh) := [(.ret, ⟨[(4, .one (.ro .bool))], []⟩), (.exit 0, ⟨[], []⟩)]
noncomputable def Zq39_l0 {R : Type} (N : Nat) (k0 : Bool → Option R) (k1 : Unit → Option R) : Nat → (List (Int × Int)) → Int → (List (Int × Int)) → Int → Int → Option R
 | 0, _, _, _, _, _ => none
 | K + 1, list1, below1, x, x1, x2 =>
 (br (ilt x2 x1)
 ((chk (inb x x2)
 (br (ilt ((rdP x x2).1) 0)
 (k0 false)
 ((br (ile ((rdP x x2).2) ((rdP x x2).1))
 (k0 false)
 ((br (ile below1 ((rdP x x2).2))
 (k0 false)
 ((br (ilt 0 x2)
 ((chk (inb list1 (IntKind.i64.wrap (x2 - 1)))
 ((Zq33 N (rdP list1 (IntKind.i64.wrap (x2 - 1))) ((rdP x x2).1, (rdP x x2).2)).bind fun r =>
 (br (ile 0 r.1.1)
 (k0 false)
 (Zq39_l0 N k0 k1 K list1 below1 x x1 (IntKind.i64.wrap (x2 + 1)))))))
 (Zq39_l0 N k0 k1 K list1 below1 x x1 (IntKind.i64.wrap (x2 + 1))))))))))))
 (k1 ()))
noncomputable def Zq39_l0_again {R : Type} (N : Nat) (ks : KS Zq39_l0_ex R) (k : Nat) (x : Zq39_l0_sh.T) : Option R :=
 Zq39_l0 N (fun y0 => ks 0 ((y0, ()), ())) (fun (_ : Unit) => ks 1 ((), ())) k x.1.1 x.1.2.1 x.1.2.2.1 x.1.2.2.2.1 x.1.2.2.2.2.1
noncomputable def Zq39_l0_s (N : Nat) : LSum := ⟨Zq39_l0_sh, Zq39_l0_ex, fun x ks => Zq39_l0_again N ks N x⟩
theorem Zq39_l0_ok (N : Nat) : LoopOk Tryz.prog Tryz.f104.ntmps (Zq39_l0_s N) (loopAt Zq39_code 0) := loopQ (sh := Zq39_l0_sh) (ex := Zq39_l0_ex) (N := N) (L := []) (fun R k x ks => Zq39_l0_again N ks k x) (Zq39_gok N) (fun _ _ _ => rfl) (fun R k x ks => by kernel_rfl) trivial (by kernel_rfl)
noncomputable def Zq39 (N : Nat) (list : (List (Int × Int))) (below : Int) : Option ((Bool × Unit) × (Unit)) :=
 Zq39_l0 N (fun x => some ((x, ()), ())) (fun (_ : Unit) => some ((true, ()), ())) N list below list (tLen list) 0
noncomputable def Zq39_S (N : Nat) : FSum := ⟨Zq39_ps, Zq39_rs, fun x => Zq39 N x.1 x.2.1⟩
theorem Zq39_pc (N : Nat) : PC Tryz.prog 104 (Zq39_S N) := pcQ (L := [Zq39_l0_s N]) (Zq39_gok N) Tryz.call104 Tryz.func104 (fun x => by kernel_rfl) ⟨Zq39_l0_ok N, trivial⟩ (by kernel_rfl)

abbrev Zq18_ps : List (PV.Mode × Ty) := [(.ro, QILQII)]
abbrev Zq18_rs : List (Bool × Ty) := [(true, .bool)]
noncomputable def Zq18_G (N : Nat) : GTab := gOf [(97, Zq32_S N), (104, Zq39_S N)]
theorem Zq18_gok (N : Nat) : GOk Tryz.prog (Zq18_G N) := gOf_ok ⟨Zq32_pc N, Zq39_pc N, trivial⟩
noncomputable def Zq18_code : Code := (Tryz.f62.body).getD .skip
noncomputable def Zq18 (N : Nat) (g : (Int × (List (Int × Int)))) : Option ((Bool × Unit) × (Unit)) :=
 ((Zq32 N g.1 0 8).bind fun r =>
 (br r.1.1
 (((Zq39 N g.2 g.1).bind fun r1 =>
 some ((r1.1.1, ()), ())))
 (some ((false, ()), ()))))
noncomputable def Zq18_S (N : Nat) : FSum := ⟨Zq18_ps, Zq18_rs, fun x => Zq18 N x.1⟩
theorem Zq18_pc (N : Nat) : PC Tryz.prog 62 (Zq18_S N) := pcQ (L := []) (Zq18_gok N) Tryz.call62 Tryz.func62 (fun x => by kernel_rfl) trivial (by kernel_rfl)

abbrev Zq35_ps : List (PV.Mode × Ty) := [(.ro, QILQII), (.ro, I)]
abbrev Zq35_rs : List (Bool × Ty) := [(true, .bool)]
noncomputable def Zq35_G (N : Nat) : GTab := gOf [(62, Zq18_S N), (97, Zq32_S N)]
theorem Zq35_gok (N : Nat) : GOk Tryz.prog (Zq35_G N) := gOf_ok ⟨Zq18_pc N, Zq32_pc N, trivial⟩
noncomputable def Zq35_code : Code := (Tryz.f86.body).getD .skip
noncomputable def Zq35 (N : Nat) (g : (Int × (List (Int × Int)))) (kv : Int) : Option ((Bool × Unit) × (Unit)) :=
 ((Zq18 N (g.1, g.2)).bind fun r =>
 (br r.1.1
 (((Zq32 N kv 1 5).bind fun r1 =>
 some ((r1.1.1, ()), ())))
 (some ((false, ()), ()))))
noncomputable def Zq35_S (N : Nat) : FSum := ⟨Zq35_ps, Zq35_rs, fun x => Zq35 N x.1 x.2.1⟩
theorem Zq35_pc (N : Nat) : PC Tryz.prog 86 (Zq35_S N) := pcQ (L := []) (Zq35_gok N) Tryz.call86 Tryz.func86 (fun x => by kernel_rfl) trivial (by kernel_rfl)

abbrev Zq57_ps : List (PV.Mode × Ty) := [(.ro, LI)]
abbrev Zq57_rs : List (Bool × Ty) := [(true, LI)]
noncomputable def Zq57_G (N : Nat) : GTab := gOf []
theorem Zq57_gok (N : Nat) : GOk Tryz.prog (Zq57_G N) := gOf_ok trivial
noncomputable def Zq57_code : Code := (Tryz.f122.body).getD .skip
noncomputable def Zq57 (N : Nat) (s : (List Int)) : Option (((List Int) × Unit) × (Unit)) :=
 (br (ieq (tLen s) 0)
 ((amb
 (some (([], ()), ()))
 ((chk (room (α := Int) (β := Int) [] s)
 (some (((tApp [] s), ()), ()))))))
 ((chk (room (α := Int) (β := Int) [] s)
 (some (((tApp [] s), ()), ())))))
noncomputable def Zq57_S (N : Nat) : FSum := ⟨Zq57_ps, Zq57_rs, fun x => Zq57 N x.1⟩
theorem Zq57_pc (N : Nat) : PC Tryz.prog 122 (Zq57_S N) := pcQ (L := []) (Zq57_gok N) Tryz.call122 Tryz.func122 (fun x => by kernel_rfl) trivial (by kernel_rfl)

abbrev Zq42_ps : List (PV.Mode × Ty) := [(.ro, I), (.ro, I)]
abbrev Zq42_rs : List (Bool × Ty) := [(true, QII)]
noncomputable def Zq42_G (N : Nat) : GTab := gOf []
theorem Zq42_gok (N : Nat) : GOk Tryz.prog (Zq42_G N) := gOf_ok trivial
noncomputable def Zq42_code : Code := (Tryz.f135.body).getD .skip
noncomputable def Zq42 (N : Nat) (a : Int) (b : Int) : Option (((Int × Int) × Unit) × (Unit)) :=
 some ((((if b < a then b else a), (if b > a then b else a)), ()), ())
noncomputable def Zq42_S (N : Nat) : FSum := ⟨Zq42_ps, Zq42_rs, fun x => Zq42 N x.1 x.2.1⟩
theorem Zq42_pc (N : Nat) : PC Tryz.prog 135 (Zq42_S N) := pcQ (L := []) (Zq42_gok N) Tryz.call135 Tryz.func135 (fun x => by kernel_rfl) trivial (by kernel_rfl)

abbrev Zq69_ps : List (PV.Mode × Ty) := [(.ro, LQII), (.ro, QII)]
abbrev Zq69_rs : List (Bool × Ty) := [(true, I)]
noncomputable def Zq69_G (N : Nat) : GTab := gOf []
theorem Zq69_gok (N : Nat) : GOk Tryz.prog (Zq69_G N) := gOf_ok trivial
noncomputable def Zq69_code : Code := (Tryz.f156.body).getD .skip
noncomputable def Zq69_l0_sh : Sh := ⟨[(0, .one (.ro LQII)), (3, .one (.adr 0 0)), (7, .one (.ro I)), (8, .one (.ro I))], [.box [.ro I, .ro I]]⟩
noncomputable def Zq69_l0_ex : List (Ex × Sh) := [(.ret, ⟨[(4, .one (.ro I))], []⟩), (.exit 0, ⟨[], []⟩)]
noncomputable def Zq69_l0 {R : Type} (N : Nat) (k0 : Int → Option R) (k1 : Unit → Option R) : Nat → (List (Int × Int)) → Int → Int → Int → Int → Option R
 | 0, _, _, _, _, _ => none
 | K + 1, s1, x, x1, o, o1 =>
 (br (ilt x1 x)
 ((chk (inb s1 x1)
 (br (ieq o ((rdP s1 x1).1) && ieq o1 ((rdP s1 x1).2))
 (k0 x1)
 (Zq69_l0 N k0 k1 K s1 x (IntKind.i64.wrap (x1 + 1)) o o1))))
 (k1 ()))
noncomputable def Zq69_l0_again {R : Type} (N : Nat) (ks : KS Zq69_l0_ex R) (k : Nat) (x : Zq69_l0_sh.T) : Option R :=
 Zq69_l0 N (fun y0 => ks 0 ((y0, ()), ())) (fun (_ : Unit) => ks 1 ((), ())) k x.1.1 x.1.2.2.1 x.1.2.2.2.1 x.2.1.1 x.2.1.2.1
noncomputable def Zq69_l0_s (N : Nat) : LSum := ⟨Zq69_l0_sh, Zq69_l0_ex, fun x ks => Zq69_l0_again N ks N x⟩
theorem Zq69_l0_ok (N : Nat) : LoopOk Tryz.prog Tryz.f156.ntmps (Zq69_l0_s N) (loopAt Zq69_code 0) := loopQ (sh := Zq69_l0_sh) (ex := Zq69_l0_ex) (N := N) (L := []) (fun R k x ks => Zq69_l0_again N ks k x) (Zq69_gok N) (fun _ _ _ => rfl) (fun R k x ks => by kernel_rfl) trivial (by kernel_rfl)
noncomputable def Zq69 (N : Nat) (s : (List (Int × Int))) (v : (Int × Int)) : Option ((Int × Unit) × (Unit)) :=
 Zq69_l0 N (fun x => some ((x, ()), ())) (fun (_ : Unit) => some (((-1), ()), ())) N s (tLen s) 0 v.1 v.2
noncomputable def Zq69_S (N : Nat) : FSum := ⟨Zq69_ps, Zq69_rs, fun x => Zq69 N x.1 x.2.1⟩
theorem Zq69_pc (N : Nat) : PC Tryz.prog 156 (Zq69_S N) := pcQ (L := [Zq69_l0_s N]) (Zq69_gok N) Tryz.call156 Tryz.func156 (fun x => by kernel_rfl) ⟨Zq69_l0_ok N, trivial⟩ (by kernel_rfl)

abbrev Zq63_ps : List (PV.Mode × Ty) := [(.ro, LQII), (.ro, QII)]
abbrev Zq63_rs : List (Bool × Ty) := [(true, .bool)]
noncomputable def Zq63_G (N : Nat) : GTab := gOf [(156, Zq69_S N)]
theorem Zq63_gok (N : Nat) : GOk Tryz.prog (Zq63_G N) := gOf_ok ⟨Zq69_pc N, trivial⟩
noncomputable def Zq63_code : Code := (Tryz.f134.body).getD .skip
noncomputable def Zq63 (N : Nat) (s : (List (Int × Int))) (v : (Int × Int)) : Option ((Bool × Unit) × (Unit)) :=
 ((Zq69 N s (v.1, v.2)).bind fun r =>
 some (((ile 0 r.1.1), ()), ()))
noncomputable def Zq63_S (N : Nat) : FSum := ⟨Zq63_ps, Zq63_rs, fun x => Zq63 N x.1 x.2.1⟩
theorem Zq63_pc (N : Nat) : PC Tryz.prog 134 (Zq63_S N) := pcQ (L := []) (Zq63_gok N) Tryz.call134 Tryz.func134 (fun x => by kernel_rfl) trivial (by kernel_rfl)

abbrev Zq11_ps : List (PV.Mode × Ty) := [(.ro, QILQII), (.ro, I), (.ro, I)]
abbrev Zq11_rs : List (Bool × Ty) := [(true, .bool)]
noncomputable def Zq11_G (N : Nat) : GTab := gOf [(135, Zq42_S N), (134, Zq63_S N)]
theorem Zq11_gok (N : Nat) : GOk Tryz.prog (Zq11_G N) := gOf_ok ⟨Zq42_pc N, Zq63_pc N, trivial⟩
noncomputable def Zq11_code : Code := (Tryz.f98.body).getD .skip
noncomputable def Zq11 (N : Nat) (g : (Int × (List (Int × Int)))) (a : Int) (b : Int) : Option ((Bool × Unit) × (Unit)) :=
 ((Zq42 N a b).bind fun r =>
 ((Zq63 N g.2 (r.1.1.1, r.1.1.2)).bind fun r1 =>
 some ((r1.1.1, ()), ())))
noncomputable def Zq11_S (N : Nat) : FSum := ⟨Zq11_ps, Zq11_rs, fun x => Zq11 N x.1 x.2.1 x.2.2.1⟩
theorem Zq11_pc (N : Nat) : PC Tryz.prog 98 (Zq11_S N) := pcQ (L := []) (Zq11_gok N) Tryz.call98 Tryz.func98 (fun x => by kernel_rfl) trivial (by kernel_rfl)

abbrev Zq16_ps : List (PV.Mode × Ty) := [(.ro, QILQII), (.ro, I)]
abbrev Zq16_rs : List (Bool × Ty) := [(true, LI)]
noncomputable def Zq16_G (N : Nat) : GTab := gOf [(98, Zq11_S N)]
theorem Zq16_gok (N : Nat) : GOk Tryz.prog (Zq16_G N) := gOf_ok ⟨Zq11_pc N, trivial⟩
noncomputable def Zq16_code : Code := (Tryz.f66.body).getD .skip
noncomputable def Zq16_l0_sh : Sh := ⟨[(1, .one (.ro I)), (2, .one (.adr 0 0)), (5, .one (.ref 1)), (9, .one (.ro I)), (10, .one (.ro I))], [.box [.ro I, .ro LQII], .sl 3 I .own]⟩
noncomputable def Zq16_l0_ex : List (Ex × Sh) := [(.exit 0, ⟨[(5, .one (.ref 0))], [.sl 3 I .own]⟩)]
noncomputable def Zq16_l0 {R : Type} (N : Nat) (k0 : (List Int) → Option R) : Nat → Int → Int → Int → Int → (List (Int × Int)) → (List Int) → Option R
 | 0, _, _, _, _, _, _ => none
 | K + 1, x1, x2, x3, o, o1, o2 =>
 (br (ilt x3 x2)
 ((br (ine x3 x1)
 (((Zq11 N (o, o1) x1 x3).bind fun r =>
 (br r.1.1
 ((chk (room o2 [x3])
 (Zq16_l0 N k0 K x1 x2 (IntKind.i64.wrap (x3 + 1)) o o1 (tApp o2 [x3]))))
 (Zq16_l0 N k0 K x1 x2 (IntKind.i64.wrap (x3 + 1)) o o1 o2))))
 (Zq16_l0 N k0 K x1 x2 (IntKind.i64.wrap (x3 + 1)) o o1 o2)))
 (k0 o2))
noncomputable def Zq16_l0_again {R : Type} (N : Nat) (ks : KS Zq16_l0_ex R) (k : Nat) (x : Zq16_l0_sh.T) : Option R :=
 Zq16_l0 N (fun y0 => ks 0 (((), ()), (y0, ()))) k x.1.1 x.1.2.2.2.1 x.1.2.2.2.2.1 x.2.1.1 x.2.1.2.1 x.2.2.1
noncomputable def Zq16_l0_s (N : Nat) : LSum := ⟨Zq16_l0_sh, Zq16_l0_ex, fun x ks => Zq16_l0_again N ks N x⟩
theorem Zq16_l0_ok (N : Nat) : LoopOk Tryz.prog Tryz.f66.ntmps (Zq16_l0_s N) (loopAt Zq16_code 0) := loopQ (sh := Zq16_l0_sh) (ex := Zq16_l0_ex) (N := N) (L := []) (fun R k x ks => Zq16_l0_again N ks k x) (Zq16_gok N) (fun _ _ _ => rfl) (fun R k x ks => by kernel_rfl) trivial (by kernel_rfl)
noncomputable def Zq16 (N : Nat) (g : (Int × (List (Int × Int)))) (x : Int) : Option (((List Int) × Unit) × (Unit)) :=
 Zq16_l0 N (fun o => some ((o, ()), ())) N x g.1 0 g.1 g.2 []
noncomputable def Zq16_S (N : Nat) : FSum := ⟨Zq16_ps, Zq16_rs, fun x => Zq16 N x.1 x.2.1⟩
theorem Zq16_pc (N : Nat) : PC Tryz.prog 66 (Zq16_S N) := pcQ (L := [Zq16_l0_s N]) (Zq16_gok N) Tryz.call66 Tryz.func66 (fun x => by kernel_rfl) ⟨Zq16_l0_ok N, trivial⟩ (by kernel_rfl)

abbrev Zq65_ps : List (PV.Mode × Ty) := [(.ro, LI), (.ro, FIBo)]
abbrev Zq65_rs : List (Bool × Ty) := [(true, I)]
noncomputable def Zq65_G (N : Nat) : GTab := gOf []
theorem Zq65_gok (N : Nat) : GOk Tryz.prog (Zq65_G N) := gOf_ok trivial
noncomputable def Zq65_code : Code := (Tryz.f116.body).getD .skip
noncomputable def Zq65_l0_sh : Sh := ⟨[(0, .one (.ro LI)), (1, .one (.ro FIBo)), (7, .one (.ro I)), (8, .one (.ro I))], []⟩
noncomputable def Zq65_l0_ex : List (Ex × Sh) := [(.ret, ⟨[(4, .one (.ro I))], []⟩), (.exit 0, ⟨[], []⟩)]
noncomputable def Zq65_l0 {R : Type} (N : Nat) (k0 : Int → Option R) (k1 : Unit → Option R) : Nat → (List Int) → (Int → Option Bool) → Int → Int → Option R
 | 0, _, _, _, _ => none
 | K + 1, s1, f1, x, x1 =>
 (br (ilt x1 x)
 ((chk (inb s1 x1)
 ((f1 (rdI s1 x1)).bind fun v =>
 (br v
 (k0 x1)
 (Zq65_l0 N k0 k1 K s1 f1 x (IntKind.i64.wrap (x1 + 1)))))))
 (k1 ()))
noncomputable def Zq65_l0_again {R : Type} (N : Nat) (ks : KS Zq65_l0_ex R) (k : Nat) (x : Zq65_l0_sh.T) : Option R :=
 Zq65_l0 N (fun y0 => ks 0 ((y0, ()), ())) (fun (_ : Unit) => ks 1 ((), ())) k x.1.1 x.1.2.1 x.1.2.2.1 x.1.2.2.2.1
noncomputable def Zq65_l0_s (N : Nat) : LSum := ⟨Zq65_l0_sh, Zq65_l0_ex, fun x ks => Zq65_l0_again N ks N x⟩
theorem Zq65_l0_ok (N : Nat) : LoopOk Tryz.prog Tryz.f116.ntmps (Zq65_l0_s N) (loopAt Zq65_code 0) := loopQ (sh := Zq65_l0_sh) (ex := Zq65_l0_ex) (N := N) (L := []) (fun R k x ks => Zq65_l0_again N ks k x) (Zq65_gok N) (fun _ _ _ => rfl) (fun R k x ks => by kernel_rfl) trivial (by kernel_rfl)
noncomputable def Zq65 (N : Nat) (s : (List Int)) (f : (Int → Option Bool)) : Option ((Int × Unit) × (Unit)) :=
 Zq65_l0 N (fun x => some ((x, ()), ())) (fun (_ : Unit) => some (((-1), ()), ())) N s f (tLen s) 0
noncomputable def Zq65_S (N : Nat) : FSum := ⟨Zq65_ps, Zq65_rs, fun x => Zq65 N x.1 x.2.1⟩
theorem Zq65_pc (N : Nat) : PC Tryz.prog 116 (Zq65_S N) := pcQ (L := [Zq65_l0_s N]) (Zq65_gok N) Tryz.call116 Tryz.func116 (fun x => by kernel_rfl) ⟨Zq65_l0_ok N, trivial⟩ (by kernel_rfl)

abbrev Zq59_ps : List (PV.Mode × Ty) := [(.ro, LI), (.ro, FIBo)]
abbrev Zq59_rs : List (Bool × Ty) := [(true, .bool)]
noncomputable def Zq59_G (N : Nat) : GTab := gOf [(116, Zq65_S N)]
theorem Zq59_gok (N : Nat) : GOk Tryz.prog (Zq59_G N) := gOf_ok ⟨Zq65_pc N, trivial⟩
noncomputable def Zq59_code : Code := (Tryz.f65.body).getD .skip
noncomputable def Zq59 (N : Nat) (s : (List Int)) (f : (Int → Option Bool)) : Option ((Bool × Unit) × (Unit)) :=
 ((Zq65 N s f).bind fun r =>
 some (((ile 0 r.1.1), ()), ()))
noncomputable def Zq59_S (N : Nat) : FSum := ⟨Zq59_ps, Zq59_rs, fun x => Zq59 N x.1 x.2.1⟩
theorem Zq59_pc (N : Nat) : PC Tryz.prog 65 (Zq59_S N) := pcQ (L := []) (Zq59_gok N) Tryz.call65 Tryz.func65 (fun x => by kernel_rfl) trivial (by kernel_rfl)

abbrev Zq10_ps : List (PV.Mode × Ty) := [(.ro, I), (.ro, AI), (.ro, ALI), (.ro, AI)]
abbrev Zq10_rs : List (Bool × Ty) := [(true, .bool)]
noncomputable def Zq10_G (N : Nat) : GTab := gOf []
theorem Zq10_gok (N : Nat) : GOk Tryz.prog (Zq10_G N) := gOf_ok trivial
noncomputable def Zq10_code : Code := (Tryz.f137.body).getD .skip
noncomputable def Zq10 (N : Nat) (y : Int) (c : Int) (c1 : (List Int)) (c2 : Int) : Option ((Bool × Unit) × (Unit)) :=
 (br (ilt y c)
 ((chk (inb c1 y)
 (some (((ieq (rdI c1 y) c2), ()), ()))))
 (some ((false, ()), ())))
noncomputable def Zq10_S (N : Nat) : FSum := ⟨Zq10_ps, Zq10_rs, fun x => Zq10 N x.1 x.2.1 x.2.2.1 x.2.2.2.1⟩
theorem Zq10_pc (N : Nat) : PC Tryz.prog 137 (Zq10_S N) := pcQ (L := []) (Zq10_gok N) Tryz.call137 Tryz.func137 (fun x => by kernel_rfl) trivial (by kernel_rfl)

abbrev Zq9_ps : List (PV.Mode × Ty) := [(.ro, I), (.ro, AQILQII), (.mut, BLLI), (.mut, BLI), (.ro, AI), (.ro, S136)]
abbrev Zq9_rs : List (Bool × Ty) := [(true, .bool)]
noncomputable def Zq9_T (slf : (Int → (Int × (List (Int × Int))) → (List (List Int)) → (List Int) → Int → Unit → Option ((Bool × Unit) × ((List (List Int)) × (List Int) × Unit)))) : FSum := ⟨Zq9_ps, Zq9_rs, fun x => slf x.1 x.2.1 x.2.2.1 x.2.2.2.1 x.2.2.2.2.1 x.2.2.2.2.2.1⟩
noncomputable def Zq9_G (N : Nat) (slf : (Int → (Int × (List (Int × Int))) → (List (List Int)) → (List Int) → Int → Unit → Option ((Bool × Unit) × ((List (List Int)) × (List Int) × Unit)))) : GTab := gOf [(136, Zq9_T slf), (122, Zq57_S N), (66, Zq16_S N), (65, Zq59_S N), (137, Zq10_S N)]
theorem Zq9_gok (N : Nat) (slf : (Int → (Int × (List (Int × Int))) → (List (List Int)) → (List Int) → Int → Unit → Option ((Bool × Unit) × ((List (List Int)) × (List Int) × Unit)))) (hslf : PC Tryz.prog 136 (Zq9_T slf)) : GOk Tryz.prog (Zq9_G N slf) := gOf_ok ⟨hslf, Zq57_pc N, Zq16_pc N, Zq59_pc N, Zq10_pc N, trivial⟩
noncomputable def Zq9_code : Code := (Tryz.f136.body).getD .skip
noncomputable def Zq9_l0_sh : Sh := ⟨[(1, .one (.ro AQILQII)), (2, .one (.adr 0 0)), (3, .one (.adr 1 0)), (5, .one (.sadr 136 [.ro QILQII, .id 0, .id 1, .ro I, .me])), (6, .one (.adr 2 0)), (22, .one (.ro I)), (23, .one (.ro I))], [.mbox LLI, .mbox LI, .box [.ro I]]⟩
noncomputable def Zq9_l0_ex : List (Ex × Sh) := [(.ret, ⟨[(2, .one (.adr 0 0)), (3, .one (.adr 1 0)), (7, .one (.ro .bool))], [.mbox LLI, .mbox LI]⟩), (.exit 0, ⟨[(2, .one (.adr 0 0)), (3, .one (.adr 1 0))], [.mbox LLI, .mbox LI]⟩)]
noncomputable def Zq9_l0 {R : Type} (N : Nat) (slf : (Int → (Int × (List (Int × Int))) → (List (List Int)) → (List Int) → Int → Unit → Option ((Bool × Unit) × ((List (List Int)) × (List Int) × Unit)))) (k0 : Bool → (List (List Int)) → (List Int) → Option R) (k1 : (List (List Int)) → (List Int) → Option R) : Nat → (Int × (List (Int × Int))) → (Int × (List (Int × Int))) → Int → Int → Int → (List (List Int)) → (List Int) → Int → Option R
 | 0, _, _, _, _, _, _, _, _ => none
 | K + 1, x1, x2, x3, x4, x5, o, o1, o2 =>
 (br (ilt x5 x4)
 (((Zq16 N x1 o2).bind fun r1 =>
 ((Zq59 N r1.1.1 (fun y0 => (Zq10 N y0 o2 o1 x5).bind fun z => some z.1.1)).bind fun r2 =>
 (chk (inb o1 o2)
 (br (!r2.1.1)
 (((slf (IntKind.i64.wrap (o2 + 1)) x2 o (tSet o1 o2 x5) x3 ()).bind fun r3 =>
 (br (!r3.1.1)
 (k0 false r3.2.1 r3.2.2.1)
 (Zq9_l0 N slf k0 k1 K x1 x2 x3 x4 (IntKind.i64.wrap (x5 + 1)) r3.2.1 r3.2.2.1 o2))))
 (Zq9_l0 N slf k0 k1 K x1 x2 x3 x4 (IntKind.i64.wrap (x5 + 1)) o (tSet o1 o2 x5) o2))))))
 (k1 o o1))
noncomputable def Zq9_l0_again {R : Type} (N : Nat) (slf : (Int → (Int × (List (Int × Int))) → (List (List Int)) → (List Int) → Int → Unit → Option ((Bool × Unit) × ((List (List Int)) × (List Int) × Unit)))) (ks : KS Zq9_l0_ex R) (k : Nat) (x : Zq9_l0_sh.T) : Option R :=
 Zq9_l0 N slf (fun y0 y1 y2 => ks 0 (((), (), y0, ()), (y1, y2, ()))) (fun y0 y1 => ks 1 (((), (), ()), (y0, y1, ()))) k x.1.1 x.1.2.2.2.1.1 x.1.2.2.2.1.2.2.2.1 x.1.2.2.2.2.2.1 x.1.2.2.2.2.2.2.1 x.2.1 x.2.2.1 x.2.2.2.1.1
noncomputable def Zq9_l0_s (N : Nat) (slf : (Int → (Int × (List (Int × Int))) → (List (List Int)) → (List Int) → Int → Unit → Option ((Bool × Unit) × ((List (List Int)) × (List Int) × Unit)))) : LSum := ⟨Zq9_l0_sh, Zq9_l0_ex, fun x ks => Zq9_l0_again N slf ks N x⟩
theorem Zq9_l0_ok (N : Nat) (slf : (Int → (Int × (List (Int × Int))) → (List (List Int)) → (List Int) → Int → Unit → Option ((Bool × Unit) × ((List (List Int)) × (List Int) × Unit)))) (hslf : PC Tryz.prog 136 (Zq9_T slf)) : LoopOk Tryz.prog Tryz.f136.ntmps (Zq9_l0_s N slf) (loopAt Zq9_code 0) := loopQ (sh := Zq9_l0_sh) (ex := Zq9_l0_ex) (N := N) (L := []) (fun R k x ks => Zq9_l0_again N slf ks k x) (Zq9_gok N slf hslf) (fun _ _ _ => rfl) (fun R k x ks => by kernel_rfl) trivial (by kernel_rfl)
noncomputable def Zq9_b (N : Nat) (slf : (Int → (Int × (List (Int × Int))) → (List (List Int)) → (List Int) → Int → Unit → Option ((Bool × Unit) × ((List (List Int)) × (List Int) × Unit)))) (x : Int) (c : (Int × (List (Int × Int)))) (c1 : (List (List Int))) (c2 : (List Int)) (c3 : Int) (c4 : Unit) : Option ((Bool × Unit) × ((List (List Int)) × (List Int) × Unit)) :=
 (br (ieq x c.1)
 (((Zq57 N c2).bind fun r =>
 (chk (room c1 [r.1.1])
 (some (((ile (tLen (tApp c1 [r.1.1])) 300), ()), ((tApp c1 [r.1.1]), c2, ()))))))
 (Zq9_l0 N slf (fun x1 o o1 => some ((x1, ()), (o, o1, ()))) (fun o2 o3 => some ((true, ()), (o2, o3, ()))) N c c c3 c3 0 c1 c2 x))
theorem Zq9_bpc (N : Nat) (slf : (Int → (Int × (List (Int × Int))) → (List (List Int)) → (List Int) → Int → Unit → Option ((Bool × Unit) × ((List (List Int)) × (List Int) × Unit)))) (hslf : PC Tryz.prog 136 (Zq9_T slf)) : PC Tryz.prog 136 (Zq9_T (Zq9_b N slf)) := pcQ (L := [Zq9_l0_s N slf]) (Zq9_gok N slf hslf) Tryz.call136 Tryz.func136 (fun x => by kernel_rfl) ⟨Zq9_l0_ok N slf hslf, trivial⟩ (by kernel_rfl)
noncomputable def Zq9_r (N : Nat) : Nat → (Int → (Int × (List (Int × Int))) → (List (List Int)) → (List Int) → Int → Unit → Option ((Bool × Unit) × ((List (List Int)) × (List Int) × Unit)))
 | 0 => fun _ _ _ _ _ _ => none
 | K + 1 => Zq9_b N (Zq9_r N K)
theorem Zq9_rpc (N : Nat) : ∀ K, PC Tryz.prog 136 (Zq9_T (Zq9_r N K))
  | 0 => pc_none Tryz.call136
  | K + 1 => Zq9_bpc N (Zq9_r N K) (Zq9_rpc N K)
noncomputable def Zq9 (N : Nat) (x : Int) (c : (Int × (List (Int × Int)))) (c1 : (List (List Int))) (c2 : (List Int)) (c3 : Int) (c4 : Unit) : Option ((Bool × Unit) × ((List (List Int)) × (List Int) × Unit)) := Zq9_r N N x c c1 c2 c3 c4
noncomputable def Zq9_S (N : Nat) : FSum := ⟨Zq9_ps, Zq9_rs, fun x => Zq9 N x.1 x.2.1 x.2.2.1 x.2.2.2.1 x.2.2.2.2.1 x.2.2.2.2.2.1⟩
theorem Zq9_pc (N : Nat) : PC Tryz.prog 136 (Zq9_S N) := Zq9_rpc N N

abbrev Zq8_ps : List (PV.Mode × Ty) := [(.ro, QILQII), (.ro, I)]
abbrev Zq8_rs : List (Bool × Ty) := [(true, LLI), (true, .bool)]
noncomputable def Zq8_G (N : Nat) : GTab := gOf [(136, Zq9_S N)]
theorem Zq8_gok (N : Nat) : GOk Tryz.prog (Zq8_G N) := gOf_ok ⟨Zq9_pc N, trivial⟩
noncomputable def Zq8_code : Code := (Tryz.f100.body).getD .skip
noncomputable def Zq8 (N : Nat) (g : (Int × (List (Int × Int)))) (kv : Int) : Option (((List (List Int)) × Bool × Unit) × (Unit)) :=
 (chk (ile 0 g.1 && ile g.1 g.1 && fits g.1)
 ((Zq9 N 0 (g.1, g.2) [] (tRep g.1 (0 : Int)) kv ()).bind fun r =>
 (br (!r.1.1)
 (some (([], false, ()), ()))
 (some ((r.2.1, true, ()), ())))))
noncomputable def Zq8_S (N : Nat) : FSum := ⟨Zq8_ps, Zq8_rs, fun x => Zq8 N x.1 x.2.1⟩
theorem Zq8_pc (N : Nat) : PC Tryz.prog 100 (Zq8_S N) := pcQ (L := []) (Zq8_gok N) Tryz.call100 Tryz.func100 (fun x => by kernel_rfl) trivial (by kernel_rfl)

abbrev Zq4_ps : List (PV.Mode × Ty) := [(.ro, QILQII), (.ro, I)]
abbrev Zq4_rs : List (Bool × Ty) := [(true, LLI), (true, .bool)]
noncomputable def Zq4_G (N : Nat) : GTab := gOf [(86, Zq35_S N), (100, Zq8_S N)]
theorem Zq4_gok (N : Nat) : GOk Tryz.prog (Zq4_G N) := gOf_ok ⟨Zq35_pc N, Zq8_pc N, trivial⟩
noncomputable def Zq4_code : Code := (Tryz.f48.body).getD .skip
noncomputable def Zq4 (N : Nat) (g : (Int × (List (Int × Int)))) (kv : Int) : Option (((List (List Int)) × Bool × Unit) × (Unit)) :=
 ((Zq35 N (g.1, g.2) kv).bind fun r =>
 (br (!r.1.1)
 (some (([], false, ()), ()))
 (((Zq8 N (g.1, g.2) kv).bind fun r1 =>
 some ((r1.1.1, r1.1.2.1, ()), ())))))
noncomputable def Zq4_S (N : Nat) : FSum := ⟨Zq4_ps, Zq4_rs, fun x => Zq4 N x.1 x.2.1⟩
theorem Zq4_pc (N : Nat) : PC Tryz.prog 48 (Zq4_S N) := pcQ (L := []) (Zq4_gok N) Tryz.call48 Tryz.func48 (fun x => by kernel_rfl) trivial (by kernel_rfl)

abbrev Zq58_ps : List (PV.Mode × Ty) := [(.ro, LI), (.ro, LI)]
abbrev Zq58_rs : List (Bool × Ty) := [(true, I)]
noncomputable def Zq58_G (N : Nat) : GTab := gOf [(140, Zq0_S N)]
theorem Zq58_gok (N : Nat) : GOk Tryz.prog (Zq58_G N) := gOf_ok ⟨Zq0_pc N, trivial⟩
noncomputable def Zq58_code : Code := (Tryz.f102.body).getD .skip
noncomputable def Zq58_l0_sh : Sh := ⟨[(0, .one (.ro LI)), (1, .one (.ro LI)), (9, .one (.ro LI)), (10, .one (.ro I)), (11, .one (.ro I))], []⟩
noncomputable def Zq58_l0_ex : List (Ex × Sh) := [(.ret, ⟨[(4, .one (.ro I))], []⟩), (.exit 0, ⟨[(0, .one (.ro LI)), (1, .one (.ro LI))], []⟩)]
noncomputable def Zq58_l0 {R : Type} (N : Nat) (k0 : Int → Option R) (k1 : (List Int) → (List Int) → Option R) : Nat → (List Int) → (List Int) → (List Int) → Int → Int → Option R
 | 0, _, _, _, _, _ => none
 | K + 1, s11, s21, x, x1, x2 =>
 (br (ilt x2 x1)
 ((chk (inb x x2)
 (br (ile (tLen s21) x2)
 (k0 1)
 ((chk (inb s21 x2)
 ((Zq0 N (rdI x x2) (rdI s21 x2)).bind fun r =>
 (br (ine r.1.1 0)
 (k0 r.1.1)
 (Zq58_l0 N k0 k1 K s11 s21 x x1 (IntKind.i64.wrap (x2 + 1))))))))))
 (k1 s11 s21))
noncomputable def Zq58_l0_again {R : Type} (N : Nat) (ks : KS Zq58_l0_ex R) (k : Nat) (x : Zq58_l0_sh.T) : Option R :=
 Zq58_l0 N (fun y0 => ks 0 ((y0, ()), ())) (fun y0 y1 => ks 1 ((y0, y1, ()), ())) k x.1.1 x.1.2.1 x.1.2.2.1 x.1.2.2.2.1 x.1.2.2.2.2.1
noncomputable def Zq58_l0_s (N : Nat) : LSum := ⟨Zq58_l0_sh, Zq58_l0_ex, fun x ks => Zq58_l0_again N ks N x⟩
theorem Zq58_l0_ok (N : Nat) : LoopOk Tryz.prog Tryz.f102.ntmps (Zq58_l0_s N) (loopAt Zq58_code 0) := loopQ (sh := Zq58_l0_sh) (ex := Zq58_l0_ex) (N := N) (L := []) (fun R k x ks => Zq58_l0_again N ks k x) (Zq58_gok N) (fun _ _ _ => rfl) (fun R k x ks => by kernel_rfl) trivial (by kernel_rfl)
noncomputable def Zq58 (N : Nat) (s1 : (List Int)) (s2 : (List Int)) : Option ((Int × Unit) × (Unit)) :=
 Zq58_l0 N (fun x => some ((x, ()), ())) (fun s11 s21 => (br (ilt (tLen s11) (tLen s21))
 (some (((-1), ()), ()))
 (some ((0, ()), ())))) N s1 s2 s1 (tLen s1) 0
noncomputable def Zq58_S (N : Nat) : FSum := ⟨Zq58_ps, Zq58_rs, fun x => Zq58 N x.1 x.2.1⟩
theorem Zq58_pc (N : Nat) : PC Tryz.prog 102 (Zq58_S N) := pcQ (L := [Zq58_l0_s N]) (Zq58_gok N) Tryz.call102 Tryz.func102 (fun x => by kernel_rfl) ⟨Zq58_l0_ok N, trivial⟩ (by kernel_rfl)

abbrev Zq71_ps : List (PV.Mode × Ty) := [(.mut, LLI), (.own, K102Un)]
abbrev Zq71_rs : List (Bool × Ty) := []
noncomputable def Zq71 (N : Nat) (x : List (List Int)) (_ : Unit) : Option (Unit × (List (List Int) × Unit)) := sortF (fun a b => (Zq58 N a b).map fun z => z.1.1) x
noncomputable def Zq71_S (N : Nat) : FSum := ⟨Zq71_ps, Zq71_rs, fun x => Zq71 N x.1 x.2.1⟩
theorem Zq71_pc (N : Nat) : PC Tryz.prog 101 (Zq71_S N) := sortRows_pc (fc := fun a b => Zq58 N a b) (sortsAt Tryz.sortL) (sortsNone Tryz.sortL) Tryz.call101 (Zq58_pc N)

abbrev Zq44_ps : List (PV.Mode × Ty) := [(.own, LLI), (.ro, GLILIBo)]
abbrev Zq44_rs : List (Bool × Ty) := [(true, QLLILQII)]
noncomputable def Zq44_G (N : Nat) : GTab := gOf [(101, Zq71_S N)]
theorem Zq44_gok (N : Nat) : GOk Tryz.prog (Zq44_G N) := gOf_ok ⟨Zq71_pc N, trivial⟩
noncomputable def Zq44_code : Code := (Tryz.f50.body).getD .skip
noncomputable def Zq44_l0_0_sh : Sh := ⟨[(1, .one (.ro GLILIBo)), (4, .one (.adr 0 0)), (5, .one (.adr 1 0)), (6, .one (.ro I)), (7, .one (.el 2)), (16, .one (.ref 2)), (17, .one (.ro I)), (18, .one (.ro I)), (27, .one (.sub 2 1)), (28, .one (.ro I)), (29, .one (.ro I))], [.box [.nilsl, .nilsl], .box [.ref 2, .ref 3], .sl 27 LI .deep, .sl 49 QII .own]⟩
noncomputable def Zq44_l0_0_ex : List (Ex × Sh) := [(.exit 2, ⟨[(1, .one (.ro GLILIBo)), (4, .one (.adr 0 0)), (5, .one (.adr 1 0)), (16, .one (.ref 2)), (17, .one (.ro I)), (18, .one (.ro I))], [.box [.nilsl, .nilsl], .box [.ref 2, .ref 3], .sl 27 LI .deep, .sl 49 QII .own]⟩)]
noncomputable def Zq44_l0_0 {R : Type} (N : Nat) (k0 : ((List Int) → (List Int) → Option Bool) → Int → Int → (List (List Int)) → (List (Int × Int)) → Option R) : Nat → ((List Int) → (List Int) → Option Bool) → Int → Int → Int → Int → Int → Int → Int → Int → (List (List Int)) → (List (Int × Int)) → Option R
 | 0, _, _, _, _, _, _, _, _, _, _, _ => none
 | K + 1, isStep2, i, a, x2, x3, x4, x5, x6, x7, o2, o3 =>
 (br (ilt x7 x6)
 ((chk (ile 0 x7 && ilt x7 (x5 - x4))
 ((isStep2 (rdL o2 a) (rdL o2 (x4 + x7))).bind fun v =>
 (br v
 ((chk (room o3 [(i, (IntKind.i64.wrap ((IntKind.i64.wrap (i + 1)) + x7)))])
 (Zq44_l0_0 N k0 K isStep2 i a x2 x3 x4 x5 x6 (IntKind.i64.wrap (x7 + 1)) o2 (tApp o3 [(i, (IntKind.i64.wrap ((IntKind.i64.wrap (i + 1)) + x7)))]))))
 (Zq44_l0_0 N k0 K isStep2 i a x2 x3 x4 x5 x6 (IntKind.i64.wrap (x7 + 1)) o2 o3)))))
 (k0 isStep2 x2 x3 o2 o3))
noncomputable def Zq44_l0_0_again {R : Type} (N : Nat) (ks : KS Zq44_l0_0_ex R) (k : Nat) (x : Zq44_l0_0_sh.T) : Option R :=
 Zq44_l0_0 N (fun y0 y1 y2 y3 y4 => ks 0 ((y0, (), (), (), y1, y2, ()), (((), (), ()), ((), (), ()), y3, y4, ()))) k x.1.1 x.1.2.2.2.1 x.1.2.2.2.2.1 x.1.2.2.2.2.2.2.1 x.1.2.2.2.2.2.2.2.1 x.1.2.2.2.2.2.2.2.2.1.1 x.1.2.2.2.2.2.2.2.2.1.2 x.1.2.2.2.2.2.2.2.2.2.1 x.1.2.2.2.2.2.2.2.2.2.2.1 x.2.2.2.1 x.2.2.2.2.1
noncomputable def Zq44_l0_0_s (N : Nat) : LSum := ⟨Zq44_l0_0_sh, Zq44_l0_0_ex, fun x ks => Zq44_l0_0_again N ks N x⟩
theorem Zq44_l0_0_ok (N : Nat) : LoopOk Tryz.prog Tryz.f50.ntmps (Zq44_l0_0_s N) (loopAt (loopAt Zq44_code 0) 0) := loopQ (sh := Zq44_l0_0_sh) (ex := Zq44_l0_0_ex) (N := N) (L := []) (fun R k x ks => Zq44_l0_0_again N ks k x) (Zq44_gok N) (fun _ _ _ => rfl) (fun R k x ks => by kernel_rfl) trivial (by kernel_rfl)
noncomputable def Zq44_l0_sh : Sh := ⟨[(1, .one (.ro GLILIBo)), (4, .one (.adr 0 0)), (5, .one (.adr 1 0)), (16, .one (.ref 2)), (17, .one (.ro I)), (18, .one (.ro I))], [.box [.nilsl, .nilsl], .box [.ref 2, .ref 3], .sl 27 LI .deep, .sl 49 QII .own]⟩
noncomputable def Zq44_l0_ex : List (Ex × Sh) := [(.exit 0, ⟨[(4, .one (.adr 0 0)), (5, .one (.adr 1 0))], [.box [.nilsl, .nilsl], .box [.ref 2, .ref 3], .sl 27 LI .deep, .sl 49 QII .own]⟩)]
noncomputable def Zq44_l0 {R : Type} (N : Nat) (k0 : (List (List Int)) → (List (Int × Int)) → Option R) : Nat → ((List Int) → (List Int) → Option Bool) → Int → Int → (List (List Int)) → (List (Int × Int)) → Option R
 | 0, _, _, _, _, _ => none
 | K + 1, isStep1, x, x1, o, o1 =>
 (br (ilt x1 x)
 ((chk (inb o x1)
 (chk (ile 0 (IntKind.i64.wrap (x1 + 1)) && ile (IntKind.i64.wrap (x1 + 1)) (tLen o) && ile (tLen o) (tLen o))
 (Zq44_l0_0 N (fun isStep2 x2 x3 o2 o3 => Zq44_l0 N k0 K isStep2 x2 (IntKind.i64.wrap (x3 + 1)) o2 o3) N isStep1 x1 x1 x x1 (IntKind.i64.wrap (x1 + 1)) (tLen o) ((tLen o) - (IntKind.i64.wrap (x1 + 1))) 0 o o1))))
 (k0 o o1))
noncomputable def Zq44_l0_again {R : Type} (N : Nat) (ks : KS Zq44_l0_ex R) (k : Nat) (x : Zq44_l0_sh.T) : Option R :=
 Zq44_l0 N (fun y0 y1 => ks 0 (((), (), ()), (((), (), ()), ((), (), ()), y0, y1, ()))) k x.1.1 x.1.2.2.2.2.1 x.1.2.2.2.2.2.1 x.2.2.2.1 x.2.2.2.2.1
noncomputable def Zq44_l0_s (N : Nat) : LSum := ⟨Zq44_l0_sh, Zq44_l0_ex, fun x ks => Zq44_l0_again N ks N x⟩
theorem Zq44_l0_ok (N : Nat) : LoopOk Tryz.prog Tryz.f50.ntmps (Zq44_l0_s N) (loopAt Zq44_code 0) := loopQ (sh := Zq44_l0_sh) (ex := Zq44_l0_ex) (N := N) (L := [Zq44_l0_0_s N]) (fun R k x ks => Zq44_l0_again N ks k x) (Zq44_gok N) (fun _ _ _ => rfl) (fun R k x ks => by kernel_rfl) ⟨Zq44_l0_0_ok N, trivial⟩ (by kernel_rfl)
noncomputable def Zq44 (N : Nat) (states : (List (List Int))) (isStep : ((List Int) → (List Int) → Option Bool)) : Option ((((List (List Int)) × (List (Int × Int))) × Unit) × (Unit)) :=
 ((Zq71 N states ()).bind fun r =>
 Zq44_l0 N (fun o o1 => some (((o, o1), ()), ())) N isStep (tLen r.2.1) 0 r.2.1 [])
noncomputable def Zq44_S (N : Nat) : FSum := ⟨Zq44_ps, Zq44_rs, fun x => Zq44 N x.1 x.2.1⟩
theorem Zq44_pc (N : Nat) : PC Tryz.prog 50 (Zq44_S N) := pcQ (L := [Zq44_l0_s N]) (Zq44_gok N) Tryz.call50 Tryz.func50 (fun x => by kernel_rfl) ⟨Zq44_l0_ok N, trivial⟩ (by kernel_rfl)

abbrev Zq43_ps : List (PV.Mode × Ty) := [(.ro, LI), (.ro, LI)]
abbrev Zq43_rs : List (Bool × Ty) := [(true, LI)]
noncomputable def Zq43_G (N : Nat) : GTab := gOf []
theorem Zq43_gok (N : Nat) : GOk Tryz.prog (Zq43_G N) := gOf_ok trivial
noncomputable def Zq43_code : Code := (Tryz.f82.body).getD .skip
noncomputable def Zq43_l0_sh : Sh := ⟨[(1, .one (.ro LI)), (5, .one (.ref 0)), (9, .one (.ro LI)), (10, .one (.ro I)), (11, .one (.ro I))], [.sl 3 I .own]⟩
noncomputable def Zq43_l0_ex : List (Ex × Sh) := [(.exit 0, ⟨[(5, .one (.ref 0))], [.sl 3 I .own]⟩)]
noncomputable def Zq43_l0 {R : Type} (N : Nat) (k0 : (List Int) → Option R) : Nat → (List Int) → (List Int) → Int → Int → (List Int) → Option R
 | 0, _, _, _, _, _ => none
 | K + 1, b1, x, x1, x2, o =>
 (br (ilt x2 x1)
 ((chk (inb x x2)
 (chk (inb b1 x2)
 (br (ine (rdI b1 x2) (rdI x x2))
 ((chk (room o [x2])
 (Zq43_l0 N k0 K b1 x x1 (IntKind.i64.wrap (x2 + 1)) (tApp o [x2]))))
 (Zq43_l0 N k0 K b1 x x1 (IntKind.i64.wrap (x2 + 1)) o)))))
 (k0 o))
noncomputable def Zq43_l0_again {R : Type} (N : Nat) (ks : KS Zq43_l0_ex R) (k : Nat) (x : Zq43_l0_sh.T) : Option R :=
 Zq43_l0 N (fun y0 => ks 0 (((), ()), (y0, ()))) k x.1.1 x.1.2.2.1 x.1.2.2.2.1 x.1.2.2.2.2.1 x.2.1
noncomputable def Zq43_l0_s (N : Nat) : LSum := ⟨Zq43_l0_sh, Zq43_l0_ex, fun x ks => Zq43_l0_again N ks N x⟩
theorem Zq43_l0_ok (N : Nat) : LoopOk Tryz.prog Tryz.f82.ntmps (Zq43_l0_s N) (loopAt Zq43_code 0) := loopQ (sh := Zq43_l0_sh) (ex := Zq43_l0_ex) (N := N) (L := []) (fun R k x ks => Zq43_l0_again N ks k x) (Zq43_gok N) (fun _ _ _ => rfl) (fun R k x ks => by kernel_rfl) trivial (by kernel_rfl)
noncomputable def Zq43 (N : Nat) (a : (List Int)) (b : (List Int)) : Option (((List Int) × Unit) × (Unit)) :=
 Zq43_l0 N (fun o => some ((o, ()), ())) N b a (tLen a) 0 []
noncomputable def Zq43_S (N : Nat) : FSum := ⟨Zq43_ps, Zq43_rs, fun x => Zq43 N x.1 x.2.1⟩
theorem Zq43_pc (N : Nat) : PC Tryz.prog 82 (Zq43_S N) := pcQ (L := [Zq43_l0_s N]) (Zq43_gok N) Tryz.call82 Tryz.func82 (fun x => by kernel_rfl) ⟨Zq43_l0_ok N, trivial⟩ (by kernel_rfl)

abbrev Zq34_ps : List (PV.Mode × Ty) := [(.ro, LI), (.ro, LI)]
abbrev Zq34_rs : List (Bool × Ty) := [(true, .bool)]
noncomputable def Zq34_G (N : Nat) : GTab := gOf [(82, Zq43_S N)]
theorem Zq34_gok (N : Nat) : GOk Tryz.prog (Zq34_G N) := gOf_ok ⟨Zq43_pc N, trivial⟩
noncomputable def Zq34_code : Code := (Tryz.f51.body).getD .skip
noncomputable def Zq34 (N : Nat) (a : (List Int)) (b : (List Int)) : Option ((Bool × Unit) × (Unit)) :=
 ((Zq43 N a b).bind fun r =>
 some (((ieq (tLen r.1.1) 1), ()), ()))
noncomputable def Zq34_S (N : Nat) : FSum := ⟨Zq34_ps, Zq34_rs, fun x => Zq34 N x.1 x.2.1⟩
theorem Zq34_pc (N : Nat) : PC Tryz.prog 51 (Zq34_S N) := pcQ (L := []) (Zq34_gok N) Tryz.call51 Tryz.func51 (fun x => by kernel_rfl) trivial (by kernel_rfl)

abbrev Zq41_ps : List (PV.Mode × Ty) := [(.own, QLLILQII)]
abbrev Zq41_rs : List (Bool × Ty) := [(true, QLLILQII), (true, .bool)]
noncomputable def Zq41_G (N : Nat) : GTab := gOf []
theorem Zq41_gok (N : Nat) : GOk Tryz.prog (Zq41_G N) := gOf_ok trivial
noncomputable def Zq41_code : Code := (Tryz.f49.body).getD .skip
noncomputable def Zq41 (N : Nat) (x : ((List (List Int)) × (List (Int × Int)))) : Option ((((List (List Int)) × (List (Int × Int))) × Bool × Unit) × (Unit)) :=
 (br (ilt 300 (tLen x.1))
 (some ((([], []), false, ()), ()))
 ((br (ilt 6000 (tLen x.2))
 (some ((([], []), false, ()), ()))
 (some (((x.1, x.2), true, ()), ())))))
noncomputable def Zq41_S (N : Nat) : FSum := ⟨Zq41_ps, Zq41_rs, fun x => Zq41 N x.1⟩
theorem Zq41_pc (N : Nat) : PC Tryz.prog 49 (Zq41_S N) := pcQ (L := []) (Zq41_gok N) Tryz.call49 Tryz.func49 (fun x => by kernel_rfl) trivial (by kernel_rfl)

abbrev Zq3_ps : List (PV.Mode × Ty) := [(.ro, QILQII), (.ro, I)]
abbrev Zq3_rs : List (Bool × Ty) := [(true, QLLILQII), (true, .bool)]
noncomputable def Zq3_G (N : Nat) : GTab := gOf [(48, Zq4_S N), (50, Zq44_S N), (51, Zq34_S N), (49, Zq41_S N)]
theorem Zq3_gok (N : Nat) : GOk Tryz.prog (Zq3_G N) := gOf_ok ⟨Zq4_pc N, Zq44_pc N, Zq34_pc N, Zq41_pc N, trivial⟩
noncomputable def Zq3_code : Code := (Tryz.f10.body).getD .skip
noncomputable def Zq3 (N : Nat) (g : (Int × (List (Int × Int)))) (kv : Int) : Option ((((List (List Int)) × (List (Int × Int))) × Bool × Unit) × (Unit)) :=
 ((Zq4 N (g.1, g.2) kv).bind fun r =>
 (br (!r.1.2.1)
 (some ((([], []), false, ()), ()))
 (((Zq44 N r.1.1 (fun y0 y1 => (Zq34 N y0 y1).bind fun z => some z.1.1)).bind fun r1 =>
 ((Zq41 N (r1.1.1.1, r1.1.1.2)).bind fun r2 =>
 some (((r2.1.1.1, r2.1.1.2), r2.1.2.1, ()), ()))))))
noncomputable def Zq3_S (N : Nat) : FSum := ⟨Zq3_ps, Zq3_rs, fun x => Zq3 N x.1 x.2.1⟩
theorem Zq3_pc (N : Nat) : PC Tryz.prog 10 (Zq3_S N) := pcQ (L := []) (Zq3_gok N) Tryz.call10 Tryz.func10 (fun x => by kernel_rfl) trivial (by kernel_rfl)
end Go.Proofs.YtkffaahlpdlkoaaGreat
