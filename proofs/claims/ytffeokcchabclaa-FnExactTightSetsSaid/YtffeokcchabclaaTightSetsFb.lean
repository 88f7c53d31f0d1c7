/- Functions of the program as functions on data. -/
import Derived.Test.YtffeokcchabclaaTightSetsFa
set_option linter.all false
namespace Go.Proofs.Ytffeokcchabclaa
open Go Go.PV
abbrev Zq20_ps : List (PV.Mode × Ty) := [(.ro, I), (.ro, I), (.ro, I)]
abbrev Zq20_rs : List (Bool × Ty) := [(true, .bool)]
noncomputable def Zq20_G (N : Nat) : GTab := gOf []
theorem Zq20_gok (N : Nat) : GOk Try.prog (Zq20_G N) := gOf_ok trivial
noncomputable def Zq20_code : Code := (Try.f34.body).getD .skip
noncomputable def Zq20 (N : Nat) (n : Int) (low : Int) (high : Int) : Option ((Bool × Unit) × (Unit)) :=
 (br (ile low n)
 (some (((ile n high), ()), ()))
 (some ((false, ()), ())))
noncomputable def Zq20_S (N : Nat) : FSum := ⟨Zq20_ps, Zq20_rs, fun x => Zq20 N x.1 x.2.1 x.2.2.1⟩
theorem Zq20_pc (N : Nat) : PC Try.prog 34 (Zq20_S N) := pcQ (L := []) (Zq20_gok N) Try.call34 Try.func34 (fun x => by kernel_rfl) trivial (by kernel_rfl)

abbrev Zq2_ps : List (PV.Mode × Ty) := [(.ro, I)]
abbrev Zq2_rs : List (Bool × Ty) := [(true, .bool)]
noncomputable def Zq2_G (N : Nat) : GTab := gOf []
theorem Zq2_gok (N : Nat) : GOk Try.prog (Zq2_G N) := gOf_ok trivial
noncomputable def Zq2_code : Code := (Try.f69.body).getD .skip
noncomputable def Zq2 (N : Nat) (x : Int) : Option ((Bool × Unit) × (Unit)) :=
 some (((ine x x), ()), ())
noncomputable def Zq2_S (N : Nat) : FSum := ⟨Zq2_ps, Zq2_rs, fun x => Zq2 N x.1⟩
theorem Zq2_pc (N : Nat) : PC Try.prog 69 (Zq2_S N) := pcQ (L := []) (Zq2_gok N) Try.call69 Try.func69 (fun x => by kernel_rfl) trivial (by kernel_rfl)

abbrev Zq0_ps : List (PV.Mode × Ty) := [(.ro, I), (.ro, I)]
abbrev Zq0_rs : List (Bool × Ty) := [(true, I)]
noncomputable def Zq0_G (N : Nat) : GTab := gOf [(69, Zq2_S N)]
theorem Zq0_gok (N : Nat) : GOk Try.prog (Zq0_G N) := gOf_ok ⟨Zq2_pc N, trivial⟩
noncomputable def Zq0_code : Code := (Try.f60.body).getD .skip
noncomputable def Zq0 (N : Nat) (x : Int) (y : Int) : Option ((Int × Unit) × (Unit)) :=
 ((Zq2 N x).bind fun r =>
 ((Zq2 N y).bind fun r1 =>
 (br r.1.1
 ((br r1.1.1
 (some ((0, ()), ()))
 (some (((-1), ()), ()))))
 ((br r1.1.1
 (some ((1, ()), ()))
 ((br (ilt x y)
 (some (((-1), ()), ()))
 ((br (ilt y x)
 (some ((1, ()), ()))
 (some ((0, ()), ())))))))))))
noncomputable def Zq0_S (N : Nat) : FSum := ⟨Zq0_ps, Zq0_rs, fun x => Zq0 N x.1 x.2.1⟩
theorem Zq0_pc (N : Nat) : PC Try.prog 60 (Zq0_S N) := pcQ (L := []) (Zq0_gok N) Try.call60 Try.func60 (fun x => by kernel_rfl) trivial (by kernel_rfl)

abbrev Zq1_ps : List (PV.Mode × Ty) := [(.ro, LI)]
abbrev Zq1_rs : List (Bool × Ty) := [(true, I)]
noncomputable def Zq1_G (N : Nat) : GTab := gOf []
theorem Zq1_gok (N : Nat) : GOk Try.prog (Zq1_G N) := gOf_ok trivial
noncomputable def Zq1_code : Code := (Try.f59.body).getD .skip
noncomputable def Zq1_l0_sh : Sh := ⟨[(3, .one (.ro I)), (6, .one (.ro LI)), (7, .one (.ro I)), (8, .one (.ro I))], []⟩
noncomputable def Zq1_l0_ex : List (Ex × Sh) := [(.ret, ⟨[(2, .one (.ro I))], []⟩), (.exit 0, ⟨[(3, .one (.ro I))], []⟩)]
noncomputable def Zq1_l0 {R : Type} (N : Nat) (k0 : Int → Option R) (k1 : Int → Option R) : Nat → Int → (List Int) → Int → Int → Option R
 | 0, _, _, _, _ => none
 | K + 1, zero, x, x1, x2 =>
 (br (ilt x2 x1)
 ((chk (inb x x2)
 (br (ine (rdI x x2) zero)
 (k0 (rdI x x2))
 (Zq1_l0 N k0 k1 K zero x x1 (IntKind.i64.wrap (x2 + 1))))))
 (k1 zero))
noncomputable def Zq1_l0_again {R : Type} (N : Nat) (ks : KS Zq1_l0_ex R) (k : Nat) (x : Zq1_l0_sh.T) : Option R :=
 Zq1_l0 N (fun y0 => ks 0 ((y0, ()), ())) (fun y0 => ks 1 ((y0, ()), ())) k x.1.1 x.1.2.1 x.1.2.2.1 x.1.2.2.2.1
noncomputable def Zq1_l0_s (N : Nat) : LSum := ⟨Zq1_l0_sh, Zq1_l0_ex, fun x ks => Zq1_l0_again N ks N x⟩
theorem Zq1_l0_ok (N : Nat) : LoopOk Try.prog Try.f59.ntmps (Zq1_l0_s N) (loopAt Zq1_code 0) := loopQ (sh := Zq1_l0_sh) (ex := Zq1_l0_ex) (N := N) (L := []) (fun R k x ks => Zq1_l0_again N ks k x) (Zq1_gok N) (fun _ _ _ => rfl) (fun R k x ks => by kernel_rfl) trivial (by kernel_rfl)
noncomputable def Zq1 (N : Nat) (vals : (List Int)) : Option ((Int × Unit) × (Unit)) :=
 Zq1_l0 N (fun x => some ((x, ()), ())) (fun zero => some ((zero, ()), ())) N 0 vals (tLen vals) 0
noncomputable def Zq1_S (N : Nat) : FSum := ⟨Zq1_ps, Zq1_rs, fun x => Zq1 N x.1⟩
theorem Zq1_pc (N : Nat) : PC Try.prog 59 (Zq1_S N) := pcQ (L := [Zq1_l0_s N]) (Zq1_gok N) Try.call59 Try.func59 (fun x => by kernel_rfl) ⟨Zq1_l0_ok N, trivial⟩ (by kernel_rfl)

abbrev Zq21_ps : List (PV.Mode × Ty) := [(.ro, QII), (.ro, QII)]
abbrev Zq21_rs : List (Bool × Ty) := [(true, I)]
noncomputable def Zq21_G (N : Nat) : GTab := gOf [(60, Zq0_S N), (59, Zq1_S N)]
theorem Zq21_gok (N : Nat) : GOk Try.prog (Zq21_G N) := gOf_ok ⟨Zq0_pc N, Zq1_pc N, trivial⟩
noncomputable def Zq21_code : Code := (Try.f50.body).getD .skip
noncomputable def Zq21 (N : Nat) (a : (Int × Int)) (b : (Int × Int)) : Option ((Int × Unit) × (Unit)) :=
 ((Zq0 N a.1 b.1).bind fun r =>
 ((Zq0 N a.2 b.2).bind fun r1 =>
 ((Zq1 N [r.1.1, r1.1.1]).bind fun r2 =>
 some ((r2.1.1, ()), ()))))
noncomputable def Zq21_S (N : Nat) : FSum := ⟨Zq21_ps, Zq21_rs, fun x => Zq21 N x.1 x.2.1⟩
theorem Zq21_pc (N : Nat) : PC Try.prog 50 (Zq21_S N) := pcQ (L := []) (Zq21_gok N) Try.call50 Try.func50 (fun x => by kernel_rfl) trivial (by kernel_rfl)

abbrev Zq24_ps : List (PV.Mode × Ty) := [(.ro, LQII), (.ro, I)]
abbrev Zq24_rs : List (Bool × Ty) := [(true, .bool)]
noncomputable def Zq24_G (N : Nat) : GTab := gOf [(50, Zq21_S N)]
theorem Zq24_gok (N : Nat) : GOk Try.prog (Zq24_G N) := gOf_ok ⟨Zq21_pc N, trivial⟩
noncomputable def Zq24_code : Code := (Try.f35.body).getD .skip
noncomputable def Zq24_l0_sh : Sh := ⟨[(0, .one (.ro LQII)), (1, .one (.ro I)), (7, .one (.ro LQII)), (8, .one (.ro I)), (9, .one (.ro I))], []⟩
noncomputable def Zq24_l0_ex : List (Ex × Sh) := [(.ret, ⟨[(4, .one (.ro .bool))], []⟩), (.exit 0, ⟨[], []⟩)]
noncomputable def Zq24_l0 {R : Type} (N : Nat) (k0 : Bool → Option R) (k1 : Unit → Option R) : Nat → (List (Int × Int)) → Int → (List (Int × Int)) → Int → Int → Option R
 | 0, _, _, _, _, _ => none
 | K + 1, list1, below1, x, x1, x2 =>
 (br (ilt x2 x1)
 ((chk (inb x x2)
 (br (ilt ((rdP x x2).1) 0)
 (k0 false)
 ((br (ile ((rdP x x2).2) ((rdP x x2).1))
 (k0 false)
 ((br (ile below1 ((rdP x x2).2))
 (k0 false)
 ((br (ilt 0 x2)
 ((chk (inb list1 (IntKind.i64.wrap (x2 - 1)))
 ((Zq21 N (rdP list1 (IntKind.i64.wrap (x2 - 1))) ((rdP x x2).1, (rdP x x2).2)).bind fun r =>
 (br (ile 0 r.1.1)
 (k0 false)
 (Zq24_l0 N k0 k1 K list1 below1 x x1 (IntKind.i64.wrap (x2 + 1)))))))
 (Zq24_l0 N k0 k1 K list1 below1 x x1 (IntKind.i64.wrap (x2 + 1))))))))))))
 (k1 ()))
noncomputable def Zq24_l0_again {R : Type} (N : Nat) (ks : KS Zq24_l0_ex R) (k : Nat) (x : Zq24_l0_sh.T) : Option R :=
 Zq24_l0 N (fun y0 => ks 0 ((y0, ()), ())) (fun (_ : Unit) => ks 1 ((), ())) k x.1.1 x.1.2.1 x.1.2.2.1 x.1.2.2.2.1 x.1.2.2.2.2.1
noncomputable def Zq24_l0_s (N : Nat) : LSum := ⟨Zq24_l0_sh, Zq24_l0_ex, fun x ks => Zq24_l0_again N ks N x⟩
theorem Zq24_l0_ok (N : Nat) : LoopOk Try.prog Try.f35.ntmps (Zq24_l0_s N) (loopAt Zq24_code 0) := loopQ (sh := Zq24_l0_sh) (ex := Zq24_l0_ex) (N := N) (L := []) (fun R k x ks => Zq24_l0_again N ks k x) (Zq24_gok N) (fun _ _ _ => rfl) (fun R k x ks => by kernel_rfl) trivial (by kernel_rfl)
noncomputable def Zq24 (N : Nat) (list : (List (Int × Int))) (below : Int) : Option ((Bool × Unit) × (Unit)) :=
 Zq24_l0 N (fun x => some ((x, ()), ())) (fun (_ : Unit) => some ((true, ()), ())) N list below list (tLen list) 0
noncomputable def Zq24_S (N : Nat) : FSum := ⟨Zq24_ps, Zq24_rs, fun x => Zq24 N x.1 x.2.1⟩
theorem Zq24_pc (N : Nat) : PC Try.prog 35 (Zq24_S N) := pcQ (L := [Zq24_l0_s N]) (Zq24_gok N) Try.call35 Try.func35 (fun x => by kernel_rfl) ⟨Zq24_l0_ok N, trivial⟩ (by kernel_rfl)

abbrev Zq15_ps : List (PV.Mode × Ty) := [(.ro, QILQII)]
abbrev Zq15_rs : List (Bool × Ty) := [(true, .bool)]
noncomputable def Zq15_G (N : Nat) : GTab := gOf [(34, Zq20_S N), (35, Zq24_S N)]
theorem Zq15_gok (N : Nat) : GOk Try.prog (Zq15_G N) := gOf_ok ⟨Zq20_pc N, Zq24_pc N, trivial⟩
noncomputable def Zq15_code : Code := (Try.f18.body).getD .skip
noncomputable def Zq15 (N : Nat) (g : (Int × (List (Int × Int)))) : Option ((Bool × Unit) × (Unit)) :=
 ((Zq20 N g.1 0 8).bind fun r =>
 (br r.1.1
 (((Zq24 N g.2 g.1).bind fun r1 =>
 some ((r1.1.1, ()), ())))
 (some ((false, ()), ()))))
noncomputable def Zq15_S (N : Nat) : FSum := ⟨Zq15_ps, Zq15_rs, fun x => Zq15 N x.1⟩
theorem Zq15_pc (N : Nat) : PC Try.prog 18 (Zq15_S N) := pcQ (L := []) (Zq15_gok N) Try.call18 Try.func18 (fun x => by kernel_rfl) trivial (by kernel_rfl)

abbrev Zq23_ps : List (PV.Mode × Ty) := [(.ro, I)]
abbrev Zq23_rs : List (Bool × Ty) := [(true, .bool)]
noncomputable def Zq23_G (N : Nat) : GTab := gOf [(34, Zq20_S N)]
theorem Zq23_gok (N : Nat) : GOk Try.prog (Zq23_G N) := gOf_ok ⟨Zq20_pc N, trivial⟩
noncomputable def Zq23_code : Code := (Try.f19.body).getD .skip
noncomputable def Zq23 (N : Nat) (kind : Int) : Option ((Bool × Unit) × (Unit)) :=
 ((Zq20 N kind 1 3).bind fun r =>
 some ((r.1.1, ()), ()))
noncomputable def Zq23_S (N : Nat) : FSum := ⟨Zq23_ps, Zq23_rs, fun x => Zq23 N x.1⟩
theorem Zq23_pc (N : Nat) : PC Try.prog 19 (Zq23_S N) := pcQ (L := []) (Zq23_gok N) Try.call19 Try.func19 (fun x => by kernel_rfl) trivial (by kernel_rfl)

abbrev Zq3_ps : List (PV.Mode × Ty) := [(.ro, QILQII)]
abbrev Zq3_rs : List (Bool × Ty) := [(true, U64)]
noncomputable def Zq3_G (N : Nat) : GTab := gOf []
theorem Zq3_gok (N : Nat) : GOk Try.prog (Zq3_G N) := gOf_ok trivial
noncomputable def Zq3_code : Code := (Try.f61.body).getD .skip
noncomputable def Zq3 (N : Nat) (g : (Int × (List (Int × Int)))) : Option ((Int × Unit) × (Unit)) :=
 (chk (ile 0 g.1)
 (some (((IntKind.u64.wrap ((shlI .u64 1 g.1) - 1)), ()), ())))
noncomputable def Zq3_S (N : Nat) : FSum := ⟨Zq3_ps, Zq3_rs, fun x => Zq3 N x.1⟩
theorem Zq3_pc (N : Nat) : PC Try.prog 61 (Zq3_S N) := pcQ (L := []) (Zq3_gok N) Try.call61 Try.func61 (fun x => by kernel_rfl) trivial (by kernel_rfl)

abbrev Zq19_ps : List (PV.Mode × Ty) := [(.ro, U64)]
abbrev Zq19_rs : List (Bool × Ty) := [(true, LI)]
noncomputable def Zq19_G (N : Nat) : GTab := gOf []
theorem Zq19_gok (N : Nat) : GOk Try.prog (Zq19_G N) := gOf_ok trivial
noncomputable def Zq19_code : Code := (Try.f62.body).getD .skip
noncomputable def Zq19_l0_sh : Sh := ⟨[(0, .one (.ro U64)), (3, .one (.ref 0)), (6, .one (.ro I))], [.sl 3 I .own]⟩
noncomputable def Zq19_l0_ex : List (Ex × Sh) := [(.exit 0, ⟨[(3, .one (.ref 0))], [.sl 3 I .own]⟩)]
noncomputable def Zq19_l0 {R : Type} (N : Nat) (k0 : (List Int) → Option R) : Nat → Int → Int → (List Int) → Option R
 | 0, _, _, _ => none
 | K + 1, b1, x, o =>
 (br (ilt x 8)
 ((chk (ile 0 x)
 (br (ieq (bitop .and .u64 (shrI .u64 b1 x) 1) 1)
 ((chk (room o [x])
 (Zq19_l0 N k0 K b1 (IntKind.i64.wrap (x + 1)) (tApp o [x]))))
 (Zq19_l0 N k0 K b1 (IntKind.i64.wrap (x + 1)) o))))
 (k0 o))
noncomputable def Zq19_l0_again {R : Type} (N : Nat) (ks : KS Zq19_l0_ex R) (k : Nat) (x : Zq19_l0_sh.T) : Option R :=
 Zq19_l0 N (fun y0 => ks 0 (((), ()), (y0, ()))) k x.1.1 x.1.2.2.1 x.2.1
noncomputable def Zq19_l0_s (N : Nat) : LSum := ⟨Zq19_l0_sh, Zq19_l0_ex, fun x ks => Zq19_l0_again N ks N x⟩
theorem Zq19_l0_ok (N : Nat) : LoopOk Try.prog Try.f62.ntmps (Zq19_l0_s N) (loopAt Zq19_code 0) := loopQ (sh := Zq19_l0_sh) (ex := Zq19_l0_ex) (N := N) (L := []) (fun R k x ks => Zq19_l0_again N ks k x) (Zq19_gok N) (fun _ _ _ => rfl) (fun R k x ks => by kernel_rfl) trivial (by kernel_rfl)
noncomputable def Zq19 (N : Nat) (b : Int) : Option (((List Int) × Unit) × (Unit)) :=
 Zq19_l0 N (fun o => some ((o, ()), ())) N b 0 []
noncomputable def Zq19_S (N : Nat) : FSum := ⟨Zq19_ps, Zq19_rs, fun x => Zq19 N x.1⟩
theorem Zq19_pc (N : Nat) : PC Try.prog 62 (Zq19_S N) := pcQ (L := [Zq19_l0_s N]) (Zq19_gok N) Try.call62 Try.func62 (fun x => by kernel_rfl) ⟨Zq19_l0_ok N, trivial⟩ (by kernel_rfl)

abbrev Zq43_ps : List (PV.Mode × Ty) := [(.ro, LI), (.ro, LI)]
abbrev Zq43_rs : List (Bool × Ty) := [(true, I)]
noncomputable def Zq43_G (N : Nat) : GTab := gOf [(60, Zq0_S N)]
theorem Zq43_gok (N : Nat) : GOk Try.prog (Zq43_G N) := gOf_ok ⟨Zq0_pc N, trivial⟩
noncomputable def Zq43_code : Code := (Try.f63.body).getD .skip
noncomputable def Zq43_l0_sh : Sh := ⟨[(0, .one (.ro LI)), (1, .one (.ro LI)), (9, .one (.ro LI)), (10, .one (.ro I)), (11, .one (.ro I))], []⟩
noncomputable def Zq43_l0_ex : List (Ex × Sh) := [(.ret, ⟨[(4, .one (.ro I))], []⟩), (.exit 0, ⟨[(0, .one (.ro LI)), (1, .one (.ro LI))], []⟩)]
noncomputable def Zq43_l0 {R : Type} (N : Nat) (k0 : Int → Option R) (k1 : (List Int) → (List Int) → Option R) : Nat → (List Int) → (List Int) → (List Int) → Int → Int → Option R
 | 0, _, _, _, _, _ => none
 | K + 1, s11, s21, x, x1, x2 =>
 (br (ilt x2 x1)
 ((chk (inb x x2)
 (br (ile (tLen s21) x2)
 (k0 1)
 ((chk (inb s21 x2)
 ((Zq0 N (rdI x x2) (rdI s21 x2)).bind fun r =>
 (br (ine r.1.1 0)
 (k0 r.1.1)
 (Zq43_l0 N k0 k1 K s11 s21 x x1 (IntKind.i64.wrap (x2 + 1))))))))))
 (k1 s11 s21))
noncomputable def Zq43_l0_again {R : Type} (N : Nat) (ks : KS Zq43_l0_ex R) (k : Nat) (x : Zq43_l0_sh.T) : Option R :=
 Zq43_l0 N (fun y0 => ks 0 ((y0, ()), ())) (fun y0 y1 => ks 1 ((y0, y1, ()), ())) k x.1.1 x.1.2.1 x.1.2.2.1 x.1.2.2.2.1 x.1.2.2.2.2.1
noncomputable def Zq43_l0_s (N : Nat) : LSum := ⟨Zq43_l0_sh, Zq43_l0_ex, fun x ks => Zq43_l0_again N ks N x⟩
theorem Zq43_l0_ok (N : Nat) : LoopOk Try.prog Try.f63.ntmps (Zq43_l0_s N) (loopAt Zq43_code 0) := loopQ (sh := Zq43_l0_sh) (ex := Zq43_l0_ex) (N := N) (L := []) (fun R k x ks => Zq43_l0_again N ks k x) (Zq43_gok N) (fun _ _ _ => rfl) (fun R k x ks => by kernel_rfl) trivial (by kernel_rfl)
noncomputable def Zq43 (N : Nat) (s1 : (List Int)) (s2 : (List Int)) : Option ((Int × Unit) × (Unit)) :=
 Zq43_l0 N (fun x => some ((x, ()), ())) (fun s11 s21 => (br (ilt (tLen s11) (tLen s21))
 (some (((-1), ()), ()))
 (some ((0, ()), ())))) N s1 s2 s1 (tLen s1) 0
noncomputable def Zq43_S (N : Nat) : FSum := ⟨Zq43_ps, Zq43_rs, fun x => Zq43 N x.1 x.2.1⟩
theorem Zq43_pc (N : Nat) : PC Try.prog 63 (Zq43_S N) := pcQ (L := [Zq43_l0_s N]) (Zq43_gok N) Try.call63 Try.func63 (fun x => by kernel_rfl) ⟨Zq43_l0_ok N, trivial⟩ (by kernel_rfl)

abbrev Zq51_ps : List (PV.Mode × Ty) := [(.mut, LLI), (.own, K63Un)]
abbrev Zq51_rs : List (Bool × Ty) := []
noncomputable def Zq51 (N : Nat) (x : List (List Int)) (_ : Unit) : Option (Unit × (List (List Int) × Unit)) := sortF (fun a b => (Zq43 N a b).map fun z => z.1.1) x
noncomputable def Zq51_S (N : Nat) : FSum := ⟨Zq51_ps, Zq51_rs, fun x => Zq51 N x.1 x.2.1⟩
theorem Zq51_pc (N : Nat) : PC Try.prog 55 (Zq51_S N) := sortRows_pc (fc := fun a b => Zq43 N a b) (sortsAt Try.sortL) (sortsNone Try.sortL) Try.call55 (Zq43_pc N)

abbrev Zq12_ps : List (PV.Mode × Ty) := [(.ro, QILQII), (.ro, FU64Bo)]
abbrev Zq12_rs : List (Bool × Ty) := [(true, LLI)]
noncomputable def Zq12_G (N : Nat) : GTab := gOf [(61, Zq3_S N), (62, Zq19_S N), (55, Zq51_S N)]
theorem Zq12_gok (N : Nat) : GOk Try.prog (Zq12_G N) := gOf_ok ⟨Zq3_pc N, Zq19_pc N, Zq51_pc N, trivial⟩
noncomputable def Zq12_code : Code := (Try.f52.body).getD .skip
noncomputable def Zq12_l0_sh : Sh := ⟨[(1, .one (.ro FU64Bo)), (2, .one (.adr 0 0)), (5, .one (.ref 1)), (6, .one (.ro U64))], [.box [.ro I, .ro LQII], .sl 40 LI .deep]⟩
noncomputable def Zq12_l0_ex : List (Ex × Sh) := [(.exit 0, ⟨[(5, .one (.ref 0))], [.sl 40 LI .deep]⟩)]
noncomputable def Zq12_l0 {R : Type} (N : Nat) (k0 : (List (List Int)) → Option R) : Nat → (Int → Option Bool) → Int → Int → (List (Int × Int)) → (List (List Int)) → Option R
 | 0, _, _, _, _, _ => none
 | K + 1, is1, b, o, o1, o2 =>
 ((Zq3 N (o, o1)).bind fun r =>
 (br (ile b r.1.1)
 (((is1 b).bind fun v =>
 (br v
 (((Zq19 N b).bind fun r1 =>
 (chk (room o2 [r1.1.1])
 (Zq12_l0 N k0 K is1 (IntKind.u64.wrap (b + 1)) o o1 (tApp o2 [r1.1.1])))))
 (Zq12_l0 N k0 K is1 (IntKind.u64.wrap (b + 1)) o o1 o2))))
 (k0 o2)))
noncomputable def Zq12_l0_again {R : Type} (N : Nat) (ks : KS Zq12_l0_ex R) (k : Nat) (x : Zq12_l0_sh.T) : Option R :=
 Zq12_l0 N (fun y0 => ks 0 (((), ()), (y0, ()))) k x.1.1 x.1.2.2.2.1 x.2.1.1 x.2.1.2.1 x.2.2.1
noncomputable def Zq12_l0_s (N : Nat) : LSum := ⟨Zq12_l0_sh, Zq12_l0_ex, fun x ks => Zq12_l0_again N ks N x⟩
theorem Zq12_l0_ok (N : Nat) : LoopOk Try.prog Try.f52.ntmps (Zq12_l0_s N) (loopAt Zq12_code 0) := loopQ (sh := Zq12_l0_sh) (ex := Zq12_l0_ex) (N := N) (L := []) (fun R k x ks => Zq12_l0_again N ks k x) (Zq12_gok N) (fun _ _ _ => rfl) (fun R k x ks => by kernel_rfl) trivial (by kernel_rfl)
noncomputable def Zq12 (N : Nat) (g : (Int × (List (Int × Int)))) (is : (Int → Option Bool)) : Option (((List (List Int)) × Unit) × (Unit)) :=
 Zq12_l0 N (fun o => ((Zq51 N o ()).bind fun r =>
 some ((r.2.1, ()), ()))) N is 0 g.1 g.2 []
noncomputable def Zq12_S (N : Nat) : FSum := ⟨Zq12_ps, Zq12_rs, fun x => Zq12 N x.1 x.2.1⟩
theorem Zq12_pc (N : Nat) : PC Try.prog 52 (Zq12_S N) := pcQ (L := [Zq12_l0_s N]) (Zq12_gok N) Try.call52 Try.func52 (fun x => by kernel_rfl) ⟨Zq12_l0_ok N, trivial⟩ (by kernel_rfl)

abbrev Zq48_ps : List (PV.Mode × Ty) := [(.ro, LQII), (.ro, FQIIBo)]
abbrev Zq48_rs : List (Bool × Ty) := [(true, I)]
noncomputable def Zq48_G (N : Nat) : GTab := gOf []
theorem Zq48_gok (N : Nat) : GOk Try.prog (Zq48_G N) := gOf_ok trivial
noncomputable def Zq48_code : Code := (Try.f84.body).getD .skip
noncomputable def Zq48_l0_sh : Sh := ⟨[(0, .one (.ro LQII)), (1, .one (.ro FQIIBo)), (7, .one (.ro I)), (8, .one (.ro I))], []⟩
noncomputable def Zq48_l0_ex : List (Ex × Sh) := [(.ret, ⟨[(4, .one (.ro I))], []⟩), (.exit 0, ⟨[], []⟩)]
noncomputable def Zq48_l0 {R : Type} (N : Nat) (k0 : Int → Option R) (k1 : Unit → Option R) : Nat → (List (Int × Int)) → ((Int × Int) → Option Bool) → Int → Int → Option R
 | 0, _, _, _, _ => none
 | K + 1, s1, f1, x, x1 =>
 (br (ilt x1 x)
 ((chk (inb s1 x1)
 ((f1 (rdP s1 x1)).bind fun v =>
 (br v
 (k0 x1)
 (Zq48_l0 N k0 k1 K s1 f1 x (IntKind.i64.wrap (x1 + 1)))))))
 (k1 ()))
noncomputable def Zq48_l0_again {R : Type} (N : Nat) (ks : KS Zq48_l0_ex R) (k : Nat) (x : Zq48_l0_sh.T) : Option R :=
 Zq48_l0 N (fun y0 => ks 0 ((y0, ()), ())) (fun (_ : Unit) => ks 1 ((), ())) k x.1.1 x.1.2.1 x.1.2.2.1 x.1.2.2.2.1
noncomputable def Zq48_l0_s (N : Nat) : LSum := ⟨Zq48_l0_sh, Zq48_l0_ex, fun x ks => Zq48_l0_again N ks N x⟩
theorem Zq48_l0_ok (N : Nat) : LoopOk Try.prog Try.f84.ntmps (Zq48_l0_s N) (loopAt Zq48_code 0) := loopQ (sh := Zq48_l0_sh) (ex := Zq48_l0_ex) (N := N) (L := []) (fun R k x ks => Zq48_l0_again N ks k x) (Zq48_gok N) (fun _ _ _ => rfl) (fun R k x ks => by kernel_rfl) trivial (by kernel_rfl)
noncomputable def Zq48 (N : Nat) (s : (List (Int × Int))) (f : ((Int × Int) → Option Bool)) : Option ((Int × Unit) × (Unit)) :=
 Zq48_l0 N (fun x => some ((x, ()), ())) (fun (_ : Unit) => some (((-1), ()), ())) N s f (tLen s) 0
noncomputable def Zq48_S (N : Nat) : FSum := ⟨Zq48_ps, Zq48_rs, fun x => Zq48 N x.1 x.2.1⟩
theorem Zq48_pc (N : Nat) : PC Try.prog 84 (Zq48_S N) := pcQ (L := [Zq48_l0_s N]) (Zq48_gok N) Try.call84 Try.func84 (fun x => by kernel_rfl) ⟨Zq48_l0_ok N, trivial⟩ (by kernel_rfl)

abbrev Zq44_ps : List (PV.Mode × Ty) := [(.ro, LQII), (.ro, FQIIBo)]
abbrev Zq44_rs : List (Bool × Ty) := [(true, .bool)]
noncomputable def Zq44_G (N : Nat) : GTab := gOf [(84, Zq48_S N)]
theorem Zq44_gok (N : Nat) : GOk Try.prog (Zq44_G N) := gOf_ok ⟨Zq48_pc N, trivial⟩
noncomputable def Zq44_code : Code := (Try.f70.body).getD .skip
noncomputable def Zq44 (N : Nat) (s : (List (Int × Int))) (f : ((Int × Int) → Option Bool)) : Option ((Bool × Unit) × (Unit)) :=
 ((Zq48 N s f).bind fun r =>
 some (((ile 0 r.1.1), ()), ()))
noncomputable def Zq44_S (N : Nat) : FSum := ⟨Zq44_ps, Zq44_rs, fun x => Zq44 N x.1 x.2.1⟩
theorem Zq44_pc (N : Nat) : PC Try.prog 70 (Zq44_S N) := pcQ (L := []) (Zq44_gok N) Try.call70 Try.func70 (fun x => by kernel_rfl) trivial (by kernel_rfl)

abbrev Zq18_ps : List (PV.Mode × Ty) := [(.ro, U64), (.ro, I)]
abbrev Zq18_rs : List (Bool × Ty) := [(true, .bool)]
noncomputable def Zq18_G (N : Nat) : GTab := gOf []
theorem Zq18_gok (N : Nat) : GOk Try.prog (Zq18_G N) := gOf_ok trivial
noncomputable def Zq18_code : Code := (Try.f57.body).getD .skip
noncomputable def Zq18 (N : Nat) (b : Int) (x : Int) : Option ((Bool × Unit) × (Unit)) :=
 (chk (ile 0 x)
 (some (((ieq (bitop .and .u64 (shrI .u64 b x) 1) 1), ()), ())))
noncomputable def Zq18_S (N : Nat) : FSum := ⟨Zq18_ps, Zq18_rs, fun x => Zq18 N x.1 x.2.1⟩
theorem Zq18_pc (N : Nat) : PC Try.prog 57 (Zq18_S N) := pcQ (L := []) (Zq18_gok N) Try.call57 Try.func57 (fun x => by kernel_rfl) trivial (by kernel_rfl)

abbrev Zq7_ps : List (PV.Mode × Ty) := [(.ro, QII), (.ro, AU64)]
abbrev Zq7_rs : List (Bool × Ty) := [(true, .bool)]
noncomputable def Zq7_G (N : Nat) : GTab := gOf [(57, Zq18_S N)]
theorem Zq7_gok (N : Nat) : GOk Try.prog (Zq7_G N) := gOf_ok ⟨Zq18_pc N, trivial⟩
noncomputable def Zq7_code : Code := (Try.f71.body).getD .skip
noncomputable def Zq7 (N : Nat) (e : (Int × Int)) (c : Int) : Option ((Bool × Unit) × (Unit)) :=
 ((Zq18 N c e.1).bind fun r =>
 (br r.1.1
 (((Zq18 N c e.2).bind fun r1 =>
 some ((r1.1.1, ()), ())))
 (some ((false, ()), ()))))
noncomputable def Zq7_S (N : Nat) : FSum := ⟨Zq7_ps, Zq7_rs, fun x => Zq7 N x.1 x.2.1⟩
theorem Zq7_pc (N : Nat) : PC Try.prog 71 (Zq7_S N) := pcQ (L := []) (Zq7_gok N) Try.call71 Try.func71 (fun x => by kernel_rfl) trivial (by kernel_rfl)

abbrev Zq6_ps : List (PV.Mode × Ty) := [(.ro, QILQII), (.ro, U64)]
abbrev Zq6_rs : List (Bool × Ty) := [(true, .bool)]
noncomputable def Zq6_G (N : Nat) : GTab := gOf [(70, Zq44_S N), (71, Zq7_S N)]
theorem Zq6_gok (N : Nat) : GOk Try.prog (Zq6_G N) := gOf_ok ⟨Zq44_pc N, Zq7_pc N, trivial⟩
noncomputable def Zq6_code : Code := (Try.f64.body).getD .skip
noncomputable def Zq6 (N : Nat) (g : (Int × (List (Int × Int)))) (b : Int) : Option ((Bool × Unit) × (Unit)) :=
 ((Zq44 N g.2 (fun y0 => (Zq7 N y0 b).bind fun z => some z.1.1)).bind fun r =>
 some (((!r.1.1), ()), ()))
noncomputable def Zq6_S (N : Nat) : FSum := ⟨Zq6_ps, Zq6_rs, fun x => Zq6 N x.1 x.2.1⟩
theorem Zq6_pc (N : Nat) : PC Try.prog 64 (Zq6_S N) := pcQ (L := []) (Zq6_gok N) Try.call64 Try.func64 (fun x => by kernel_rfl) trivial (by kernel_rfl)

abbrev Zq25_ps : List (PV.Mode × Ty) := [(.ro, I), (.ro, I)]
abbrev Zq25_rs : List (Bool × Ty) := [(true, QII)]
noncomputable def Zq25_G (N : Nat) : GTab := gOf []
theorem Zq25_gok (N : Nat) : GOk Try.prog (Zq25_G N) := gOf_ok trivial
noncomputable def Zq25_code : Code := (Try.f73.body).getD .skip
noncomputable def Zq25 (N : Nat) (a : Int) (b : Int) : Option (((Int × Int) × Unit) × (Unit)) :=
 some ((((if b < a then b else a), (if b > a then b else a)), ()), ())
noncomputable def Zq25_S (N : Nat) : FSum := ⟨Zq25_ps, Zq25_rs, fun x => Zq25 N x.1 x.2.1⟩
theorem Zq25_pc (N : Nat) : PC Try.prog 73 (Zq25_S N) := pcQ (L := []) (Zq25_gok N) Try.call73 Try.func73 (fun x => by kernel_rfl) trivial (by kernel_rfl)

abbrev Zq49_ps : List (PV.Mode × Ty) := [(.ro, LQII), (.ro, QII)]
abbrev Zq49_rs : List (Bool × Ty) := [(true, I)]
noncomputable def Zq49_G (N : Nat) : GTab := gOf []
theorem Zq49_gok (N : Nat) : GOk Try.prog (Zq49_G N) := gOf_ok trivial
noncomputable def Zq49_code : Code := (Try.f85.body).getD .skip
noncomputable def Zq49_l0_sh : Sh := ⟨[(0, .one (.ro LQII)), (3, .one (.adr 0 0)), (7, .one (.ro I)), (8, .one (.ro I))], [.box [.ro I, .ro I]]⟩
noncomputable def Zq49_l0_ex : List (Ex × Sh) := [(.ret, ⟨[(4, .one (.ro I))], []⟩), (.exit 0, ⟨[], []⟩)]
noncomputable def Zq49_l0 {R : Type} (N : Nat) (k0 : Int → Option R) (k1 : Unit → Option R) : Nat → (List (Int × Int)) → Int → Int → Int → Int → Option R
 | 0, _, _, _, _, _ => none
 | K + 1, s1, x, x1, o, o1 =>
 (br (ilt x1 x)
 ((chk (inb s1 x1)
 (br (ieq o ((rdP s1 x1).1) && ieq o1 ((rdP s1 x1).2))
 (k0 x1)
 (Zq49_l0 N k0 k1 K s1 x (IntKind.i64.wrap (x1 + 1)) o o1))))
 (k1 ()))
noncomputable def Zq49_l0_again {R : Type} (N : Nat) (ks : KS Zq49_l0_ex R) (k : Nat) (x : Zq49_l0_sh.T) : Option R :=
 Zq49_l0 N (fun y0 => ks 0 ((y0, ()), ())) (fun (_ : Unit) => ks 1 ((), ())) k x.1.1 x.1.2.2.1 x.1.2.2.2.1 x.2.1.1 x.2.1.2.1
noncomputable def Zq49_l0_s (N : Nat) : LSum := ⟨Zq49_l0_sh, Zq49_l0_ex, fun x ks => Zq49_l0_again N ks N x⟩
theorem Zq49_l0_ok (N : Nat) : LoopOk Try.prog Try.f85.ntmps (Zq49_l0_s N) (loopAt Zq49_code 0) := loopQ (sh := Zq49_l0_sh) (ex := Zq49_l0_ex) (N := N) (L := []) (fun R k x ks => Zq49_l0_again N ks k x) (Zq49_gok N) (fun _ _ _ => rfl) (fun R k x ks => by kernel_rfl) trivial (by kernel_rfl)
noncomputable def Zq49 (N : Nat) (s : (List (Int × Int))) (v : (Int × Int)) : Option ((Int × Unit) × (Unit)) :=
 Zq49_l0 N (fun x => some ((x, ()), ())) (fun (_ : Unit) => some (((-1), ()), ())) N s (tLen s) 0 v.1 v.2
noncomputable def Zq49_S (N : Nat) : FSum := ⟨Zq49_ps, Zq49_rs, fun x => Zq49 N x.1 x.2.1⟩
theorem Zq49_pc (N : Nat) : PC Try.prog 85 (Zq49_S N) := pcQ (L := [Zq49_l0_s N]) (Zq49_gok N) Try.call85 Try.func85 (fun x => by kernel_rfl) ⟨Zq49_l0_ok N, trivial⟩ (by kernel_rfl)

abbrev Zq45_ps : List (PV.Mode × Ty) := [(.ro, LQII), (.ro, QII)]
abbrev Zq45_rs : List (Bool × Ty) := [(true, .bool)]
noncomputable def Zq45_G (N : Nat) : GTab := gOf [(85, Zq49_S N)]
theorem Zq45_gok (N : Nat) : GOk Try.prog (Zq45_G N) := gOf_ok ⟨Zq49_pc N, trivial⟩
noncomputable def Zq45_code : Code := (Try.f72.body).getD .skip
noncomputable def Zq45 (N : Nat) (s : (List (Int × Int))) (v : (Int × Int)) : Option ((Bool × Unit) × (Unit)) :=
 ((Zq49 N s (v.1, v.2)).bind fun r =>
 some (((ile 0 r.1.1), ()), ()))
noncomputable def Zq45_S (N : Nat) : FSum := ⟨Zq45_ps, Zq45_rs, fun x => Zq45 N x.1 x.2.1⟩
theorem Zq45_pc (N : Nat) : PC Try.prog 72 (Zq45_S N) := pcQ (L := []) (Zq45_gok N) Try.call72 Try.func72 (fun x => by kernel_rfl) trivial (by kernel_rfl)

abbrev Zq4_ps : List (PV.Mode × Ty) := [(.ro, QILQII), (.ro, I), (.ro, I)]
abbrev Zq4_rs : List (Bool × Ty) := [(true, .bool)]
noncomputable def Zq4_G (N : Nat) : GTab := gOf [(73, Zq25_S N), (72, Zq45_S N)]
theorem Zq4_gok (N : Nat) : GOk Try.prog (Zq4_G N) := gOf_ok ⟨Zq25_pc N, Zq45_pc N, trivial⟩
noncomputable def Zq4_code : Code := (Try.f65.body).getD .skip
noncomputable def Zq4 (N : Nat) (g : (Int × (List (Int × Int)))) (a : Int) (b : Int) : Option ((Bool × Unit) × (Unit)) :=
 ((Zq25 N a b).bind fun r =>
 ((Zq45 N g.2 (r.1.1.1, r.1.1.2)).bind fun r1 =>
 some ((r1.1.1, ()), ())))
noncomputable def Zq4_S (N : Nat) : FSum := ⟨Zq4_ps, Zq4_rs, fun x => Zq4 N x.1 x.2.1 x.2.2.1⟩
theorem Zq4_pc (N : Nat) : PC Try.prog 65 (Zq4_S N) := pcQ (L := []) (Zq4_gok N) Try.call65 Try.func65 (fun x => by kernel_rfl) trivial (by kernel_rfl)

abbrev Zq9_ps : List (PV.Mode × Ty) := [(.ro, QILQII), (.ro, I)]
abbrev Zq9_rs : List (Bool × Ty) := [(true, LI)]
noncomputable def Zq9_G (N : Nat) : GTab := gOf [(65, Zq4_S N)]
theorem Zq9_gok (N : Nat) : GOk Try.prog (Zq9_G N) := gOf_ok ⟨Zq4_pc N, trivial⟩
noncomputable def Zq9_code : Code := (Try.f66.body).getD .skip
noncomputable def Zq9_l0_sh : Sh := ⟨[(1, .one (.ro I)), (2, .one (.adr 0 0)), (5, .one (.ref 1)), (9, .one (.ro I)), (10, .one (.ro I))], [.box [.ro I, .ro LQII], .sl 3 I .own]⟩
noncomputable def Zq9_l0_ex : List (Ex × Sh) := [(.exit 0, ⟨[(5, .one (.ref 0))], [.sl 3 I .own]⟩)]
noncomputable def Zq9_l0 {R : Type} (N : Nat) (k0 : (List Int) → Option R) : Nat → Int → Int → Int → Int → (List (Int × Int)) → (List Int) → Option R
 | 0, _, _, _, _, _, _ => none
 | K + 1, x1, x2, x3, o, o1, o2 =>
 (br (ilt x3 x2)
 ((br (ine x3 x1)
 (((Zq4 N (o, o1) x1 x3).bind fun r =>
 (br r.1.1
 ((chk (room o2 [x3])
 (Zq9_l0 N k0 K x1 x2 (IntKind.i64.wrap (x3 + 1)) o o1 (tApp o2 [x3]))))
 (Zq9_l0 N k0 K x1 x2 (IntKind.i64.wrap (x3 + 1)) o o1 o2))))
 (Zq9_l0 N k0 K x1 x2 (IntKind.i64.wrap (x3 + 1)) o o1 o2)))
 (k0 o2))
noncomputable def Zq9_l0_again {R : Type} (N : Nat) (ks : KS Zq9_l0_ex R) (k : Nat) (x : Zq9_l0_sh.T) : Option R :=
 Zq9_l0 N (fun y0 => ks 0 (((), ()), (y0, ()))) k x.1.1 x.1.2.2.2.1 x.1.2.2.2.2.1 x.2.1.1 x.2.1.2.1 x.2.2.1
noncomputable def Zq9_l0_s (N : Nat) : LSum := ⟨Zq9_l0_sh, Zq9_l0_ex, fun x ks => Zq9_l0_again N ks N x⟩
theorem Zq9_l0_ok (N : Nat) : LoopOk Try.prog Try.f66.ntmps (Zq9_l0_s N) (loopAt Zq9_code 0) := loopQ (sh := Zq9_l0_sh) (ex := Zq9_l0_ex) (N := N) (L := []) (fun R k x ks => Zq9_l0_again N ks k x) (Zq9_gok N) (fun _ _ _ => rfl) (fun R k x ks => by kernel_rfl) trivial (by kernel_rfl)
noncomputable def Zq9 (N : Nat) (g : (Int × (List (Int × Int)))) (x : Int) : Option (((List Int) × Unit) × (Unit)) :=
 Zq9_l0 N (fun o => some ((o, ()), ())) N x g.1 0 g.1 g.2 []
noncomputable def Zq9_S (N : Nat) : FSum := ⟨Zq9_ps, Zq9_rs, fun x => Zq9 N x.1 x.2.1⟩
theorem Zq9_pc (N : Nat) : PC Try.prog 66 (Zq9_S N) := pcQ (L := [Zq9_l0_s N]) (Zq9_gok N) Try.call66 Try.func66 (fun x => by kernel_rfl) ⟨Zq9_l0_ok N, trivial⟩ (by kernel_rfl)

abbrev Zq17_ps : List (PV.Mode × Ty) := [(.ro, LI)]
abbrev Zq17_rs : List (Bool × Ty) := [(true, U64)]
noncomputable def Zq17_G (N : Nat) : GTab := gOf []
theorem Zq17_gok (N : Nat) : GOk Try.prog (Zq17_G N) := gOf_ok trivial
noncomputable def Zq17_code : Code := (Try.f40.body).getD .skip
noncomputable def Zq17_l0_sh : Sh := ⟨[(3, .one (.ro U64)), (6, .one (.ro LI)), (7, .one (.ro I)), (8, .one (.ro I))], []⟩
noncomputable def Zq17_l0_ex : List (Ex × Sh) := [(.exit 0, ⟨[(3, .one (.ro U64))], []⟩)]
noncomputable def Zq17_l0 {R : Type} (N : Nat) (k0 : Int → Option R) : Nat → Int → (List Int) → Int → Int → Option R
 | 0, _, _, _, _ => none
 | K + 1, out, x, x1, x2 =>
 (br (ilt x2 x1)
 ((chk (inb x x2)
 (chk (ile 0 (rdI x x2))
 (Zq17_l0 N k0 K (bitop .or .u64 out (shlI .u64 1 (rdI x x2))) x x1 (IntKind.i64.wrap (x2 + 1))))))
 (k0 out))
noncomputable def Zq17_l0_again {R : Type} (N : Nat) (ks : KS Zq17_l0_ex R) (k : Nat) (x : Zq17_l0_sh.T) : Option R :=
 Zq17_l0 N (fun y0 => ks 0 ((y0, ()), ())) k x.1.1 x.1.2.1 x.1.2.2.1 x.1.2.2.2.1
noncomputable def Zq17_l0_s (N : Nat) : LSum := ⟨Zq17_l0_sh, Zq17_l0_ex, fun x ks => Zq17_l0_again N ks N x⟩
theorem Zq17_l0_ok (N : Nat) : LoopOk Try.prog Try.f40.ntmps (Zq17_l0_s N) (loopAt Zq17_code 0) := loopQ (sh := Zq17_l0_sh) (ex := Zq17_l0_ex) (N := N) (L := []) (fun R k x ks => Zq17_l0_again N ks k x) (Zq17_gok N) (fun _ _ _ => rfl) (fun R k x ks => by kernel_rfl) trivial (by kernel_rfl)
noncomputable def Zq17 (N : Nat) (list : (List Int)) : Option ((Int × Unit) × (Unit)) :=
 Zq17_l0 N (fun out => some ((out, ()), ())) N 0 list (tLen list) 0
noncomputable def Zq17_S (N : Nat) : FSum := ⟨Zq17_ps, Zq17_rs, fun x => Zq17 N x.1⟩
theorem Zq17_pc (N : Nat) : PC Try.prog 40 (Zq17_S N) := pcQ (L := [Zq17_l0_s N]) (Zq17_gok N) Try.call40 Try.func40 (fun x => by kernel_rfl) ⟨Zq17_l0_ok N, trivial⟩ (by kernel_rfl)

abbrev Zq5_ps : List (PV.Mode × Ty) := [(.ro, QILQII), (.ro, I), (.ro, U64)]
abbrev Zq5_rs : List (Bool × Ty) := [(true, .bool)]
noncomputable def Zq5_G (N : Nat) : GTab := gOf [(61, Zq3_S N), (64, Zq6_S N), (62, Zq19_S N), (65, Zq4_S N), (57, Zq18_S N), (66, Zq9_S N), (40, Zq17_S N)]
theorem Zq5_gok (N : Nat) : GOk Try.prog (Zq5_G N) := gOf_ok ⟨Zq3_pc N, Zq6_pc N, Zq19_pc N, Zq4_pc N, Zq18_pc N, Zq9_pc N, Zq17_pc N, trivial⟩
noncomputable def Zq5_code : Code := (Try.f54.body).getD .skip
noncomputable def Zq5_l0_0_sh : Sh := ⟨[(3, .one (.adr 0 0)), (7, .one (.ref 1)), (9, .one (.ro I)), (26, .one (.ref 1)), (27, .one (.ro I)), (28, .one (.ro I)), (35, .one (.sub 1 1)), (36, .one (.ro I)), (37, .one (.ro I))], [.box [.ro I, .ro LQII], .sl 3 I .own]⟩
noncomputable def Zq5_l0_0_ex : List (Ex × Sh) := [(.ret, ⟨[(6, .one (.ro .bool))], []⟩), (.exit 3, ⟨[(3, .one (.adr 0 0)), (7, .one (.ref 1)), (26, .one (.ref 1)), (27, .one (.ro I)), (28, .one (.ro I))], [.box [.ro I, .ro LQII], .sl 3 I .own]⟩)]
noncomputable def Zq5_l0_0 {R : Type} (N : Nat) (k0 : Bool → Option R) (k1 : Int → Int → Int → (List (Int × Int)) → (List Int) → Option R) : Nat → Int → Int → Int → Int → Int → Int → Int → Int → (List (Int × Int)) → (List Int) → Option R
 | 0, _, _, _, _, _, _, _, _, _, _ => none
 | K + 1, x2, x3, x4, x5, x6, x7, x8, o3, o4, o5 =>
 (br (ilt x8 x7)
 ((chk (ile 0 x8 && ilt x8 (x6 - x5))
 ((Zq4 N (o3, o4) x2 (rdI o5 (x5 + x8))).bind fun r3 =>
 (br (!r3.1.1)
 (k0 false)
 (Zq5_l0_0 N k0 k1 K x2 x3 x4 x5 x6 x7 (IntKind.i64.wrap (x8 + 1)) o3 o4 o5)))))
 (k1 x3 x4 o3 o4 o5))
noncomputable def Zq5_l0_0_again {R : Type} (N : Nat) (ks : KS Zq5_l0_0_ex R) (k : Nat) (x : Zq5_l0_0_sh.T) : Option R :=
 Zq5_l0_0 N (fun y0 => ks 0 ((y0, ()), ())) (fun y0 y1 y2 y3 y4 => ks 1 (((), (), (), y0, y1, ()), ((y2, y3, ()), y4, ()))) k x.1.2.2.1 x.1.2.2.2.2.1 x.1.2.2.2.2.2.1 x.1.2.2.2.2.2.2.1.1 x.1.2.2.2.2.2.2.1.2 x.1.2.2.2.2.2.2.2.1 x.1.2.2.2.2.2.2.2.2.1 x.2.1.1 x.2.1.2.1 x.2.2.1
noncomputable def Zq5_l0_0_s (N : Nat) : LSum := ⟨Zq5_l0_0_sh, Zq5_l0_0_ex, fun x ks => Zq5_l0_0_again N ks N x⟩
theorem Zq5_l0_0_ok (N : Nat) : LoopOk Try.prog Try.f54.ntmps (Zq5_l0_0_s N) (loopAt (loopAt Zq5_code 0) 0) := loopQ (sh := Zq5_l0_0_sh) (ex := Zq5_l0_0_ex) (N := N) (L := []) (fun R k x ks => Zq5_l0_0_again N ks k x) (Zq5_gok N) (fun _ _ _ => rfl) (fun R k x ks => by kernel_rfl) trivial (by kernel_rfl)
noncomputable def Zq5_l0_sh : Sh := ⟨[(3, .one (.adr 0 0)), (7, .one (.ref 1)), (26, .one (.ref 1)), (27, .one (.ro I)), (28, .one (.ro I))], [.box [.ro I, .ro LQII], .sl 3 I .own]⟩
noncomputable def Zq5_l0_ex : List (Ex × Sh) := [(.ret, ⟨[(6, .one (.ro .bool))], []⟩), (.exit 1, ⟨[], []⟩)]
noncomputable def Zq5_l0 {R : Type} (N : Nat) (k0 : Bool → Option R) (k1 : Unit → Option R) : Nat → Int → Int → Int → (List (Int × Int)) → (List Int) → Option R
 | 0, _, _, _, _, _ => none
 | K + 1, x, x1, o, o1, o2 =>
 (br (ilt x1 x)
 ((chk (inb o2 x1)
 (chk (ile 0 0 && ile 0 x1 && ile x1 (tLen o2))
 (Zq5_l0_0 N (fun x2 => k0 x2) (fun x3 x4 o3 o4 o5 => Zq5_l0 N k0 k1 K x3 (IntKind.i64.wrap (x4 + 1)) o3 o4 o5) N (rdI o2 x1) x x1 0 x1 (x1 - 0) 0 o o1 o2))))
 (k1 ()))
noncomputable def Zq5_l0_again {R : Type} (N : Nat) (ks : KS Zq5_l0_ex R) (k : Nat) (x : Zq5_l0_sh.T) : Option R :=
 Zq5_l0 N (fun y0 => ks 0 ((y0, ()), ())) (fun (_ : Unit) => ks 1 ((), ())) k x.1.2.2.2.1 x.1.2.2.2.2.1 x.2.1.1 x.2.1.2.1 x.2.2.1
noncomputable def Zq5_l0_s (N : Nat) : LSum := ⟨Zq5_l0_sh, Zq5_l0_ex, fun x ks => Zq5_l0_again N ks N x⟩
theorem Zq5_l0_ok (N : Nat) : LoopOk Try.prog Try.f54.ntmps (Zq5_l0_s N) (loopAt Zq5_code 0) := loopQ (sh := Zq5_l0_sh) (ex := Zq5_l0_ex) (N := N) (L := [Zq5_l0_0_s N]) (fun R k x ks => Zq5_l0_again N ks k x) (Zq5_gok N) (fun _ _ _ => rfl) (fun R k x ks => by kernel_rfl) ⟨Zq5_l0_0_ok N, trivial⟩ (by kernel_rfl)
noncomputable def Zq5_l1_sh : Sh := ⟨[(2, .one (.ro U64)), (3, .one (.adr 0 0)), (49, .one (.ro I)), (50, .one (.ro I))], [.box [.ro I, .ro LQII]]⟩
noncomputable def Zq5_l1_ex : List (Ex × Sh) := [(.ret, ⟨[(6, .one (.ro .bool))], []⟩), (.exit 5, ⟨[], []⟩)]
noncomputable def Zq5_l1 {R : Type} (N : Nat) (k0 : Bool → Option R) (k1 : Unit → Option R) : Nat → Int → Int → Int → Int → (List (Int × Int)) → Option R
 | 0, _, _, _, _, _ => none
 | K + 1, x1, x2, x3, o, o1 =>
 (br (ilt x3 x2)
 (((Zq18 N x1 x3).bind fun r3 =>
 (br (!r3.1.1)
 (((Zq9 N (o, o1) x3).bind fun r4 =>
 ((Zq17 N r4.1.1).bind fun r5 =>
 (br (ieq (bitop .and .u64 r5.1.1 x1) 0)
 (k0 false)
 (Zq5_l1 N k0 k1 K x1 x2 (IntKind.i64.wrap (x3 + 1)) o o1)))))
 (Zq5_l1 N k0 k1 K x1 x2 (IntKind.i64.wrap (x3 + 1)) o o1))))
 (k1 ()))
noncomputable def Zq5_l1_again {R : Type} (N : Nat) (ks : KS Zq5_l1_ex R) (k : Nat) (x : Zq5_l1_sh.T) : Option R :=
 Zq5_l1 N (fun y0 => ks 0 ((y0, ()), ())) (fun (_ : Unit) => ks 1 ((), ())) k x.1.1 x.1.2.2.1 x.1.2.2.2.1 x.2.1.1 x.2.1.2.1
noncomputable def Zq5_l1_s (N : Nat) : LSum := ⟨Zq5_l1_sh, Zq5_l1_ex, fun x ks => Zq5_l1_again N ks N x⟩
theorem Zq5_l1_ok (N : Nat) : LoopOk Try.prog Try.f54.ntmps (Zq5_l1_s N) (loopAt Zq5_code 1) := loopQ (sh := Zq5_l1_sh) (ex := Zq5_l1_ex) (N := N) (L := []) (fun R k x ks => Zq5_l1_again N ks k x) (Zq5_gok N) (fun _ _ _ => rfl) (fun R k x ks => by kernel_rfl) trivial (by kernel_rfl)
noncomputable def Zq5 (N : Nat) (c : (Int × (List (Int × Int)))) (c1 : Int) (c2 : Int) : Option ((Bool × Unit) × (Unit)) :=
 (br (ieq c1 1)
 (((Zq3 N (c.1, c.2)).bind fun r =>
 ((Zq6 N (c.1, c.2) (bitop .andNot .u64 r.1.1 c2)).bind fun r1 =>
 some ((r1.1.1, ()), ()))))
 ((br (ieq c1 2)
 (((Zq19 N c2).bind fun r2 =>
 Zq5_l0 N (fun x => some ((x, ()), ())) (fun (_ : Unit) => some ((true, ()), ())) N (tLen r2.1.1) 0 c.1 c.2 r2.1.1))
 (Zq5_l1 N (fun x1 => some ((x1, ()), ())) (fun (_ : Unit) => some ((true, ()), ())) N c2 c.1 0 c.1 c.2))))
noncomputable def Zq5_S (N : Nat) : FSum := ⟨Zq5_ps, Zq5_rs, fun x => Zq5 N x.1 x.2.1 x.2.2.1⟩
theorem Zq5_pc (N : Nat) : PC Try.prog 54 (Zq5_S N) := pcQ (L := [Zq5_l0_s N, Zq5_l1_s N]) (Zq5_gok N) Try.call54 Try.func54 (fun x => by kernel_rfl) ⟨Zq5_l0_ok N, Zq5_l1_ok N, trivial⟩ (by kernel_rfl)
end Go.Proofs.Ytffeokcchabclaa
