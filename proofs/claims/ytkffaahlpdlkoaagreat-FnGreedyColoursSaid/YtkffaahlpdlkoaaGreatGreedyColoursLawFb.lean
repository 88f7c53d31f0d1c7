/- Functions of the program as functions on data. -/
import Derived.Test.YtkffaahlpdlkoaaGreatGreedyColoursLawFa
set_option linter.all false
namespace Go.Proofs.YtkffaahlpdlkoaaGreat
open Go Go.PV
/-! ### Zq50 -/
abbrev Zq50_ps : List (PV.Mode × Ty) := [(.ro, LI), (.ro, I)]
abbrev Zq50_rs : List (Bool × Ty) := [(true, LI)]
noncomputable def Zq50_G (N : Nat) : GTab := gOf [(115, Zq40_S N)]
theorem Zq50_gok (N : Nat) : GOk Tryz.prog (Zq50_G N) := gOf_ok ⟨Zq40_pc N, trivial⟩
noncomputable def Zq50_code : Code := (Tryz.f64.body).getD .skip
noncomputable def Zq50_l0_sh : Sh := ⟨[(7, .one (.ref 0)), (8, .one (.ro I))], [.sl 3 I .own]⟩
noncomputable def Zq50_l0_ex : List (Ex × Sh) := [(.exit 0, ⟨[(7, .one (.ref 0))], [.sl 3 I .own]⟩)]
noncomputable def Zq50_l0 {R : Type} (N : Nat) (k0 : (List Int) → Option R) : Nat → Int → (List Int) → Option R
 | 0, _, _ => none
 | K + 1, n, o =>
 (br (ilt n (tLen o))
 ((chk (ile 0 n && ile n (tLen o) && ile (tLen o) (tLen o))
 (chk (ile 0 0 && ile 0 n && ile n (tLen o))
 (Zq50_l0 N k0 K (IntKind.i64.wrap (n + (tMin ((tLen o) - n) (tLen (tCut o 0 n))))) (tPut o n (tCut (tCut o 0 n) 0 (tMin ((tLen o) - n) (tLen (tCut o 0 n)))))))))
 (k0 o))
noncomputable def Zq50_l0_again {R : Type} (N : Nat) (ks : KS Zq50_l0_ex R) (k : Nat) (x : Zq50_l0_sh.T) : Option R :=
 Zq50_l0 N (fun y0 => ks 0 (((), ()), (y0, ()))) k x.1.2.1 x.2.1
noncomputable def Zq50_l0_s (N : Nat) : LSum := ⟨Zq50_l0_sh, Zq50_l0_ex, fun x ks => Zq50_l0_again N ks N x⟩
theorem Zq50_l0_ok (N : Nat) : LoopOk Tryz.prog Tryz.f64.ntmps (Zq50_l0_s N) (loopAt Zq50_code 0) := loopQ (sh := Zq50_l0_sh) (ex := Zq50_l0_ex) (N := N) (L := []) (fun R k x ks => Zq50_l0_again N ks k x) (Zq50_gok N) (fun _ _ _ => rfl) (fun R k x ks => by kernel_rfl) trivial (by kernel_rfl)
noncomputable def Zq50 (N : Nat) (x : (List Int)) (count : Int) : Option (((List Int) × Unit) × (Unit)) :=
 (br (ilt count 0)
 (none)
 (((Zq40 N (IntKind.u64.wrap ((tLen x))) (IntKind.u64.wrap (count))).bind fun r =>
 (br (ilt 0 r.1.1)
 (none)
 ((br (ilt 9223372036854775807 r.1.2.1)
 (none)
 ((chk (ile 0 (IntKind.i64.wrap (r.1.2.1)) && ile (IntKind.i64.wrap (r.1.2.1)) (IntKind.i64.wrap (r.1.2.1)) && fits (IntKind.i64.wrap (r.1.2.1)))
 (Zq50_l0 N (fun o => some ((o, ()), ())) N (tMin (tLen (tRep (IntKind.i64.wrap (r.1.2.1)) (0 : Int))) (tLen x)) (tPut (tRep (IntKind.i64.wrap (r.1.2.1)) (0 : Int)) 0 (tCut x 0 (tMin (tLen (tRep (IntKind.i64.wrap (r.1.2.1)) (0 : Int))) (tLen x)))))))))))))
noncomputable def Zq50_S (N : Nat) : FSum := ⟨Zq50_ps, Zq50_rs, fun x => Zq50 N x.1 x.2.1⟩
theorem Zq50_pc (N : Nat) : PC Tryz.prog 64 (Zq50_S N) := pcQ (L := [Zq50_l0_s N]) (Zq50_gok N) Tryz.call64 Tryz.func64 (fun x => by kernel_rfl) ⟨Zq50_l0_ok N, trivial⟩ (by kernel_rfl)

/-! ### Zq32 -/
abbrev Zq32_ps : List (PV.Mode × Ty) := [(.ro, I), (.ro, I)]
abbrev Zq32_rs : List (Bool × Ty) := [(true, QII)]
noncomputable def Zq32_G (N : Nat) : GTab := gOf []
theorem Zq32_gok (N : Nat) : GOk Tryz.prog (Zq32_G N) := gOf_ok trivial
noncomputable def Zq32_code : Code := (Tryz.f135.body).getD .skip
noncomputable def Zq32 (N : Nat) (a : Int) (b : Int) : Option (((Int × Int) × Unit) × (Unit)) :=
 some ((((if b < a then b else a), (if b > a then b else a)), ()), ())
noncomputable def Zq32_S (N : Nat) : FSum := ⟨Zq32_ps, Zq32_rs, fun x => Zq32 N x.1 x.2.1⟩
theorem Zq32_pc (N : Nat) : PC Tryz.prog 135 (Zq32_S N) := pcQ (L := []) (Zq32_gok N) Tryz.call135 Tryz.func135 (fun x => by kernel_rfl) trivial (by kernel_rfl)

/-! ### Zq49 -/
abbrev Zq49_ps : List (PV.Mode × Ty) := [(.ro, LQII), (.ro, QII)]
abbrev Zq49_rs : List (Bool × Ty) := [(true, I)]
noncomputable def Zq49_G (N : Nat) : GTab := gOf []
theorem Zq49_gok (N : Nat) : GOk Tryz.prog (Zq49_G N) := gOf_ok trivial
noncomputable def Zq49_code : Code := (Tryz.f156.body).getD .skip
noncomputable def Zq49_l0_sh : Sh := ⟨[(0, .one (.ro LQII)), (3, .one (.adr 0 0)), (7, .one (.ro I)), (8, .one (.ro I))], [.box [.ro I, .ro I]]⟩
noncomputable def Zq49_l0_ex : List (Ex × Sh) := [(.ret, ⟨[(4, .one (.ro I))], []⟩), (.exit 0, ⟨[], []⟩)]
noncomputable def Zq49_l0 {R : Type} (N : Nat) (k0 : Int → Option R) (k1 : Unit → Option R) : Nat → (List (Int × Int)) → Int → Int → Int → Int → Option R
 | 0, _, _, _, _, _ => none
 | K + 1, s1, x, x1, o, o1 =>
 (br (ilt x1 x)
 ((chk (inb s1 x1)
 (br (ieq o ((rdP s1 x1).1) && ieq o1 ((rdP s1 x1).2))
 (k0 x1)
 (Zq49_l0 N k0 k1 K s1 x (IntKind.i64.wrap (x1 + 1)) o o1))))
 (k1 ()))
noncomputable def Zq49_l0_again {R : Type} (N : Nat) (ks : KS Zq49_l0_ex R) (k : Nat) (x : Zq49_l0_sh.T) : Option R :=
 Zq49_l0 N (fun y0 => ks 0 ((y0, ()), ())) (fun (_ : Unit) => ks 1 ((), ())) k x.1.1 x.1.2.2.1 x.1.2.2.2.1 x.2.1.1 x.2.1.2.1
noncomputable def Zq49_l0_s (N : Nat) : LSum := ⟨Zq49_l0_sh, Zq49_l0_ex, fun x ks => Zq49_l0_again N ks N x⟩
theorem Zq49_l0_ok (N : Nat) : LoopOk Tryz.prog Tryz.f156.ntmps (Zq49_l0_s N) (loopAt Zq49_code 0) := loopQ (sh := Zq49_l0_sh) (ex := Zq49_l0_ex) (N := N) (L := []) (fun R k x ks => Zq49_l0_again N ks k x) (Zq49_gok N) (fun _ _ _ => rfl) (fun R k x ks => by kernel_rfl) trivial (by kernel_rfl)
noncomputable def Zq49 (N : Nat) (s : (List (Int × Int))) (v : (Int × Int)) : Option ((Int × Unit) × (Unit)) :=
 Zq49_l0 N (fun x => some ((x, ()), ())) (fun (_ : Unit) => some (((-1), ()), ())) N s (tLen s) 0 v.1 v.2
noncomputable def Zq49_S (N : Nat) : FSum := ⟨Zq49_ps, Zq49_rs, fun x => Zq49 N x.1 x.2.1⟩
theorem Zq49_pc (N : Nat) : PC Tryz.prog 156 (Zq49_S N) := pcQ (L := [Zq49_l0_s N]) (Zq49_gok N) Tryz.call156 Tryz.func156 (fun x => by kernel_rfl) ⟨Zq49_l0_ok N, trivial⟩ (by kernel_rfl)

/-! ### Zq47 -/
abbrev Zq47_ps : List (PV.Mode × Ty) := [(.ro, LQII), (.ro, QII)]
abbrev Zq47_rs : List (Bool × Ty) := [(true, .bool)]
noncomputable def Zq47_G (N : Nat) : GTab := gOf [(156, Zq49_S N)]
theorem Zq47_gok (N : Nat) : GOk Tryz.prog (Zq47_G N) := gOf_ok ⟨Zq49_pc N, trivial⟩
noncomputable def Zq47_code : Code := (Tryz.f134.body).getD .skip
noncomputable def Zq47 (N : Nat) (s : (List (Int × Int))) (v : (Int × Int)) : Option ((Bool × Unit) × (Unit)) :=
 ((Zq49 N s (v.1, v.2)).bind fun r =>
 some (((ile 0 r.1.1), ()), ()))
noncomputable def Zq47_S (N : Nat) : FSum := ⟨Zq47_ps, Zq47_rs, fun x => Zq47 N x.1 x.2.1⟩
theorem Zq47_pc (N : Nat) : PC Tryz.prog 134 (Zq47_S N) := pcQ (L := []) (Zq47_gok N) Tryz.call134 Tryz.func134 (fun x => by kernel_rfl) trivial (by kernel_rfl)

/-! ### Zq9 -/
abbrev Zq9_ps : List (PV.Mode × Ty) := [(.ro, QILQII), (.ro, I), (.ro, I)]
abbrev Zq9_rs : List (Bool × Ty) := [(true, .bool)]
noncomputable def Zq9_G (N : Nat) : GTab := gOf [(135, Zq32_S N), (134, Zq47_S N)]
theorem Zq9_gok (N : Nat) : GOk Tryz.prog (Zq9_G N) := gOf_ok ⟨Zq32_pc N, Zq47_pc N, trivial⟩
noncomputable def Zq9_code : Code := (Tryz.f98.body).getD .skip
noncomputable def Zq9 (N : Nat) (g : (Int × (List (Int × Int)))) (a : Int) (b : Int) : Option ((Bool × Unit) × (Unit)) :=
 ((Zq32 N a b).bind fun r =>
 ((Zq47 N g.2 (r.1.1.1, r.1.1.2)).bind fun r1 =>
 some ((r1.1.1, ()), ())))
noncomputable def Zq9_S (N : Nat) : FSum := ⟨Zq9_ps, Zq9_rs, fun x => Zq9 N x.1 x.2.1 x.2.2.1⟩
theorem Zq9_pc (N : Nat) : PC Tryz.prog 98 (Zq9_S N) := pcQ (L := []) (Zq9_gok N) Tryz.call98 Tryz.func98 (fun x => by kernel_rfl) trivial (by kernel_rfl)

/-! ### Zq10 -/
abbrev Zq10_ps : List (PV.Mode × Ty) := [(.ro, QILQII), (.ro, I)]
abbrev Zq10_rs : List (Bool × Ty) := [(true, LI)]
noncomputable def Zq10_G (N : Nat) : GTab := gOf [(98, Zq9_S N)]
theorem Zq10_gok (N : Nat) : GOk Tryz.prog (Zq10_G N) := gOf_ok ⟨Zq9_pc N, trivial⟩
noncomputable def Zq10_code : Code := (Tryz.f66.body).getD .skip
noncomputable def Zq10_l0_sh : Sh := ⟨[(1, .one (.ro I)), (2, .one (.adr 0 0)), (5, .one (.ref 1)), (9, .one (.ro I)), (10, .one (.ro I))], [.box [.ro I, .ro LQII], .sl 3 I .own]⟩
noncomputable def Zq10_l0_ex : List (Ex × Sh) := [(.exit 0, ⟨[(5, .one (.ref 0))], [.sl 3 I .own]⟩)]
noncomputable def Zq10_l0 {R : Type} (N : Nat) (k0 : (List Int) → Option R) : Nat → Int → Int → Int → Int → (List (Int × Int)) → (List Int) → Option R
 | 0, _, _, _, _, _, _ => none
 | K + 1, x1, x2, x3, o, o1, o2 =>
 (br (ilt x3 x2)
 ((br (ine x3 x1)
 (((Zq9 N (o, o1) x1 x3).bind fun r =>
 (br r.1.1
 ((chk (room o2 [x3])
 (Zq10_l0 N k0 K x1 x2 (IntKind.i64.wrap (x3 + 1)) o o1 (tApp o2 [x3]))))
 (Zq10_l0 N k0 K x1 x2 (IntKind.i64.wrap (x3 + 1)) o o1 o2))))
 (Zq10_l0 N k0 K x1 x2 (IntKind.i64.wrap (x3 + 1)) o o1 o2)))
 (k0 o2))
noncomputable def Zq10_l0_again {R : Type} (N : Nat) (ks : KS Zq10_l0_ex R) (k : Nat) (x : Zq10_l0_sh.T) : Option R :=
 Zq10_l0 N (fun y0 => ks 0 (((), ()), (y0, ()))) k x.1.1 x.1.2.2.2.1 x.1.2.2.2.2.1 x.2.1.1 x.2.1.2.1 x.2.2.1
noncomputable def Zq10_l0_s (N : Nat) : LSum := ⟨Zq10_l0_sh, Zq10_l0_ex, fun x ks => Zq10_l0_again N ks N x⟩
theorem Zq10_l0_ok (N : Nat) : LoopOk Tryz.prog Tryz.f66.ntmps (Zq10_l0_s N) (loopAt Zq10_code 0) := loopQ (sh := Zq10_l0_sh) (ex := Zq10_l0_ex) (N := N) (L := []) (fun R k x ks => Zq10_l0_again N ks k x) (Zq10_gok N) (fun _ _ _ => rfl) (fun R k x ks => by kernel_rfl) trivial (by kernel_rfl)
noncomputable def Zq10 (N : Nat) (g : (Int × (List (Int × Int)))) (x : Int) : Option (((List Int) × Unit) × (Unit)) :=
 Zq10_l0 N (fun o => some ((o, ()), ())) N x g.1 0 g.1 g.2 []
noncomputable def Zq10_S (N : Nat) : FSum := ⟨Zq10_ps, Zq10_rs, fun x => Zq10 N x.1 x.2.1⟩
theorem Zq10_pc (N : Nat) : PC Tryz.prog 66 (Zq10_S N) := pcQ (L := [Zq10_l0_s N]) (Zq10_gok N) Tryz.call66 Tryz.func66 (fun x => by kernel_rfl) ⟨Zq10_l0_ok N, trivial⟩ (by kernel_rfl)

/-! ### Zq48 -/
abbrev Zq48_ps : List (PV.Mode × Ty) := [(.ro, LI), (.ro, FIBo)]
abbrev Zq48_rs : List (Bool × Ty) := [(true, I)]
noncomputable def Zq48_G (N : Nat) : GTab := gOf []
theorem Zq48_gok (N : Nat) : GOk Tryz.prog (Zq48_G N) := gOf_ok trivial
noncomputable def Zq48_code : Code := (Tryz.f116.body).getD .skip
noncomputable def Zq48_l0_sh : Sh := ⟨[(0, .one (.ro LI)), (1, .one (.ro FIBo)), (7, .one (.ro I)), (8, .one (.ro I))], []⟩
noncomputable def Zq48_l0_ex : List (Ex × Sh) := [(.ret, ⟨[(4, .one (.ro I))], []⟩), (.exit 0, ⟨[], []⟩)]
noncomputable def Zq48_l0 {R : Type} (N : Nat) (k0 : Int → Option R) (k1 : Unit → Option R) : Nat → (List Int) → (Int → Option Bool) → Int → Int → Option R
 | 0, _, _, _, _ => none
 | K + 1, s1, f1, x, x1 =>
 (br (ilt x1 x)
 ((chk (inb s1 x1)
 ((f1 (rdI s1 x1)).bind fun v =>
 (br v
 (k0 x1)
 (Zq48_l0 N k0 k1 K s1 f1 x (IntKind.i64.wrap (x1 + 1)))))))
 (k1 ()))
noncomputable def Zq48_l0_again {R : Type} (N : Nat) (ks : KS Zq48_l0_ex R) (k : Nat) (x : Zq48_l0_sh.T) : Option R :=
 Zq48_l0 N (fun y0 => ks 0 ((y0, ()), ())) (fun (_ : Unit) => ks 1 ((), ())) k x.1.1 x.1.2.1 x.1.2.2.1 x.1.2.2.2.1
noncomputable def Zq48_l0_s (N : Nat) : LSum := ⟨Zq48_l0_sh, Zq48_l0_ex, fun x ks => Zq48_l0_again N ks N x⟩
theorem Zq48_l0_ok (N : Nat) : LoopOk Tryz.prog Tryz.f116.ntmps (Zq48_l0_s N) (loopAt Zq48_code 0) := loopQ (sh := Zq48_l0_sh) (ex := Zq48_l0_ex) (N := N) (L := []) (fun R k x ks => Zq48_l0_again N ks k x) (Zq48_gok N) (fun _ _ _ => rfl) (fun R k x ks => by kernel_rfl) trivial (by kernel_rfl)
noncomputable def Zq48 (N : Nat) (s : (List Int)) (f : (Int → Option Bool)) : Option ((Int × Unit) × (Unit)) :=
 Zq48_l0 N (fun x => some ((x, ()), ())) (fun (_ : Unit) => some (((-1), ()), ())) N s f (tLen s) 0
noncomputable def Zq48_S (N : Nat) : FSum := ⟨Zq48_ps, Zq48_rs, fun x => Zq48 N x.1 x.2.1⟩
theorem Zq48_pc (N : Nat) : PC Tryz.prog 116 (Zq48_S N) := pcQ (L := [Zq48_l0_s N]) (Zq48_gok N) Tryz.call116 Tryz.func116 (fun x => by kernel_rfl) ⟨Zq48_l0_ok N, trivial⟩ (by kernel_rfl)

/-! ### Zq46 -/
abbrev Zq46_ps : List (PV.Mode × Ty) := [(.ro, LI), (.ro, FIBo)]
abbrev Zq46_rs : List (Bool × Ty) := [(true, .bool)]
noncomputable def Zq46_G (N : Nat) : GTab := gOf [(116, Zq48_S N)]
theorem Zq46_gok (N : Nat) : GOk Tryz.prog (Zq46_G N) := gOf_ok ⟨Zq48_pc N, trivial⟩
noncomputable def Zq46_code : Code := (Tryz.f65.body).getD .skip
noncomputable def Zq46 (N : Nat) (s : (List Int)) (f : (Int → Option Bool)) : Option ((Bool × Unit) × (Unit)) :=
 ((Zq48 N s f).bind fun r =>
 some (((ile 0 r.1.1), ()), ()))
noncomputable def Zq46_S (N : Nat) : FSum := ⟨Zq46_ps, Zq46_rs, fun x => Zq46 N x.1 x.2.1⟩
theorem Zq46_pc (N : Nat) : PC Tryz.prog 65 (Zq46_S N) := pcQ (L := []) (Zq46_gok N) Tryz.call65 Tryz.func65 (fun x => by kernel_rfl) trivial (by kernel_rfl)

/-! ### Zq12 -/
abbrev Zq12_ps : List (PV.Mode × Ty) := [(.ro, I), (.ro, ALI), (.ro, AI)]
abbrev Zq12_rs : List (Bool × Ty) := [(true, .bool)]
noncomputable def Zq12_G (N : Nat) : GTab := gOf []
theorem Zq12_gok (N : Nat) : GOk Tryz.prog (Zq12_G N) := gOf_ok trivial
noncomputable def Zq12_code : Code := (Tryz.f67.body).getD .skip
noncomputable def Zq12 (N : Nat) (y : Int) (c : (List Int)) (c1 : Int) : Option ((Bool × Unit) × (Unit)) :=
 (chk (inb c y)
 (some (((ieq (rdI c y) c1), ()), ())))
noncomputable def Zq12_S (N : Nat) : FSum := ⟨Zq12_ps, Zq12_rs, fun x => Zq12 N x.1 x.2.1 x.2.2.1⟩
theorem Zq12_pc (N : Nat) : PC Tryz.prog 67 (Zq12_S N) := pcQ (L := []) (Zq12_gok N) Tryz.call67 Tryz.func67 (fun x => by kernel_rfl) trivial (by kernel_rfl)

/-! ### Zq11 -/
abbrev Zq11_ps : List (PV.Mode × Ty) := [(.ro, QILQII), (.ro, LI)]
abbrev Zq11_rs : List (Bool × Ty) := [(true, LI), (true, .bool)]
noncomputable def Zq11_G (N : Nat) : GTab := gOf [(62, Zq13_S N), (63, Zq26_S N), (64, Zq50_S N), (66, Zq10_S N), (65, Zq46_S N), (67, Zq12_S N)]
theorem Zq11_gok (N : Nat) : GOk Tryz.prog (Zq11_G N) := gOf_ok ⟨Zq13_pc N, Zq26_pc N, Zq50_pc N, Zq10_pc N, Zq46_pc N, Zq12_pc N, trivial⟩
noncomputable def Zq11_code : Code := (Tryz.f15.body).getD .skip
noncomputable def Zq11_l0_0_sh : Sh := ⟨[(2, .one (.adr 0 0)), (6, .one (.adr 1 0)), (8, .one (.ro I)), (9, .one (.adr 2 0)), (24, .one (.ro LI)), (25, .one (.ro I)), (26, .one (.ro I))], [.box [.ro I, .ro LQII], .box [.ref 3], .box [.ro I], .sl 3 I .own]⟩
noncomputable def Zq11_l0_0_ex : List (Ex × Sh) := [(.exit 2, ⟨[(2, .one (.adr 0 0)), (6, .one (.adr 1 0)), (8, .one (.ro I)), (9, .one (.adr 2 0)), (24, .one (.ro LI)), (25, .one (.ro I)), (26, .one (.ro I))], [.box [.ro I, .ro LQII], .box [.ref 3], .box [.ro I], .sl 3 I .own]⟩)]
noncomputable def Zq11_l0_0 {R : Type} (N : Nat) (k0 : Int → (List Int) → Int → Int → Int → (List (Int × Int)) → Int → (List Int) → Option R) : Nat → Int → (List Int) → Int → Int → Int → (List (Int × Int)) → Int → (List Int) → Option R
 | 0, _, _, _, _, _, _, _, _ => none
 | K + 1, x3, x4, x5, x6, o3, o4, o5, o6 =>
 ((Zq10 N (o3, o4) x3).bind fun r3 =>
 ((Zq46 N r3.1.1 (fun y0 => (Zq12 N y0 o6 o5).bind fun z => some z.1.1)).bind fun r4 =>
 (br r4.1.1
 (Zq11_l0_0 N k0 K x3 x4 x5 x6 o3 o4 (IntKind.i64.wrap (o5 + 1)) o6)
 (k0 x3 x4 x5 x6 o3 o4 o5 o6))))
noncomputable def Zq11_l0_0_again {R : Type} (N : Nat) (ks : KS Zq11_l0_0_ex R) (k : Nat) (x : Zq11_l0_0_sh.T) : Option R :=
 Zq11_l0_0 N (fun y0 y1 y2 y3 y4 y5 y6 y7 => ks 0 (((), (), y0, (), y1, y2, y3, ()), ((y4, y5, ()), ((), ()), (y6, ()), y7, ()))) k x.1.2.2.1 x.1.2.2.2.2.1 x.1.2.2.2.2.2.1 x.1.2.2.2.2.2.2.1 x.2.1.1 x.2.1.2.1 x.2.2.2.1.1 x.2.2.2.2.1
noncomputable def Zq11_l0_0_s (N : Nat) : LSum := ⟨Zq11_l0_0_sh, Zq11_l0_0_ex, fun x ks => Zq11_l0_0_again N ks N x⟩
theorem Zq11_l0_0_ok (N : Nat) : LoopOk Tryz.prog Tryz.f15.ntmps (Zq11_l0_0_s N) (loopAt (loopAt Zq11_code 0) 0) := loopQ (sh := Zq11_l0_0_sh) (ex := Zq11_l0_0_ex) (N := N) (L := []) (fun R k x ks => Zq11_l0_0_again N ks k x) (Zq11_gok N) (fun _ _ _ => rfl) (fun R k x ks => by kernel_rfl) trivial (by kernel_rfl)
noncomputable def Zq11_l0_sh : Sh := ⟨[(2, .one (.adr 0 0)), (6, .one (.adr 1 0)), (24, .one (.ro LI)), (25, .one (.ro I)), (26, .one (.ro I))], [.box [.ro I, .ro LQII], .box [.ref 2], .sl 3 I .own]⟩
noncomputable def Zq11_l0_ex : List (Ex × Sh) := [(.exit 0, ⟨[(6, .one (.adr 0 0))], [.box [.ref 1], .sl 3 I .own]⟩)]
noncomputable def Zq11_l0 {R : Type} (N : Nat) (k0 : (List Int) → Option R) : Nat → (List Int) → Int → Int → Int → (List (Int × Int)) → (List Int) → Option R
 | 0, _, _, _, _, _, _ => none
 | K + 1, x, x1, x2, o, o1, o2 =>
 (br (ilt x2 x1)
 ((chk (inb x x2)
 (Zq11_l0_0 N (fun x3 x4 x5 x6 o3 o4 o5 o6 => (chk (inb o6 x3)
 (Zq11_l0 N k0 K x4 x5 (IntKind.i64.wrap (x6 + 1)) o3 o4 (tSet o6 x3 o5)))) N (rdI x x2) x x1 x2 o o1 0 o2)))
 (k0 o2))
noncomputable def Zq11_l0_again {R : Type} (N : Nat) (ks : KS Zq11_l0_ex R) (k : Nat) (x : Zq11_l0_sh.T) : Option R :=
 Zq11_l0 N (fun y0 => ks 0 (((), ()), (((), ()), y0, ()))) k x.1.2.2.1 x.1.2.2.2.1 x.1.2.2.2.2.1 x.2.1.1 x.2.1.2.1 x.2.2.2.1
noncomputable def Zq11_l0_s (N : Nat) : LSum := ⟨Zq11_l0_sh, Zq11_l0_ex, fun x ks => Zq11_l0_again N ks N x⟩
theorem Zq11_l0_ok (N : Nat) : LoopOk Tryz.prog Tryz.f15.ntmps (Zq11_l0_s N) (loopAt Zq11_code 0) := loopQ (sh := Zq11_l0_sh) (ex := Zq11_l0_ex) (N := N) (L := [Zq11_l0_0_s N]) (fun R k x ks => Zq11_l0_again N ks k x) (Zq11_gok N) (fun _ _ _ => rfl) (fun R k x ks => by kernel_rfl) ⟨Zq11_l0_0_ok N, trivial⟩ (by kernel_rfl)
noncomputable def Zq11 (N : Nat) (g : (Int × (List (Int × Int)))) (order : (List Int)) : Option (((List Int) × Bool × Unit) × (Unit)) :=
 ((Zq13 N (g.1, g.2)).bind fun r =>
 (br (!r.1.1)
 (some (([], false, ()), ()))
 (((Zq26 N order g.1).bind fun r1 =>
 (br (!r1.1.1)
 (some (([], false, ()), ()))
 (((Zq50 N [(-1)] g.1).bind fun r2 =>
 Zq11_l0 N (fun o => some ((o, true, ()), ())) N order (tLen order) 0 g.1 g.2 r2.1.1)))))))
noncomputable def Zq11_S (N : Nat) : FSum := ⟨Zq11_ps, Zq11_rs, fun x => Zq11 N x.1 x.2.1⟩
theorem Zq11_pc (N : Nat) : PC Tryz.prog 15 (Zq11_S N) := pcQ (L := [Zq11_l0_s N]) (Zq11_gok N) Tryz.call15 Tryz.func15 (fun x => by kernel_rfl) ⟨Zq11_l0_ok N, trivial⟩ (by kernel_rfl)

/-! ### Zq68 -/
abbrev Zq68_ps : List (PV.Mode × Ty) := [(.ro, I), (.ro, I), (.ro, I)]
abbrev Zq68_rs : List (Bool × Ty) := [(true, .bool)]
noncomputable def Zq68_G (N : Nat) : GTab := gOf []
theorem Zq68_gok (N : Nat) : GOk Tryz.prog (Zq68_G N) := gOf_ok trivial
noncomputable def Zq68_code : Code := (Tryz.f92.body).getD .skip
noncomputable def Zq68 (N : Nat) (x : Int) (a : Int) (b : Int) : Option ((Bool × Unit) × (Unit)) :=
 (br (ile a x)
 (some (((ile x b), ()), ()))
 (some ((false, ()), ())))
noncomputable def Zq68_S (N : Nat) : FSum := ⟨Zq68_ps, Zq68_rs, fun x => Zq68 N x.1 x.2.1 x.2.2.1⟩
theorem Zq68_pc (N : Nat) : PC Tryz.prog 92 (Zq68_S N) := pcQ (L := []) (Zq68_gok N) Tryz.call92 Tryz.func92 (fun x => by kernel_rfl) trivial (by kernel_rfl)

/-! ### Zq78 -/
abbrev Zq78_ps : List (PV.Mode × Ty) := [(.ro, LQII), (.ro, I)]
abbrev Zq78_rs : List (Bool × Ty) := [(true, .bool)]
noncomputable def Zq78_G (N : Nat) : GTab := gOf [(92, Zq68_S N), (131, Zq73_S N)]
theorem Zq78_gok (N : Nat) : GOk Tryz.prog (Zq78_G N) := gOf_ok ⟨Zq68_pc N, Zq73_pc N, trivial⟩
noncomputable def Zq78_code : Code := (Tryz.f93.body).getD .skip
noncomputable def Zq78_l0_sh : Sh := ⟨[(0, .one (.ro LQII)), (1, .one (.ro I)), (5, .one (.ro I))], []⟩
noncomputable def Zq78_l0_ex : List (Ex × Sh) := [(.ret, ⟨[(4, .one (.ro .bool))], []⟩), (.exit 0, ⟨[], []⟩)]
noncomputable def Zq78_l0 {R : Type} (N : Nat) (k0 : Bool → Option R) (k1 : Unit → Option R) : Nat → (List (Int × Int)) → Int → Int → Option R
 | 0, _, _, _ => none
 | K + 1, pairs1, n1, i =>
 (br (ilt i (tLen pairs1))
 ((chk (inb pairs1 i)
 ((Zq68 N ((rdP pairs1 i).1) 0 (IntKind.i64.wrap (n1 - 1))).bind fun r =>
 (br (!r.1.1)
 (k0 false)
 (((Zq68 N ((rdP pairs1 i).2) 0 (IntKind.i64.wrap (n1 - 1))).bind fun r1 =>
 (br (!r1.1.1)
 (k0 false)
 ((br (ile ((rdP pairs1 i).2) ((rdP pairs1 i).1))
 (k0 false)
 ((br (ilt 0 i)
 ((chk (inb pairs1 (IntKind.i64.wrap (i - 1)))
 ((Zq73 N (rdP pairs1 (IntKind.i64.wrap (i - 1))) ((rdP pairs1 i).1, (rdP pairs1 i).2)).bind fun r2 =>
 (br (!r2.1.1)
 (k0 false)
 (Zq78_l0 N k0 k1 K pairs1 n1 (IntKind.i64.wrap (i + 1)))))))
 (Zq78_l0 N k0 k1 K pairs1 n1 (IntKind.i64.wrap (i + 1))))))))))))))
 (k1 ()))
noncomputable def Zq78_l0_again {R : Type} (N : Nat) (ks : KS Zq78_l0_ex R) (k : Nat) (x : Zq78_l0_sh.T) : Option R :=
 Zq78_l0 N (fun y0 => ks 0 ((y0, ()), ())) (fun (_ : Unit) => ks 1 ((), ())) k x.1.1 x.1.2.1 x.1.2.2.1
noncomputable def Zq78_l0_s (N : Nat) : LSum := ⟨Zq78_l0_sh, Zq78_l0_ex, fun x ks => Zq78_l0_again N ks N x⟩
theorem Zq78_l0_ok (N : Nat) : LoopOk Tryz.prog Tryz.f93.ntmps (Zq78_l0_s N) (loopAt Zq78_code 0) := loopQ (sh := Zq78_l0_sh) (ex := Zq78_l0_ex) (N := N) (L := []) (fun R k x ks => Zq78_l0_again N ks k x) (Zq78_gok N) (fun _ _ _ => rfl) (fun R k x ks => by kernel_rfl) trivial (by kernel_rfl)
noncomputable def Zq78 (N : Nat) (pairs : (List (Int × Int))) (n : Int) : Option ((Bool × Unit) × (Unit)) :=
 Zq78_l0 N (fun x => some ((x, ()), ())) (fun (_ : Unit) => some ((true, ()), ())) N pairs n 0
noncomputable def Zq78_S (N : Nat) : FSum := ⟨Zq78_ps, Zq78_rs, fun x => Zq78 N x.1 x.2.1⟩
theorem Zq78_pc (N : Nat) : PC Tryz.prog 93 (Zq78_S N) := pcQ (L := [Zq78_l0_s N]) (Zq78_gok N) Tryz.call93 Tryz.func93 (fun x => by kernel_rfl) ⟨Zq78_l0_ok N, trivial⟩ (by kernel_rfl)

/-! ### Zq74 -/
abbrev Zq74_ps : List (PV.Mode × Ty) := [(.ro, QILQII)]
abbrev Zq74_rs : List (Bool × Ty) := [(true, .bool)]
noncomputable def Zq74_G (N : Nat) : GTab := gOf [(92, Zq68_S N), (93, Zq78_S N)]
theorem Zq74_gok (N : Nat) : GOk Tryz.prog (Zq74_G N) := gOf_ok ⟨Zq68_pc N, Zq78_pc N, trivial⟩
noncomputable def Zq74_code : Code := (Tryz.f41.body).getD .skip
noncomputable def Zq74 (N : Nat) (g : (Int × (List (Int × Int)))) : Option ((Bool × Unit) × (Unit)) :=
 ((Zq68 N g.1 0 8).bind fun r =>
 (br r.1.1
 (((Zq78 N g.2 g.1).bind fun r1 =>
 some ((r1.1.1, ()), ())))
 (some ((false, ()), ()))))
noncomputable def Zq74_S (N : Nat) : FSum := ⟨Zq74_ps, Zq74_rs, fun x => Zq74 N x.1⟩
theorem Zq74_pc (N : Nat) : PC Tryz.prog 41 (Zq74_S N) := pcQ (L := []) (Zq74_gok N) Tryz.call41 Tryz.func41 (fun x => by kernel_rfl) trivial (by kernel_rfl)

/-! ### Zq67 -/
abbrev Zq67_ps : List (PV.Mode × Ty) := [(.ro, LI), (.ro, I)]
abbrev Zq67_rs : List (Bool × Ty) := [(true, .bool)]
noncomputable def Zq67_G (N : Nat) : GTab := gOf []
theorem Zq67_gok (N : Nat) : GOk Tryz.prog (Zq67_G N) := gOf_ok trivial
noncomputable def Zq67_code : Code := (Tryz.f70.body).getD .skip
noncomputable def Zq67_l0_sh : Sh := ⟨[(0, .one (.ro LI)), (1, .one (.ro I)), (5, .one (.ro I))], []⟩
noncomputable def Zq67_l0_ex : List (Ex × Sh) := [(.ret, ⟨[(4, .one (.ro .bool))], []⟩), (.exit 0, ⟨[], []⟩)]
noncomputable def Zq67_l0 {R : Type} (N : Nat) (k0 : Bool → Option R) (k1 : Unit → Option R) : Nat → (List Int) → Int → Int → Option R
 | 0, _, _, _ => none
 | K + 1, l1, n1, i =>
 (br (ilt i (tLen l1))
 ((chk (inb l1 i)
 (br (ieq (rdI l1 i) n1)
 (k0 true)
 (Zq67_l0 N k0 k1 K l1 n1 (IntKind.i64.wrap (i + 1))))))
 (k1 ()))
noncomputable def Zq67_l0_again {R : Type} (N : Nat) (ks : KS Zq67_l0_ex R) (k : Nat) (x : Zq67_l0_sh.T) : Option R :=
 Zq67_l0 N (fun y0 => ks 0 ((y0, ()), ())) (fun (_ : Unit) => ks 1 ((), ())) k x.1.1 x.1.2.1 x.1.2.2.1
noncomputable def Zq67_l0_s (N : Nat) : LSum := ⟨Zq67_l0_sh, Zq67_l0_ex, fun x ks => Zq67_l0_again N ks N x⟩
theorem Zq67_l0_ok (N : Nat) : LoopOk Tryz.prog Tryz.f70.ntmps (Zq67_l0_s N) (loopAt Zq67_code 0) := loopQ (sh := Zq67_l0_sh) (ex := Zq67_l0_ex) (N := N) (L := []) (fun R k x ks => Zq67_l0_again N ks k x) (Zq67_gok N) (fun _ _ _ => rfl) (fun R k x ks => by kernel_rfl) trivial (by kernel_rfl)
noncomputable def Zq67 (N : Nat) (l : (List Int)) (n : Int) : Option ((Bool × Unit) × (Unit)) :=
 Zq67_l0 N (fun x => some ((x, ()), ())) (fun (_ : Unit) => some ((false, ()), ())) N l n 0
noncomputable def Zq67_S (N : Nat) : FSum := ⟨Zq67_ps, Zq67_rs, fun x => Zq67 N x.1 x.2.1⟩
theorem Zq67_pc (N : Nat) : PC Tryz.prog 70 (Zq67_S N) := pcQ (L := [Zq67_l0_s N]) (Zq67_gok N) Tryz.call70 Tryz.func70 (fun x => by kernel_rfl) ⟨Zq67_l0_ok N, trivial⟩ (by kernel_rfl)

/-! ### Zq89 -/
abbrev Zq89_ps : List (PV.Mode × Ty) := [(.ro, QILQII), (.ro, LI)]
abbrev Zq89_rs : List (Bool × Ty) := [(true, .bool)]
noncomputable def Zq89_G (N : Nat) : GTab := gOf [(70, Zq67_S N)]
theorem Zq89_gok (N : Nat) : GOk Tryz.prog (Zq89_G N) := gOf_ok ⟨Zq67_pc N, trivial⟩
noncomputable def Zq89_code : Code := (Tryz.f68.body).getD .skip
noncomputable def Zq89_l0_sh : Sh := ⟨[(1, .one (.ro LI)), (2, .one (.adr 0 0)), (5, .one (.ro I))], [.box [.ro I, .ro LQII]]⟩
noncomputable def Zq89_l0_ex : List (Ex × Sh) := [(.ret, ⟨[(4, .one (.ro .bool))], []⟩), (.exit 0, ⟨[(1, .one (.ro LI)), (2, .one (.adr 0 0))], [.box [.ro I, .ro LQII]]⟩)]
noncomputable def Zq89_l0 {R : Type} (N : Nat) (k0 : Bool → Option R) (k1 : (List Int) → Int → (List (Int × Int)) → Option R) : Nat → (List Int) → Int → Int → (List (Int × Int)) → Option R
 | 0, _, _, _, _ => none
 | K + 1, order1, x, o, o1 =>
 (br (ilt x o)
 (((Zq67 N order1 x).bind fun r =>
 (br (!r.1.1)
 (k0 false)
 (Zq89_l0 N k0 k1 K order1 (IntKind.i64.wrap (x + 1)) o o1))))
 (k1 order1 o o1))
noncomputable def Zq89_l0_again {R : Type} (N : Nat) (ks : KS Zq89_l0_ex R) (k : Nat) (x : Zq89_l0_sh.T) : Option R :=
 Zq89_l0 N (fun y0 => ks 0 ((y0, ()), ())) (fun y0 y1 y2 => ks 1 ((y0, (), ()), ((y1, y2, ()), ()))) k x.1.1 x.1.2.2.1 x.2.1.1 x.2.1.2.1
noncomputable def Zq89_l0_s (N : Nat) : LSum := ⟨Zq89_l0_sh, Zq89_l0_ex, fun x ks => Zq89_l0_again N ks N x⟩
theorem Zq89_l0_ok (N : Nat) : LoopOk Tryz.prog Tryz.f68.ntmps (Zq89_l0_s N) (loopAt Zq89_code 0) := loopQ (sh := Zq89_l0_sh) (ex := Zq89_l0_ex) (N := N) (L := []) (fun R k x ks => Zq89_l0_again N ks k x) (Zq89_gok N) (fun _ _ _ => rfl) (fun R k x ks => by kernel_rfl) trivial (by kernel_rfl)
noncomputable def Zq89 (N : Nat) (g : (Int × (List (Int × Int)))) (order : (List Int)) : Option ((Bool × Unit) × (Unit)) :=
 Zq89_l0 N (fun x => some ((x, ()), ())) (fun order1 o o1 => some (((ieq (tLen order1) o), ()), ())) N order 0 g.1 g.2
noncomputable def Zq89_S (N : Nat) : FSum := ⟨Zq89_ps, Zq89_rs, fun x => Zq89 N x.1 x.2.1⟩
theorem Zq89_pc (N : Nat) : PC Tryz.prog 68 (Zq89_S N) := pcQ (L := [Zq89_l0_s N]) (Zq89_gok N) Tryz.call68 Tryz.func68 (fun x => by kernel_rfl) ⟨Zq89_l0_ok N, trivial⟩ (by kernel_rfl)

/-! ### Zq76 -/
abbrev Zq76_ps : List (PV.Mode × Ty) := [(.ro, QILQII), (.ro, I), (.ro, I)]
abbrev Zq76_rs : List (Bool × Ty) := [(true, .bool)]
noncomputable def Zq76_G (N : Nat) : GTab := gOf []
theorem Zq76_gok (N : Nat) : GOk Tryz.prog (Zq76_G N) := gOf_ok trivial
noncomputable def Zq76_code : Code := (Tryz.f69.body).getD .skip
noncomputable def Zq76_l0_sh : Sh := ⟨[(1, .one (.ro I)), (2, .one (.ro I)), (3, .one (.adr 0 0)), (7, .one (.ro I))], [.box [.ro I, .ro LQII]]⟩
noncomputable def Zq76_l0_ex : List (Ex × Sh) := [(.ret, ⟨[(6, .one (.ro .bool))], []⟩), (.exit 0, ⟨[], []⟩)]
noncomputable def Zq76_l0 {R : Type} (N : Nat) (k0 : Bool → Option R) (k1 : Unit → Option R) : Nat → Int → Int → Int → Int → (List (Int × Int)) → Option R
 | 0, _, _, _, _, _ => none
 | K + 1, a1, b1, i, o, o1 =>
 (br (ilt i (tLen o1))
 ((chk (inb o1 i)
 (br (ieq ((rdP o1 i).1) a1)
 ((br (ieq ((rdP o1 i).2) b1)
 (k0 true)
 ((br (ieq ((rdP o1 i).1) b1)
 ((br (ieq ((rdP o1 i).2) a1)
 (k0 true)
 (Zq76_l0 N k0 k1 K a1 b1 (IntKind.i64.wrap (i + 1)) o o1)))
 (Zq76_l0 N k0 k1 K a1 b1 (IntKind.i64.wrap (i + 1)) o o1)))))
 ((br (ieq ((rdP o1 i).1) b1)
 ((br (ieq ((rdP o1 i).2) a1)
 (k0 true)
 (Zq76_l0 N k0 k1 K a1 b1 (IntKind.i64.wrap (i + 1)) o o1)))
 (Zq76_l0 N k0 k1 K a1 b1 (IntKind.i64.wrap (i + 1)) o o1))))))
 (k1 ()))
noncomputable def Zq76_l0_again {R : Type} (N : Nat) (ks : KS Zq76_l0_ex R) (k : Nat) (x : Zq76_l0_sh.T) : Option R :=
 Zq76_l0 N (fun y0 => ks 0 ((y0, ()), ())) (fun (_ : Unit) => ks 1 ((), ())) k x.1.1 x.1.2.1 x.1.2.2.2.1 x.2.1.1 x.2.1.2.1
noncomputable def Zq76_l0_s (N : Nat) : LSum := ⟨Zq76_l0_sh, Zq76_l0_ex, fun x ks => Zq76_l0_again N ks N x⟩
theorem Zq76_l0_ok (N : Nat) : LoopOk Tryz.prog Tryz.f69.ntmps (Zq76_l0_s N) (loopAt Zq76_code 0) := loopQ (sh := Zq76_l0_sh) (ex := Zq76_l0_ex) (N := N) (L := []) (fun R k x ks => Zq76_l0_again N ks k x) (Zq76_gok N) (fun _ _ _ => rfl) (fun R k x ks => by kernel_rfl) trivial (by kernel_rfl)
noncomputable def Zq76 (N : Nat) (g : (Int × (List (Int × Int)))) (a : Int) (b : Int) : Option ((Bool × Unit) × (Unit)) :=
 Zq76_l0 N (fun x => some ((x, ()), ())) (fun (_ : Unit) => some ((false, ()), ())) N a b 0 g.1 g.2
noncomputable def Zq76_S (N : Nat) : FSum := ⟨Zq76_ps, Zq76_rs, fun x => Zq76 N x.1 x.2.1 x.2.2.1⟩
theorem Zq76_pc (N : Nat) : PC Tryz.prog 69 (Zq76_S N) := pcQ (L := [Zq76_l0_s N]) (Zq76_gok N) Tryz.call69 Tryz.func69 (fun x => by kernel_rfl) ⟨Zq76_l0_ok N, trivial⟩ (by kernel_rfl)

/-! ### Zq57 -/
abbrev Zq57_ps : List (PV.Mode × Ty) := [(.ro, QILQII), (.ro, LI)]
abbrev Zq57_rs : List (Bool × Ty) := [(true, LI), (true, .bool)]
noncomputable def Zq57_G (N : Nat) : GTab := gOf [(41, Zq74_S N), (68, Zq89_S N), (69, Zq76_S N), (70, Zq67_S N)]
theorem Zq57_gok (N : Nat) : GOk Tryz.prog (Zq57_G N) := gOf_ok ⟨Zq74_pc N, Zq89_pc N, Zq76_pc N, Zq67_pc N, trivial⟩
noncomputable def Zq57_code : Code := (Tryz.f16.body).getD .skip
noncomputable def Zq57_l0_0_sh : Sh := ⟨[(1, .one (.ro LI)), (2, .one (.adr 0 0)), (6, .one (.ref 1)), (7, .one (.ro I)), (8, .one (.ref 2)), (9, .one (.ro I))], [.box [.ro I, .ro LQII], .sl 3 I .own, .sl 3 I .own]⟩
noncomputable def Zq57_l0_0_ex : List (Ex × Sh) := [(.exit 2, ⟨[(1, .one (.ro LI)), (2, .one (.adr 0 0)), (6, .one (.ref 1)), (7, .one (.ro I)), (8, .one (.ref 2))], [.box [.ro I, .ro LQII], .sl 3 I .own, .sl 3 I .own]⟩)]
noncomputable def Zq57_l0_0 {R : Type} (N : Nat) (k0 : (List Int) → Int → Int → (List (Int × Int)) → (List Int) → (List Int) → Option R) : Nat → (List Int) → Int → Int → Int → (List (Int × Int)) → (List Int) → (List Int) → Option R
 | 0, _, _, _, _, _, _, _ => none
 | K + 1, x2, x3, x4, o3, o4, o5, o6 =>
 (br (ilt x4 x3)
 ((chk (inb x2 x4)
 (chk (inb x2 x3)
 ((Zq76 N (o3, o4) (rdI x2 x4) (rdI x2 x3)).bind fun r2 =>
 (br r2.1.1
 ((chk (inb x2 x4)
 (chk (inb o5 (rdI x2 x4))
 (chk (room o6 [(rdI o5 (rdI x2 x4))])
 (Zq57_l0_0 N k0 K x2 x3 (IntKind.i64.wrap (x4 + 1)) o3 o4 o5 (tApp o6 [(rdI o5 (rdI x2 x4))]))))))
 (Zq57_l0_0 N k0 K x2 x3 (IntKind.i64.wrap (x4 + 1)) o3 o4 o5 o6))))))
 (k0 x2 x3 o3 o4 o5 o6))
noncomputable def Zq57_l0_0_again {R : Type} (N : Nat) (ks : KS Zq57_l0_0_ex R) (k : Nat) (x : Zq57_l0_0_sh.T) : Option R :=
 Zq57_l0_0 N (fun y0 y1 y2 y3 y4 y5 => ks 0 ((y0, (), (), y1, (), ()), ((y2, y3, ()), y4, y5, ()))) k x.1.1 x.1.2.2.2.1 x.1.2.2.2.2.2.1 x.2.1.1 x.2.1.2.1 x.2.2.1 x.2.2.2.1
noncomputable def Zq57_l0_0_s (N : Nat) : LSum := ⟨Zq57_l0_0_sh, Zq57_l0_0_ex, fun x ks => Zq57_l0_0_again N ks N x⟩
theorem Zq57_l0_0_ok (N : Nat) : LoopOk Tryz.prog Tryz.f16.ntmps (Zq57_l0_0_s N) (loopAt (loopAt Zq57_code 0) 0) := loopQ (sh := Zq57_l0_0_sh) (ex := Zq57_l0_0_ex) (N := N) (L := []) (fun R k x ks => Zq57_l0_0_again N ks k x) (Zq57_gok N) (fun _ _ _ => rfl) (fun R k x ks => by kernel_rfl) trivial (by kernel_rfl)
noncomputable def Zq57_l0_1_sh : Sh := ⟨[(1, .one (.ro LI)), (2, .one (.adr 0 0)), (6, .one (.ref 1)), (7, .one (.ro I)), (8, .one (.ref 2))], [.box [.ro I, .ro LQII], .sl 3 I .own, .sl 3 I .own]⟩
noncomputable def Zq57_l0_1_ex : List (Ex × Sh) := [(.exit 4, ⟨[(1, .one (.ro LI)), (2, .one (.adr 0 0)), (6, .one (.ref 1)), (7, .one (.ro I))], [.box [.ro I, .ro LQII], .sl 3 I .own]⟩)]
noncomputable def Zq57_l0_1 {R : Type} (N : Nat) (k0 : (List Int) → Int → Int → (List (Int × Int)) → (List Int) → Option R) : Nat → (List Int) → Int → Int → (List (Int × Int)) → (List Int) → (List Int) → Option R
 | 0, _, _, _, _, _, _ => none
 | K + 1, x4, x5, o7, o8, o9, o10 =>
 (chk (inb x4 x5)
 (chk (inb o9 (rdI x4 x5))
 ((Zq67 N o10 (rdI o9 (rdI x4 x5))).bind fun r2 =>
 (br r2.1.1
 ((chk (inb x4 x5)
 (chk (inb o9 (rdI x4 x5))
 (chk (inb o9 (rdI x4 x5))
 (Zq57_l0_1 N k0 K x4 x5 o7 o8 (tSet o9 (rdI x4 x5) (IntKind.i64.wrap ((rdI o9 (rdI x4 x5)) + 1))) o10)))))
 (k0 x4 x5 o7 o8 o9)))))
noncomputable def Zq57_l0_1_again {R : Type} (N : Nat) (ks : KS Zq57_l0_1_ex R) (k : Nat) (x : Zq57_l0_1_sh.T) : Option R :=
 Zq57_l0_1 N (fun y0 y1 y2 y3 y4 => ks 0 ((y0, (), (), y1, ()), ((y2, y3, ()), y4, ()))) k x.1.1 x.1.2.2.2.1 x.2.1.1 x.2.1.2.1 x.2.2.1 x.2.2.2.1
noncomputable def Zq57_l0_1_s (N : Nat) : LSum := ⟨Zq57_l0_1_sh, Zq57_l0_1_ex, fun x ks => Zq57_l0_1_again N ks N x⟩
theorem Zq57_l0_1_ok (N : Nat) : LoopOk Tryz.prog Tryz.f16.ntmps (Zq57_l0_1_s N) (loopAt (loopAt Zq57_code 0) 1) := loopQ (sh := Zq57_l0_1_sh) (ex := Zq57_l0_1_ex) (N := N) (L := []) (fun R k x ks => Zq57_l0_1_again N ks k x) (Zq57_gok N) (fun _ _ _ => rfl) (fun R k x ks => by kernel_rfl) trivial (by kernel_rfl)
noncomputable def Zq57_l0_sh : Sh := ⟨[(1, .one (.ro LI)), (2, .one (.adr 0 0)), (6, .one (.ref 1)), (7, .one (.ro I))], [.box [.ro I, .ro LQII], .sl 3 I .own]⟩
noncomputable def Zq57_l0_ex : List (Ex × Sh) := [(.exit 0, ⟨[(6, .one (.ref 0))], [.sl 3 I .own]⟩)]
noncomputable def Zq57_l0 {R : Type} (N : Nat) (k0 : (List Int) → Option R) : Nat → (List Int) → Int → Int → (List (Int × Int)) → (List Int) → Option R
 | 0, _, _, _, _, _ => none
 | K + 1, x, x1, o, o1, o2 =>
 (br (ilt x1 (tLen x))
 (Zq57_l0_0 N (fun x2 x3 o3 o4 o5 o6 => Zq57_l0_1 N (fun x4 x5 o7 o8 o9 => Zq57_l0 N k0 K x4 (IntKind.i64.wrap (x5 + 1)) o7 o8 o9) N x2 x3 o3 o4 o5 o6) N x x1 0 o o1 o2 [])
 (k0 o2))
noncomputable def Zq57_l0_again {R : Type} (N : Nat) (ks : KS Zq57_l0_ex R) (k : Nat) (x : Zq57_l0_sh.T) : Option R :=
 Zq57_l0 N (fun y0 => ks 0 (((), ()), (y0, ()))) k x.1.1 x.1.2.2.2.1 x.2.1.1 x.2.1.2.1 x.2.2.1
noncomputable def Zq57_l0_s (N : Nat) : LSum := ⟨Zq57_l0_sh, Zq57_l0_ex, fun x ks => Zq57_l0_again N ks N x⟩
theorem Zq57_l0_ok (N : Nat) : LoopOk Tryz.prog Tryz.f16.ntmps (Zq57_l0_s N) (loopAt Zq57_code 0) := loopQ (sh := Zq57_l0_sh) (ex := Zq57_l0_ex) (N := N) (L := [Zq57_l0_0_s N, Zq57_l0_1_s N]) (fun R k x ks => Zq57_l0_again N ks k x) (Zq57_gok N) (fun _ _ _ => rfl) (fun R k x ks => by kernel_rfl) ⟨Zq57_l0_0_ok N, Zq57_l0_1_ok N, trivial⟩ (by kernel_rfl)
noncomputable def Zq57 (N : Nat) (c : (Int × (List (Int × Int)))) (c1 : (List Int)) : Option (((List Int) × Bool × Unit) × (Unit)) :=
 ((Zq74 N (c.1, c.2)).bind fun r =>
 (br (!r.1.1)
 (some (([], false, ()), ()))
 (((Zq89 N (c.1, c.2) c1).bind fun r1 =>
 (br (!r1.1.1)
 (some (([], false, ()), ()))
 ((chk (ile 0 c.1 && ile c.1 c.1 && fits c.1)
 (Zq57_l0 N (fun o => some ((o, true, ()), ())) N c1 0 c.1 c.2 (tRep c.1 (0 : Int))))))))))
noncomputable def Zq57_S (N : Nat) : FSum := ⟨Zq57_ps, Zq57_rs, fun x => Zq57 N x.1 x.2.1⟩
theorem Zq57_pc (N : Nat) : PC Tryz.prog 16 (Zq57_S N) := pcQ (L := [Zq57_l0_s N]) (Zq57_gok N) Tryz.call16 Tryz.func16 (fun x => by kernel_rfl) ⟨Zq57_l0_ok N, trivial⟩ (by kernel_rfl)

/-! ### Zq38 -/
abbrev Zq38_ps : List (PV.Mode × Ty) := [(.ro, LU8), (.ro, I)]
abbrev Zq38_rs : List (Bool × Ty) := [(true, LU8)]
noncomputable def Zq38_G (N : Nat) : GTab := gOf []
theorem Zq38_gok (N : Nat) : GOk Tryz.prog (Zq38_G N) := gOf_ok trivial
noncomputable def Zq38_code : Code := (Tryz.f18.body).getD .skip
noncomputable def Zq38 (N : Nat) (code : (List Int)) (n : Int) : Option (((List Int) × Unit) × (Unit)) :=
 (br (ilt (tLen code) n)
 ((chk (ile 0 (tLen code) && ile (tLen code) (tLen code) && ile (tLen code) (tLen code))
 (chk (room (α := Int) (β := Int) [] (tCut code (tLen code) (tLen code)))
 (chk (room (tApp [] (tCut code (tLen code) (tLen code))) [(IntKind.u8.wrap ((tLen code)))])
 (some (((tApp (tApp [] (tCut code (tLen code) (tLen code))) [(IntKind.u8.wrap ((tLen code)))]), ()), ()))))))
 ((chk (ile 0 n && ile n (tLen code) && ile (tLen code) (tLen code))
 (chk (room (α := Int) (β := Int) [] (tCut code n (tLen code)))
 (chk (room (tApp [] (tCut code n (tLen code))) [(IntKind.u8.wrap (n))])
 (some (((tApp (tApp [] (tCut code n (tLen code))) [(IntKind.u8.wrap (n))]), ()), ())))))))
noncomputable def Zq38_S (N : Nat) : FSum := ⟨Zq38_ps, Zq38_rs, fun x => Zq38 N x.1 x.2.1⟩
theorem Zq38_pc (N : Nat) : PC Tryz.prog 18 (Zq38_S N) := pcQ (L := []) (Zq38_gok N) Tryz.call18 Tryz.func18 (fun x => by kernel_rfl) trivial (by kernel_rfl)

/-! ### Zq62 -/
abbrev Zq62_ps : List (PV.Mode × Ty) := [(.mut, BQOU8QIU64)]
abbrev Zq62_rs : List (Bool × Ty) := [(true, QILQII)]
noncomputable def Zq62_G (N : Nat) : GTab := gOf [(111, Zq66_S N)]
theorem Zq62_gok (N : Nat) : GOk Tryz.prog (Zq62_G N) := gOf_ok ⟨Zq66_pc N, trivial⟩
noncomputable def Zq62_code : Code := (Tryz.f88.body).getD .skip
noncomputable def Zq62 (N : Nat) (c : ((List Int) × (Int × Int))) : Option (((Int × (List (Int × Int))) × Unit) × (((List Int) × (Int × Int)) × Unit)) :=
 ((Zq66 N c 6).bind fun r =>
 some (((r.1.1.1, r.1.1.2), ()), (r.2.1, ())))
noncomputable def Zq62_S (N : Nat) : FSum := ⟨Zq62_ps, Zq62_rs, fun x => Zq62 N x.1⟩
theorem Zq62_pc (N : Nat) : PC Tryz.prog 88 (Zq62_S N) := pcQ (L := []) (Zq62_gok N) Tryz.call88 Tryz.func88 (fun x => by kernel_rfl) trivial (by kernel_rfl)

/-! ### Zq77 -/
abbrev Zq77_ps : List (PV.Mode × Ty) := [(.ro, QILQII), (.ro, I)]
abbrev Zq77_rs : List (Bool × Ty) := [(true, LI)]
noncomputable def Zq77_G (N : Nat) : GTab := gOf [(69, Zq76_S N)]
theorem Zq77_gok (N : Nat) : GOk Tryz.prog (Zq77_G N) := gOf_ok ⟨Zq76_pc N, trivial⟩
noncomputable def Zq77_code : Code := (Tryz.f43.body).getD .skip
noncomputable def Zq77_l0_sh : Sh := ⟨[(1, .one (.ro I)), (2, .one (.adr 0 0)), (5, .one (.ref 1)), (6, .one (.ro I))], [.box [.ro I, .ro LQII], .sl 3 I .own]⟩
noncomputable def Zq77_l0_ex : List (Ex × Sh) := [(.exit 0, ⟨[(5, .one (.ref 0))], [.sl 3 I .own]⟩)]
noncomputable def Zq77_l0 {R : Type} (N : Nat) (k0 : (List Int) → Option R) : Nat → Int → Int → Int → (List (Int × Int)) → (List Int) → Option R
 | 0, _, _, _, _, _ => none
 | K + 1, x1, y, o, o1, o2 =>
 (br (ilt y o)
 (((Zq76 N (o, o1) x1 y).bind fun r =>
 (br r.1.1
 ((chk (room o2 [y])
 (Zq77_l0 N k0 K x1 (IntKind.i64.wrap (y + 1)) o o1 (tApp o2 [y]))))
 (Zq77_l0 N k0 K x1 (IntKind.i64.wrap (y + 1)) o o1 o2))))
 (k0 o2))
noncomputable def Zq77_l0_again {R : Type} (N : Nat) (ks : KS Zq77_l0_ex R) (k : Nat) (x : Zq77_l0_sh.T) : Option R :=
 Zq77_l0 N (fun y0 => ks 0 (((), ()), (y0, ()))) k x.1.1 x.1.2.2.2.1 x.2.1.1 x.2.1.2.1 x.2.2.1
noncomputable def Zq77_l0_s (N : Nat) : LSum := ⟨Zq77_l0_sh, Zq77_l0_ex, fun x ks => Zq77_l0_again N ks N x⟩
theorem Zq77_l0_ok (N : Nat) : LoopOk Tryz.prog Tryz.f43.ntmps (Zq77_l0_s N) (loopAt Zq77_code 0) := loopQ (sh := Zq77_l0_sh) (ex := Zq77_l0_ex) (N := N) (L := []) (fun R k x ks => Zq77_l0_again N ks k x) (Zq77_gok N) (fun _ _ _ => rfl) (fun R k x ks => by kernel_rfl) trivial (by kernel_rfl)
noncomputable def Zq77 (N : Nat) (g : (Int × (List (Int × Int)))) (x : Int) : Option (((List Int) × Unit) × (Unit)) :=
 Zq77_l0 N (fun o => some ((o, ()), ())) N x 0 g.1 g.2 []
noncomputable def Zq77_S (N : Nat) : FSum := ⟨Zq77_ps, Zq77_rs, fun x => Zq77 N x.1 x.2.1⟩
theorem Zq77_pc (N : Nat) : PC Tryz.prog 43 (Zq77_S N) := pcQ (L := [Zq77_l0_s N]) (Zq77_gok N) Tryz.call43 Tryz.func43 (fun x => by kernel_rfl) ⟨Zq77_l0_ok N, trivial⟩ (by kernel_rfl)

/-! ### Zq61 -/
abbrev Zq61_ps : List (PV.Mode × Ty) := [(.mut, BQOU8QIU64)]
abbrev Zq61_rs : List (Bool × Ty) := [(false, QILQII)]
noncomputable def Zq61_G (N : Nat) : GTab := gOf [(88, Zq62_S N), (41, Zq74_S N), (61, Zq64_S N), (43, Zq77_S N), (89, Zq80_S N)]
theorem Zq61_gok (N : Nat) : GOk Tryz.prog (Zq61_G N) := gOf_ok ⟨Zq62_pc N, Zq74_pc N, Zq64_pc N, Zq77_pc N, Zq80_pc N, trivial⟩
noncomputable def Zq61_code : Code := (Tryz.f39.body).getD .skip
noncomputable def Zq61_l0_sh : Sh := ⟨[(0, .one (.adr 0 0)), (2, .one (.adr 1 0)), (3, .one (.adr 2 0)), (4, .one (.ro I))], [.mbox QOU8QIU64, .box [.ro I, .nilsl], .box [.ro I, .ref 3], .sl 49 QII .own]⟩
noncomputable def Zq61_l0_ex : List (Ex × Sh) := [(.exit 0, ⟨[(0, .one (.adr 0 0)), (2, .one (.adr 1 0)), (3, .one (.adr 2 0))], [.mbox QOU8QIU64, .box [.ro I, .nilsl], .box [.ro I, .ref 3], .sl 49 QII .own]⟩)]
noncomputable def Zq61_l0 {R : Type} (N : Nat) (k0 : ((List Int) × (Int × Int)) → Int → Int → (List (Int × Int)) → Option R) : Nat → Int → ((List Int) × (Int × Int)) → Int → Int → (List (Int × Int)) → Option R
 | 0, _, _, _, _, _ => none
 | K + 1, x, o, o1, o2, o3 =>
 (br (ilt x o2)
 (((Zq77 N (o2, o3) x).bind fun r3 =>
 (br (ilt (tLen r3.1.1) 2)
 (((Zq80 N o3 ((IntKind.i64.wrap (x - 1)), x)).bind fun r4 =>
 Zq61_l0 N k0 K (IntKind.i64.wrap (x + 1)) o o1 o2 r4.1.1))
 (Zq61_l0 N k0 K (IntKind.i64.wrap (x + 1)) o o1 o2 o3))))
 (k0 o o1 o2 o3))
noncomputable def Zq61_l0_again {R : Type} (N : Nat) (ks : KS Zq61_l0_ex R) (k : Nat) (x : Zq61_l0_sh.T) : Option R :=
 Zq61_l0 N (fun y0 y1 y2 y3 => ks 0 (((), (), (), ()), (y0, (y1, (), ()), (y2, (), ()), y3, ()))) k x.1.2.2.2.1 x.2.1 x.2.2.1.1 x.2.2.2.1.1 x.2.2.2.2.1
noncomputable def Zq61_l0_s (N : Nat) : LSum := ⟨Zq61_l0_sh, Zq61_l0_ex, fun x ks => Zq61_l0_again N ks N x⟩
theorem Zq61_l0_ok (N : Nat) : LoopOk Tryz.prog Tryz.f39.ntmps (Zq61_l0_s N) (loopAt Zq61_code 0) := loopQ (sh := Zq61_l0_sh) (ex := Zq61_l0_ex) (N := N) (L := []) (fun R k x ks => Zq61_l0_again N ks k x) (Zq61_gok N) (fun _ _ _ => rfl) (fun R k x ks => by kernel_rfl) trivial (by kernel_rfl)
noncomputable def Zq61 (N : Nat) (c : ((List Int) × (Int × Int))) : Option (((Int × (List (Int × Int))) × Unit) × (((List Int) × (Int × Int)) × Unit)) :=
 ((Zq62 N c).bind fun r =>
 ((Zq74 N (r.1.1.1, r.1.1.2)).bind fun r1 =>
 (br (!r1.1.1)
 (some (((r.1.1.1, r.1.1.2), ()), (r.2.1, ())))
 (((Zq64 N r.2.1 4).bind fun r2 =>
 (br r2.1.1
 (some (((r.1.1.1, r.1.1.2), ()), (r2.2.1, ())))
 (Zq61_l0 N (fun o o1 o2 o3 => some (((o2, o3), ()), (o, ()))) N 1 r2.2.1 0 r.1.1.1 r.1.1.2)))))))
noncomputable def Zq61_S (N : Nat) : FSum := ⟨Zq61_ps, Zq61_rs, fun x => Zq61 N x.1⟩
theorem Zq61_pc (N : Nat) : PC Tryz.prog 39 (Zq61_S N) := pcQ (L := [Zq61_l0_s N]) (Zq61_gok N) Tryz.call39 Tryz.func39 (fun x => by kernel_rfl) ⟨Zq61_l0_ok N, trivial⟩ (by kernel_rfl)

/-! ### Zq56 -/
abbrev Zq56_ps : List (PV.Mode × Ty) := [(.ro, LU8)]
abbrev Zq56_rs : List (Bool × Ty) := [(false, QILQII)]
noncomputable def Zq56_G (N : Nat) : GTab := gOf [(39, Zq61_S N)]
theorem Zq56_gok (N : Nat) : GOk Tryz.prog (Zq56_G N) := gOf_ok ⟨Zq61_pc N, trivial⟩
noncomputable def Zq56_code : Code := (Tryz.f17.body).getD .skip
noncomputable def Zq56 (N : Nat) (code : (List Int)) : Option (((Int × (List (Int × Int))) × Unit) × (Unit)) :=
 ((Zq61 N (code, (0, 0))).bind fun r =>
 some (((r.1.1.1, r.1.1.2), ()), ()))
noncomputable def Zq56_S (N : Nat) : FSum := ⟨Zq56_ps, Zq56_rs, fun x => Zq56 N x.1⟩
theorem Zq56_pc (N : Nat) : PC Tryz.prog 17 (Zq56_S N) := pcQ (L := []) (Zq56_gok N) Tryz.call17 Tryz.func17 (fun x => by kernel_rfl) trivial (by kernel_rfl)

/-! ### Zq25 -/
abbrev Zq25_ps : List (PV.Mode × Ty) := [(.ro, QILQII), (.ro, I)]
abbrev Zq25_rs : List (Bool × Ty) := [(true, .bool)]
noncomputable def Zq25_G (N : Nat) : GTab := gOf [(62, Zq13_S N), (97, Zq22_S N)]
theorem Zq25_gok (N : Nat) : GOk Tryz.prog (Zq25_G N) := gOf_ok ⟨Zq13_pc N, Zq22_pc N, trivial⟩
noncomputable def Zq25_code : Code := (Tryz.f86.body).getD .skip
noncomputable def Zq25 (N : Nat) (g : (Int × (List (Int × Int)))) (kv : Int) : Option ((Bool × Unit) × (Unit)) :=
 ((Zq13 N (g.1, g.2)).bind fun r =>
 (br r.1.1
 (((Zq22 N kv 1 5).bind fun r1 =>
 some ((r1.1.1, ()), ())))
 (some ((false, ()), ()))))
noncomputable def Zq25_S (N : Nat) : FSum := ⟨Zq25_ps, Zq25_rs, fun x => Zq25 N x.1 x.2.1⟩
theorem Zq25_pc (N : Nat) : PC Tryz.prog 86 (Zq25_S N) := pcQ (L := []) (Zq25_gok N) Tryz.call86 Tryz.func86 (fun x => by kernel_rfl) trivial (by kernel_rfl)

/-! ### Zq44 -/
abbrev Zq44_ps : List (PV.Mode × Ty) := [(.ro, LI)]
abbrev Zq44_rs : List (Bool × Ty) := [(true, LI)]
noncomputable def Zq44_G (N : Nat) : GTab := gOf []
theorem Zq44_gok (N : Nat) : GOk Tryz.prog (Zq44_G N) := gOf_ok trivial
noncomputable def Zq44_code : Code := (Tryz.f122.body).getD .skip
noncomputable def Zq44 (N : Nat) (s : (List Int)) : Option (((List Int) × Unit) × (Unit)) :=
 (br (ieq (tLen s) 0)
 ((amb
 (some (([], ()), ()))
 ((chk (room (α := Int) (β := Int) [] s)
 (some (((tApp [] s), ()), ()))))))
 ((chk (room (α := Int) (β := Int) [] s)
 (some (((tApp [] s), ()), ())))))
noncomputable def Zq44_S (N : Nat) : FSum := ⟨Zq44_ps, Zq44_rs, fun x => Zq44 N x.1⟩
theorem Zq44_pc (N : Nat) : PC Tryz.prog 122 (Zq44_S N) := pcQ (L := []) (Zq44_gok N) Tryz.call122 Tryz.func122 (fun x => by kernel_rfl) trivial (by kernel_rfl)

/-! ### Zq8 -/
abbrev Zq8_ps : List (PV.Mode × Ty) := [(.ro, I), (.ro, AI), (.ro, ALI), (.ro, AI)]
abbrev Zq8_rs : List (Bool × Ty) := [(true, .bool)]
noncomputable def Zq8_G (N : Nat) : GTab := gOf []
theorem Zq8_gok (N : Nat) : GOk Tryz.prog (Zq8_G N) := gOf_ok trivial
noncomputable def Zq8_code : Code := (Tryz.f137.body).getD .skip
noncomputable def Zq8 (N : Nat) (y : Int) (c : Int) (c1 : (List Int)) (c2 : Int) : Option ((Bool × Unit) × (Unit)) :=
 (br (ilt y c)
 ((chk (inb c1 y)
 (some (((ieq (rdI c1 y) c2), ()), ()))))
 (some ((false, ()), ())))
noncomputable def Zq8_S (N : Nat) : FSum := ⟨Zq8_ps, Zq8_rs, fun x => Zq8 N x.1 x.2.1 x.2.2.1 x.2.2.2.1⟩
theorem Zq8_pc (N : Nat) : PC Tryz.prog 137 (Zq8_S N) := pcQ (L := []) (Zq8_gok N) Tryz.call137 Tryz.func137 (fun x => by kernel_rfl) trivial (by kernel_rfl)
end Go.Proofs.YtkffaahlpdlkoaaGreat
