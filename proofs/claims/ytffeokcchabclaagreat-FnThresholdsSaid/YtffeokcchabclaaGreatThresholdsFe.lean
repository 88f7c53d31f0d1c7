/- Functions of the program as functions on data. -/
import Derived.Test.YtffeokcchabclaaGreatThresholdsFd
set_option linter.all false
namespace Go.Proofs.YtffeokcchabclaaGreat
open Go Go.PV
abbrev Zq80_ps : List (PV.Mode × Ty) := [(.ro, LU8)]
abbrev Zq80_rs : List (Bool × Ty) := [(false, QILQII), (false, I)]
noncomputable def Zq80_G (N : Nat) : GTab := gOf [(54, Zq90_S N), (55, Zq91_S N)]
theorem Zq80_gok (N : Nat) : GOk Tryz.prog (Zq80_G N) := gOf_ok ⟨Zq90_pc N, Zq91_pc N, trivial⟩
noncomputable def Zq80_code : Code := (Tryz.f73.body).getD .skip
noncomputable def Zq80 (N : Nat) (code : (List Int)) : Option (((Int × (List (Int × Int))) × Int × Unit) × (Unit)) :=
 ((Zq90 N (code, (0, 0))).bind fun r =>
 ((Zq91 N (r.2.1.1, (r.2.1.2.1, r.2.1.2.2))).bind fun r1 =>
 some (((r.1.1.1, r.1.1.2), r1.1.1, ()), ())))
noncomputable def Zq80_S (N : Nat) : FSum := ⟨Zq80_ps, Zq80_rs, fun x => Zq80 N x.1⟩
theorem Zq80_pc (N : Nat) : PC Tryz.prog 73 (Zq80_S N) := pcQ (L := []) (Zq80_gok N) Tryz.call73 Tryz.func73 (fun x => by kernel_rfl) trivial (by kernel_rfl)

abbrev Zq82_ps : List (PV.Mode × Ty) := [(.ro, LU8)]
abbrev Zq82_rs : List (Bool × Ty) := [(false, QILQII), (false, I)]
noncomputable def Zq82_G (N : Nat) : GTab := gOf [(73, Zq80_S N)]
theorem Zq82_gok (N : Nat) : GOk Tryz.prog (Zq82_G N) := gOf_ok ⟨Zq80_pc N, trivial⟩
noncomputable def Zq82_code : Code := (Tryz.f50.body).getD .skip
noncomputable def Zq82 (N : Nat) (code : (List Int)) : Option (((Int × (List (Int × Int))) × Int × Unit) × (Unit)) :=
 ((Zq80 N code).bind fun r =>
 some (((r.1.1.1, r.1.1.2), r.1.2.1, ()), ()))
noncomputable def Zq82_S (N : Nat) : FSum := ⟨Zq82_ps, Zq82_rs, fun x => Zq82 N x.1⟩
theorem Zq82_pc (N : Nat) : PC Tryz.prog 50 (Zq82_S N) := pcQ (L := []) (Zq82_gok N) Tryz.call50 Tryz.func50 (fun x => by kernel_rfl) trivial (by kernel_rfl)

abbrev Zq13_ps : List (PV.Mode × Ty) := [(.ro, U64), (.ro, AQILQII), (.ro, AI)]
abbrev Zq13_rs : List (Bool × Ty) := [(true, .bool)]
noncomputable def Zq13_G (N : Nat) : GTab := gOf [(64, Zq7_S N)]
theorem Zq13_gok (N : Nat) : GOk Tryz.prog (Zq13_G N) := gOf_ok ⟨Zq7_pc N, trivial⟩
noncomputable def Zq13_code : Code := (Tryz.f166.body).getD .skip
noncomputable def Zq13 (N : Nat) (b : Int) (c : (Int × (List (Int × Int)))) (c1 : Int) : Option ((Bool × Unit) × (Unit)) :=
 ((Zq7 N c c1 b).bind fun r =>
 some ((r.1.1, ()), ()))
noncomputable def Zq13_S (N : Nat) : FSum := ⟨Zq13_ps, Zq13_rs, fun x => Zq13 N x.1 x.2.1 x.2.2.1⟩
theorem Zq13_pc (N : Nat) : PC Tryz.prog 166 (Zq13_S N) := pcQ (L := []) (Zq13_gok N) Tryz.call166 Tryz.func166 (fun x => by kernel_rfl) trivial (by kernel_rfl)

abbrev Zq40_ps : List (PV.Mode × Ty) := [(.ro, LI), (.ro, LI)]
abbrev Zq40_rs : List (Bool × Ty) := [(true, I)]
noncomputable def Zq40_G (N : Nat) : GTab := gOf [(153, Zq0_S N), (102, Zq67_S N), (156, Zq1_S N)]
theorem Zq40_gok (N : Nat) : GOk Tryz.prog (Zq40_G N) := gOf_ok ⟨Zq0_pc N, Zq67_pc N, Zq1_pc N, trivial⟩
noncomputable def Zq40_code : Code := (Tryz.f167.body).getD .skip
noncomputable def Zq40 (N : Nat) (a : (List Int)) (b : (List Int)) : Option ((Int × Unit) × (Unit)) :=
 ((Zq0 N (tLen a) (tLen b)).bind fun r =>
 ((Zq67 N a b).bind fun r1 =>
 ((Zq1 N [r.1.1, r1.1.1]).bind fun r2 =>
 some ((r2.1.1, ()), ()))))
noncomputable def Zq40_S (N : Nat) : FSum := ⟨Zq40_ps, Zq40_rs, fun x => Zq40 N x.1 x.2.1⟩
theorem Zq40_pc (N : Nat) : PC Tryz.prog 167 (Zq40_S N) := pcQ (L := []) (Zq40_gok N) Tryz.call167 Tryz.func167 (fun x => by kernel_rfl) trivial (by kernel_rfl)

abbrev Zq77_ps : List (PV.Mode × Ty) := [(.mut, LLI), (.own, K167Un)]
abbrev Zq77_rs : List (Bool × Ty) := []
noncomputable def Zq77 (N : Nat) (x : List (List Int)) (_ : Unit) : Option (Unit × (List (List Int) × Unit)) := sortF (fun a b => (Zq40 N a b).map fun z => z.1.1) x
noncomputable def Zq77_S (N : Nat) : FSum := ⟨Zq77_ps, Zq77_rs, fun x => Zq77 N x.1 x.2.1⟩
theorem Zq77_pc (N : Nat) : PC Tryz.prog 101 (Zq77_S N) := sortRows_pc (fc := fun a b => Zq40 N a b) (sortsAt Tryz.sortL) (sortsNone Tryz.sortL) Tryz.call101 (Zq40_pc N)

abbrev Zq12_ps : List (PV.Mode × Ty) := [(.ro, QILQII), (.ro, I)]
abbrev Zq12_rs : List (Bool × Ty) := [(true, LLI)]
noncomputable def Zq12_G (N : Nat) : GTab := gOf [(146, Zq15_S N), (166, Zq13_S N), (101, Zq77_S N)]
theorem Zq12_gok (N : Nat) : GOk Tryz.prog (Zq12_G N) := gOf_ok ⟨Zq15_pc N, Zq13_pc N, Zq77_pc N, trivial⟩
noncomputable def Zq12_code : Code := (Tryz.f133.body).getD .skip
noncomputable def Zq12 (N : Nat) (g : (Int × (List (Int × Int)))) (kind : Int) : Option (((List (List Int)) × Unit) × (Unit)) :=
 ((Zq15 N (g.1, g.2) (fun y0 => (Zq13 N y0 (g.1, g.2) kind).bind fun z => some z.1.1)).bind fun r =>
 ((Zq77 N r.1.1 ()).bind fun r1 =>
 some ((r1.2.1, ()), ())))
noncomputable def Zq12_S (N : Nat) : FSum := ⟨Zq12_ps, Zq12_rs, fun x => Zq12 N x.1 x.2.1⟩
theorem Zq12_pc (N : Nat) : PC Tryz.prog 133 (Zq12_S N) := pcQ (L := []) (Zq12_gok N) Tryz.call133 Tryz.func133 (fun x => by kernel_rfl) trivial (by kernel_rfl)

abbrev Zq73_ps : List (PV.Mode × Ty) := [(.ro, LLI), (.ro, FLIBo)]
abbrev Zq73_rs : List (Bool × Ty) := [(true, I)]
noncomputable def Zq73_G (N : Nat) : GTab := gOf []
theorem Zq73_gok (N : Nat) : GOk Tryz.prog (Zq73_G N) := gOf_ok trivial
noncomputable def Zq73_code : Code := (Tryz.f165.body).getD .skip
noncomputable def Zq73_l0_sh : Sh := ⟨[(0, .one (.ro LLI)), (1, .one (.ro FLIBo)), (7, .one (.ro I)), (8, .one (.ro I))], []⟩
noncomputable def Zq73_l0_ex : List (Ex × Sh) := [(.ret, ⟨[(4, .one (.ro I))], []⟩), (.exit 0, ⟨[], []⟩)]
noncomputable def Zq73_l0 {R : Type} (N : Nat) (k0 : Int → Option R) (k1 : Unit → Option R) : Nat → (List (List Int)) → ((List Int) → Option Bool) → Int → Int → Option R
 | 0, _, _, _, _ => none
 | K + 1, s1, f1, x, x1 =>
 (br (ilt x1 x)
 ((chk (inb s1 x1)
 ((f1 (rdL s1 x1)).bind fun v =>
 (br v
 (k0 x1)
 (Zq73_l0 N k0 k1 K s1 f1 x (IntKind.i64.wrap (x1 + 1)))))))
 (k1 ()))
noncomputable def Zq73_l0_again {R : Type} (N : Nat) (ks : KS Zq73_l0_ex R) (k : Nat) (x : Zq73_l0_sh.T) : Option R :=
 Zq73_l0 N (fun y0 => ks 0 ((y0, ()), ())) (fun (_ : Unit) => ks 1 ((), ())) k x.1.1 x.1.2.1 x.1.2.2.1 x.1.2.2.2.1
noncomputable def Zq73_l0_s (N : Nat) : LSum := ⟨Zq73_l0_sh, Zq73_l0_ex, fun x ks => Zq73_l0_again N ks N x⟩
theorem Zq73_l0_ok (N : Nat) : LoopOk Tryz.prog Tryz.f165.ntmps (Zq73_l0_s N) (loopAt Zq73_code 0) := loopQ (sh := Zq73_l0_sh) (ex := Zq73_l0_ex) (N := N) (L := []) (fun R k x ks => Zq73_l0_again N ks k x) (Zq73_gok N) (fun _ _ _ => rfl) (fun R k x ks => by kernel_rfl) trivial (by kernel_rfl)
noncomputable def Zq73 (N : Nat) (s : (List (List Int))) (f : ((List Int) → Option Bool)) : Option ((Int × Unit) × (Unit)) :=
 Zq73_l0 N (fun x => some ((x, ()), ())) (fun (_ : Unit) => some (((-1), ()), ())) N s f (tLen s) 0
noncomputable def Zq73_S (N : Nat) : FSum := ⟨Zq73_ps, Zq73_rs, fun x => Zq73 N x.1 x.2.1⟩
theorem Zq73_pc (N : Nat) : PC Tryz.prog 165 (Zq73_S N) := pcQ (L := [Zq73_l0_s N]) (Zq73_gok N) Tryz.call165 Tryz.func165 (fun x => by kernel_rfl) ⟨Zq73_l0_ok N, trivial⟩ (by kernel_rfl)

abbrev Zq71_ps : List (PV.Mode × Ty) := [(.own, LLI), (.ro, FLIBo)]
abbrev Zq71_rs : List (Bool × Ty) := [(true, LLI)]
noncomputable def Zq71 (N : Nat) (x : List (List Int)) (f : List Int → Option Bool) : Option ((List (List Int) × Unit) × Unit) := delF (fun xs g => Zq73 N xs g) x f
noncomputable def Zq71_S (N : Nat) : FSum := ⟨Zq71_ps, Zq71_rs, fun x => Zq71 N x.1 x.2.1⟩
theorem Zq71_pc (N : Nat) : PC Tryz.prog 132 (Zq71_S N) := deleteRows_pc (ix := fun xs g => Zq73 N xs g) Tryz.delL Tryz.delL_zero Tryz.call132 (Zq73_pc N)

abbrev Zq10_ps : List (PV.Mode × Ty) := [(.ro, QILQII), (.ro, I), (.ro, U64)]
abbrev Zq10_rs : List (Bool × Ty) := [(true, .bool)]
noncomputable def Zq10_G (N : Nat) : GTab := gOf [(69, Zq35_S N), (64, Zq7_S N)]
theorem Zq10_gok (N : Nat) : GOk Tryz.prog (Zq10_G N) := gOf_ok ⟨Zq35_pc N, Zq7_pc N, trivial⟩
noncomputable def Zq10_code : Code := (Tryz.f59.body).getD .skip
noncomputable def Zq10_l0_sh : Sh := ⟨[(1, .one (.ro I)), (2, .one (.ro U64)), (3, .one (.adr 0 0)), (9, .one (.ro I)), (10, .one (.ro I))], [.box [.ro I, .ro LQII]]⟩
noncomputable def Zq10_l0_ex : List (Ex × Sh) := [(.ret, ⟨[(6, .one (.ro .bool))], []⟩), (.exit 0, ⟨[], []⟩)]
noncomputable def Zq10_l0 {R : Type} (N : Nat) (k0 : Bool → Option R) (k1 : Unit → Option R) : Nat → Int → Int → Int → Int → Int → (List (Int × Int)) → Option R
 | 0, _, _, _, _, _, _ => none
 | K + 1, kind1, b1, x, x1, o, o1 =>
 (br (ilt x1 x)
 (((Zq35 N b1 x1).bind fun r =>
 (br (!(r.1.1 == (ieq kind1 2)))
 ((chk (ile 0 x1)
 ((Zq7 N (o, o1) kind1 (bitop .xor .u64 b1 (shlI .u64 1 x1))).bind fun r1 =>
 (br r1.1.1
 (k0 false)
 (Zq10_l0 N k0 k1 K kind1 b1 x (IntKind.i64.wrap (x1 + 1)) o o1)))))
 (Zq10_l0 N k0 k1 K kind1 b1 x (IntKind.i64.wrap (x1 + 1)) o o1))))
 (k1 ()))
noncomputable def Zq10_l0_again {R : Type} (N : Nat) (ks : KS Zq10_l0_ex R) (k : Nat) (x : Zq10_l0_sh.T) : Option R :=
 Zq10_l0 N (fun y0 => ks 0 ((y0, ()), ())) (fun (_ : Unit) => ks 1 ((), ())) k x.1.1 x.1.2.1 x.1.2.2.2.1 x.1.2.2.2.2.1 x.2.1.1 x.2.1.2.1
noncomputable def Zq10_l0_s (N : Nat) : LSum := ⟨Zq10_l0_sh, Zq10_l0_ex, fun x ks => Zq10_l0_again N ks N x⟩
theorem Zq10_l0_ok (N : Nat) : LoopOk Tryz.prog Tryz.f59.ntmps (Zq10_l0_s N) (loopAt Zq10_code 0) := loopQ (sh := Zq10_l0_sh) (ex := Zq10_l0_ex) (N := N) (L := []) (fun R k x ks => Zq10_l0_again N ks k x) (Zq10_gok N) (fun _ _ _ => rfl) (fun R k x ks => by kernel_rfl) trivial (by kernel_rfl)
noncomputable def Zq10 (N : Nat) (g : (Int × (List (Int × Int)))) (kind : Int) (b : Int) : Option ((Bool × Unit) × (Unit)) :=
 Zq10_l0 N (fun x => some ((x, ()), ())) (fun (_ : Unit) => some ((true, ()), ())) N kind b g.1 0 g.1 g.2
noncomputable def Zq10_S (N : Nat) : FSum := ⟨Zq10_ps, Zq10_rs, fun x => Zq10 N x.1 x.2.1 x.2.2.1⟩
theorem Zq10_pc (N : Nat) : PC Tryz.prog 59 (Zq10_S N) := pcQ (L := [Zq10_l0_s N]) (Zq10_gok N) Tryz.call59 Tryz.func59 (fun x => by kernel_rfl) ⟨Zq10_l0_ok N, trivial⟩ (by kernel_rfl)

abbrev Zq19_ps : List (PV.Mode × Ty) := [(.ro, LI), (.ro, AQILQII), (.ro, AI)]
abbrev Zq19_rs : List (Bool × Ty) := [(true, .bool)]
noncomputable def Zq19_G (N : Nat) : GTab := gOf [(60, Zq34_S N), (59, Zq10_S N)]
theorem Zq19_gok (N : Nat) : GOk Tryz.prog (Zq19_G N) := gOf_ok ⟨Zq34_pc N, Zq10_pc N, trivial⟩
noncomputable def Zq19_code : Code := (Tryz.f134.body).getD .skip
noncomputable def Zq19 (N : Nat) (setv : (List Int)) (c : (Int × (List (Int × Int)))) (c1 : Int) : Option ((Bool × Unit) × (Unit)) :=
 ((Zq34 N setv).bind fun r =>
 ((Zq10 N c c1 r.1.1).bind fun r1 =>
 some (((!r1.1.1), ()), ())))
noncomputable def Zq19_S (N : Nat) : FSum := ⟨Zq19_ps, Zq19_rs, fun x => Zq19 N x.1 x.2.1 x.2.2.1⟩
theorem Zq19_pc (N : Nat) : PC Tryz.prog 134 (Zq19_S N) := pcQ (L := []) (Zq19_gok N) Tryz.call134 Tryz.func134 (fun x => by kernel_rfl) trivial (by kernel_rfl)

abbrev Zq18_ps : List (PV.Mode × Ty) := [(.ro, QILQII), (.ro, I)]
abbrev Zq18_rs : List (Bool × Ty) := [(true, LLI)]
noncomputable def Zq18_G (N : Nat) : GTab := gOf [(133, Zq12_S N), (132, Zq71_S N), (134, Zq19_S N)]
theorem Zq18_gok (N : Nat) : GOk Tryz.prog (Zq18_G N) := gOf_ok ⟨Zq12_pc N, Zq71_pc N, Zq19_pc N, trivial⟩
noncomputable def Zq18_code : Code := (Tryz.f76.body).getD .skip
noncomputable def Zq18 (N : Nat) (g : (Int × (List (Int × Int)))) (kind : Int) : Option (((List (List Int)) × Unit) × (Unit)) :=
 ((Zq12 N (g.1, g.2) kind).bind fun r =>
 ((Zq71 N r.1.1 (fun y0 => (Zq19 N y0 (g.1, g.2) kind).bind fun z => some z.1.1)).bind fun r1 =>
 some ((r1.1.1, ()), ())))
noncomputable def Zq18_S (N : Nat) : FSum := ⟨Zq18_ps, Zq18_rs, fun x => Zq18 N x.1 x.2.1⟩
theorem Zq18_pc (N : Nat) : PC Tryz.prog 76 (Zq18_S N) := pcQ (L := []) (Zq18_gok N) Tryz.call76 Tryz.func76 (fun x => by kernel_rfl) trivial (by kernel_rfl)

abbrev Zq5_ps : List (PV.Mode × Ty) := [(.ro, QILQII), (.ro, I)]
abbrev Zq5_rs : List (Bool × Ty) := [(true, LI)]
noncomputable def Zq5_G (N : Nat) : GTab := gOf [(133, Zq12_S N)]
theorem Zq5_gok (N : Nat) : GOk Tryz.prog (Zq5_G N) := gOf_ok ⟨Zq12_pc N, trivial⟩
noncomputable def Zq5_code : Code := (Tryz.f78.body).getD .skip
noncomputable def Zq5_l0_sh : Sh := ⟨[(1, .one (.ro I)), (6, .one (.el 0)), (15, .one (.ref 0)), (16, .one (.ro I)), (17, .one (.ro I))], [.sl 27 LI .deep]⟩
noncomputable def Zq5_l0_ex : List (Ex × Sh) := [(.exit 0, ⟨[(6, .one (.el 0))], [.sl 27 LI .deep]⟩)]
noncomputable def Zq5_l0 {R : Type} (N : Nat) (k0 : Int → (List (List Int)) → Option R) : Nat → Int → Int → Int → Int → (List (List Int)) → Option R
 | 0, _, _, _, _, _ => none
 | K + 1, kind1, best, x, x1, o =>
 (br (ilt x1 x)
 ((chk (inb o x1)
 (br (ieq kind1 2)
 ((br (ilt (tLen (rdL o best)) (tLen (rdL o x1)))
 (Zq5_l0 N k0 K kind1 x1 x (IntKind.i64.wrap (x1 + 1)) o)
 (Zq5_l0 N k0 K kind1 best x (IntKind.i64.wrap (x1 + 1)) o)))
 (Zq5_l0 N k0 K kind1 best x (IntKind.i64.wrap (x1 + 1)) o))))
 (k0 best o))
noncomputable def Zq5_l0_again {R : Type} (N : Nat) (ks : KS Zq5_l0_ex R) (k : Nat) (x : Zq5_l0_sh.T) : Option R :=
 Zq5_l0 N (fun y0 y1 => ks 0 ((y0, ()), (y1, ()))) k x.1.1 x.1.2.1 x.1.2.2.2.1 x.1.2.2.2.2.1 x.2.1
noncomputable def Zq5_l0_s (N : Nat) : LSum := ⟨Zq5_l0_sh, Zq5_l0_ex, fun x ks => Zq5_l0_again N ks N x⟩
theorem Zq5_l0_ok (N : Nat) : LoopOk Tryz.prog Tryz.f78.ntmps (Zq5_l0_s N) (loopAt Zq5_code 0) := loopQ (sh := Zq5_l0_sh) (ex := Zq5_l0_ex) (N := N) (L := []) (fun R k x ks => Zq5_l0_again N ks k x) (Zq5_gok N) (fun _ _ _ => rfl) (fun R k x ks => by kernel_rfl) trivial (by kernel_rfl)
noncomputable def Zq5 (N : Nat) (g : (Int × (List (Int × Int)))) (kind : Int) : Option (((List Int) × Unit) × (Unit)) :=
 ((Zq12 N (g.1, g.2) kind).bind fun r =>
 (chk (inb r.1.1 0)
 (Zq5_l0 N (fun best o => some (((rdL o best), ()), ())) N kind 0 (tLen r.1.1) 0 r.1.1)))
noncomputable def Zq5_S (N : Nat) : FSum := ⟨Zq5_ps, Zq5_rs, fun x => Zq5 N x.1 x.2.1⟩
theorem Zq5_pc (N : Nat) : PC Tryz.prog 78 (Zq5_S N) := pcQ (L := [Zq5_l0_s N]) (Zq5_gok N) Tryz.call78 Tryz.func78 (fun x => by kernel_rfl) ⟨Zq5_l0_ok N, trivial⟩ (by kernel_rfl)

abbrev Zq33_ps : List (PV.Mode × Ty) := [(.ro, QILQII), (.ro, I)]
abbrev Zq33_rs : List (Bool × Ty) := [(true, I), (true, .bool)]
noncomputable def Zq33_G (N : Nat) : GTab := gOf [(74, Zq21_S N), (75, Zq42_S N), (76, Zq18_S N), (78, Zq5_S N)]
theorem Zq33_gok (N : Nat) : GOk Tryz.prog (Zq33_G N) := gOf_ok ⟨Zq21_pc N, Zq42_pc N, Zq18_pc N, Zq5_pc N, trivial⟩
noncomputable def Zq33_code : Code := (Tryz.f51.body).getD .skip
noncomputable def Zq33 (N : Nat) (g : (Int × (List (Int × Int)))) (kind : Int) : Option ((Int × Bool × Unit) × (Unit)) :=
 ((Zq21 N (g.1, g.2)).bind fun r =>
 (br (!r.1.1)
 (some ((0, false, ()), ()))
 (((Zq42 N kind).bind fun r1 =>
 (br (!r1.1.1)
 (some ((0, false, ()), ()))
 (((Zq18 N (g.1, g.2) kind).bind fun r2 =>
 ((Zq5 N (g.1, g.2) kind).bind fun r3 =>
 (br (ieq kind 2)
 ((chk (inb r2.1.1 0)
 (some (((if (IntKind.i64.wrap ((IntKind.i64.wrap ((tLen (rdL r2.1.1 0)) + (tLen r3.1.1))) - g.1)) > 0 then (IntKind.i64.wrap ((IntKind.i64.wrap ((tLen (rdL r2.1.1 0)) + (tLen r3.1.1))) - g.1)) else 0), true, ()), ()))))
 ((chk (inb r2.1.1 (IntKind.i64.wrap ((tLen r2.1.1) - 1)))
 (some (((if (IntKind.i64.wrap ((tLen (rdL r2.1.1 (IntKind.i64.wrap ((tLen r2.1.1) - 1)))) + (tLen r3.1.1))) < g.1 then (IntKind.i64.wrap ((tLen (rdL r2.1.1 (IntKind.i64.wrap ((tLen r2.1.1) - 1)))) + (tLen r3.1.1))) else g.1), true, ()), ())))))))))))))
noncomputable def Zq33_S (N : Nat) : FSum := ⟨Zq33_ps, Zq33_rs, fun x => Zq33 N x.1 x.2.1⟩
theorem Zq33_pc (N : Nat) : PC Tryz.prog 51 (Zq33_S N) := pcQ (L := []) (Zq33_gok N) Tryz.call51 Tryz.func51 (fun x => by kernel_rfl) trivial (by kernel_rfl)

abbrev Zq131_ps : List (PV.Mode × Ty) := [(.ro, QILQII), (.ro, I), (.ro, LI)]
abbrev Zq131_rs : List (Bool × Ty) := [(true, .bool)]
noncomputable def Zq131_G (N : Nat) : GTab := gOf [(72, Zq98_S N), (68, Zq132_S N), (67, Zq124_S N)]
theorem Zq131_gok (N : Nat) : GOk Tryz.prog (Zq131_G N) := gOf_ok ⟨Zq98_pc N, Zq132_pc N, Zq124_pc N, trivial⟩
noncomputable def Zq131_code : Code := (Tryz.f62.body).getD .skip
noncomputable def Zq131_l0_sh : Sh := ⟨[(1, .one (.ro I)), (2, .one (.ro LI)), (3, .one (.adr 0 0)), (7, .one (.ro I))], [.box [.ro I, .ro LQII]]⟩
noncomputable def Zq131_l0_ex : List (Ex × Sh) := [(.ret, ⟨[(6, .one (.ro .bool))], []⟩), (.exit 0, ⟨[], []⟩)]
noncomputable def Zq131_l0 {R : Type} (N : Nat) (k0 : Bool → Option R) (k1 : Unit → Option R) : Nat → Int → (List Int) → Int → Int → (List (Int × Int)) → Option R
 | 0, _, _, _, _, _ => none
 | K + 1, kind1, setv1, x, o, o1 =>
 (br (ilt x o)
 (((Zq98 N setv1 x).bind fun r =>
 (br (r.1.1 == (ine kind1 2))
 (((Zq132 N setv1 x).bind fun r1 =>
 ((Zq124 N (o, o1) kind1 r1.1.1).bind fun r2 =>
 (br r2.1.1
 (k0 false)
 (Zq131_l0 N k0 k1 K kind1 setv1 (IntKind.i64.wrap (x + 1)) o o1)))))
 (Zq131_l0 N k0 k1 K kind1 setv1 (IntKind.i64.wrap (x + 1)) o o1))))
 (k1 ()))
noncomputable def Zq131_l0_again {R : Type} (N : Nat) (ks : KS Zq131_l0_ex R) (k : Nat) (x : Zq131_l0_sh.T) : Option R :=
 Zq131_l0 N (fun y0 => ks 0 ((y0, ()), ())) (fun (_ : Unit) => ks 1 ((), ())) k x.1.1 x.1.2.1 x.1.2.2.2.1 x.2.1.1 x.2.1.2.1
noncomputable def Zq131_l0_s (N : Nat) : LSum := ⟨Zq131_l0_sh, Zq131_l0_ex, fun x ks => Zq131_l0_again N ks N x⟩
theorem Zq131_l0_ok (N : Nat) : LoopOk Tryz.prog Tryz.f62.ntmps (Zq131_l0_s N) (loopAt Zq131_code 0) := loopQ (sh := Zq131_l0_sh) (ex := Zq131_l0_ex) (N := N) (L := []) (fun R k x ks => Zq131_l0_again N ks k x) (Zq131_gok N) (fun _ _ _ => rfl) (fun R k x ks => by kernel_rfl) trivial (by kernel_rfl)
noncomputable def Zq131 (N : Nat) (g : (Int × (List (Int × Int)))) (kind : Int) (setv : (List Int)) : Option ((Bool × Unit) × (Unit)) :=
 Zq131_l0 N (fun x => some ((x, ()), ())) (fun (_ : Unit) => some ((true, ()), ())) N kind setv 0 g.1 g.2
noncomputable def Zq131_S (N : Nat) : FSum := ⟨Zq131_ps, Zq131_rs, fun x => Zq131 N x.1 x.2.1 x.2.2.1⟩
theorem Zq131_pc (N : Nat) : PC Tryz.prog 62 (Zq131_S N) := pcQ (L := [Zq131_l0_s N]) (Zq131_gok N) Tryz.call62 Tryz.func62 (fun x => by kernel_rfl) ⟨Zq131_l0_ok N, trivial⟩ (by kernel_rfl)

abbrev Zq87_ps : List (PV.Mode × Ty) := [(.ro, QILQII), (.ro, I)]
abbrev Zq87_rs : List (Bool × Ty) := [(false, LLI), (true, .bool)]
noncomputable def Zq87_G (N : Nat) : GTab := gOf [(65, Zq123_S N), (77, Zq129_S N), (62, Zq131_S N)]
theorem Zq87_gok (N : Nat) : GOk Tryz.prog (Zq87_G N) := gOf_ok ⟨Zq123_pc N, Zq129_pc N, Zq131_pc N, trivial⟩
noncomputable def Zq87_code : Code := (Tryz.f19.body).getD .skip
noncomputable def Zq87_l0_sh : Sh := ⟨[(1, .one (.ro I)), (2, .one (.adr 0 0)), (6, .one (.ref 1)), (7, .one (.ro LLI)), (8, .one (.ro I))], [.box [.ro I, .ro LQII], .sl 27 LI .own]⟩
noncomputable def Zq87_l0_ex : List (Ex × Sh) := [(.exit 0, ⟨[(6, .one (.ref 0))], [.sl 27 LI .own]⟩)]
noncomputable def Zq87_l0 {R : Type} (N : Nat) (k0 : (List (List Int)) → Option R) : Nat → Int → (List (List Int)) → Int → Int → (List (Int × Int)) → (List (List Int)) → Option R
 | 0, _, _, _, _, _, _ => none
 | K + 1, kind2, sets1, i1, o3, o4, o5 =>
 (br (ilt i1 (tLen sets1))
 ((chk (inb sets1 i1)
 ((Zq131 N (o3, o4) kind2 (rdL sets1 i1)).bind fun r3 =>
 (br r3.1.1
 ((chk (inb sets1 i1)
 (chk (room o5 [(rdL sets1 i1)])
 (Zq87_l0 N k0 K kind2 sets1 (IntKind.i64.wrap (i1 + 1)) o3 o4 (tApp o5 [(rdL sets1 i1)])))))
 (Zq87_l0 N k0 K kind2 sets1 (IntKind.i64.wrap (i1 + 1)) o3 o4 o5)))))
 (k0 o5))
noncomputable def Zq87_l0_again {R : Type} (N : Nat) (ks : KS Zq87_l0_ex R) (k : Nat) (x : Zq87_l0_sh.T) : Option R :=
 Zq87_l0 N (fun y0 => ks 0 (((), ()), (y0, ()))) k x.1.1 x.1.2.2.2.1 x.1.2.2.2.2.1 x.2.1.1 x.2.1.2.1 x.2.2.1
noncomputable def Zq87_l0_s (N : Nat) : LSum := ⟨Zq87_l0_sh, Zq87_l0_ex, fun x ks => Zq87_l0_again N ks N x⟩
theorem Zq87_l0_ok (N : Nat) : LoopOk Tryz.prog Tryz.f19.ntmps (Zq87_l0_s N) (loopAt Zq87_code 0) := loopQ (sh := Zq87_l0_sh) (ex := Zq87_l0_ex) (N := N) (L := []) (fun R k x ks => Zq87_l0_again N ks k x) (Zq87_gok N) (fun _ _ _ => rfl) (fun R k x ks => by kernel_rfl) trivial (by kernel_rfl)
noncomputable def Zq87 (N : Nat) (g : (Int × (List (Int × Int)))) (kind : Int) : Option (((List (List Int)) × Bool × Unit) × (Unit)) :=
 ((Zq123 N (g.1, g.2) kind).bind fun r =>
 (br (!r.1.1)
 (some (([], false, ()), ()))
 (((Zq129 N (g.1, g.2) kind).bind fun r1 =>
 Zq87_l0 N (fun o3 => some ((o3, true, ()), ())) N kind r1.1.1 0 g.1 g.2 []))))
noncomputable def Zq87_S (N : Nat) : FSum := ⟨Zq87_ps, Zq87_rs, fun x => Zq87 N x.1 x.2.1⟩
theorem Zq87_pc (N : Nat) : PC Tryz.prog 19 (Zq87_S N) := pcQ (L := [Zq87_l0_s N]) (Zq87_gok N) Tryz.call19 Tryz.func19 (fun x => by kernel_rfl) ⟨Zq87_l0_ok N, trivial⟩ (by kernel_rfl)

abbrev Zq120_ps : List (PV.Mode × Ty) := [(.ro, QILQII), (.ro, I)]
abbrev Zq120_rs : List (Bool × Ty) := [(false, LI)]
noncomputable def Zq120_G (N : Nat) : GTab := gOf [(77, Zq129_S N)]
theorem Zq120_gok (N : Nat) : GOk Tryz.prog (Zq120_G N) := gOf_ok ⟨Zq129_pc N, trivial⟩
noncomputable def Zq120_code : Code := (Tryz.f79.body).getD .skip
noncomputable def Zq120_l0_sh : Sh := ⟨[(1, .one (.ro I)), (5, .one (.ro LLI)), (6, .one (.ro LI)), (7, .one (.ro I))], []⟩
noncomputable def Zq120_l0_ex : List (Ex × Sh) := [(.exit 0, ⟨[(6, .one (.ro LI))], []⟩)]
noncomputable def Zq120_l0 {R : Type} (N : Nat) (k0 : (List Int) → Option R) : Nat → Int → (List (List Int)) → (List Int) → Int → Option R
 | 0, _, _, _, _ => none
 | K + 1, kind1, sets, best, i =>
 (br (ilt i (tLen sets))
 ((br (ieq kind1 2)
 ((chk (inb sets i)
 (br (ilt (tLen best) (tLen (rdL sets i)))
 ((chk (inb sets i)
 (Zq120_l0 N k0 K kind1 sets (rdL sets i) (IntKind.i64.wrap (i + 1)))))
 (Zq120_l0 N k0 K kind1 sets best (IntKind.i64.wrap (i + 1))))))
 (Zq120_l0 N k0 K kind1 sets best (IntKind.i64.wrap (i + 1)))))
 (k0 best))
noncomputable def Zq120_l0_again {R : Type} (N : Nat) (ks : KS Zq120_l0_ex R) (k : Nat) (x : Zq120_l0_sh.T) : Option R :=
 Zq120_l0 N (fun y0 => ks 0 ((y0, ()), ())) k x.1.1 x.1.2.1 x.1.2.2.1 x.1.2.2.2.1
noncomputable def Zq120_l0_s (N : Nat) : LSum := ⟨Zq120_l0_sh, Zq120_l0_ex, fun x ks => Zq120_l0_again N ks N x⟩
theorem Zq120_l0_ok (N : Nat) : LoopOk Tryz.prog Tryz.f79.ntmps (Zq120_l0_s N) (loopAt Zq120_code 0) := loopQ (sh := Zq120_l0_sh) (ex := Zq120_l0_ex) (N := N) (L := []) (fun R k x ks => Zq120_l0_again N ks k x) (Zq120_gok N) (fun _ _ _ => rfl) (fun R k x ks => by kernel_rfl) trivial (by kernel_rfl)
noncomputable def Zq120 (N : Nat) (g : (Int × (List (Int × Int)))) (kind : Int) : Option (((List Int) × Unit) × (Unit)) :=
 ((Zq129 N (g.1, g.2) kind).bind fun r =>
 (chk (inb r.1.1 0)
 (Zq120_l0 N (fun best => some ((best, ()), ())) N kind r.1.1 (rdL r.1.1 0) 1)))
noncomputable def Zq120_S (N : Nat) : FSum := ⟨Zq120_ps, Zq120_rs, fun x => Zq120 N x.1 x.2.1⟩
theorem Zq120_pc (N : Nat) : PC Tryz.prog 79 (Zq120_S N) := pcQ (L := [Zq120_l0_s N]) (Zq120_gok N) Tryz.call79 Tryz.func79 (fun x => by kernel_rfl) ⟨Zq120_l0_ok N, trivial⟩ (by kernel_rfl)

abbrev Zq88_ps : List (PV.Mode × Ty) := [(.ro, QILQII), (.ro, I)]
abbrev Zq88_rs : List (Bool × Ty) := [(true, I), (true, .bool)]
noncomputable def Zq88_G (N : Nat) : GTab := gOf [(65, Zq123_S N), (19, Zq87_S N), (79, Zq120_S N), (117, Zq101_S N), (118, Zq100_S N)]
theorem Zq88_gok (N : Nat) : GOk Tryz.prog (Zq88_G N) := gOf_ok ⟨Zq123_pc N, Zq87_pc N, Zq120_pc N, Zq101_pc N, Zq100_pc N, trivial⟩
noncomputable def Zq88_code : Code := (Tryz.f52.body).getD .skip
noncomputable def Zq88 (N : Nat) (g : (Int × (List (Int × Int)))) (kind : Int) : Option ((Int × Bool × Unit) × (Unit)) :=
 ((Zq123 N (g.1, g.2) kind).bind fun r =>
 (br (!r.1.1)
 (some ((0, false, ()), ()))
 (((Zq87 N (g.1, g.2) kind).bind fun r1 =>
 ((Zq120 N (g.1, g.2) kind).bind fun r2 =>
 (br (ieq kind 2)
 ((chk (inb r1.1.1 0)
 ((Zq101 N (IntKind.i64.wrap ((IntKind.i64.wrap ((tLen (rdL r1.1.1 0)) + (tLen r2.1.1))) - g.1)) 0).bind fun r3 =>
 some ((r3.1.1, true, ()), ()))))
 ((chk (inb r1.1.1 (IntKind.i64.wrap ((tLen r1.1.1) - 1)))
 ((Zq100 N (IntKind.i64.wrap ((tLen (rdL r1.1.1 (IntKind.i64.wrap ((tLen r1.1.1) - 1)))) + (tLen r2.1.1))) g.1).bind fun r4 =>
 some ((r4.1.1, true, ()), ()))))))))))
noncomputable def Zq88_S (N : Nat) : FSum := ⟨Zq88_ps, Zq88_rs, fun x => Zq88 N x.1 x.2.1⟩
theorem Zq88_pc (N : Nat) : PC Tryz.prog 52 (Zq88_S N) := pcQ (L := []) (Zq88_gok N) Tryz.call52 Tryz.func52 (fun x => by kernel_rfl) trivial (by kernel_rfl)

abbrev Zq49_ps : List (PV.Mode × Ty) := [(.ro, QILQII), (.ro, I), (.ro, I)]
abbrev Zq49_rs : List (Bool × Ty) := [(true, .bool)]
noncomputable def Zq49_G (N : Nat) : GTab := gOf [(74, Zq21_S N), (75, Zq42_S N), (130, Zq38_S N)]
theorem Zq49_gok (N : Nat) : GOk Tryz.prog (Zq49_G N) := gOf_ok ⟨Zq21_pc N, Zq42_pc N, Zq38_pc N, trivial⟩
noncomputable def Zq49_code : Code := (Tryz.f93.body).getD .skip
noncomputable def Zq49 (N : Nat) (g : (Int × (List (Int × Int)))) (kind : Int) (kv : Int) : Option ((Bool × Unit) × (Unit)) :=
 ((Zq21 N (g.1, g.2)).bind fun r =>
 (br r.1.1
 (((Zq42 N kind).bind fun r1 =>
 (br r1.1.1
 (((Zq38 N kv 0 g.1).bind fun r2 =>
 some ((r2.1.1, ()), ())))
 (some ((false, ()), ())))))
 (some ((false, ()), ()))))
noncomputable def Zq49_S (N : Nat) : FSum := ⟨Zq49_ps, Zq49_rs, fun x => Zq49 N x.1 x.2.1 x.2.2.1⟩
theorem Zq49_pc (N : Nat) : PC Tryz.prog 93 (Zq49_S N) := pcQ (L := []) (Zq49_gok N) Tryz.call93 Tryz.func93 (fun x => by kernel_rfl) trivial (by kernel_rfl)

abbrev Zq31_ps : List (PV.Mode × Ty) := [(.ro, QILQII), (.ro, I), (.ro, I)]
abbrev Zq31_rs : List (Bool × Ty) := [(true, QLLILQII), (true, .bool)]
noncomputable def Zq31_G (N : Nat) : GTab := gOf [(93, Zq49_S N), (111, Zq16_S N)]
theorem Zq31_gok (N : Nat) : GOk Tryz.prog (Zq31_G N) := gOf_ok ⟨Zq49_pc N, Zq16_pc N, trivial⟩
noncomputable def Zq31_code : Code := (Tryz.f41.body).getD .skip
noncomputable def Zq31 (N : Nat) (g : (Int × (List (Int × Int)))) (kind : Int) (kv : Int) : Option ((((List (List Int)) × (List (Int × Int))) × Bool × Unit) × (Unit)) :=
 ((Zq49 N (g.1, g.2) kind kv).bind fun r =>
 (br (!r.1.1)
 (some ((([], []), false, ()), ()))
 (((Zq16 N (g.1, g.2) kind kv).bind fun r1 =>
 some (((r1.1.1.1, r1.1.1.2), true, ()), ())))))
noncomputable def Zq31_S (N : Nat) : FSum := ⟨Zq31_ps, Zq31_rs, fun x => Zq31 N x.1 x.2.1 x.2.2.1⟩
theorem Zq31_pc (N : Nat) : PC Tryz.prog 41 (Zq31_S N) := pcQ (L := []) (Zq31_gok N) Tryz.call41 Tryz.func41 (fun x => by kernel_rfl) trivial (by kernel_rfl)

abbrev Zq125_ps : List (PV.Mode × Ty) := [(.ro, QILQII), (.ro, I), (.ro, I)]
abbrev Zq125_rs : List (Bool × Ty) := [(true, .bool)]
noncomputable def Zq125_G (N : Nat) : GTab := gOf [(65, Zq123_S N), (137, Zq99_S N)]
theorem Zq125_gok (N : Nat) : GOk Tryz.prog (Zq125_G N) := gOf_ok ⟨Zq123_pc N, Zq99_pc N, trivial⟩
noncomputable def Zq125_code : Code := (Tryz.f97.body).getD .skip
noncomputable def Zq125 (N : Nat) (g : (Int × (List (Int × Int)))) (kind : Int) (kv : Int) : Option ((Bool × Unit) × (Unit)) :=
 ((Zq123 N (g.1, g.2) kind).bind fun r =>
 (br r.1.1
 (((Zq99 N kv 0 g.1).bind fun r1 =>
 some ((r1.1.1, ()), ())))
 (some ((false, ()), ()))))
noncomputable def Zq125_S (N : Nat) : FSum := ⟨Zq125_ps, Zq125_rs, fun x => Zq125 N x.1 x.2.1 x.2.2.1⟩
theorem Zq125_pc (N : Nat) : PC Tryz.prog 97 (Zq125_S N) := pcQ (L := []) (Zq125_gok N) Tryz.call97 Tryz.func97 (fun x => by kernel_rfl) trivial (by kernel_rfl)

abbrev Zq85_ps : List (PV.Mode × Ty) := [(.ro, QILQII), (.ro, I), (.ro, I)]
abbrev Zq85_rs : List (Bool × Ty) := [(false, QLLILQII), (true, .bool)]
noncomputable def Zq85_G (N : Nat) : GTab := gOf [(97, Zq125_S N), (112, Zq130_S N)]
theorem Zq85_gok (N : Nat) : GOk Tryz.prog (Zq85_G N) := gOf_ok ⟨Zq125_pc N, Zq130_pc N, trivial⟩
noncomputable def Zq85_code : Code := (Tryz.f42.body).getD .skip
noncomputable def Zq85 (N : Nat) (g : (Int × (List (Int × Int)))) (kind : Int) (kv : Int) : Option ((((List (List Int)) × (List (Int × Int))) × Bool × Unit) × (Unit)) :=
 ((Zq125 N (g.1, g.2) kind kv).bind fun r =>
 (br (!r.1.1)
 (some ((([], []), false, ()), ()))
 (((Zq130 N (g.1, g.2) kind kv).bind fun r1 =>
 some (((r1.1.1.1, r1.1.1.2), true, ()), ())))))
noncomputable def Zq85_S (N : Nat) : FSum := ⟨Zq85_ps, Zq85_rs, fun x => Zq85 N x.1 x.2.1 x.2.2.1⟩
theorem Zq85_pc (N : Nat) : PC Tryz.prog 42 (Zq85_S N) := pcQ (L := []) (Zq85_gok N) Tryz.call42 Tryz.func42 (fun x => by kernel_rfl) trivial (by kernel_rfl)

abbrev Zq58_ps : List (PV.Mode × Ty) := [(.ro, LQII), (.ro, LQII)]
abbrev Zq58_rs : List (Bool × Ty) := [(true, .bool)]
noncomputable def Zq58_G (N : Nat) : GTab := gOf []
theorem Zq58_gok (N : Nat) : GOk Tryz.prog (Zq58_G N) := gOf_ok trivial
noncomputable def Zq58_code : Code := (Tryz.f86.body).getD .skip
noncomputable def Zq58_l0_sh : Sh := ⟨[(0, .one (.ro LQII)), (1, .one (.ro LQII)), (5, .one (.ro I))], []⟩
noncomputable def Zq58_l0_ex : List (Ex × Sh) := [(.ret, ⟨[(4, .one (.ro .bool))], []⟩), (.exit 0, ⟨[], []⟩)]
noncomputable def Zq58_l0 {R : Type} (N : Nat) (k0 : Bool → Option R) (k1 : Unit → Option R) : Nat → (List (Int × Int)) → (List (Int × Int)) → Int → Option R
 | 0, _, _, _ => none
 | K + 1, a1, b1, i =>
 (br (ilt i (tLen a1))
 ((chk (inb a1 i)
 (chk (inb b1 i)
 (br (!(ieq ((rdP a1 i).1) ((rdP b1 i).1) && ieq ((rdP a1 i).2) ((rdP b1 i).2)))
 (k0 false)
 (Zq58_l0 N k0 k1 K a1 b1 (IntKind.i64.wrap (i + 1)))))))
 (k1 ()))
noncomputable def Zq58_l0_again {R : Type} (N : Nat) (ks : KS Zq58_l0_ex R) (k : Nat) (x : Zq58_l0_sh.T) : Option R :=
 Zq58_l0 N (fun y0 => ks 0 ((y0, ()), ())) (fun (_ : Unit) => ks 1 ((), ())) k x.1.1 x.1.2.1 x.1.2.2.1
noncomputable def Zq58_l0_s (N : Nat) : LSum := ⟨Zq58_l0_sh, Zq58_l0_ex, fun x ks => Zq58_l0_again N ks N x⟩
theorem Zq58_l0_ok (N : Nat) : LoopOk Tryz.prog Tryz.f86.ntmps (Zq58_l0_s N) (loopAt Zq58_code 0) := loopQ (sh := Zq58_l0_sh) (ex := Zq58_l0_ex) (N := N) (L := []) (fun R k x ks => Zq58_l0_again N ks k x) (Zq58_gok N) (fun _ _ _ => rfl) (fun R k x ks => by kernel_rfl) trivial (by kernel_rfl)
noncomputable def Zq58 (N : Nat) (a : (List (Int × Int))) (b : (List (Int × Int))) : Option ((Bool × Unit) × (Unit)) :=
 (br (ine (tLen a) (tLen b))
 (some ((false, ()), ()))
 (Zq58_l0 N (fun x => some ((x, ()), ())) (fun (_ : Unit) => some ((true, ()), ())) N a b 0))
noncomputable def Zq58_S (N : Nat) : FSum := ⟨Zq58_ps, Zq58_rs, fun x => Zq58 N x.1 x.2.1⟩
theorem Zq58_pc (N : Nat) : PC Tryz.prog 86 (Zq58_S N) := pcQ (L := [Zq58_l0_s N]) (Zq58_gok N) Tryz.call86 Tryz.func86 (fun x => by kernel_rfl) ⟨Zq58_l0_ok N, trivial⟩ (by kernel_rfl)

abbrev Zq59_ps : List (PV.Mode × Ty) := [(.ro, QLLILQII), (.ro, QLLILQII)]
abbrev Zq59_rs : List (Bool × Ty) := [(true, .bool)]
noncomputable def Zq59_G (N : Nat) : GTab := gOf [(20, Zq60_S N), (86, Zq58_S N)]
theorem Zq59_gok (N : Nat) : GOk Tryz.prog (Zq59_G N) := gOf_ok ⟨Zq60_pc N, Zq58_pc N, trivial⟩
noncomputable def Zq59_code : Code := (Tryz.f36.body).getD .skip
noncomputable def Zq59 (N : Nat) (a : ((List (List Int)) × (List (Int × Int)))) (b : ((List (List Int)) × (List (Int × Int)))) : Option ((Bool × Unit) × (Unit)) :=
 ((Zq60 N a.1 b.1).bind fun r =>
 (br r.1.1
 (((Zq58 N a.2 b.2).bind fun r1 =>
 some ((r1.1.1, ()), ())))
 (some ((false, ()), ()))))
noncomputable def Zq59_S (N : Nat) : FSum := ⟨Zq59_ps, Zq59_rs, fun x => Zq59 N x.1 x.2.1⟩
theorem Zq59_pc (N : Nat) : PC Tryz.prog 36 (Zq59_S N) := pcQ (L := []) (Zq59_gok N) Tryz.call36 Tryz.func36 (fun x => by kernel_rfl) trivial (by kernel_rfl)

abbrev Zq72_ps : List (PV.Mode × Ty) := [(.ro, LI), (.ro, FIBo)]
abbrev Zq72_rs : List (Bool × Ty) := [(true, I)]
noncomputable def Zq72_G (N : Nat) : GTab := gOf []
theorem Zq72_gok (N : Nat) : GOk Tryz.prog (Zq72_G N) := gOf_ok trivial
noncomputable def Zq72_code : Code := (Tryz.f198.body).getD .skip
noncomputable def Zq72_l0_sh : Sh := ⟨[(0, .one (.ro LI)), (1, .one (.ro FIBo)), (7, .one (.ro I)), (8, .one (.ro I))], []⟩
noncomputable def Zq72_l0_ex : List (Ex × Sh) := [(.ret, ⟨[(4, .one (.ro I))], []⟩), (.exit 0, ⟨[], []⟩)]
noncomputable def Zq72_l0 {R : Type} (N : Nat) (k0 : Int → Option R) (k1 : Unit → Option R) : Nat → (List Int) → (Int → Option Bool) → Int → Int → Option R
 | 0, _, _, _, _ => none
 | K + 1, s1, f1, x, x1 =>
 (br (ilt x1 x)
 ((chk (inb s1 x1)
 ((f1 (rdI s1 x1)).bind fun v =>
 (br v
 (k0 x1)
 (Zq72_l0 N k0 k1 K s1 f1 x (IntKind.i64.wrap (x1 + 1)))))))
 (k1 ()))
noncomputable def Zq72_l0_again {R : Type} (N : Nat) (ks : KS Zq72_l0_ex R) (k : Nat) (x : Zq72_l0_sh.T) : Option R :=
 Zq72_l0 N (fun y0 => ks 0 ((y0, ()), ())) (fun (_ : Unit) => ks 1 ((), ())) k x.1.1 x.1.2.1 x.1.2.2.1 x.1.2.2.2.1
noncomputable def Zq72_l0_s (N : Nat) : LSum := ⟨Zq72_l0_sh, Zq72_l0_ex, fun x ks => Zq72_l0_again N ks N x⟩
theorem Zq72_l0_ok (N : Nat) : LoopOk Tryz.prog Tryz.f198.ntmps (Zq72_l0_s N) (loopAt Zq72_code 0) := loopQ (sh := Zq72_l0_sh) (ex := Zq72_l0_ex) (N := N) (L := []) (fun R k x ks => Zq72_l0_again N ks k x) (Zq72_gok N) (fun _ _ _ => rfl) (fun R k x ks => by kernel_rfl) trivial (by kernel_rfl)
noncomputable def Zq72 (N : Nat) (s : (List Int)) (f : (Int → Option Bool)) : Option ((Int × Unit) × (Unit)) :=
 Zq72_l0 N (fun x => some ((x, ()), ())) (fun (_ : Unit) => some (((-1), ()), ())) N s f (tLen s) 0
noncomputable def Zq72_S (N : Nat) : FSum := ⟨Zq72_ps, Zq72_rs, fun x => Zq72 N x.1 x.2.1⟩
theorem Zq72_pc (N : Nat) : PC Tryz.prog 198 (Zq72_S N) := pcQ (L := [Zq72_l0_s N]) (Zq72_gok N) Tryz.call198 Tryz.func198 (fun x => by kernel_rfl) ⟨Zq72_l0_ok N, trivial⟩ (by kernel_rfl)

abbrev Zq68_ps : List (PV.Mode × Ty) := [(.ro, LI), (.ro, FIBo)]
abbrev Zq68_rs : List (Bool × Ty) := [(true, .bool)]
noncomputable def Zq68_G (N : Nat) : GTab := gOf [(198, Zq72_S N)]
theorem Zq68_gok (N : Nat) : GOk Tryz.prog (Zq68_G N) := gOf_ok ⟨Zq72_pc N, trivial⟩
noncomputable def Zq68_code : Code := (Tryz.f172.body).getD .skip
noncomputable def Zq68 (N : Nat) (s : (List Int)) (f : (Int → Option Bool)) : Option ((Bool × Unit) × (Unit)) :=
 ((Zq72 N s f).bind fun r =>
 some (((ile 0 r.1.1), ()), ()))
noncomputable def Zq68_S (N : Nat) : FSum := ⟨Zq68_ps, Zq68_rs, fun x => Zq68 N x.1 x.2.1⟩
theorem Zq68_pc (N : Nat) : PC Tryz.prog 172 (Zq68_S N) := pcQ (L := []) (Zq68_gok N) Tryz.call172 Tryz.func172 (fun x => by kernel_rfl) trivial (by kernel_rfl)
end Go.Proofs.YtffeokcchabclaaGreat
