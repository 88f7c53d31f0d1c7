/- Functions of the program as functions on data. -/
import Derived.Test.YtffeokcchabclaaGreatKindsFc
set_option linter.all false
namespace Go.Proofs.YtffeokcchabclaaGreat
open Go Go.PV
abbrev Zq53_ps : List (PV.Mode × Ty) := [(.mut, LLI), (.own, K102Un)]
abbrev Zq53_rs : List (Bool × Ty) := []
noncomputable def Zq53 (N : Nat) (x : List (List Int)) (_ : Unit) : Option (Unit × (List (List Int) × Unit)) := sortF (fun a b => (Zq45 N a b).map fun z => z.1.1) x
noncomputable def Zq53_S (N : Nat) : FSum := ⟨Zq53_ps, Zq53_rs, fun x => Zq53 N x.1 x.2.1⟩
theorem Zq53_pc (N : Nat) : PC Tryz.prog 101 (Zq53_S N) := sortRows_pc (fc := fun a b => Zq45 N a b) (sortsAt Tryz.sortL) (sortsNone Tryz.sortL) Tryz.call101 (Zq45_pc N)

abbrev Zq15_ps : List (PV.Mode × Ty) := [(.ro, QILQII), (.ro, FU64Bo)]
abbrev Zq15_rs : List (Bool × Ty) := [(true, LLI)]
noncomputable def Zq15_G (N : Nat) : GTab := gOf [(81, Zq5_S N), (70, Zq27_S N), (101, Zq53_S N)]
theorem Zq15_gok (N : Nat) : GOk Tryz.prog (Zq15_G N) := gOf_ok ⟨Zq5_pc N, Zq27_pc N, Zq53_pc N, trivial⟩
noncomputable def Zq15_code : Code := (Tryz.f146.body).getD .skip
noncomputable def Zq15_l0_sh : Sh := ⟨[(1, .one (.ro FU64Bo)), (2, .one (.adr 0 0)), (5, .one (.ref 1)), (6, .one (.ro U64))], [.box [.ro I, .ro LQII], .sl 27 LI .deep]⟩
noncomputable def Zq15_l0_ex : List (Ex × Sh) := [(.exit 0, ⟨[(5, .one (.ref 0))], [.sl 27 LI .deep]⟩)]
noncomputable def Zq15_l0 {R : Type} (N : Nat) (k0 : (List (List Int)) → Option R) : Nat → (Int → Option Bool) → Int → Int → (List (Int × Int)) → (List (List Int)) → Option R
 | 0, _, _, _, _, _ => none
 | K + 1, is1, b, o, o1, o2 =>
 ((Zq5 N (o, o1)).bind fun r =>
 (br (ile b r.1.1)
 (((is1 b).bind fun v =>
 (br v
 (((Zq27 N b).bind fun r1 =>
 (chk (room o2 [r1.1.1])
 (Zq15_l0 N k0 K is1 (IntKind.u64.wrap (b + 1)) o o1 (tApp o2 [r1.1.1])))))
 (Zq15_l0 N k0 K is1 (IntKind.u64.wrap (b + 1)) o o1 o2))))
 (k0 o2)))
noncomputable def Zq15_l0_again {R : Type} (N : Nat) (ks : KS Zq15_l0_ex R) (k : Nat) (x : Zq15_l0_sh.T) : Option R :=
 Zq15_l0 N (fun y0 => ks 0 (((), ()), (y0, ()))) k x.1.1 x.1.2.2.2.1 x.2.1.1 x.2.1.2.1 x.2.2.1
noncomputable def Zq15_l0_s (N : Nat) : LSum := ⟨Zq15_l0_sh, Zq15_l0_ex, fun x ks => Zq15_l0_again N ks N x⟩
theorem Zq15_l0_ok (N : Nat) : LoopOk Tryz.prog Tryz.f146.ntmps (Zq15_l0_s N) (loopAt Zq15_code 0) := loopQ (sh := Zq15_l0_sh) (ex := Zq15_l0_ex) (N := N) (L := []) (fun R k x ks => Zq15_l0_again N ks k x) (Zq15_gok N) (fun _ _ _ => rfl) (fun R k x ks => by kernel_rfl) trivial (by kernel_rfl)
noncomputable def Zq15 (N : Nat) (g : (Int × (List (Int × Int)))) (is : (Int → Option Bool)) : Option (((List (List Int)) × Unit) × (Unit)) :=
 Zq15_l0 N (fun o => ((Zq53 N o ()).bind fun r =>
 some ((r.2.1, ()), ()))) N is 0 g.1 g.2 []
noncomputable def Zq15_S (N : Nat) : FSum := ⟨Zq15_ps, Zq15_rs, fun x => Zq15 N x.1 x.2.1⟩
theorem Zq15_pc (N : Nat) : PC Tryz.prog 146 (Zq15_S N) := pcQ (L := [Zq15_l0_s N]) (Zq15_gok N) Tryz.call146 Tryz.func146 (fun x => by kernel_rfl) ⟨Zq15_l0_ok N, trivial⟩ (by kernel_rfl)

abbrev Zq14_ps : List (PV.Mode × Ty) := [(.ro, U64), (.ro, AQILQII), (.ro, AI)]
abbrev Zq14_rs : List (Bool × Ty) := [(true, .bool)]
noncomputable def Zq14_G (N : Nat) : GTab := gOf [(64, Zq8_S N)]
theorem Zq14_gok (N : Nat) : GOk Tryz.prog (Zq14_G N) := gOf_ok ⟨Zq8_pc N, trivial⟩
noncomputable def Zq14_code : Code := (Tryz.f166.body).getD .skip
noncomputable def Zq14 (N : Nat) (b : Int) (c : (Int × (List (Int × Int)))) (c1 : Int) : Option ((Bool × Unit) × (Unit)) :=
 ((Zq8 N c c1 b).bind fun r =>
 some ((r.1.1, ()), ()))
noncomputable def Zq14_S (N : Nat) : FSum := ⟨Zq14_ps, Zq14_rs, fun x => Zq14 N x.1 x.2.1 x.2.2.1⟩
theorem Zq14_pc (N : Nat) : PC Tryz.prog 166 (Zq14_S N) := pcQ (L := []) (Zq14_gok N) Tryz.call166 Tryz.func166 (fun x => by kernel_rfl) trivial (by kernel_rfl)

abbrev Zq30_ps : List (PV.Mode × Ty) := [(.ro, LI), (.ro, LI)]
abbrev Zq30_rs : List (Bool × Ty) := [(true, I)]
noncomputable def Zq30_G (N : Nat) : GTab := gOf [(153, Zq0_S N), (102, Zq45_S N), (156, Zq1_S N)]
theorem Zq30_gok (N : Nat) : GOk Tryz.prog (Zq30_G N) := gOf_ok ⟨Zq0_pc N, Zq45_pc N, Zq1_pc N, trivial⟩
noncomputable def Zq30_code : Code := (Tryz.f167.body).getD .skip
noncomputable def Zq30 (N : Nat) (a : (List Int)) (b : (List Int)) : Option ((Int × Unit) × (Unit)) :=
 ((Zq0 N (tLen a) (tLen b)).bind fun r =>
 ((Zq45 N a b).bind fun r1 =>
 ((Zq1 N [r.1.1, r1.1.1]).bind fun r2 =>
 some ((r2.1.1, ()), ()))))
noncomputable def Zq30_S (N : Nat) : FSum := ⟨Zq30_ps, Zq30_rs, fun x => Zq30 N x.1 x.2.1⟩
theorem Zq30_pc (N : Nat) : PC Tryz.prog 167 (Zq30_S N) := pcQ (L := []) (Zq30_gok N) Tryz.call167 Tryz.func167 (fun x => by kernel_rfl) trivial (by kernel_rfl)

abbrev Zq52_ps : List (PV.Mode × Ty) := [(.mut, LLI), (.own, K167Un)]
abbrev Zq52_rs : List (Bool × Ty) := []
noncomputable def Zq52 (N : Nat) (x : List (List Int)) (_ : Unit) : Option (Unit × (List (List Int) × Unit)) := sortF (fun a b => (Zq30 N a b).map fun z => z.1.1) x
noncomputable def Zq52_S (N : Nat) : FSum := ⟨Zq52_ps, Zq52_rs, fun x => Zq52 N x.1 x.2.1⟩
theorem Zq52_pc (N : Nat) : PC Tryz.prog 101 (Zq52_S N) := sortRows_pc (fc := fun a b => Zq30 N a b) (sortsAt Tryz.sortL) (sortsNone Tryz.sortL) Tryz.call101 (Zq30_pc N)

abbrev Zq13_ps : List (PV.Mode × Ty) := [(.ro, QILQII), (.ro, I)]
abbrev Zq13_rs : List (Bool × Ty) := [(true, LLI)]
noncomputable def Zq13_G (N : Nat) : GTab := gOf [(146, Zq15_S N), (166, Zq14_S N), (101, Zq52_S N)]
theorem Zq13_gok (N : Nat) : GOk Tryz.prog (Zq13_G N) := gOf_ok ⟨Zq15_pc N, Zq14_pc N, Zq52_pc N, trivial⟩
noncomputable def Zq13_code : Code := (Tryz.f133.body).getD .skip
noncomputable def Zq13 (N : Nat) (g : (Int × (List (Int × Int)))) (kind : Int) : Option (((List (List Int)) × Unit) × (Unit)) :=
 ((Zq15 N (g.1, g.2) (fun y0 => (Zq14 N y0 (g.1, g.2) kind).bind fun z => some z.1.1)).bind fun r =>
 ((Zq52 N r.1.1 ()).bind fun r1 =>
 some ((r1.2.1, ()), ())))
noncomputable def Zq13_S (N : Nat) : FSum := ⟨Zq13_ps, Zq13_rs, fun x => Zq13 N x.1 x.2.1⟩
theorem Zq13_pc (N : Nat) : PC Tryz.prog 133 (Zq13_S N) := pcQ (L := []) (Zq13_gok N) Tryz.call133 Tryz.func133 (fun x => by kernel_rfl) trivial (by kernel_rfl)

abbrev Zq49_ps : List (PV.Mode × Ty) := [(.ro, LLI), (.ro, FLIBo)]
abbrev Zq49_rs : List (Bool × Ty) := [(true, I)]
noncomputable def Zq49_G (N : Nat) : GTab := gOf []
theorem Zq49_gok (N : Nat) : GOk Tryz.prog (Zq49_G N) := gOf_ok trivial
noncomputable def Zq49_code : Code := (Tryz.f165.body).getD .skip
noncomputable def Zq49_l0_sh : Sh := ⟨[(0, .one (.ro LLI)), (1, .one (.ro FLIBo)), (7, .one (.ro I)), (8, .one (.ro I))], []⟩
noncomputable def Zq49_l0_ex : List (Ex × Sh) := [(.ret, ⟨[(4, .one (.ro I))], []⟩), (.exit 0, ⟨[], []⟩)]
noncomputable def Zq49_l0 {R : Type} (N : Nat) (k0 : Int → Option R) (k1 : Unit → Option R) : Nat → (List (List Int)) → ((List Int) → Option Bool) → Int → Int → Option R
 | 0, _, _, _, _ => none
 | K + 1, s1, f1, x, x1 =>
 (br (ilt x1 x)
 ((chk (inb s1 x1)
 ((f1 (rdL s1 x1)).bind fun v =>
 (br v
 (k0 x1)
 (Zq49_l0 N k0 k1 K s1 f1 x (IntKind.i64.wrap (x1 + 1)))))))
 (k1 ()))
noncomputable def Zq49_l0_again {R : Type} (N : Nat) (ks : KS Zq49_l0_ex R) (k : Nat) (x : Zq49_l0_sh.T) : Option R :=
 Zq49_l0 N (fun y0 => ks 0 ((y0, ()), ())) (fun (_ : Unit) => ks 1 ((), ())) k x.1.1 x.1.2.1 x.1.2.2.1 x.1.2.2.2.1
noncomputable def Zq49_l0_s (N : Nat) : LSum := ⟨Zq49_l0_sh, Zq49_l0_ex, fun x ks => Zq49_l0_again N ks N x⟩
theorem Zq49_l0_ok (N : Nat) : LoopOk Tryz.prog Tryz.f165.ntmps (Zq49_l0_s N) (loopAt Zq49_code 0) := loopQ (sh := Zq49_l0_sh) (ex := Zq49_l0_ex) (N := N) (L := []) (fun R k x ks => Zq49_l0_again N ks k x) (Zq49_gok N) (fun _ _ _ => rfl) (fun R k x ks => by kernel_rfl) trivial (by kernel_rfl)
noncomputable def Zq49 (N : Nat) (s : (List (List Int))) (f : ((List Int) → Option Bool)) : Option ((Int × Unit) × (Unit)) :=
 Zq49_l0 N (fun x => some ((x, ()), ())) (fun (_ : Unit) => some (((-1), ()), ())) N s f (tLen s) 0
noncomputable def Zq49_S (N : Nat) : FSum := ⟨Zq49_ps, Zq49_rs, fun x => Zq49 N x.1 x.2.1⟩
theorem Zq49_pc (N : Nat) : PC Tryz.prog 165 (Zq49_S N) := pcQ (L := [Zq49_l0_s N]) (Zq49_gok N) Tryz.call165 Tryz.func165 (fun x => by kernel_rfl) ⟨Zq49_l0_ok N, trivial⟩ (by kernel_rfl)

abbrev Zq48_ps : List (PV.Mode × Ty) := [(.own, LLI), (.ro, FLIBo)]
abbrev Zq48_rs : List (Bool × Ty) := [(true, LLI)]
noncomputable def Zq48 (N : Nat) (x : List (List Int)) (f : List Int → Option Bool) : Option ((List (List Int) × Unit) × Unit) := delF (fun xs g => Zq49 N xs g) x f
noncomputable def Zq48_S (N : Nat) : FSum := ⟨Zq48_ps, Zq48_rs, fun x => Zq48 N x.1 x.2.1⟩
theorem Zq48_pc (N : Nat) : PC Tryz.prog 132 (Zq48_S N) := deleteRows_pc (ix := fun xs g => Zq49 N xs g) Tryz.delL Tryz.delL_zero Tryz.call132 (Zq49_pc N)

abbrev Zq17_ps : List (PV.Mode × Ty) := [(.ro, LI), (.ro, AQILQII), (.ro, AI)]
abbrev Zq17_rs : List (Bool × Ty) := [(true, .bool)]
noncomputable def Zq17_G (N : Nat) : GTab := gOf [(60, Zq25_S N), (59, Zq11_S N)]
theorem Zq17_gok (N : Nat) : GOk Tryz.prog (Zq17_G N) := gOf_ok ⟨Zq25_pc N, Zq11_pc N, trivial⟩
noncomputable def Zq17_code : Code := (Tryz.f134.body).getD .skip
noncomputable def Zq17 (N : Nat) (setv : (List Int)) (c : (Int × (List (Int × Int)))) (c1 : Int) : Option ((Bool × Unit) × (Unit)) :=
 ((Zq25 N setv).bind fun r =>
 ((Zq11 N c c1 r.1.1).bind fun r1 =>
 some (((!r1.1.1), ()), ())))
noncomputable def Zq17_S (N : Nat) : FSum := ⟨Zq17_ps, Zq17_rs, fun x => Zq17 N x.1 x.2.1 x.2.2.1⟩
theorem Zq17_pc (N : Nat) : PC Tryz.prog 134 (Zq17_S N) := pcQ (L := []) (Zq17_gok N) Tryz.call134 Tryz.func134 (fun x => by kernel_rfl) trivial (by kernel_rfl)

abbrev Zq16_ps : List (PV.Mode × Ty) := [(.ro, QILQII), (.ro, I)]
abbrev Zq16_rs : List (Bool × Ty) := [(true, LLI)]
noncomputable def Zq16_G (N : Nat) : GTab := gOf [(133, Zq13_S N), (132, Zq48_S N), (134, Zq17_S N)]
theorem Zq16_gok (N : Nat) : GOk Tryz.prog (Zq16_G N) := gOf_ok ⟨Zq13_pc N, Zq48_pc N, Zq17_pc N, trivial⟩
noncomputable def Zq16_code : Code := (Tryz.f76.body).getD .skip
noncomputable def Zq16 (N : Nat) (g : (Int × (List (Int × Int)))) (kind : Int) : Option (((List (List Int)) × Unit) × (Unit)) :=
 ((Zq13 N (g.1, g.2) kind).bind fun r =>
 ((Zq48 N r.1.1 (fun y0 => (Zq17 N y0 (g.1, g.2) kind).bind fun z => some z.1.1)).bind fun r1 =>
 some ((r1.1.1, ()), ())))
noncomputable def Zq16_S (N : Nat) : FSum := ⟨Zq16_ps, Zq16_rs, fun x => Zq16 N x.1 x.2.1⟩
theorem Zq16_pc (N : Nat) : PC Tryz.prog 76 (Zq16_S N) := pcQ (L := []) (Zq16_gok N) Tryz.call76 Tryz.func76 (fun x => by kernel_rfl) trivial (by kernel_rfl)

abbrev Zq24_ps : List (PV.Mode × Ty) := [(.ro, QILQII), (.ro, I)]
abbrev Zq24_rs : List (Bool × Ty) := [(true, LLI), (true, .bool)]
noncomputable def Zq24_G (N : Nat) : GTab := gOf [(74, Zq20_S N), (75, Zq31_S N), (76, Zq16_S N)]
theorem Zq24_gok (N : Nat) : GOk Tryz.prog (Zq24_G N) := gOf_ok ⟨Zq20_pc N, Zq31_pc N, Zq16_pc N, trivial⟩
noncomputable def Zq24_code : Code := (Tryz.f18.body).getD .skip
noncomputable def Zq24 (N : Nat) (g : (Int × (List (Int × Int)))) (kind : Int) : Option (((List (List Int)) × Bool × Unit) × (Unit)) :=
 ((Zq20 N (g.1, g.2)).bind fun r =>
 (br (!r.1.1)
 (some (([], false, ()), ()))
 (((Zq31 N kind).bind fun r1 =>
 (br (!r1.1.1)
 (some (([], false, ()), ()))
 (((Zq16 N (g.1, g.2) kind).bind fun r2 =>
 some ((r2.1.1, true, ()), ()))))))))
noncomputable def Zq24_S (N : Nat) : FSum := ⟨Zq24_ps, Zq24_rs, fun x => Zq24 N x.1 x.2.1⟩
theorem Zq24_pc (N : Nat) : PC Tryz.prog 18 (Zq24_S N) := pcQ (L := []) (Zq24_gok N) Tryz.call18 Tryz.func18 (fun x => by kernel_rfl) trivial (by kernel_rfl)

abbrev Zq64_ps : List (PV.Mode × Ty) := [(.ro, QILQII), (.ro, I)]
abbrev Zq64_rs : List (Bool × Ty) := [(false, LLI), (true, .bool)]
noncomputable def Zq64_G (N : Nat) : GTab := gOf [(65, Zq93_S N), (77, Zq98_S N), (62, Zq99_S N)]
theorem Zq64_gok (N : Nat) : GOk Tryz.prog (Zq64_G N) := gOf_ok ⟨Zq93_pc N, Zq98_pc N, Zq99_pc N, trivial⟩
noncomputable def Zq64_code : Code := (Tryz.f19.body).getD .skip
noncomputable def Zq64_l0_sh : Sh := ⟨[(1, .one (.ro I)), (2, .one (.adr 0 0)), (6, .one (.ref 1)), (7, .one (.ro LLI)), (8, .one (.ro I))], [.box [.ro I, .ro LQII], .sl 27 LI .own]⟩
noncomputable def Zq64_l0_ex : List (Ex × Sh) := [(.exit 0, ⟨[(6, .one (.ref 0))], [.sl 27 LI .own]⟩)]
noncomputable def Zq64_l0 {R : Type} (N : Nat) (k0 : (List (List Int)) → Option R) : Nat → Int → (List (List Int)) → Int → Int → (List (Int × Int)) → (List (List Int)) → Option R
 | 0, _, _, _, _, _, _ => none
 | K + 1, kind2, sets1, i1, o3, o4, o5 =>
 (br (ilt i1 (tLen sets1))
 ((chk (inb sets1 i1)
 ((Zq99 N (o3, o4) kind2 (rdL sets1 i1)).bind fun r3 =>
 (br r3.1.1
 ((chk (inb sets1 i1)
 (chk (room o5 [(rdL sets1 i1)])
 (Zq64_l0 N k0 K kind2 sets1 (IntKind.i64.wrap (i1 + 1)) o3 o4 (tApp o5 [(rdL sets1 i1)])))))
 (Zq64_l0 N k0 K kind2 sets1 (IntKind.i64.wrap (i1 + 1)) o3 o4 o5)))))
 (k0 o5))
noncomputable def Zq64_l0_again {R : Type} (N : Nat) (ks : KS Zq64_l0_ex R) (k : Nat) (x : Zq64_l0_sh.T) : Option R :=
 Zq64_l0 N (fun y0 => ks 0 (((), ()), (y0, ()))) k x.1.1 x.1.2.2.2.1 x.1.2.2.2.2.1 x.2.1.1 x.2.1.2.1 x.2.2.1
noncomputable def Zq64_l0_s (N : Nat) : LSum := ⟨Zq64_l0_sh, Zq64_l0_ex, fun x ks => Zq64_l0_again N ks N x⟩
theorem Zq64_l0_ok (N : Nat) : LoopOk Tryz.prog Tryz.f19.ntmps (Zq64_l0_s N) (loopAt Zq64_code 0) := loopQ (sh := Zq64_l0_sh) (ex := Zq64_l0_ex) (N := N) (L := []) (fun R k x ks => Zq64_l0_again N ks k x) (Zq64_gok N) (fun _ _ _ => rfl) (fun R k x ks => by kernel_rfl) trivial (by kernel_rfl)
noncomputable def Zq64 (N : Nat) (g : (Int × (List (Int × Int)))) (kind : Int) : Option (((List (List Int)) × Bool × Unit) × (Unit)) :=
 ((Zq93 N (g.1, g.2) kind).bind fun r =>
 (br (!r.1.1)
 (some (([], false, ()), ()))
 (((Zq98 N (g.1, g.2) kind).bind fun r1 =>
 Zq64_l0 N (fun o3 => some ((o3, true, ()), ())) N kind r1.1.1 0 g.1 g.2 []))))
noncomputable def Zq64_S (N : Nat) : FSum := ⟨Zq64_ps, Zq64_rs, fun x => Zq64 N x.1 x.2.1⟩
theorem Zq64_pc (N : Nat) : PC Tryz.prog 19 (Zq64_S N) := pcQ (L := [Zq64_l0_s N]) (Zq64_gok N) Tryz.call19 Tryz.func19 (fun x => by kernel_rfl) ⟨Zq64_l0_ok N, trivial⟩ (by kernel_rfl)

abbrev Zq44_ps : List (PV.Mode × Ty) := [(.ro, LLI), (.ro, LLI)]
abbrev Zq44_rs : List (Bool × Ty) := [(true, .bool)]
noncomputable def Zq44_G (N : Nat) : GTab := gOf [(14, Zq42_S N)]
theorem Zq44_gok (N : Nat) : GOk Tryz.prog (Zq44_G N) := gOf_ok ⟨Zq42_pc N, trivial⟩
noncomputable def Zq44_code : Code := (Tryz.f20.body).getD .skip
noncomputable def Zq44_l0_sh : Sh := ⟨[(0, .one (.ro LLI)), (1, .one (.ro LLI)), (5, .one (.ro I))], []⟩
noncomputable def Zq44_l0_ex : List (Ex × Sh) := [(.ret, ⟨[(4, .one (.ro .bool))], []⟩), (.exit 0, ⟨[], []⟩)]
noncomputable def Zq44_l0 {R : Type} (N : Nat) (k0 : Bool → Option R) (k1 : Unit → Option R) : Nat → (List (List Int)) → (List (List Int)) → Int → Option R
 | 0, _, _, _ => none
 | K + 1, a1, b1, i =>
 (br (ilt i (tLen a1))
 ((chk (inb a1 i)
 (chk (inb b1 i)
 ((Zq42 N (rdL a1 i) (rdL b1 i)).bind fun r =>
 (br (!r.1.1)
 (k0 false)
 (Zq44_l0 N k0 k1 K a1 b1 (IntKind.i64.wrap (i + 1))))))))
 (k1 ()))
noncomputable def Zq44_l0_again {R : Type} (N : Nat) (ks : KS Zq44_l0_ex R) (k : Nat) (x : Zq44_l0_sh.T) : Option R :=
 Zq44_l0 N (fun y0 => ks 0 ((y0, ()), ())) (fun (_ : Unit) => ks 1 ((), ())) k x.1.1 x.1.2.1 x.1.2.2.1
noncomputable def Zq44_l0_s (N : Nat) : LSum := ⟨Zq44_l0_sh, Zq44_l0_ex, fun x ks => Zq44_l0_again N ks N x⟩
theorem Zq44_l0_ok (N : Nat) : LoopOk Tryz.prog Tryz.f20.ntmps (Zq44_l0_s N) (loopAt Zq44_code 0) := loopQ (sh := Zq44_l0_sh) (ex := Zq44_l0_ex) (N := N) (L := []) (fun R k x ks => Zq44_l0_again N ks k x) (Zq44_gok N) (fun _ _ _ => rfl) (fun R k x ks => by kernel_rfl) trivial (by kernel_rfl)
noncomputable def Zq44 (N : Nat) (a : (List (List Int))) (b : (List (List Int))) : Option ((Bool × Unit) × (Unit)) :=
 (br (ine (tLen a) (tLen b))
 (some ((false, ()), ()))
 (Zq44_l0 N (fun x => some ((x, ()), ())) (fun (_ : Unit) => some ((true, ()), ())) N a b 0))
noncomputable def Zq44_S (N : Nat) : FSum := ⟨Zq44_ps, Zq44_rs, fun x => Zq44 N x.1 x.2.1⟩
theorem Zq44_pc (N : Nat) : PC Tryz.prog 20 (Zq44_S N) := pcQ (L := [Zq44_l0_s N]) (Zq44_gok N) Tryz.call20 Tryz.func20 (fun x => by kernel_rfl) ⟨Zq44_l0_ok N, trivial⟩ (by kernel_rfl)

abbrev Zq6_ps : List (PV.Mode × Ty) := [(.ro, QILQII), (.ro, I)]
abbrev Zq6_rs : List (Bool × Ty) := [(true, LI)]
noncomputable def Zq6_G (N : Nat) : GTab := gOf [(133, Zq13_S N)]
theorem Zq6_gok (N : Nat) : GOk Tryz.prog (Zq6_G N) := gOf_ok ⟨Zq13_pc N, trivial⟩
noncomputable def Zq6_code : Code := (Tryz.f78.body).getD .skip
noncomputable def Zq6_l0_sh : Sh := ⟨[(1, .one (.ro I)), (6, .one (.el 0)), (15, .one (.ref 0)), (16, .one (.ro I)), (17, .one (.ro I))], [.sl 27 LI .deep]⟩
noncomputable def Zq6_l0_ex : List (Ex × Sh) := [(.exit 0, ⟨[(6, .one (.el 0))], [.sl 27 LI .deep]⟩)]
noncomputable def Zq6_l0 {R : Type} (N : Nat) (k0 : Int → (List (List Int)) → Option R) : Nat → Int → Int → Int → Int → (List (List Int)) → Option R
 | 0, _, _, _, _, _ => none
 | K + 1, kind1, best, x, x1, o =>
 (br (ilt x1 x)
 ((chk (inb o x1)
 (br (ieq kind1 2)
 ((br (ilt (tLen (rdL o best)) (tLen (rdL o x1)))
 (Zq6_l0 N k0 K kind1 x1 x (IntKind.i64.wrap (x1 + 1)) o)
 (Zq6_l0 N k0 K kind1 best x (IntKind.i64.wrap (x1 + 1)) o)))
 (Zq6_l0 N k0 K kind1 best x (IntKind.i64.wrap (x1 + 1)) o))))
 (k0 best o))
noncomputable def Zq6_l0_again {R : Type} (N : Nat) (ks : KS Zq6_l0_ex R) (k : Nat) (x : Zq6_l0_sh.T) : Option R :=
 Zq6_l0 N (fun y0 y1 => ks 0 ((y0, ()), (y1, ()))) k x.1.1 x.1.2.1 x.1.2.2.2.1 x.1.2.2.2.2.1 x.2.1
noncomputable def Zq6_l0_s (N : Nat) : LSum := ⟨Zq6_l0_sh, Zq6_l0_ex, fun x ks => Zq6_l0_again N ks N x⟩
theorem Zq6_l0_ok (N : Nat) : LoopOk Tryz.prog Tryz.f78.ntmps (Zq6_l0_s N) (loopAt Zq6_code 0) := loopQ (sh := Zq6_l0_sh) (ex := Zq6_l0_ex) (N := N) (L := []) (fun R k x ks => Zq6_l0_again N ks k x) (Zq6_gok N) (fun _ _ _ => rfl) (fun R k x ks => by kernel_rfl) trivial (by kernel_rfl)
noncomputable def Zq6 (N : Nat) (g : (Int × (List (Int × Int)))) (kind : Int) : Option (((List Int) × Unit) × (Unit)) :=
 ((Zq13 N (g.1, g.2) kind).bind fun r =>
 (chk (inb r.1.1 0)
 (Zq6_l0 N (fun best o => some (((rdL o best), ()), ())) N kind 0 (tLen r.1.1) 0 r.1.1)))
noncomputable def Zq6_S (N : Nat) : FSum := ⟨Zq6_ps, Zq6_rs, fun x => Zq6 N x.1 x.2.1⟩
theorem Zq6_pc (N : Nat) : PC Tryz.prog 78 (Zq6_S N) := pcQ (L := [Zq6_l0_s N]) (Zq6_gok N) Tryz.call78 Tryz.func78 (fun x => by kernel_rfl) ⟨Zq6_l0_ok N, trivial⟩ (by kernel_rfl)

abbrev Zq3_ps : List (PV.Mode × Ty) := [(.ro, QILQII), (.ro, I)]
abbrev Zq3_rs : List (Bool × Ty) := [(true, LI), (true, .bool)]
noncomputable def Zq3_G (N : Nat) : GTab := gOf [(74, Zq20_S N), (75, Zq31_S N), (78, Zq6_S N)]
theorem Zq3_gok (N : Nat) : GOk Tryz.prog (Zq3_G N) := gOf_ok ⟨Zq20_pc N, Zq31_pc N, Zq6_pc N, trivial⟩
noncomputable def Zq3_code : Code := (Tryz.f21.body).getD .skip
noncomputable def Zq3 (N : Nat) (g : (Int × (List (Int × Int)))) (kind : Int) : Option (((List Int) × Bool × Unit) × (Unit)) :=
 ((Zq20 N (g.1, g.2)).bind fun r =>
 (br (!r.1.1)
 (some (([], false, ()), ()))
 (((Zq31 N kind).bind fun r1 =>
 (br (!r1.1.1)
 (some (([], false, ()), ()))
 (((Zq6 N (g.1, g.2) kind).bind fun r2 =>
 some ((r2.1.1, true, ()), ()))))))))
noncomputable def Zq3_S (N : Nat) : FSum := ⟨Zq3_ps, Zq3_rs, fun x => Zq3 N x.1 x.2.1⟩
theorem Zq3_pc (N : Nat) : PC Tryz.prog 21 (Zq3_S N) := pcQ (L := []) (Zq3_gok N) Tryz.call21 Tryz.func21 (fun x => by kernel_rfl) trivial (by kernel_rfl)

abbrev Zq92_ps : List (PV.Mode × Ty) := [(.ro, QILQII), (.ro, I)]
abbrev Zq92_rs : List (Bool × Ty) := [(false, LI)]
noncomputable def Zq92_G (N : Nat) : GTab := gOf [(77, Zq98_S N)]
theorem Zq92_gok (N : Nat) : GOk Tryz.prog (Zq92_G N) := gOf_ok ⟨Zq98_pc N, trivial⟩
noncomputable def Zq92_code : Code := (Tryz.f79.body).getD .skip
noncomputable def Zq92_l0_sh : Sh := ⟨[(1, .one (.ro I)), (5, .one (.ro LLI)), (6, .one (.ro LI)), (7, .one (.ro I))], []⟩
noncomputable def Zq92_l0_ex : List (Ex × Sh) := [(.exit 0, ⟨[(6, .one (.ro LI))], []⟩)]
noncomputable def Zq92_l0 {R : Type} (N : Nat) (k0 : (List Int) → Option R) : Nat → Int → (List (List Int)) → (List Int) → Int → Option R
 | 0, _, _, _, _ => none
 | K + 1, kind1, sets, best, i =>
 (br (ilt i (tLen sets))
 ((br (ieq kind1 2)
 ((chk (inb sets i)
 (br (ilt (tLen best) (tLen (rdL sets i)))
 ((chk (inb sets i)
 (Zq92_l0 N k0 K kind1 sets (rdL sets i) (IntKind.i64.wrap (i + 1)))))
 (Zq92_l0 N k0 K kind1 sets best (IntKind.i64.wrap (i + 1))))))
 (Zq92_l0 N k0 K kind1 sets best (IntKind.i64.wrap (i + 1)))))
 (k0 best))
noncomputable def Zq92_l0_again {R : Type} (N : Nat) (ks : KS Zq92_l0_ex R) (k : Nat) (x : Zq92_l0_sh.T) : Option R :=
 Zq92_l0 N (fun y0 => ks 0 ((y0, ()), ())) k x.1.1 x.1.2.1 x.1.2.2.1 x.1.2.2.2.1
noncomputable def Zq92_l0_s (N : Nat) : LSum := ⟨Zq92_l0_sh, Zq92_l0_ex, fun x ks => Zq92_l0_again N ks N x⟩
theorem Zq92_l0_ok (N : Nat) : LoopOk Tryz.prog Tryz.f79.ntmps (Zq92_l0_s N) (loopAt Zq92_code 0) := loopQ (sh := Zq92_l0_sh) (ex := Zq92_l0_ex) (N := N) (L := []) (fun R k x ks => Zq92_l0_again N ks k x) (Zq92_gok N) (fun _ _ _ => rfl) (fun R k x ks => by kernel_rfl) trivial (by kernel_rfl)
noncomputable def Zq92 (N : Nat) (g : (Int × (List (Int × Int)))) (kind : Int) : Option (((List Int) × Unit) × (Unit)) :=
 ((Zq98 N (g.1, g.2) kind).bind fun r =>
 (chk (inb r.1.1 0)
 (Zq92_l0 N (fun best => some ((best, ()), ())) N kind r.1.1 (rdL r.1.1 0) 1)))
noncomputable def Zq92_S (N : Nat) : FSum := ⟨Zq92_ps, Zq92_rs, fun x => Zq92 N x.1 x.2.1⟩
theorem Zq92_pc (N : Nat) : PC Tryz.prog 79 (Zq92_S N) := pcQ (L := [Zq92_l0_s N]) (Zq92_gok N) Tryz.call79 Tryz.func79 (fun x => by kernel_rfl) ⟨Zq92_l0_ok N, trivial⟩ (by kernel_rfl)

abbrev Zq54_ps : List (PV.Mode × Ty) := [(.ro, QILQII), (.ro, I)]
abbrev Zq54_rs : List (Bool × Ty) := [(false, LI), (true, .bool)]
noncomputable def Zq54_G (N : Nat) : GTab := gOf [(65, Zq93_S N), (79, Zq92_S N)]
theorem Zq54_gok (N : Nat) : GOk Tryz.prog (Zq54_G N) := gOf_ok ⟨Zq93_pc N, Zq92_pc N, trivial⟩
noncomputable def Zq54_code : Code := (Tryz.f22.body).getD .skip
noncomputable def Zq54 (N : Nat) (g : (Int × (List (Int × Int)))) (kind : Int) : Option (((List Int) × Bool × Unit) × (Unit)) :=
 ((Zq93 N (g.1, g.2) kind).bind fun r =>
 (br (!r.1.1)
 (some (([], false, ()), ()))
 (((Zq92 N (g.1, g.2) kind).bind fun r1 =>
 some ((r1.1.1, true, ()), ())))))
noncomputable def Zq54_S (N : Nat) : FSum := ⟨Zq54_ps, Zq54_rs, fun x => Zq54 N x.1 x.2.1⟩
theorem Zq54_pc (N : Nat) : PC Tryz.prog 22 (Zq54_S N) := pcQ (L := []) (Zq54_gok N) Tryz.call22 Tryz.func22 (fun x => by kernel_rfl) trivial (by kernel_rfl)

abbrev Zq41_ps : List (PV.Mode × Ty) := [(.ro, LLI), (.ro, LI)]
abbrev Zq41_rs : List (Bool × Ty) := [(true, I)]
noncomputable def Zq41_G (N : Nat) : GTab := gOf [(14, Zq42_S N)]
theorem Zq41_gok (N : Nat) : GOk Tryz.prog (Zq41_G N) := gOf_ok ⟨Zq42_pc N, trivial⟩
noncomputable def Zq41_code : Code := (Tryz.f23.body).getD .skip
noncomputable def Zq41_l0_sh : Sh := ⟨[(0, .one (.ro LLI)), (1, .one (.ro LI)), (5, .one (.ro I))], []⟩
noncomputable def Zq41_l0_ex : List (Ex × Sh) := [(.ret, ⟨[(4, .one (.ro I))], []⟩), (.exit 0, ⟨[], []⟩)]
noncomputable def Zq41_l0 {R : Type} (N : Nat) (k0 : Int → Option R) (k1 : Unit → Option R) : Nat → (List (List Int)) → (List Int) → Int → Option R
 | 0, _, _, _ => none
 | K + 1, lists1, x1, i =>
 (br (ilt i (tLen lists1))
 ((chk (inb lists1 i)
 ((Zq42 N (rdL lists1 i) x1).bind fun r =>
 (br r.1.1
 (k0 i)
 (Zq41_l0 N k0 k1 K lists1 x1 (IntKind.i64.wrap (i + 1)))))))
 (k1 ()))
noncomputable def Zq41_l0_again {R : Type} (N : Nat) (ks : KS Zq41_l0_ex R) (k : Nat) (x : Zq41_l0_sh.T) : Option R :=
 Zq41_l0 N (fun y0 => ks 0 ((y0, ()), ())) (fun (_ : Unit) => ks 1 ((), ())) k x.1.1 x.1.2.1 x.1.2.2.1
noncomputable def Zq41_l0_s (N : Nat) : LSum := ⟨Zq41_l0_sh, Zq41_l0_ex, fun x ks => Zq41_l0_again N ks N x⟩
theorem Zq41_l0_ok (N : Nat) : LoopOk Tryz.prog Tryz.f23.ntmps (Zq41_l0_s N) (loopAt Zq41_code 0) := loopQ (sh := Zq41_l0_sh) (ex := Zq41_l0_ex) (N := N) (L := []) (fun R k x ks => Zq41_l0_again N ks k x) (Zq41_gok N) (fun _ _ _ => rfl) (fun R k x ks => by kernel_rfl) trivial (by kernel_rfl)
noncomputable def Zq41 (N : Nat) (lists : (List (List Int))) (x : (List Int)) : Option ((Int × Unit) × (Unit)) :=
 Zq41_l0 N (fun x1 => some ((x1, ()), ())) (fun (_ : Unit) => some (((-1), ()), ())) N lists x 0
noncomputable def Zq41_S (N : Nat) : FSum := ⟨Zq41_ps, Zq41_rs, fun x => Zq41 N x.1 x.2.1⟩
theorem Zq41_pc (N : Nat) : PC Tryz.prog 23 (Zq41_S N) := pcQ (L := [Zq41_l0_s N]) (Zq41_gok N) Tryz.call23 Tryz.func23 (fun x => by kernel_rfl) ⟨Zq41_l0_ok N, trivial⟩ (by kernel_rfl)

abbrev Zq23_ps : List (PV.Mode × Ty) := [(.ro, QILQII), (.ro, LI)]
abbrev Zq23_rs : List (Bool × Ty) := [(true, LI), (true, .bool)]
noncomputable def Zq23_G (N : Nat) : GTab := gOf [(74, Zq20_S N), (80, Zq34_S N), (81, Zq5_S N), (60, Zq25_S N), (70, Zq27_S N)]
theorem Zq23_gok (N : Nat) : GOk Tryz.prog (Zq23_G N) := gOf_ok ⟨Zq20_pc N, Zq34_pc N, Zq5_pc N, Zq25_pc N, Zq27_pc N, trivial⟩
noncomputable def Zq23_code : Code := (Tryz.f24.body).getD .skip
noncomputable def Zq23 (N : Nat) (g : (Int × (List (Int × Int)))) (setv : (List Int)) : Option (((List Int) × Bool × Unit) × (Unit)) :=
 ((Zq20 N (g.1, g.2)).bind fun r =>
 (br (!r.1.1)
 (some (([], false, ()), ()))
 (((Zq34 N setv g.1).bind fun r1 =>
 (br (!r1.1.1)
 (some (([], false, ()), ()))
 (((Zq5 N (g.1, g.2)).bind fun r2 =>
 ((Zq25 N setv).bind fun r3 =>
 ((Zq27 N (bitop .andNot .u64 r2.1.1 r3.1.1)).bind fun r4 =>
 some ((r4.1.1, true, ()), ()))))))))))
noncomputable def Zq23_S (N : Nat) : FSum := ⟨Zq23_ps, Zq23_rs, fun x => Zq23 N x.1 x.2.1⟩
theorem Zq23_pc (N : Nat) : PC Tryz.prog 24 (Zq23_S N) := pcQ (L := []) (Zq23_gok N) Tryz.call24 Tryz.func24 (fun x => by kernel_rfl) trivial (by kernel_rfl)

abbrev Zq97_ps : List (PV.Mode × Ty) := [(.ro, QILQII), (.ro, LI)]
abbrev Zq97_rs : List (Bool × Ty) := [(true, LI)]
noncomputable def Zq97_G (N : Nat) : GTab := gOf [(72, Zq74_S N)]
theorem Zq97_gok (N : Nat) : GOk Tryz.prog (Zq97_G N) := gOf_ok ⟨Zq74_pc N, trivial⟩
noncomputable def Zq97_code : Code := (Tryz.f83.body).getD .skip
noncomputable def Zq97_l0_sh : Sh := ⟨[(1, .one (.ro LI)), (2, .one (.adr 0 0)), (5, .one (.ref 1)), (6, .one (.ro I))], [.box [.ro I, .ro LQII], .sl 3 I .own]⟩
noncomputable def Zq97_l0_ex : List (Ex × Sh) := [(.exit 0, ⟨[(5, .one (.ref 0))], [.sl 3 I .own]⟩)]
noncomputable def Zq97_l0 {R : Type} (N : Nat) (k0 : (List Int) → Option R) : Nat → (List Int) → Int → Int → (List (Int × Int)) → (List Int) → Option R
 | 0, _, _, _, _, _ => none
 | K + 1, setv1, x, o, o1, o2 =>
 (br (ilt x o)
 (((Zq74 N setv1 x).bind fun r =>
 (br (!r.1.1)
 ((chk (room o2 [x])
 (Zq97_l0 N k0 K setv1 (IntKind.i64.wrap (x + 1)) o o1 (tApp o2 [x]))))
 (Zq97_l0 N k0 K setv1 (IntKind.i64.wrap (x + 1)) o o1 o2))))
 (k0 o2))
noncomputable def Zq97_l0_again {R : Type} (N : Nat) (ks : KS Zq97_l0_ex R) (k : Nat) (x : Zq97_l0_sh.T) : Option R :=
 Zq97_l0 N (fun y0 => ks 0 (((), ()), (y0, ()))) k x.1.1 x.1.2.2.2.1 x.2.1.1 x.2.1.2.1 x.2.2.1
noncomputable def Zq97_l0_s (N : Nat) : LSum := ⟨Zq97_l0_sh, Zq97_l0_ex, fun x ks => Zq97_l0_again N ks N x⟩
theorem Zq97_l0_ok (N : Nat) : LoopOk Tryz.prog Tryz.f83.ntmps (Zq97_l0_s N) (loopAt Zq97_code 0) := loopQ (sh := Zq97_l0_sh) (ex := Zq97_l0_ex) (N := N) (L := []) (fun R k x ks => Zq97_l0_again N ks k x) (Zq97_gok N) (fun _ _ _ => rfl) (fun R k x ks => by kernel_rfl) trivial (by kernel_rfl)
noncomputable def Zq97 (N : Nat) (g : (Int × (List (Int × Int)))) (setv : (List Int)) : Option (((List Int) × Unit) × (Unit)) :=
 Zq97_l0 N (fun o => some ((o, ()), ())) N setv 0 g.1 g.2 []
noncomputable def Zq97_S (N : Nat) : FSum := ⟨Zq97_ps, Zq97_rs, fun x => Zq97 N x.1 x.2.1⟩
theorem Zq97_pc (N : Nat) : PC Tryz.prog 83 (Zq97_S N) := pcQ (L := [Zq97_l0_s N]) (Zq97_gok N) Tryz.call83 Tryz.func83 (fun x => by kernel_rfl) ⟨Zq97_l0_ok N, trivial⟩ (by kernel_rfl)

abbrev Zq63_ps : List (PV.Mode × Ty) := [(.ro, QILQII), (.ro, LI)]
abbrev Zq63_rs : List (Bool × Ty) := [(true, LI), (true, .bool)]
noncomputable def Zq63_G (N : Nat) : GTab := gOf [(82, Zq86_S N), (66, Zq90_S N), (83, Zq97_S N)]
theorem Zq63_gok (N : Nat) : GOk Tryz.prog (Zq63_G N) := gOf_ok ⟨Zq86_pc N, Zq90_pc N, Zq97_pc N, trivial⟩
noncomputable def Zq63_code : Code := (Tryz.f25.body).getD .skip
noncomputable def Zq63 (N : Nat) (g : (Int × (List (Int × Int)))) (setv : (List Int)) : Option (((List Int) × Bool × Unit) × (Unit)) :=
 ((Zq86 N (g.1, g.2)).bind fun r =>
 (br (!r.1.1)
 (some (([], false, ()), ()))
 (((Zq90 N (g.1, g.2) setv).bind fun r1 =>
 (br (!r1.1.1)
 (some (([], false, ()), ()))
 (((Zq97 N (g.1, g.2) setv).bind fun r2 =>
 some ((r2.1.1, true, ()), ()))))))))
noncomputable def Zq63_S (N : Nat) : FSum := ⟨Zq63_ps, Zq63_rs, fun x => Zq63 N x.1 x.2.1⟩
theorem Zq63_pc (N : Nat) : PC Tryz.prog 25 (Zq63_S N) := pcQ (L := []) (Zq63_gok N) Tryz.call25 Tryz.func25 (fun x => by kernel_rfl) trivial (by kernel_rfl)

abbrev Zq4_ps : List (PV.Mode × Ty) := [(.ro, QILQII)]
abbrev Zq4_rs : List (Bool × Ty) := [(true, QILQII), (true, .bool)]
noncomputable def Zq4_G (N : Nat) : GTab := gOf [(74, Zq20_S N), (84, Zq7_S N)]
theorem Zq4_gok (N : Nat) : GOk Tryz.prog (Zq4_G N) := gOf_ok ⟨Zq20_pc N, Zq7_pc N, trivial⟩
noncomputable def Zq4_code : Code := (Tryz.f26.body).getD .skip
noncomputable def Zq4_l0_0_sh : Sh := ⟨[(1, .one (.adr 0 0)), (2, .one (.adr 1 0)), (4, .one (.adr 2 0)), (5, .one (.ro I)), (6, .one (.ro I)), (15, .one (.ro I)), (16, .one (.ro I))], [.box [.ro I, .ro LQII], .box [.ro I, .nilsl], .box [.ro I, .ref 3], .sl 90 QII .own]⟩
noncomputable def Zq4_l0_0_ex : List (Ex × Sh) := [(.exit 2, ⟨[(1, .one (.adr 0 0)), (2, .one (.adr 1 0)), (4, .one (.adr 2 0)), (15, .one (.ro I)), (16, .one (.ro I))], [.box [.ro I, .ro LQII], .box [.ro I, .nilsl], .box [.ro I, .ref 3], .sl 90 QII .own]⟩)]
noncomputable def Zq4_l0_0 {R : Type} (N : Nat) (k0 : Int → Int → Int → (List (Int × Int)) → Int → Int → (List (Int × Int)) → Option R) : Nat → Int → Int → Int → Int → Int → (List (Int × Int)) → Int → Int → (List (Int × Int)) → Option R
 | 0, _, _, _, _, _, _, _, _, _ => none
 | K + 1, a, b, x2, x3, o5, o6, o7, o8, o9 =>
 (br (ilt b o5)
 (((Zq7 N (o5, o6) a b).bind fun r1 =>
 (br (!r1.1.1)
 ((chk (room o9 [(a, b)])
 (Zq4_l0_0 N k0 K a (IntKind.i64.wrap (b + 1)) x2 x3 o5 o6 o7 o8 (tApp o9 [(a, b)]))))
 (Zq4_l0_0 N k0 K a (IntKind.i64.wrap (b + 1)) x2 x3 o5 o6 o7 o8 o9))))
 (k0 x2 x3 o5 o6 o7 o8 o9))
noncomputable def Zq4_l0_0_again {R : Type} (N : Nat) (ks : KS Zq4_l0_0_ex R) (k : Nat) (x : Zq4_l0_0_sh.T) : Option R :=
 Zq4_l0_0 N (fun y0 y1 y2 y3 y4 y5 y6 => ks 0 (((), (), (), y0, y1, ()), ((y2, y3, ()), (y4, (), ()), (y5, (), ()), y6, ()))) k x.1.2.2.2.1 x.1.2.2.2.2.1 x.1.2.2.2.2.2.1 x.1.2.2.2.2.2.2.1 x.2.1.1 x.2.1.2.1 x.2.2.1.1 x.2.2.2.1.1 x.2.2.2.2.1
noncomputable def Zq4_l0_0_s (N : Nat) : LSum := ⟨Zq4_l0_0_sh, Zq4_l0_0_ex, fun x ks => Zq4_l0_0_again N ks N x⟩
theorem Zq4_l0_0_ok (N : Nat) : LoopOk Tryz.prog Tryz.f26.ntmps (Zq4_l0_0_s N) (loopAt (loopAt Zq4_code 0) 0) := loopQ (sh := Zq4_l0_0_sh) (ex := Zq4_l0_0_ex) (N := N) (L := []) (fun R k x ks => Zq4_l0_0_again N ks k x) (Zq4_gok N) (fun _ _ _ => rfl) (fun R k x ks => by kernel_rfl) trivial (by kernel_rfl)
noncomputable def Zq4_l0_sh : Sh := ⟨[(1, .one (.adr 0 0)), (2, .one (.adr 1 0)), (4, .one (.adr 2 0)), (15, .one (.ro I)), (16, .one (.ro I))], [.box [.ro I, .ro LQII], .box [.ro I, .nilsl], .box [.ro I, .ref 3], .sl 90 QII .own]⟩
noncomputable def Zq4_l0_ex : List (Ex × Sh) := [(.exit 0, ⟨[(2, .one (.adr 0 0)), (4, .one (.adr 1 0))], [.box [.ro I, .nilsl], .box [.ro I, .ref 2], .sl 90 QII .own]⟩)]
noncomputable def Zq4_l0 {R : Type} (N : Nat) (k0 : Int → Int → (List (Int × Int)) → Option R) : Nat → Int → Int → Int → (List (Int × Int)) → Int → Int → (List (Int × Int)) → Option R
 | 0, _, _, _, _, _, _, _ => none
 | K + 1, x, x1, o, o1, o2, o3, o4 =>
 (br (ilt x1 x)
 (Zq4_l0_0 N (fun x2 x3 o5 o6 o7 o8 o9 => Zq4_l0 N k0 K x2 (IntKind.i64.wrap (x3 + 1)) o5 o6 o7 o8 o9) N x1 (IntKind.i64.wrap (x1 + 1)) x x1 o o1 o2 o3 o4)
 (k0 o2 o3 o4))
noncomputable def Zq4_l0_again {R : Type} (N : Nat) (ks : KS Zq4_l0_ex R) (k : Nat) (x : Zq4_l0_sh.T) : Option R :=
 Zq4_l0 N (fun y0 y1 y2 => ks 0 (((), (), ()), ((y0, (), ()), (y1, (), ()), y2, ()))) k x.1.2.2.2.1 x.1.2.2.2.2.1 x.2.1.1 x.2.1.2.1 x.2.2.1.1 x.2.2.2.1.1 x.2.2.2.2.1
noncomputable def Zq4_l0_s (N : Nat) : LSum := ⟨Zq4_l0_sh, Zq4_l0_ex, fun x ks => Zq4_l0_again N ks N x⟩
theorem Zq4_l0_ok (N : Nat) : LoopOk Tryz.prog Tryz.f26.ntmps (Zq4_l0_s N) (loopAt Zq4_code 0) := loopQ (sh := Zq4_l0_sh) (ex := Zq4_l0_ex) (N := N) (L := [Zq4_l0_0_s N]) (fun R k x ks => Zq4_l0_again N ks k x) (Zq4_gok N) (fun _ _ _ => rfl) (fun R k x ks => by kernel_rfl) ⟨Zq4_l0_0_ok N, trivial⟩ (by kernel_rfl)
noncomputable def Zq4 (N : Nat) (g : (Int × (List (Int × Int)))) : Option (((Int × (List (Int × Int))) × Bool × Unit) × (Unit)) :=
 ((Zq20 N (g.1, g.2)).bind fun r =>
 (br (!r.1.1)
 (some (((0, []), false, ()), ()))
 (Zq4_l0 N (fun o o1 o2 => some (((o1, o2), true, ()), ())) N g.1 0 g.1 g.2 0 g.1 [])))
noncomputable def Zq4_S (N : Nat) : FSum := ⟨Zq4_ps, Zq4_rs, fun x => Zq4 N x.1⟩
theorem Zq4_pc (N : Nat) : PC Tryz.prog 26 (Zq4_S N) := pcQ (L := [Zq4_l0_s N]) (Zq4_gok N) Tryz.call26 Tryz.func26 (fun x => by kernel_rfl) ⟨Zq4_l0_ok N, trivial⟩ (by kernel_rfl)

abbrev Zq55_ps : List (PV.Mode × Ty) := [(.ro, QILQII)]
abbrev Zq55_rs : List (Bool × Ty) := [(true, QILQII), (true, .bool)]
noncomputable def Zq55_G (N : Nat) : GTab := gOf [(82, Zq86_S N), (85, Zq87_S N)]
theorem Zq55_gok (N : Nat) : GOk Tryz.prog (Zq55_G N) := gOf_ok ⟨Zq86_pc N, Zq87_pc N, trivial⟩
noncomputable def Zq55_code : Code := (Tryz.f27.body).getD .skip
noncomputable def Zq55_l0_0_sh : Sh := ⟨[(1, .one (.adr 0 0)), (2, .one (.adr 1 0)), (4, .one (.adr 2 0)), (5, .one (.ro I)), (6, .one (.ro I))], [.box [.ro I, .ro LQII], .box [.ro I, .nilsl], .box [.ro I, .ref 3], .sl 90 QII .own]⟩
noncomputable def Zq55_l0_0_ex : List (Ex × Sh) := [(.exit 2, ⟨[(1, .one (.adr 0 0)), (2, .one (.adr 1 0)), (4, .one (.adr 2 0)), (5, .one (.ro I))], [.box [.ro I, .ro LQII], .box [.ro I, .nilsl], .box [.ro I, .ref 3], .sl 90 QII .own]⟩)]
noncomputable def Zq55_l0_0 {R : Type} (N : Nat) (k0 : Int → Int → (List (Int × Int)) → Int → Int → (List (Int × Int)) → Option R) : Nat → Int → Int → Int → (List (Int × Int)) → Int → Int → (List (Int × Int)) → Option R
 | 0, _, _, _, _, _, _, _ => none
 | K + 1, x1, y, o5, o6, o7, o8, o9 =>
 (br (ilt y o5)
 (((Zq87 N (o5, o6) x1 y).bind fun r1 =>
 (br (!r1.1.1)
 ((chk (room o9 [(x1, y)])
 (Zq55_l0_0 N k0 K x1 (IntKind.i64.wrap (y + 1)) o5 o6 o7 o8 (tApp o9 [(x1, y)]))))
 (Zq55_l0_0 N k0 K x1 (IntKind.i64.wrap (y + 1)) o5 o6 o7 o8 o9))))
 (k0 x1 o5 o6 o7 o8 o9))
noncomputable def Zq55_l0_0_again {R : Type} (N : Nat) (ks : KS Zq55_l0_0_ex R) (k : Nat) (x : Zq55_l0_0_sh.T) : Option R :=
 Zq55_l0_0 N (fun y0 y1 y2 y3 y4 y5 => ks 0 (((), (), (), y0, ()), ((y1, y2, ()), (y3, (), ()), (y4, (), ()), y5, ()))) k x.1.2.2.2.1 x.1.2.2.2.2.1 x.2.1.1 x.2.1.2.1 x.2.2.1.1 x.2.2.2.1.1 x.2.2.2.2.1
noncomputable def Zq55_l0_0_s (N : Nat) : LSum := ⟨Zq55_l0_0_sh, Zq55_l0_0_ex, fun x ks => Zq55_l0_0_again N ks N x⟩
theorem Zq55_l0_0_ok (N : Nat) : LoopOk Tryz.prog Tryz.f27.ntmps (Zq55_l0_0_s N) (loopAt (loopAt Zq55_code 0) 0) := loopQ (sh := Zq55_l0_0_sh) (ex := Zq55_l0_0_ex) (N := N) (L := []) (fun R k x ks => Zq55_l0_0_again N ks k x) (Zq55_gok N) (fun _ _ _ => rfl) (fun R k x ks => by kernel_rfl) trivial (by kernel_rfl)
noncomputable def Zq55_l0_sh : Sh := ⟨[(1, .one (.adr 0 0)), (2, .one (.adr 1 0)), (4, .one (.adr 2 0)), (5, .one (.ro I))], [.box [.ro I, .ro LQII], .box [.ro I, .nilsl], .box [.ro I, .ref 3], .sl 90 QII .own]⟩
noncomputable def Zq55_l0_ex : List (Ex × Sh) := [(.exit 0, ⟨[(2, .one (.adr 0 0)), (4, .one (.adr 1 0))], [.box [.ro I, .nilsl], .box [.ro I, .ref 2], .sl 90 QII .own]⟩)]
noncomputable def Zq55_l0 {R : Type} (N : Nat) (k0 : Int → Int → (List (Int × Int)) → Option R) : Nat → Int → Int → (List (Int × Int)) → Int → Int → (List (Int × Int)) → Option R
 | 0, _, _, _, _, _, _ => none
 | K + 1, x, o, o1, o2, o3, o4 =>
 (br (ilt x o)
 (Zq55_l0_0 N (fun x1 o5 o6 o7 o8 o9 => Zq55_l0 N k0 K (IntKind.i64.wrap (x1 + 1)) o5 o6 o7 o8 o9) N x (IntKind.i64.wrap (x + 1)) o o1 o2 o3 o4)
 (k0 o2 o3 o4))
noncomputable def Zq55_l0_again {R : Type} (N : Nat) (ks : KS Zq55_l0_ex R) (k : Nat) (x : Zq55_l0_sh.T) : Option R :=
 Zq55_l0 N (fun y0 y1 y2 => ks 0 (((), (), ()), ((y0, (), ()), (y1, (), ()), y2, ()))) k x.1.2.2.2.1 x.2.1.1 x.2.1.2.1 x.2.2.1.1 x.2.2.2.1.1 x.2.2.2.2.1
noncomputable def Zq55_l0_s (N : Nat) : LSum := ⟨Zq55_l0_sh, Zq55_l0_ex, fun x ks => Zq55_l0_again N ks N x⟩
theorem Zq55_l0_ok (N : Nat) : LoopOk Tryz.prog Tryz.f27.ntmps (Zq55_l0_s N) (loopAt Zq55_code 0) := loopQ (sh := Zq55_l0_sh) (ex := Zq55_l0_ex) (N := N) (L := [Zq55_l0_0_s N]) (fun R k x ks => Zq55_l0_again N ks k x) (Zq55_gok N) (fun _ _ _ => rfl) (fun R k x ks => by kernel_rfl) ⟨Zq55_l0_0_ok N, trivial⟩ (by kernel_rfl)
noncomputable def Zq55 (N : Nat) (g : (Int × (List (Int × Int)))) : Option (((Int × (List (Int × Int))) × Bool × Unit) × (Unit)) :=
 ((Zq86 N (g.1, g.2)).bind fun r =>
 (br (!r.1.1)
 (some (((0, []), false, ()), ()))
 (Zq55_l0 N (fun o o1 o2 => some (((o1, o2), true, ()), ())) N 0 g.1 g.2 0 g.1 [])))
noncomputable def Zq55_S (N : Nat) : FSum := ⟨Zq55_ps, Zq55_rs, fun x => Zq55 N x.1⟩
theorem Zq55_pc (N : Nat) : PC Tryz.prog 27 (Zq55_S N) := pcQ (L := [Zq55_l0_s N]) (Zq55_gok N) Tryz.call27 Tryz.func27 (fun x => by kernel_rfl) ⟨Zq55_l0_ok N, trivial⟩ (by kernel_rfl)

abbrev Zq43_ps : List (PV.Mode × Ty) := [(.ro, LQII), (.ro, LQII)]
abbrev Zq43_rs : List (Bool × Ty) := [(true, .bool)]
noncomputable def Zq43_G (N : Nat) : GTab := gOf []
theorem Zq43_gok (N : Nat) : GOk Tryz.prog (Zq43_G N) := gOf_ok trivial
noncomputable def Zq43_code : Code := (Tryz.f86.body).getD .skip
noncomputable def Zq43_l0_sh : Sh := ⟨[(0, .one (.ro LQII)), (1, .one (.ro LQII)), (5, .one (.ro I))], []⟩
noncomputable def Zq43_l0_ex : List (Ex × Sh) := [(.ret, ⟨[(4, .one (.ro .bool))], []⟩), (.exit 0, ⟨[], []⟩)]
noncomputable def Zq43_l0 {R : Type} (N : Nat) (k0 : Bool → Option R) (k1 : Unit → Option R) : Nat → (List (Int × Int)) → (List (Int × Int)) → Int → Option R
 | 0, _, _, _ => none
 | K + 1, a1, b1, i =>
 (br (ilt i (tLen a1))
 ((chk (inb a1 i)
 (chk (inb b1 i)
 (br (!(ieq ((rdP a1 i).1) ((rdP b1 i).1) && ieq ((rdP a1 i).2) ((rdP b1 i).2)))
 (k0 false)
 (Zq43_l0 N k0 k1 K a1 b1 (IntKind.i64.wrap (i + 1)))))))
 (k1 ()))
noncomputable def Zq43_l0_again {R : Type} (N : Nat) (ks : KS Zq43_l0_ex R) (k : Nat) (x : Zq43_l0_sh.T) : Option R :=
 Zq43_l0 N (fun y0 => ks 0 ((y0, ()), ())) (fun (_ : Unit) => ks 1 ((), ())) k x.1.1 x.1.2.1 x.1.2.2.1
noncomputable def Zq43_l0_s (N : Nat) : LSum := ⟨Zq43_l0_sh, Zq43_l0_ex, fun x ks => Zq43_l0_again N ks N x⟩
theorem Zq43_l0_ok (N : Nat) : LoopOk Tryz.prog Tryz.f86.ntmps (Zq43_l0_s N) (loopAt Zq43_code 0) := loopQ (sh := Zq43_l0_sh) (ex := Zq43_l0_ex) (N := N) (L := []) (fun R k x ks => Zq43_l0_again N ks k x) (Zq43_gok N) (fun _ _ _ => rfl) (fun R k x ks => by kernel_rfl) trivial (by kernel_rfl)
noncomputable def Zq43 (N : Nat) (a : (List (Int × Int))) (b : (List (Int × Int))) : Option ((Bool × Unit) × (Unit)) :=
 (br (ine (tLen a) (tLen b))
 (some ((false, ()), ()))
 (Zq43_l0 N (fun x => some ((x, ()), ())) (fun (_ : Unit) => some ((true, ()), ())) N a b 0))
noncomputable def Zq43_S (N : Nat) : FSum := ⟨Zq43_ps, Zq43_rs, fun x => Zq43 N x.1 x.2.1⟩
theorem Zq43_pc (N : Nat) : PC Tryz.prog 86 (Zq43_S N) := pcQ (L := [Zq43_l0_s N]) (Zq43_gok N) Tryz.call86 Tryz.func86 (fun x => by kernel_rfl) ⟨Zq43_l0_ok N, trivial⟩ (by kernel_rfl)

abbrev Zq39_ps : List (PV.Mode × Ty) := [(.ro, QILQII), (.ro, QILQII)]
abbrev Zq39_rs : List (Bool × Ty) := [(true, .bool)]
noncomputable def Zq39_G (N : Nat) : GTab := gOf [(86, Zq43_S N)]
theorem Zq39_gok (N : Nat) : GOk Tryz.prog (Zq39_G N) := gOf_ok ⟨Zq43_pc N, trivial⟩
noncomputable def Zq39_code : Code := (Tryz.f28.body).getD .skip
noncomputable def Zq39 (N : Nat) (a : (Int × (List (Int × Int)))) (b : (Int × (List (Int × Int)))) : Option ((Bool × Unit) × (Unit)) :=
 (br (ieq a.1 b.1)
 (((Zq43 N a.2 b.2).bind fun r =>
 some ((r.1.1, ()), ())))
 (some ((false, ()), ())))
noncomputable def Zq39_S (N : Nat) : FSum := ⟨Zq39_ps, Zq39_rs, fun x => Zq39 N x.1 x.2.1⟩
theorem Zq39_pc (N : Nat) : PC Tryz.prog 28 (Zq39_S N) := pcQ (L := []) (Zq39_gok N) Tryz.call28 Tryz.func28 (fun x => by kernel_rfl) trivial (by kernel_rfl)
end Go.Proofs.YtffeokcchabclaaGreat
