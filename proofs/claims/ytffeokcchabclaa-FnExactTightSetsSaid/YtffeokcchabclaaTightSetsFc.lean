/- Functions of the program as functions on data. -/
import Derived.Test.YtffeokcchabclaaTightSetsFb
set_option linter.all false
namespace Go.Proofs.Ytffeokcchabclaa
open Go Go.PV
abbrev Zq11_ps : List (PV.Mode × Ty) := [(.ro, U64), (.ro, AQILQII), (.ro, AI)]
abbrev Zq11_rs : List (Bool × Ty) := [(true, .bool)]
noncomputable def Zq11_G (N : Nat) : GTab := gOf [(54, Zq5_S N)]
theorem Zq11_gok (N : Nat) : GOk Try.prog (Zq11_G N) := gOf_ok ⟨Zq5_pc N, trivial⟩
noncomputable def Zq11_code : Code := (Try.f53.body).getD .skip
noncomputable def Zq11 (N : Nat) (b : Int) (c : (Int × (List (Int × Int)))) (c1 : Int) : Option ((Bool × Unit) × (Unit)) :=
 ((Zq5 N c c1 b).bind fun r =>
 some ((r.1.1, ()), ()))
noncomputable def Zq11_S (N : Nat) : FSum := ⟨Zq11_ps, Zq11_rs, fun x => Zq11 N x.1 x.2.1 x.2.2.1⟩
theorem Zq11_pc (N : Nat) : PC Try.prog 53 (Zq11_S N) := pcQ (L := []) (Zq11_gok N) Try.call53 Try.func53 (fun x => by kernel_rfl) trivial (by kernel_rfl)

abbrev Zq22_ps : List (PV.Mode × Ty) := [(.ro, LI), (.ro, LI)]
abbrev Zq22_rs : List (Bool × Ty) := [(true, I)]
noncomputable def Zq22_G (N : Nat) : GTab := gOf [(60, Zq0_S N), (63, Zq43_S N), (59, Zq1_S N)]
theorem Zq22_gok (N : Nat) : GOk Try.prog (Zq22_G N) := gOf_ok ⟨Zq0_pc N, Zq43_pc N, Zq1_pc N, trivial⟩
noncomputable def Zq22_code : Code := (Try.f56.body).getD .skip
noncomputable def Zq22 (N : Nat) (a : (List Int)) (b : (List Int)) : Option ((Int × Unit) × (Unit)) :=
 ((Zq0 N (tLen a) (tLen b)).bind fun r =>
 ((Zq43 N a b).bind fun r1 =>
 ((Zq1 N [r.1.1, r1.1.1]).bind fun r2 =>
 some ((r2.1.1, ()), ()))))
noncomputable def Zq22_S (N : Nat) : FSum := ⟨Zq22_ps, Zq22_rs, fun x => Zq22 N x.1 x.2.1⟩
theorem Zq22_pc (N : Nat) : PC Try.prog 56 (Zq22_S N) := pcQ (L := []) (Zq22_gok N) Try.call56 Try.func56 (fun x => by kernel_rfl) trivial (by kernel_rfl)

abbrev Zq50_ps : List (PV.Mode × Ty) := [(.mut, LLI), (.own, K56Un)]
abbrev Zq50_rs : List (Bool × Ty) := []
noncomputable def Zq50 (N : Nat) (x : List (List Int)) (_ : Unit) : Option (Unit × (List (List Int) × Unit)) := sortF (fun a b => (Zq22 N a b).map fun z => z.1.1) x
noncomputable def Zq50_S (N : Nat) : FSum := ⟨Zq50_ps, Zq50_rs, fun x => Zq50 N x.1 x.2.1⟩
theorem Zq50_pc (N : Nat) : PC Try.prog 55 (Zq50_S N) := sortRows_pc (fc := fun a b => Zq22 N a b) (sortsAt Try.sortL) (sortsNone Try.sortL) Try.call55 (Zq22_pc N)

abbrev Zq10_ps : List (PV.Mode × Ty) := [(.ro, QILQII), (.ro, I)]
abbrev Zq10_rs : List (Bool × Ty) := [(true, LLI)]
noncomputable def Zq10_G (N : Nat) : GTab := gOf [(52, Zq12_S N), (53, Zq11_S N), (55, Zq50_S N)]
theorem Zq10_gok (N : Nat) : GOk Try.prog (Zq10_G N) := gOf_ok ⟨Zq12_pc N, Zq11_pc N, Zq50_pc N, trivial⟩
noncomputable def Zq10_code : Code := (Try.f37.body).getD .skip
noncomputable def Zq10 (N : Nat) (g : (Int × (List (Int × Int)))) (kind : Int) : Option (((List (List Int)) × Unit) × (Unit)) :=
 ((Zq12 N (g.1, g.2) (fun y0 => (Zq11 N y0 (g.1, g.2) kind).bind fun z => some z.1.1)).bind fun r =>
 ((Zq50 N r.1.1 ()).bind fun r1 =>
 some ((r1.2.1, ()), ())))
noncomputable def Zq10_S (N : Nat) : FSum := ⟨Zq10_ps, Zq10_rs, fun x => Zq10 N x.1 x.2.1⟩
theorem Zq10_pc (N : Nat) : PC Try.prog 37 (Zq10_S N) := pcQ (L := []) (Zq10_gok N) Try.call37 Try.func37 (fun x => by kernel_rfl) trivial (by kernel_rfl)

abbrev Zq47_ps : List (PV.Mode × Ty) := [(.ro, LLI), (.ro, FLIBo)]
abbrev Zq47_rs : List (Bool × Ty) := [(true, I)]
noncomputable def Zq47_G (N : Nat) : GTab := gOf []
theorem Zq47_gok (N : Nat) : GOk Try.prog (Zq47_G N) := gOf_ok trivial
noncomputable def Zq47_code : Code := (Try.f51.body).getD .skip
noncomputable def Zq47_l0_sh : Sh := ⟨[(0, .one (.ro LLI)), (1, .one (.ro FLIBo)), (7, .one (.ro I)), (8, .one (.ro I))], []⟩
noncomputable def Zq47_l0_ex : List (Ex × Sh) := [(.ret, ⟨[(4, .one (.ro I))], []⟩), (.exit 0, ⟨[], []⟩)]
noncomputable def Zq47_l0 {R : Type} (N : Nat) (k0 : Int → Option R) (k1 : Unit → Option R) : Nat → (List (List Int)) → ((List Int) → Option Bool) → Int → Int → Option R
 | 0, _, _, _, _ => none
 | K + 1, s1, f1, x, x1 =>
 (br (ilt x1 x)
 ((chk (inb s1 x1)
 ((f1 (rdL s1 x1)).bind fun v =>
 (br v
 (k0 x1)
 (Zq47_l0 N k0 k1 K s1 f1 x (IntKind.i64.wrap (x1 + 1)))))))
 (k1 ()))
noncomputable def Zq47_l0_again {R : Type} (N : Nat) (ks : KS Zq47_l0_ex R) (k : Nat) (x : Zq47_l0_sh.T) : Option R :=
 Zq47_l0 N (fun y0 => ks 0 ((y0, ()), ())) (fun (_ : Unit) => ks 1 ((), ())) k x.1.1 x.1.2.1 x.1.2.2.1 x.1.2.2.2.1
noncomputable def Zq47_l0_s (N : Nat) : LSum := ⟨Zq47_l0_sh, Zq47_l0_ex, fun x ks => Zq47_l0_again N ks N x⟩
theorem Zq47_l0_ok (N : Nat) : LoopOk Try.prog Try.f51.ntmps (Zq47_l0_s N) (loopAt Zq47_code 0) := loopQ (sh := Zq47_l0_sh) (ex := Zq47_l0_ex) (N := N) (L := []) (fun R k x ks => Zq47_l0_again N ks k x) (Zq47_gok N) (fun _ _ _ => rfl) (fun R k x ks => by kernel_rfl) trivial (by kernel_rfl)
noncomputable def Zq47 (N : Nat) (s : (List (List Int))) (f : ((List Int) → Option Bool)) : Option ((Int × Unit) × (Unit)) :=
 Zq47_l0 N (fun x => some ((x, ()), ())) (fun (_ : Unit) => some (((-1), ()), ())) N s f (tLen s) 0
noncomputable def Zq47_S (N : Nat) : FSum := ⟨Zq47_ps, Zq47_rs, fun x => Zq47 N x.1 x.2.1⟩
theorem Zq47_pc (N : Nat) : PC Try.prog 51 (Zq47_S N) := pcQ (L := [Zq47_l0_s N]) (Zq47_gok N) Try.call51 Try.func51 (fun x => by kernel_rfl) ⟨Zq47_l0_ok N, trivial⟩ (by kernel_rfl)

abbrev Zq46_ps : List (PV.Mode × Ty) := [(.own, LLI), (.ro, FLIBo)]
abbrev Zq46_rs : List (Bool × Ty) := [(true, LLI)]
noncomputable def Zq46 (N : Nat) (x : List (List Int)) (f : List Int → Option Bool) : Option ((List (List Int) × Unit) × Unit) := delF (fun xs g => Zq47 N xs g) x f
noncomputable def Zq46_S (N : Nat) : FSum := ⟨Zq46_ps, Zq46_rs, fun x => Zq46 N x.1 x.2.1⟩
theorem Zq46_pc (N : Nat) : PC Try.prog 36 (Zq46_S N) := deleteRows_pc (ix := fun xs g => Zq47 N xs g) Try.delL Try.delL_zero Try.call36 (Zq47_pc N)

abbrev Zq8_ps : List (PV.Mode × Ty) := [(.ro, QILQII), (.ro, I), (.ro, U64)]
abbrev Zq8_rs : List (Bool × Ty) := [(true, .bool)]
noncomputable def Zq8_G (N : Nat) : GTab := gOf [(57, Zq18_S N), (54, Zq5_S N)]
theorem Zq8_gok (N : Nat) : GOk Try.prog (Zq8_G N) := gOf_ok ⟨Zq18_pc N, Zq5_pc N, trivial⟩
noncomputable def Zq8_code : Code := (Try.f39.body).getD .skip
noncomputable def Zq8_l0_sh : Sh := ⟨[(1, .one (.ro I)), (2, .one (.ro U64)), (3, .one (.adr 0 0)), (9, .one (.ro I)), (10, .one (.ro I))], [.box [.ro I, .ro LQII]]⟩
noncomputable def Zq8_l0_ex : List (Ex × Sh) := [(.ret, ⟨[(6, .one (.ro .bool))], []⟩), (.exit 0, ⟨[], []⟩)]
noncomputable def Zq8_l0 {R : Type} (N : Nat) (k0 : Bool → Option R) (k1 : Unit → Option R) : Nat → Int → Int → Int → Int → Int → (List (Int × Int)) → Option R
 | 0, _, _, _, _, _, _ => none
 | K + 1, kind1, b1, x, x1, o, o1 =>
 (br (ilt x1 x)
 (((Zq18 N b1 x1).bind fun r =>
 (br (!(r.1.1 == (ieq kind1 2)))
 ((chk (ile 0 x1)
 ((Zq5 N (o, o1) kind1 (bitop .xor .u64 b1 (shlI .u64 1 x1))).bind fun r1 =>
 (br r1.1.1
 (k0 false)
 (Zq8_l0 N k0 k1 K kind1 b1 x (IntKind.i64.wrap (x1 + 1)) o o1)))))
 (Zq8_l0 N k0 k1 K kind1 b1 x (IntKind.i64.wrap (x1 + 1)) o o1))))
 (k1 ()))
noncomputable def Zq8_l0_again {R : Type} (N : Nat) (ks : KS Zq8_l0_ex R) (k : Nat) (x : Zq8_l0_sh.T) : Option R :=
 Zq8_l0 N (fun y0 => ks 0 ((y0, ()), ())) (fun (_ : Unit) => ks 1 ((), ())) k x.1.1 x.1.2.1 x.1.2.2.2.1 x.1.2.2.2.2.1 x.2.1.1 x.2.1.2.1
noncomputable def Zq8_l0_s (N : Nat) : LSum := ⟨Zq8_l0_sh, Zq8_l0_ex, fun x ks => Zq8_l0_again N ks N x⟩
theorem Zq8_l0_ok (N : Nat) : LoopOk Try.prog Try.f39.ntmps (Zq8_l0_s N) (loopAt Zq8_code 0) := loopQ (sh := Zq8_l0_sh) (ex := Zq8_l0_ex) (N := N) (L := []) (fun R k x ks => Zq8_l0_again N ks k x) (Zq8_gok N) (fun _ _ _ => rfl) (fun R k x ks => by kernel_rfl) trivial (by kernel_rfl)
noncomputable def Zq8 (N : Nat) (g : (Int × (List (Int × Int)))) (kind : Int) (b : Int) : Option ((Bool × Unit) × (Unit)) :=
 Zq8_l0 N (fun x => some ((x, ()), ())) (fun (_ : Unit) => some ((true, ()), ())) N kind b g.1 0 g.1 g.2
noncomputable def Zq8_S (N : Nat) : FSum := ⟨Zq8_ps, Zq8_rs, fun x => Zq8 N x.1 x.2.1 x.2.2.1⟩
theorem Zq8_pc (N : Nat) : PC Try.prog 39 (Zq8_S N) := pcQ (L := [Zq8_l0_s N]) (Zq8_gok N) Try.call39 Try.func39 (fun x => by kernel_rfl) ⟨Zq8_l0_ok N, trivial⟩ (by kernel_rfl)

abbrev Zq14_ps : List (PV.Mode × Ty) := [(.ro, LI), (.ro, AQILQII), (.ro, AI)]
abbrev Zq14_rs : List (Bool × Ty) := [(true, .bool)]
noncomputable def Zq14_G (N : Nat) : GTab := gOf [(40, Zq17_S N), (39, Zq8_S N)]
theorem Zq14_gok (N : Nat) : GOk Try.prog (Zq14_G N) := gOf_ok ⟨Zq17_pc N, Zq8_pc N, trivial⟩
noncomputable def Zq14_code : Code := (Try.f38.body).getD .skip
noncomputable def Zq14 (N : Nat) (setv : (List Int)) (c : (Int × (List (Int × Int)))) (c1 : Int) : Option ((Bool × Unit) × (Unit)) :=
 ((Zq17 N setv).bind fun r =>
 ((Zq8 N c c1 r.1.1).bind fun r1 =>
 some (((!r1.1.1), ()), ())))
noncomputable def Zq14_S (N : Nat) : FSum := ⟨Zq14_ps, Zq14_rs, fun x => Zq14 N x.1 x.2.1 x.2.2.1⟩
theorem Zq14_pc (N : Nat) : PC Try.prog 38 (Zq14_S N) := pcQ (L := []) (Zq14_gok N) Try.call38 Try.func38 (fun x => by kernel_rfl) trivial (by kernel_rfl)

abbrev Zq13_ps : List (PV.Mode × Ty) := [(.ro, QILQII), (.ro, I)]
abbrev Zq13_rs : List (Bool × Ty) := [(true, LLI)]
noncomputable def Zq13_G (N : Nat) : GTab := gOf [(37, Zq10_S N), (36, Zq46_S N), (38, Zq14_S N)]
theorem Zq13_gok (N : Nat) : GOk Try.prog (Zq13_G N) := gOf_ok ⟨Zq10_pc N, Zq46_pc N, Zq14_pc N, trivial⟩
noncomputable def Zq13_code : Code := (Try.f20.body).getD .skip
noncomputable def Zq13 (N : Nat) (g : (Int × (List (Int × Int)))) (kind : Int) : Option (((List (List Int)) × Unit) × (Unit)) :=
 ((Zq10 N (g.1, g.2) kind).bind fun r =>
 ((Zq46 N r.1.1 (fun y0 => (Zq14 N y0 (g.1, g.2) kind).bind fun z => some z.1.1)).bind fun r1 =>
 some ((r1.1.1, ()), ())))
noncomputable def Zq13_S (N : Nat) : FSum := ⟨Zq13_ps, Zq13_rs, fun x => Zq13 N x.1 x.2.1⟩
theorem Zq13_pc (N : Nat) : PC Try.prog 20 (Zq13_S N) := pcQ (L := []) (Zq13_gok N) Try.call20 Try.func20 (fun x => by kernel_rfl) trivial (by kernel_rfl)

abbrev Zq16_ps : List (PV.Mode × Ty) := [(.ro, QILQII), (.ro, I)]
abbrev Zq16_rs : List (Bool × Ty) := [(true, LLI), (true, .bool)]
noncomputable def Zq16_G (N : Nat) : GTab := gOf [(18, Zq15_S N), (19, Zq23_S N), (20, Zq13_S N)]
theorem Zq16_gok (N : Nat) : GOk Try.prog (Zq16_G N) := gOf_ok ⟨Zq15_pc N, Zq23_pc N, Zq13_pc N, trivial⟩
noncomputable def Zq16_code : Code := (Try.f7.body).getD .skip
noncomputable def Zq16 (N : Nat) (g : (Int × (List (Int × Int)))) (kind : Int) : Option (((List (List Int)) × Bool × Unit) × (Unit)) :=
 ((Zq15 N (g.1, g.2)).bind fun r =>
 (br (!r.1.1)
 (some (([], false, ()), ()))
 (((Zq23 N kind).bind fun r1 =>
 (br (!r1.1.1)
 (some (([], false, ()), ()))
 (((Zq13 N (g.1, g.2) kind).bind fun r2 =>
 some ((r2.1.1, true, ()), ()))))))))
noncomputable def Zq16_S (N : Nat) : FSum := ⟨Zq16_ps, Zq16_rs, fun x => Zq16 N x.1 x.2.1⟩
theorem Zq16_pc (N : Nat) : PC Try.prog 7 (Zq16_S N) := pcQ (L := []) (Zq16_gok N) Try.call7 Try.func7 (fun x => by kernel_rfl) trivial (by kernel_rfl)

abbrev Zq30_ps : List (PV.Mode × Ty) := [(.ro, LI), (.ro, LI)]
abbrev Zq30_rs : List (Bool × Ty) := [(true, .bool)]
noncomputable def Zq30_G (N : Nat) : GTab := gOf []
theorem Zq30_gok (N : Nat) : GOk Try.prog (Zq30_G N) := gOf_ok trivial
noncomputable def Zq30_code : Code := (Try.f21.body).getD .skip
noncomputable def Zq30_l0_sh : Sh := ⟨[(0, .one (.ro LI)), (1, .one (.ro LI)), (5, .one (.ro I))], []⟩
noncomputable def Zq30_l0_ex : List (Ex × Sh) := [(.ret, ⟨[(4, .one (.ro .bool))], []⟩), (.exit 0, ⟨[], []⟩)]
noncomputable def Zq30_l0 {R : Type} (N : Nat) (k0 : Bool → Option R) (k1 : Unit → Option R) : Nat → (List Int) → (List Int) → Int → Option R
 | 0, _, _, _ => none
 | K + 1, a1, b1, i =>
 (br (ilt i (tLen a1))
 ((chk (inb a1 i)
 (chk (inb b1 i)
 (br (ine (rdI a1 i) (rdI b1 i))
 (k0 false)
 (Zq30_l0 N k0 k1 K a1 b1 (IntKind.i64.wrap (i + 1)))))))
 (k1 ()))
noncomputable def Zq30_l0_again {R : Type} (N : Nat) (ks : KS Zq30_l0_ex R) (k : Nat) (x : Zq30_l0_sh.T) : Option R :=
 Zq30_l0 N (fun y0 => ks 0 ((y0, ()), ())) (fun (_ : Unit) => ks 1 ((), ())) k x.1.1 x.1.2.1 x.1.2.2.1
noncomputable def Zq30_l0_s (N : Nat) : LSum := ⟨Zq30_l0_sh, Zq30_l0_ex, fun x ks => Zq30_l0_again N ks N x⟩
theorem Zq30_l0_ok (N : Nat) : LoopOk Try.prog Try.f21.ntmps (Zq30_l0_s N) (loopAt Zq30_code 0) := loopQ (sh := Zq30_l0_sh) (ex := Zq30_l0_ex) (N := N) (L := []) (fun R k x ks => Zq30_l0_again N ks k x) (Zq30_gok N) (fun _ _ _ => rfl) (fun R k x ks => by kernel_rfl) trivial (by kernel_rfl)
noncomputable def Zq30 (N : Nat) (a : (List Int)) (b : (List Int)) : Option ((Bool × Unit) × (Unit)) :=
 (br (ine (tLen a) (tLen b))
 (some ((false, ()), ()))
 (Zq30_l0 N (fun x => some ((x, ()), ())) (fun (_ : Unit) => some ((true, ()), ())) N a b 0))
noncomputable def Zq30_S (N : Nat) : FSum := ⟨Zq30_ps, Zq30_rs, fun x => Zq30 N x.1 x.2.1⟩
theorem Zq30_pc (N : Nat) : PC Try.prog 21 (Zq30_S N) := pcQ (L := [Zq30_l0_s N]) (Zq30_gok N) Try.call21 Try.func21 (fun x => by kernel_rfl) ⟨Zq30_l0_ok N, trivial⟩ (by kernel_rfl)

abbrev Zq31_ps : List (PV.Mode × Ty) := [(.ro, LLI), (.ro, LLI)]
abbrev Zq31_rs : List (Bool × Ty) := [(true, .bool)]
noncomputable def Zq31_G (N : Nat) : GTab := gOf [(21, Zq30_S N)]
theorem Zq31_gok (N : Nat) : GOk Try.prog (Zq31_G N) := gOf_ok ⟨Zq30_pc N, trivial⟩
noncomputable def Zq31_code : Code := (Try.f8.body).getD .skip
noncomputable def Zq31_l0_sh : Sh := ⟨[(0, .one (.ro LLI)), (1, .one (.ro LLI)), (5, .one (.ro I))], []⟩
noncomputable def Zq31_l0_ex : List (Ex × Sh) := [(.ret, ⟨[(4, .one (.ro .bool))], []⟩), (.exit 0, ⟨[], []⟩)]
noncomputable def Zq31_l0 {R : Type} (N : Nat) (k0 : Bool → Option R) (k1 : Unit → Option R) : Nat → (List (List Int)) → (List (List Int)) → Int → Option R
 | 0, _, _, _ => none
 | K + 1, a1, b1, i =>
 (br (ilt i (tLen a1))
 ((chk (inb a1 i)
 (chk (inb b1 i)
 ((Zq30 N (rdL a1 i) (rdL b1 i)).bind fun r =>
 (br (!r.1.1)
 (k0 false)
 (Zq31_l0 N k0 k1 K a1 b1 (IntKind.i64.wrap (i + 1))))))))
 (k1 ()))
noncomputable def Zq31_l0_again {R : Type} (N : Nat) (ks : KS Zq31_l0_ex R) (k : Nat) (x : Zq31_l0_sh.T) : Option R :=
 Zq31_l0 N (fun y0 => ks 0 ((y0, ()), ())) (fun (_ : Unit) => ks 1 ((), ())) k x.1.1 x.1.2.1 x.1.2.2.1
noncomputable def Zq31_l0_s (N : Nat) : LSum := ⟨Zq31_l0_sh, Zq31_l0_ex, fun x ks => Zq31_l0_again N ks N x⟩
theorem Zq31_l0_ok (N : Nat) : LoopOk Try.prog Try.f8.ntmps (Zq31_l0_s N) (loopAt Zq31_code 0) := loopQ (sh := Zq31_l0_sh) (ex := Zq31_l0_ex) (N := N) (L := []) (fun R k x ks => Zq31_l0_again N ks k x) (Zq31_gok N) (fun _ _ _ => rfl) (fun R k x ks => by kernel_rfl) trivial (by kernel_rfl)
noncomputable def Zq31 (N : Nat) (a : (List (List Int))) (b : (List (List Int))) : Option ((Bool × Unit) × (Unit)) :=
 (br (ine (tLen a) (tLen b))
 (some ((false, ()), ()))
 (Zq31_l0 N (fun x => some ((x, ()), ())) (fun (_ : Unit) => some ((true, ()), ())) N a b 0))
noncomputable def Zq31_S (N : Nat) : FSum := ⟨Zq31_ps, Zq31_rs, fun x => Zq31 N x.1 x.2.1⟩
theorem Zq31_pc (N : Nat) : PC Try.prog 8 (Zq31_S N) := pcQ (L := [Zq31_l0_s N]) (Zq31_gok N) Try.call8 Try.func8 (fun x => by kernel_rfl) ⟨Zq31_l0_ok N, trivial⟩ (by kernel_rfl)

abbrev Zq28_ps : List (PV.Mode × Ty) := [(.ro, QII), (.ro, QII)]
abbrev Zq28_rs : List (Bool × Ty) := [(true, .bool)]
noncomputable def Zq28_G (N : Nat) : GTab := gOf []
theorem Zq28_gok (N : Nat) : GOk Try.prog (Zq28_G N) := gOf_ok trivial
noncomputable def Zq28_code : Code := (Try.f41.body).getD .skip
noncomputable def Zq28_l0_sh : Sh := ⟨[(2, .one (.adr 0 0)), (3, .one (.adr 1 0)), (5, .one (.num .i64 0))], [.box [.ro I, .ro I], .box [.ro I, .ro I]]⟩
noncomputable def Zq28_l0_ex : List (Ex × Sh) := [(.ret, ⟨[(4, .one (.ro .bool))], []⟩), (.exit 0, ⟨[], []⟩)]
noncomputable def Zq28_l0 {R : Type} (N : Nat) (k0 : Bool → Option R) (k1 : Unit → Option R) (_ : Nat) (o4 : Int) (o5 : Int) (o6 : Int) (o7 : Int) : Option R :=
 (br (ine o4 o6)
 (k0 false)
 ((br (ine o5 o7)
 (k0 false)
 (k1 ()))))
noncomputable def Zq28_l0_again {R : Type} (N : Nat) (ks : KS Zq28_l0_ex R) (x : Zq28_l0_sh.T) : Option R :=
 Zq28_l0 N (fun y0 => ks 0 ((y0, ()), ())) (fun (_ : Unit) => ks 1 ((), ())) N x.2.1.1 x.2.1.2.1 x.2.2.1.1 x.2.2.1.2.1
noncomputable def Zq28_l0_s (N : Nat) : LSum := ⟨Zq28_l0_sh, Zq28_l0_ex, fun x ks => Zq28_l0_again N ks x⟩
theorem Zq28_l0_unr (N : Nat) (R : Type) (x : Zq28_l0_sh.T) (ks : KS Zq28_l0_ex R) : Zq28_l0_again N ks x = unrF (Zq28_G N) tab (loopAt Zq28_code 0) Zq28_l0_ex ks 3 (fill Zq28_l0_sh x) := by kernel_rfl
theorem Zq28_l0_ok (N : Nat) : LoopOk Try.prog Try.f41.ntmps (Zq28_l0_s N) (loopAt Zq28_code 0) :=
  unroll_ok (l := Zq28_l0_s N) progOk (Zq28_gok N) (draw_ok progOk (Zq28_gok N)) (fun R x ks r h => ⟨3, (Zq28_l0_unr N R x ks).symm.trans h⟩) (by kernel_rfl) (by kernel_rfl)
noncomputable def Zq28 (N : Nat) (a : (Int × Int)) (b : (Int × Int)) : Option ((Bool × Unit) × (Unit)) :=
 Zq28_l0 N (fun x => some ((x, ()), ())) (fun (_ : Unit) => some ((true, ()), ())) N a.1 a.2 b.1 b.2
noncomputable def Zq28_S (N : Nat) : FSum := ⟨Zq28_ps, Zq28_rs, fun x => Zq28 N x.1 x.2.1⟩
theorem Zq28_pc (N : Nat) : PC Try.prog 41 (Zq28_S N) := pcQ (L := [Zq28_l0_s N]) (Zq28_gok N) Try.call41 Try.func41 (fun x => by kernel_rfl) ⟨Zq28_l0_ok N, trivial⟩ (by kernel_rfl)

abbrev Zq29_ps : List (PV.Mode × Ty) := [(.ro, LQII), (.ro, LQII)]
abbrev Zq29_rs : List (Bool × Ty) := [(true, .bool)]
noncomputable def Zq29_G (N : Nat) : GTab := gOf [(41, Zq28_S N)]
theorem Zq29_gok (N : Nat) : GOk Try.prog (Zq29_G N) := gOf_ok ⟨Zq28_pc N, trivial⟩
noncomputable def Zq29_code : Code := (Try.f22.body).getD .skip
noncomputable def Zq29_l0_sh : Sh := ⟨[(0, .one (.ro LQII)), (1, .one (.ro LQII)), (5, .one (.ro I))], []⟩
noncomputable def Zq29_l0_ex : List (Ex × Sh) := [(.ret, ⟨[(4, .one (.ro .bool))], []⟩), (.exit 0, ⟨[], []⟩)]
noncomputable def Zq29_l0 {R : Type} (N : Nat) (k0 : Bool → Option R) (k1 : Unit → Option R) : Nat → (List (Int × Int)) → (List (Int × Int)) → Int → Option R
 | 0, _, _, _ => none
 | K + 1, a1, b1, i =>
 (br (ilt i (tLen a1))
 ((chk (inb a1 i)
 (chk (inb b1 i)
 ((Zq28 N (rdP a1 i) (rdP b1 i)).bind fun r =>
 (br (!r.1.1)
 (k0 false)
 (Zq29_l0 N k0 k1 K a1 b1 (IntKind.i64.wrap (i + 1))))))))
 (k1 ()))
noncomputable def Zq29_l0_again {R : Type} (N : Nat) (ks : KS Zq29_l0_ex R) (k : Nat) (x : Zq29_l0_sh.T) : Option R :=
 Zq29_l0 N (fun y0 => ks 0 ((y0, ()), ())) (fun (_ : Unit) => ks 1 ((), ())) k x.1.1 x.1.2.1 x.1.2.2.1
noncomputable def Zq29_l0_s (N : Nat) : LSum := ⟨Zq29_l0_sh, Zq29_l0_ex, fun x ks => Zq29_l0_again N ks N x⟩
theorem Zq29_l0_ok (N : Nat) : LoopOk Try.prog Try.f22.ntmps (Zq29_l0_s N) (loopAt Zq29_code 0) := loopQ (sh := Zq29_l0_sh) (ex := Zq29_l0_ex) (N := N) (L := []) (fun R k x ks => Zq29_l0_again N ks k x) (Zq29_gok N) (fun _ _ _ => rfl) (fun R k x ks => by kernel_rfl) trivial (by kernel_rfl)
noncomputable def Zq29 (N : Nat) (a : (List (Int × Int))) (b : (List (Int × Int))) : Option ((Bool × Unit) × (Unit)) :=
 (br (ine (tLen a) (tLen b))
 (some ((false, ()), ()))
 (Zq29_l0 N (fun x => some ((x, ()), ())) (fun (_ : Unit) => some ((true, ()), ())) N a b 0))
noncomputable def Zq29_S (N : Nat) : FSum := ⟨Zq29_ps, Zq29_rs, fun x => Zq29 N x.1 x.2.1⟩
theorem Zq29_pc (N : Nat) : PC Try.prog 22 (Zq29_S N) := pcQ (L := [Zq29_l0_s N]) (Zq29_gok N) Try.call22 Try.func22 (fun x => by kernel_rfl) ⟨Zq29_l0_ok N, trivial⟩ (by kernel_rfl)

abbrev Zq27_ps : List (PV.Mode × Ty) := [(.ro, QILQII), (.ro, QILQII)]
abbrev Zq27_rs : List (Bool × Ty) := [(true, .bool)]
noncomputable def Zq27_G (N : Nat) : GTab := gOf [(22, Zq29_S N)]
theorem Zq27_gok (N : Nat) : GOk Try.prog (Zq27_G N) := gOf_ok ⟨Zq29_pc N, trivial⟩
noncomputable def Zq27_code : Code := (Try.f9.body).getD .skip
noncomputable def Zq27 (N : Nat) (a : (Int × (List (Int × Int)))) (b : (Int × (List (Int × Int)))) : Option ((Bool × Unit) × (Unit)) :=
 (br (ine a.1 b.1)
 (some ((false, ()), ()))
 (((Zq29 N a.2 b.2).bind fun r =>
 (br (!r.1.1)
 (some ((false, ()), ()))
 (some ((true, ()), ()))))))
noncomputable def Zq27_S (N : Nat) : FSum := ⟨Zq27_ps, Zq27_rs, fun x => Zq27 N x.1 x.2.1⟩
theorem Zq27_pc (N : Nat) : PC Try.prog 9 (Zq27_S N) := pcQ (L := []) (Zq27_gok N) Try.call9 Try.func9 (fun x => by kernel_rfl) trivial (by kernel_rfl)

abbrev Zq35_ps : List (PV.Mode × Ty) := [(.mut, LQII), (.ro, I)]
abbrev Zq35_rs : List (Bool × Ty) := [(true, I)]
noncomputable def Zq35_G (N : Nat) : GTab := gOf []
theorem Zq35_gok (N : Nat) : GOk Try.prog (Zq35_G N) := gOf_ok trivial
noncomputable def Zq35_code : Code := (Try.f23.body).getD .skip
noncomputable def Zq35_l0_0_sh : Sh := ⟨[(0, .one (.ref 0)), (1, .one (.ro I)), (5, .one (.ro I)), (6, .one (.num .i64 0))], [.sl 52 QII .own]⟩
noncomputable def Zq35_l0_0_ex : List (Ex × Sh) := [(.exit 2, ⟨[(0, .one (.ref 0)), (1, .one (.ro I)), (5, .one (.ro I))], [.sl 52 QII .own]⟩)]
noncomputable def Zq35_l0_0 {R : Type} (N : Nat) (k0 : Int → Int → (List (Int × Int)) → Option R) (_ : Nat) (kv3 : Int) (i2 : Int) (o2 : (List (Int × Int))) : Option R :=
 (chk (inb o2 i2)
 (chk (inb (tSet o2 i2 (kv3, (rdP o2 i2).2)) i2)
 (k0 (IntKind.i64.wrap ((IntKind.i64.wrap (kv3 + 1)) + 1)) i2 (tSet (tSet o2 i2 (kv3, (rdP o2 i2).2)) i2 ((rdP (tSet o2 i2 (kv3, (rdP o2 i2).2)) i2).1, (IntKind.i64.wrap (kv3 + 1)))))))
noncomputable def Zq35_l0_0_again {R : Type} (N : Nat) (ks : KS Zq35_l0_0_ex R) (x : Zq35_l0_0_sh.T) : Option R :=
 Zq35_l0_0 N (fun y0 y1 y2 => ks 0 (((), y0, y1, ()), (y2, ()))) N x.1.2.1 x.1.2.2.1 x.2.1
noncomputable def Zq35_l0_0_s (N : Nat) : LSum := ⟨Zq35_l0_0_sh, Zq35_l0_0_ex, fun x ks => Zq35_l0_0_again N ks x⟩
theorem Zq35_l0_0_unr (N : Nat) (R : Type) (x : Zq35_l0_0_sh.T) (ks : KS Zq35_l0_0_ex R) : Zq35_l0_0_again N ks x = unrF (Zq35_G N) tab (loopAt (loopAt Zq35_code 0) 0) Zq35_l0_0_ex ks 3 (fill Zq35_l0_0_sh x) := by kernel_rfl
theorem Zq35_l0_0_ok (N : Nat) : LoopOk Try.prog Try.f23.ntmps (Zq35_l0_0_s N) (loopAt (loopAt Zq35_code 0) 0) :=
  unroll_ok (l := Zq35_l0_0_s N) progOk (Zq35_gok N) (draw_ok progOk (Zq35_gok N)) (fun R x ks r h => ⟨3, (Zq35_l0_0_unr N R x ks).symm.trans h⟩) (by kernel_rfl) (by kernel_rfl)
noncomputable def Zq35_l0_sh : Sh := ⟨[(0, .one (.ref 0)), (1, .one (.ro I)), (5, .one (.ro I))], [.sl 52 QII .own]⟩
noncomputable def Zq35_l0_ex : List (Ex × Sh) := [(.exit 0, ⟨[(0, .one (.ref 0)), (1, .one (.ro I))], [.sl 52 QII .own]⟩)]
noncomputable def Zq35_l0 {R : Type} (N : Nat) (k0 : Int → (List (Int × Int)) → Option R) : Nat → Int → Int → (List (Int × Int)) → Option R
 | 0, _, _, _ => none
 | K + 1, kv1, i, o =>
 (br (ilt i (tLen o))
 (Zq35_l0_0 N (fun kv2 i1 o1 => Zq35_l0 N k0 K kv2 (IntKind.i64.wrap (i1 + 1)) o1) N kv1 i o)
 (k0 kv1 o))
noncomputable def Zq35_l0_again {R : Type} (N : Nat) (ks : KS Zq35_l0_ex R) (k : Nat) (x : Zq35_l0_sh.T) : Option R :=
 Zq35_l0 N (fun y0 y1 => ks 0 (((), y0, ()), (y1, ()))) k x.1.2.1 x.1.2.2.1 x.2.1
noncomputable def Zq35_l0_s (N : Nat) : LSum := ⟨Zq35_l0_sh, Zq35_l0_ex, fun x ks => Zq35_l0_again N ks N x⟩
theorem Zq35_l0_ok (N : Nat) : LoopOk Try.prog Try.f23.ntmps (Zq35_l0_s N) (loopAt Zq35_code 0) := loopQ (sh := Zq35_l0_sh) (ex := Zq35_l0_ex) (N := N) (L := [Zq35_l0_0_s N]) (fun R k x ks => Zq35_l0_again N ks k x) (Zq35_gok N) (fun _ _ _ => rfl) (fun R k x ks => by kernel_rfl) ⟨Zq35_l0_0_ok N, trivial⟩ (by kernel_rfl)
noncomputable def Zq35 (N : Nat) (a : (List (Int × Int))) (kv : Int) : Option ((Int × Unit) × ((List (Int × Int)) × Unit)) :=
 Zq35_l0 N (fun kv1 o => some ((kv1, ()), (o, ()))) N kv 0 a
noncomputable def Zq35_S (N : Nat) : FSum := ⟨Zq35_ps, Zq35_rs, fun x => Zq35 N x.1 x.2.1⟩
theorem Zq35_pc (N : Nat) : PC Try.prog 23 (Zq35_S N) := pcQ (L := [Zq35_l0_s N]) (Zq35_gok N) Try.call23 Try.func23 (fun x => by kernel_rfl) ⟨Zq35_l0_ok N, trivial⟩ (by kernel_rfl)

abbrev Zq34_ps : List (PV.Mode × Ty) := [(.mut, QILQII), (.ro, I)]
abbrev Zq34_rs : List (Bool × Ty) := [(true, I)]
noncomputable def Zq34_G (N : Nat) : GTab := gOf [(23, Zq35_S N)]
theorem Zq34_gok (N : Nat) : GOk Try.prog (Zq34_G N) := gOf_ok ⟨Zq35_pc N, trivial⟩
noncomputable def Zq34_code : Code := (Try.f10.body).getD .skip
noncomputable def Zq34 (N : Nat) (a : (Int × (List (Int × Int)))) (kv : Int) : Option ((Int × Unit) × ((Int × (List (Int × Int))) × Unit)) :=
 ((Zq35 N a.2 kv).bind fun r =>
 some ((r.1.1, ()), ((a.1, r.2.1), ())))
noncomputable def Zq34_S (N : Nat) : FSum := ⟨Zq34_ps, Zq34_rs, fun x => Zq34 N x.1 x.2.1⟩
theorem Zq34_pc (N : Nat) : PC Try.prog 10 (Zq34_S N) := pcQ (L := []) (Zq34_gok N) Try.call10 Try.func10 (fun x => by kernel_rfl) trivial (by kernel_rfl)

abbrev Zq36_ps : List (PV.Mode × Ty) := [(.mut, LI), (.ro, I)]
abbrev Zq36_rs : List (Bool × Ty) := [(true, I)]
noncomputable def Zq36_G (N : Nat) : GTab := gOf []
theorem Zq36_gok (N : Nat) : GOk Try.prog (Zq36_G N) := gOf_ok trivial
noncomputable def Zq36_code : Code := (Try.f24.body).getD .skip
noncomputable def Zq36_l0_sh : Sh := ⟨[(0, .one (.ref 0)), (1, .one (.ro I)), (5, .one (.ro I))], [.sl 3 I .own]⟩
noncomputable def Zq36_l0_ex : List (Ex × Sh) := [(.exit 0, ⟨[(0, .one (.ref 0)), (1, .one (.ro I))], [.sl 3 I .own]⟩)]
noncomputable def Zq36_l0 {R : Type} (N : Nat) (k0 : Int → (List Int) → Option R) : Nat → Int → Int → (List Int) → Option R
 | 0, _, _, _ => none
 | K + 1, kv1, i, o =>
 (br (ilt i (tLen o))
 ((chk (inb o i)
 (Zq36_l0 N k0 K (IntKind.i64.wrap (kv1 + 1)) (IntKind.i64.wrap (i + 1)) (tSet o i kv1))))
 (k0 kv1 o))
noncomputable def Zq36_l0_again {R : Type} (N : Nat) (ks : KS Zq36_l0_ex R) (k : Nat) (x : Zq36_l0_sh.T) : Option R :=
 Zq36_l0 N (fun y0 y1 => ks 0 (((), y0, ()), (y1, ()))) k x.1.2.1 x.1.2.2.1 x.2.1
noncomputable def Zq36_l0_s (N : Nat) : LSum := ⟨Zq36_l0_sh, Zq36_l0_ex, fun x ks => Zq36_l0_again N ks N x⟩
theorem Zq36_l0_ok (N : Nat) : LoopOk Try.prog Try.f24.ntmps (Zq36_l0_s N) (loopAt Zq36_code 0) := loopQ (sh := Zq36_l0_sh) (ex := Zq36_l0_ex) (N := N) (L := []) (fun R k x ks => Zq36_l0_again N ks k x) (Zq36_gok N) (fun _ _ _ => rfl) (fun R k x ks => by kernel_rfl) trivial (by kernel_rfl)
noncomputable def Zq36 (N : Nat) (a : (List Int)) (kv : Int) : Option ((Int × Unit) × ((List Int) × Unit)) :=
 Zq36_l0 N (fun kv1 o => some ((kv1, ()), (o, ()))) N kv 0 a
noncomputable def Zq36_S (N : Nat) : FSum := ⟨Zq36_ps, Zq36_rs, fun x => Zq36 N x.1 x.2.1⟩
theorem Zq36_pc (N : Nat) : PC Try.prog 24 (Zq36_S N) := pcQ (L := [Zq36_l0_s N]) (Zq36_gok N) Try.call24 Try.func24 (fun x => by kernel_rfl) ⟨Zq36_l0_ok N, trivial⟩ (by kernel_rfl)

abbrev Zq37_ps : List (PV.Mode × Ty) := [(.mut, LLI), (.ro, I)]
abbrev Zq37_rs : List (Bool × Ty) := [(true, I)]
noncomputable def Zq37_G (N : Nat) : GTab := gOf [(24, Zq36_S N)]
theorem Zq37_gok (N : Nat) : GOk Try.prog (Zq37_G N) := gOf_ok ⟨Zq36_pc N, trivial⟩
noncomputable def Zq37_code : Code := (Try.f11.body).getD .skip
noncomputable def Zq37_l0_sh : Sh := ⟨[(0, .one (.ref 0)), (1, .one (.ro I)), (5, .one (.ro I))], [.sl 40 LI .deep]⟩
noncomputable def Zq37_l0_ex : List (Ex × Sh) := [(.exit 0, ⟨[(0, .one (.ref 0)), (1, .one (.ro I))], [.sl 40 LI .deep]⟩)]
noncomputable def Zq37_l0 {R : Type} (N : Nat) (k0 : Int → (List (List Int)) → Option R) : Nat → Int → Int → (List (List Int)) → Option R
 | 0, _, _, _ => none
 | K + 1, kv1, i, o =>
 (br (ilt i (tLen o))
 ((chk (inb o i)
 ((Zq36 N (rdL o i) kv1).bind fun r =>
 Zq37_l0 N k0 K r.1.1 (IntKind.i64.wrap (i + 1)) (tSet o i r.2.1))))
 (k0 kv1 o))
noncomputable def Zq37_l0_again {R : Type} (N : Nat) (ks : KS Zq37_l0_ex R) (k : Nat) (x : Zq37_l0_sh.T) : Option R :=
 Zq37_l0 N (fun y0 y1 => ks 0 (((), y0, ()), (y1, ()))) k x.1.2.1 x.1.2.2.1 x.2.1
noncomputable def Zq37_l0_s (N : Nat) : LSum := ⟨Zq37_l0_sh, Zq37_l0_ex, fun x ks => Zq37_l0_again N ks N x⟩
theorem Zq37_l0_ok (N : Nat) : LoopOk Try.prog Try.f11.ntmps (Zq37_l0_s N) (loopAt Zq37_code 0) := loopQ (sh := Zq37_l0_sh) (ex := Zq37_l0_ex) (N := N) (L := []) (fun R k x ks => Zq37_l0_again N ks k x) (Zq37_gok N) (fun _ _ _ => rfl) (fun R k x ks => by kernel_rfl) trivial (by kernel_rfl)
noncomputable def Zq37 (N : Nat) (a : (List (List Int))) (kv : Int) : Option ((Int × Unit) × ((List (List Int)) × Unit)) :=
 Zq37_l0 N (fun kv1 o => some ((kv1, ()), (o, ()))) N kv 0 a
noncomputable def Zq37_S (N : Nat) : FSum := ⟨Zq37_ps, Zq37_rs, fun x => Zq37 N x.1 x.2.1⟩
theorem Zq37_pc (N : Nat) : PC Try.prog 11 (Zq37_S N) := pcQ (L := [Zq37_l0_s N]) (Zq37_gok N) Try.call11 Try.func11 (fun x => by kernel_rfl) ⟨Zq37_l0_ok N, trivial⟩ (by kernel_rfl)

abbrev Zq32_ps : List (PV.Mode × Ty) := [(.ro, LI), (.ro, I)]
abbrev Zq32_rs : List (Bool × Ty) := [(true, I)]
noncomputable def Zq32_G (N : Nat) : GTab := gOf []
theorem Zq32_gok (N : Nat) : GOk Try.prog (Zq32_G N) := gOf_ok trivial
noncomputable def Zq32_code : Code := (Try.f25.body).getD .skip
noncomputable def Zq32_l0_sh : Sh := ⟨[(0, .one (.ro LI)), (1, .one (.ro I)), (5, .one (.ro I))], []⟩
noncomputable def Zq32_l0_ex : List (Ex × Sh) := [(.ret, ⟨[(4, .one (.ro I))], []⟩), (.exit 0, ⟨[(1, .one (.ro I))], []⟩)]
noncomputable def Zq32_l0 {R : Type} (N : Nat) (k0 : Int → Option R) (k1 : Int → Option R) : Nat → (List Int) → Int → Int → Option R
 | 0, _, _, _ => none
 | K + 1, a1, kv1, i =>
 (br (ilt i (tLen a1))
 ((chk (inb a1 i)
 (br (ine (rdI a1 i) kv1)
 (k0 (-1))
 (Zq32_l0 N k0 k1 K a1 (IntKind.i64.wrap (kv1 + 1)) (IntKind.i64.wrap (i + 1))))))
 (k1 kv1))
noncomputable def Zq32_l0_again {R : Type} (N : Nat) (ks : KS Zq32_l0_ex R) (k : Nat) (x : Zq32_l0_sh.T) : Option R :=
 Zq32_l0 N (fun y0 => ks 0 ((y0, ()), ())) (fun y0 => ks 1 ((y0, ()), ())) k x.1.1 x.1.2.1 x.1.2.2.1
noncomputable def Zq32_l0_s (N : Nat) : LSum := ⟨Zq32_l0_sh, Zq32_l0_ex, fun x ks => Zq32_l0_again N ks N x⟩
theorem Zq32_l0_ok (N : Nat) : LoopOk Try.prog Try.f25.ntmps (Zq32_l0_s N) (loopAt Zq32_code 0) := loopQ (sh := Zq32_l0_sh) (ex := Zq32_l0_ex) (N := N) (L := []) (fun R k x ks => Zq32_l0_again N ks k x) (Zq32_gok N) (fun _ _ _ => rfl) (fun R k x ks => by kernel_rfl) trivial (by kernel_rfl)
noncomputable def Zq32 (N : Nat) (a : (List Int)) (kv : Int) : Option ((Int × Unit) × (Unit)) :=
 Zq32_l0 N (fun x => some ((x, ()), ())) (fun kv1 => some ((kv1, ()), ())) N a kv 0
noncomputable def Zq32_S (N : Nat) : FSum := ⟨Zq32_ps, Zq32_rs, fun x => Zq32 N x.1 x.2.1⟩
theorem Zq32_pc (N : Nat) : PC Try.prog 25 (Zq32_S N) := pcQ (L := [Zq32_l0_s N]) (Zq32_gok N) Try.call25 Try.func25 (fun x => by kernel_rfl) ⟨Zq32_l0_ok N, trivial⟩ (by kernel_rfl)

abbrev Zq33_ps : List (PV.Mode × Ty) := [(.ro, LLI), (.ro, I)]
abbrev Zq33_rs : List (Bool × Ty) := [(true, I)]
noncomputable def Zq33_G (N : Nat) : GTab := gOf [(25, Zq32_S N)]
theorem Zq33_gok (N : Nat) : GOk Try.prog (Zq33_G N) := gOf_ok ⟨Zq32_pc N, trivial⟩
noncomputable def Zq33_code : Code := (Try.f12.body).getD .skip
noncomputable def Zq33_l0_sh : Sh := ⟨[(0, .one (.ro LLI)), (1, .one (.ro I)), (5, .one (.ro I))], []⟩
noncomputable def Zq33_l0_ex : List (Ex × Sh) := [(.ret, ⟨[(4, .one (.ro I))], []⟩), (.exit 0, ⟨[(1, .one (.ro I))], []⟩)]
noncomputable def Zq33_l0 {R : Type} (N : Nat) (k0 : Int → Option R) (k1 : Int → Option R) : Nat → (List (List Int)) → Int → Int → Option R
 | 0, _, _, _ => none
 | K + 1, a1, kv1, i =>
 (br (ilt i (tLen a1))
 ((chk (inb a1 i)
 ((Zq32 N (rdL a1 i) kv1).bind fun r =>
 (br (ilt r.1.1 0)
 (k0 (-1))
 (Zq33_l0 N k0 k1 K a1 r.1.1 (IntKind.i64.wrap (i + 1)))))))
 (k1 kv1))
noncomputable def Zq33_l0_again {R : Type} (N : Nat) (ks : KS Zq33_l0_ex R) (k : Nat) (x : Zq33_l0_sh.T) : Option R :=
 Zq33_l0 N (fun y0 => ks 0 ((y0, ()), ())) (fun y0 => ks 1 ((y0, ()), ())) k x.1.1 x.1.2.1 x.1.2.2.1
noncomputable def Zq33_l0_s (N : Nat) : LSum := ⟨Zq33_l0_sh, Zq33_l0_ex, fun x ks => Zq33_l0_again N ks N x⟩
theorem Zq33_l0_ok (N : Nat) : LoopOk Try.prog Try.f12.ntmps (Zq33_l0_s N) (loopAt Zq33_code 0) := loopQ (sh := Zq33_l0_sh) (ex := Zq33_l0_ex) (N := N) (L := []) (fun R k x ks => Zq33_l0_again N ks k x) (Zq33_gok N) (fun _ _ _ => rfl) (fun R k x ks => by kernel_rfl) trivial (by kernel_rfl)
noncomputable def Zq33 (N : Nat) (a : (List (List Int))) (kv : Int) : Option ((Int × Unit) × (Unit)) :=
 Zq33_l0 N (fun x => some ((x, ()), ())) (fun kv1 => some ((kv1, ()), ())) N a kv 0
noncomputable def Zq33_S (N : Nat) : FSum := ⟨Zq33_ps, Zq33_rs, fun x => Zq33 N x.1 x.2.1⟩
theorem Zq33_pc (N : Nat) : PC Try.prog 12 (Zq33_S N) := pcQ (L := [Zq33_l0_s N]) (Zq33_gok N) Try.call12 Try.func12 (fun x => by kernel_rfl) ⟨Zq33_l0_ok N, trivial⟩ (by kernel_rfl)

abbrev Zq26_ps : List (PV.Mode × Ty) := [(.ro, QILQII), (.ro, I)]
abbrev Zq26_rs : List (Bool × Ty) := [(true, .bool)]
noncomputable def Zq26_G (N : Nat) : GTab := gOf [(4, Zq38_S N), (6, Zq40_S N), (5, Zq52_S N), (7, Zq16_S N), (8, Zq31_S N), (9, Zq27_S N), (10, Zq34_S N), (11, Zq37_S N), (12, Zq33_S N)]
theorem Zq26_gok (N : Nat) : GOk Try.prog (Zq26_G N) := gOf_ok ⟨Zq38_pc N, Zq40_pc N, Zq52_pc N, Zq16_pc N, Zq31_pc N, Zq27_pc N, Zq34_pc N, Zq37_pc N, Zq33_pc N, trivial⟩
noncomputable def Zq26_code : Code := (Try.f3.body).getD .skip
noncomputable def Zq26 (N : Nat) (c : (Int × (List (Int × Int)))) (c1 : Int) : Option ((Bool × Unit) × (Unit)) :=
 ((Zq38 N (c.1, c.2) 1048576).bind fun r =>
 (br (ilt r.1.1 0)
 (some ((true, ()), ()))
 (((Zq40 N (c.1, c.2)).bind fun r1 =>
 ((Zq52 N (r1.1.1.1, r1.1.1.2) c1).bind fun r2 =>
 ((Zq40 N (c.1, c.2)).bind fun r3 =>
 ((Zq16 N (r3.1.1.1, r3.1.1.2) c1).bind fun r4 =>
 ((Zq31 N r4.1.1 r2.1.1).bind fun r5 =>
 (br (!r5.1.1)
 (some ((false, ()), ()))
 ((br (!(r4.1.2.1 == r2.1.2.1))
 (some ((false, ()), ()))
 (((Zq40 N (c.1, c.2)).bind fun r6 =>
 ((Zq27 N (r3.1.1.1, r3.1.1.2) (r6.1.1.1, r6.1.1.2)).bind fun r7 =>
 (br (!r7.1.1)
 (some ((false, ()), ()))
 (((Zq34 N (r3.1.1.1, r3.1.1.2) 1).bind fun r8 =>
 (br (ilt r8.1.1 0)
 (some ((false, ()), ()))
 (((Zq31 N r4.1.1 r2.1.1).bind fun r9 =>
 (br (!r9.1.1)
 (some ((false, ()), ()))
 ((br (!(r4.1.2.1 == r2.1.2.1))
 (some ((false, ()), ()))
 (((Zq37 N r4.1.1 1).bind fun r10 =>
 ((Zq33 N r10.2.1 1).bind fun r11 =>
 (br (ilt r11.1.1 0)
 (some ((false, ()), ()))
 ((br (ine r11.1.1 r10.1.1)
 (some ((false, ()), ()))
 (((Zq40 N (c.1, c.2)).bind fun r12 =>
 ((Zq16 N (r12.1.1.1, r12.1.1.2) c1).bind fun r13 =>
 ((Zq31 N r13.1.1 r2.1.1).bind fun r14 =>
 (br (!r14.1.1)
 (some ((false, ()), ()))
 ((br (!(r13.1.2.1 == r2.1.2.1))
 (some ((false, ()), ()))
 (((Zq33 N r10.2.1 1).bind fun r15 =>
 (br (ilt r15.1.1 0)
 (some ((false, ()), ()))
 ((br (ine r15.1.1 r10.1.1)
 (some ((false, ()), ()))
 (some ((true, ()), ())))))))))))))))))))))))))))))))))))))))))))
noncomputable def Zq26_S (N : Nat) : FSum := ⟨Zq26_ps, Zq26_rs, fun x => Zq26 N x.1 x.2.1⟩
theorem Zq26_pc (N : Nat) : PC Try.prog 3 (Zq26_S N) := pcQ (L := []) (Zq26_gok N) Try.call3 Try.func3 (fun x => by kernel_rfl) trivial (by kernel_rfl)
end Go.Proofs.Ytffeokcchabclaa
