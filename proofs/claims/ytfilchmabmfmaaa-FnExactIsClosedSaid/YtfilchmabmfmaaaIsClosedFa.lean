/- Functions of the program as functions on data. -/
import Derived.Test.YtfilchmabmfmaaaIsClosedTa
set_option linter.all false
namespace Go.Proofs.Ytfilchmabmfmaaa
open Go Go.PV
abbrev Zq15_ps : List (PV.Mode × Ty) := [(.ro, LI), (.ro, I)]
abbrev Zq15_rs : List (Bool × Ty) := [(true, I)]
noncomputable def Zq15_G (N : Nat) : GTab := gOf []
theorem Zq15_gok (N : Nat) : GOk Try.prog (Zq15_G N) := gOf_ok trivial
noncomputable def Zq15_code : Code := (Try.f43.body).getD .skip
noncomputable def Zq15 (N : Nat) (a : (List Int)) (left : Int) : Option ((Int × Unit) × (Unit)) :=
 (br (ilt (IntKind.i64.wrap (left - (tLen a))) 0)
 (some (((-1), ()), ()))
 (some (((IntKind.i64.wrap (left - (tLen a))), ()), ())))
noncomputable def Zq15_S (N : Nat) : FSum := ⟨Zq15_ps, Zq15_rs, fun x => Zq15 N x.1 x.2.1⟩
theorem Zq15_pc (N : Nat) : PC Try.prog 43 (Zq15_S N) := pcQ (L := []) (Zq15_gok N) Try.call43 Try.func43 (fun x => by kernel_rfl) trivial (by kernel_rfl)

abbrev Zq16_ps : List (PV.Mode × Ty) := [(.ro, LLI), (.ro, I)]
abbrev Zq16_rs : List (Bool × Ty) := [(true, I)]
noncomputable def Zq16_G (N : Nat) : GTab := gOf [(43, Zq15_S N)]
theorem Zq16_gok (N : Nat) : GOk Try.prog (Zq16_G N) := gOf_ok ⟨Zq15_pc N, trivial⟩
noncomputable def Zq16_code : Code := (Try.f25.body).getD .skip
noncomputable def Zq16_l0_sh : Sh := ⟨[(0, .one (.ro LLI)), (1, .one (.ro I)), (5, .one (.ro I))], []⟩
noncomputable def Zq16_l0_ex : List (Ex × Sh) := [(.ret, ⟨[(4, .one (.ro I))], []⟩), (.exit 0, ⟨[(1, .one (.ro I))], []⟩)]
noncomputable def Zq16_l0 {R : Type} (N : Nat) (k0 : Int → Option R) (k1 : Int → Option R) : Nat → (List (List Int)) → Int → Int → Option R
 | 0, _, _, _ => none
 | K + 1, a1, left1, i =>
 (br (ilt i (tLen a1))
 ((chk (inb a1 i)
 ((Zq15 N (rdL a1 i) left1).bind fun r =>
 (br (ilt r.1.1 0)
 (k0 (-1))
 (Zq16_l0 N k0 k1 K a1 r.1.1 (IntKind.i64.wrap (i + 1)))))))
 (k1 left1))
noncomputable def Zq16_l0_again {R : Type} (N : Nat) (ks : KS Zq16_l0_ex R) (k : Nat) (x : Zq16_l0_sh.T) : Option R :=
 Zq16_l0 N (fun y0 => ks 0 ((y0, ()), ())) (fun y0 => ks 1 ((y0, ()), ())) k x.1.1 x.1.2.1 x.1.2.2.1
noncomputable def Zq16_l0_s (N : Nat) : LSum := ⟨Zq16_l0_sh, Zq16_l0_ex, fun x ks => Zq16_l0_again N ks N x⟩
theorem Zq16_l0_ok (N : Nat) : LoopOk Try.prog Try.f25.ntmps (Zq16_l0_s N) (loopAt Zq16_code 0) := loopQ (sh := Zq16_l0_sh) (ex := Zq16_l0_ex) (N := N) (L := []) (fun R k x ks => Zq16_l0_again N ks k x) (Zq16_gok N) (fun _ _ _ => rfl) (fun R k x ks => by kernel_rfl) trivial (by kernel_rfl)
noncomputable def Zq16 (N : Nat) (a : (List (List Int))) (left : Int) : Option ((Int × Unit) × (Unit)) :=
 (br (ilt (IntKind.i64.wrap (left - (tLen a))) 0)
 (some (((-1), ()), ()))
 (Zq16_l0 N (fun x => some ((x, ()), ())) (fun left1 => some ((left1, ()), ())) N a (IntKind.i64.wrap (left - (tLen a))) 0))
noncomputable def Zq16_S (N : Nat) : FSum := ⟨Zq16_ps, Zq16_rs, fun x => Zq16 N x.1 x.2.1⟩
theorem Zq16_pc (N : Nat) : PC Try.prog 25 (Zq16_S N) := pcQ (L := [Zq16_l0_s N]) (Zq16_gok N) Try.call25 Try.func25 (fun x => by kernel_rfl) ⟨Zq16_l0_ok N, trivial⟩ (by kernel_rfl)

abbrev Zq14_ps : List (PV.Mode × Ty) := [(.ro, QILLI), (.ro, I)]
abbrev Zq14_rs : List (Bool × Ty) := [(true, I)]
noncomputable def Zq14_G (N : Nat) : GTab := gOf [(25, Zq16_S N)]
theorem Zq14_gok (N : Nat) : GOk Try.prog (Zq14_G N) := gOf_ok ⟨Zq16_pc N, trivial⟩
noncomputable def Zq14_code : Code := (Try.f10.body).getD .skip
noncomputable def Zq14 (N : Nat) (a : (Int × (List (List Int)))) (left : Int) : Option ((Int × Unit) × (Unit)) :=
 ((Zq16 N a.2 left).bind fun r =>
 (br (ilt r.1.1 0)
 (some (((-1), ()), ()))
 (some ((r.1.1, ()), ()))))
noncomputable def Zq14_S (N : Nat) : FSum := ⟨Zq14_ps, Zq14_rs, fun x => Zq14 N x.1 x.2.1⟩
theorem Zq14_pc (N : Nat) : PC Try.prog 10 (Zq14_S N) := pcQ (L := []) (Zq14_gok N) Try.call10 Try.func10 (fun x => by kernel_rfl) trivial (by kernel_rfl)

abbrev Zq18_ps : List (PV.Mode × Ty) := [(.ro, LI)]
abbrev Zq18_rs : List (Bool × Ty) := [(true, LI)]
noncomputable def Zq18_G (N : Nat) : GTab := gOf []
theorem Zq18_gok (N : Nat) : GOk Try.prog (Zq18_G N) := gOf_ok trivial
noncomputable def Zq18_code : Code := (Try.f48.body).getD .skip
noncomputable def Zq18_l0_sh : Sh := ⟨[(0, .one (.ro LI)), (3, .one (.ref 0)), (4, .one (.ro I))], [.sl 3 I .own]⟩
noncomputable def Zq18_l0_ex : List (Ex × Sh) := [(.exit 0, ⟨[(3, .one (.ref 0))], [.sl 3 I .own]⟩)]
noncomputable def Zq18_l0 {R : Type} (N : Nat) (k0 : (List Int) → Option R) : Nat → (List Int) → Int → (List Int) → Option R
 | 0, _, _, _ => none
 | K + 1, a1, i, o =>
 (br (ilt i (tLen a1))
 ((chk (inb a1 i)
 (chk (inb o i)
 (Zq18_l0 N k0 K a1 (IntKind.i64.wrap (i + 1)) (tSet o i (rdI a1 i))))))
 (k0 o))
noncomputable def Zq18_l0_again {R : Type} (N : Nat) (ks : KS Zq18_l0_ex R) (k : Nat) (x : Zq18_l0_sh.T) : Option R :=
 Zq18_l0 N (fun y0 => ks 0 (((), ()), (y0, ()))) k x.1.1 x.1.2.2.1 x.2.1
noncomputable def Zq18_l0_s (N : Nat) : LSum := ⟨Zq18_l0_sh, Zq18_l0_ex, fun x ks => Zq18_l0_again N ks N x⟩
theorem Zq18_l0_ok (N : Nat) : LoopOk Try.prog Try.f48.ntmps (Zq18_l0_s N) (loopAt Zq18_code 0) := loopQ (sh := Zq18_l0_sh) (ex := Zq18_l0_ex) (N := N) (L := []) (fun R k x ks => Zq18_l0_again N ks k x) (Zq18_gok N) (fun _ _ _ => rfl) (fun R k x ks => by kernel_rfl) trivial (by kernel_rfl)
noncomputable def Zq18 (N : Nat) (a : (List Int)) : Option (((List Int) × Unit) × (Unit)) :=
 (chk (ile 0 (tLen a) && ile (tLen a) (tLen a) && fits (tLen a))
 (Zq18_l0 N (fun o => some ((o, ()), ())) N a 0 (tRep (tLen a) (0 : Int))))
noncomputable def Zq18_S (N : Nat) : FSum := ⟨Zq18_ps, Zq18_rs, fun x => Zq18 N x.1⟩
theorem Zq18_pc (N : Nat) : PC Try.prog 48 (Zq18_S N) := pcQ (L := [Zq18_l0_s N]) (Zq18_gok N) Try.call48 Try.func48 (fun x => by kernel_rfl) ⟨Zq18_l0_ok N, trivial⟩ (by kernel_rfl)

abbrev Zq19_ps : List (PV.Mode × Ty) := [(.ro, LLI)]
abbrev Zq19_rs : List (Bool × Ty) := [(true, LLI)]
noncomputable def Zq19_G (N : Nat) : GTab := gOf [(48, Zq18_S N)]
theorem Zq19_gok (N : Nat) : GOk Try.prog (Zq19_G N) := gOf_ok ⟨Zq18_pc N, trivial⟩
noncomputable def Zq19_code : Code := (Try.f31.body).getD .skip
noncomputable def Zq19_l0_sh : Sh := ⟨[(0, .one (.ro LLI)), (3, .one (.ref 0)), (4, .one (.ro I))], [.sl 44 LI .deep]⟩
noncomputable def Zq19_l0_ex : List (Ex × Sh) := [(.exit 0, ⟨[(3, .one (.ref 0))], [.sl 44 LI .deep]⟩)]
noncomputable def Zq19_l0 {R : Type} (N : Nat) (k0 : (List (List Int)) → Option R) : Nat → (List (List Int)) → Int → (List (List Int)) → Option R
 | 0, _, _, _ => none
 | K + 1, a1, i, o =>
 (br (ilt i (tLen a1))
 ((chk (inb a1 i)
 ((Zq18 N (rdL a1 i)).bind fun r =>
 (chk (inb o i)
 (Zq19_l0 N k0 K a1 (IntKind.i64.wrap (i + 1)) (tSet o i r.1.1))))))
 (k0 o))
noncomputable def Zq19_l0_again {R : Type} (N : Nat) (ks : KS Zq19_l0_ex R) (k : Nat) (x : Zq19_l0_sh.T) : Option R :=
 Zq19_l0 N (fun y0 => ks 0 (((), ()), (y0, ()))) k x.1.1 x.1.2.2.1 x.2.1
noncomputable def Zq19_l0_s (N : Nat) : LSum := ⟨Zq19_l0_sh, Zq19_l0_ex, fun x ks => Zq19_l0_again N ks N x⟩
theorem Zq19_l0_ok (N : Nat) : LoopOk Try.prog Try.f31.ntmps (Zq19_l0_s N) (loopAt Zq19_code 0) := loopQ (sh := Zq19_l0_sh) (ex := Zq19_l0_ex) (N := N) (L := []) (fun R k x ks => Zq19_l0_again N ks k x) (Zq19_gok N) (fun _ _ _ => rfl) (fun R k x ks => by kernel_rfl) trivial (by kernel_rfl)
noncomputable def Zq19 (N : Nat) (a : (List (List Int))) : Option (((List (List Int)) × Unit) × (Unit)) :=
 (chk (ile 0 (tLen a) && ile (tLen a) (tLen a) && fits (tLen a))
 (Zq19_l0 N (fun o => some ((o, ()), ())) N a 0 (tRep (tLen a) [])))
noncomputable def Zq19_S (N : Nat) : FSum := ⟨Zq19_ps, Zq19_rs, fun x => Zq19 N x.1⟩
theorem Zq19_pc (N : Nat) : PC Try.prog 31 (Zq19_S N) := pcQ (L := [Zq19_l0_s N]) (Zq19_gok N) Try.call31 Try.func31 (fun x => by kernel_rfl) ⟨Zq19_l0_ok N, trivial⟩ (by kernel_rfl)

abbrev Zq17_ps : List (PV.Mode × Ty) := [(.ro, QILLI)]
abbrev Zq17_rs : List (Bool × Ty) := [(true, QILLI)]
noncomputable def Zq17_G (N : Nat) : GTab := gOf [(31, Zq19_S N)]
theorem Zq17_gok (N : Nat) : GOk Try.prog (Zq17_G N) := gOf_ok ⟨Zq19_pc N, trivial⟩
noncomputable def Zq17_code : Code := (Try.f12.body).getD .skip
noncomputable def Zq17 (N : Nat) (a : (Int × (List (List Int)))) : Option (((Int × (List (List Int))) × Unit) × (Unit)) :=
 ((Zq19 N a.2).bind fun r =>
 some (((a.1, r.1.1), ()), ()))
noncomputable def Zq17_S (N : Nat) : FSum := ⟨Zq17_ps, Zq17_rs, fun x => Zq17 N x.1⟩
theorem Zq17_pc (N : Nat) : PC Try.prog 12 (Zq17_S N) := pcQ (L := []) (Zq17_gok N) Try.call12 Try.func12 (fun x => by kernel_rfl) trivial (by kernel_rfl)

abbrev Zq25_ps : List (PV.Mode × Ty) := [(.ro, I), (.ro, I), (.ro, I)]
abbrev Zq25_rs : List (Bool × Ty) := [(true, .bool)]
noncomputable def Zq25_G (N : Nat) : GTab := gOf []
theorem Zq25_gok (N : Nat) : GOk Try.prog (Zq25_G N) := gOf_ok trivial
noncomputable def Zq25_code : Code := (Try.f27.body).getD .skip
noncomputable def Zq25 (N : Nat) (x : Int) (a : Int) (b : Int) : Option ((Bool × Unit) × (Unit)) :=
 (br (ile a x)
 (some (((ile x b), ()), ()))
 (some ((false, ()), ())))
noncomputable def Zq25_S (N : Nat) : FSum := ⟨Zq25_ps, Zq25_rs, fun x => Zq25 N x.1 x.2.1 x.2.2.1⟩
theorem Zq25_pc (N : Nat) : PC Try.prog 27 (Zq25_S N) := pcQ (L := []) (Zq25_gok N) Try.call27 Try.func27 (fun x => by kernel_rfl) trivial (by kernel_rfl)

abbrev Zq29_ps : List (PV.Mode × Ty) := [(.ro, I), (.ro, I)]
abbrev Zq29_rs : List (Bool × Ty) := [(true, .bool)]
noncomputable def Zq29_G (N : Nat) : GTab := gOf [(27, Zq25_S N)]
theorem Zq29_gok (N : Nat) : GOk Try.prog (Zq29_G N) := gOf_ok ⟨Zq25_pc N, trivial⟩
noncomputable def Zq29_code : Code := (Try.f44.body).getD .skip
noncomputable def Zq29 (N : Nat) (vars : Int) (x : Int) : Option ((Bool × Unit) × (Unit)) :=
 (br (ine x 0)
 (((Zq25 N x (IntKind.i64.wrap (0 - vars)) vars).bind fun r =>
 some ((r.1.1, ()), ())))
 (some ((false, ()), ())))
noncomputable def Zq29_S (N : Nat) : FSum := ⟨Zq29_ps, Zq29_rs, fun x => Zq29 N x.1 x.2.1⟩
theorem Zq29_pc (N : Nat) : PC Try.prog 44 (Zq29_S N) := pcQ (L := []) (Zq29_gok N) Try.call44 Try.func44 (fun x => by kernel_rfl) trivial (by kernel_rfl)

abbrev Zq28_ps : List (PV.Mode × Ty) := [(.ro, QILLI)]
abbrev Zq28_rs : List (Bool × Ty) := [(true, .bool)]
noncomputable def Zq28_G (N : Nat) : GTab := gOf [(27, Zq25_S N), (44, Zq29_S N)]
theorem Zq28_gok (N : Nat) : GOk Try.prog (Zq28_G N) := gOf_ok ⟨Zq25_pc N, Zq29_pc N, trivial⟩
noncomputable def Zq28_code : Code := (Try.f26.body).getD .skip
noncomputable def Zq28_l0_0_sh : Sh := ⟨[(1, .one (.adr 0 0)), (3, .one (.ro I)), (4, .one (.ro I))], [.box [.ro I, .ro LLI]]⟩
noncomputable def Zq28_l0_0_ex : List (Ex × Sh) := [(.ret, ⟨[(2, .one (.ro .bool))], []⟩), (.exit 2, ⟨[(1, .one (.adr 0 0)), (3, .one (.ro I))], [.box [.ro I, .ro LLI]]⟩)]
noncomputable def Zq28_l0_0 {R : Type} (N : Nat) (k0 : Bool → Option R) (k1 : Int → Int → (List (List Int)) → Option R) : Nat → Int → Int → Int → (List (List Int)) → Option R
 | 0, _, _, _, _ => none
 | K + 1, x1, x2, o2, o3 =>
 (chk (inb o3 x1)
 (br (ilt x2 (tLen (rdL o3 x1)))
 ((chk (inb o3 x1)
 (chk (inb (rdL o3 x1) x2)
 ((Zq29 N o2 (rdI (rdL o3 x1) x2)).bind fun r1 =>
 (br (!r1.1.1)
 (k0 false)
 ((br (ilt 0 x2)
 ((chk (inb o3 x1)
 (chk (inb (rdL o3 x1) (IntKind.i64.wrap (x2 - 1)))
 (chk (inb o3 x1)
 (chk (inb (rdL o3 x1) x2)
 (br (ile (rdI (rdL o3 x1) x2) (rdI (rdL o3 x1) (IntKind.i64.wrap (x2 - 1))))
 (k0 false)
 (Zq28_l0_0 N k0 k1 K x1 (IntKind.i64.wrap (x2 + 1)) o2 o3)))))))
 (Zq28_l0_0 N k0 k1 K x1 (IntKind.i64.wrap (x2 + 1)) o2 o3))))))))
 (k1 x1 o2 o3)))
noncomputable def Zq28_l0_0_again {R : Type} (N : Nat) (ks : KS Zq28_l0_0_ex R) (k : Nat) (x : Zq28_l0_0_sh.T) : Option R :=
 Zq28_l0_0 N (fun y0 => ks 0 ((y0, ()), ())) (fun y0 y1 y2 => ks 1 (((), y0, ()), ((y1, y2, ()), ()))) k x.1.2.1 x.1.2.2.1 x.2.1.1 x.2.1.2.1
noncomputable def Zq28_l0_0_s (N : Nat) : LSum := ⟨Zq28_l0_0_sh, Zq28_l0_0_ex, fun x ks => Zq28_l0_0_again N ks N x⟩
theorem Zq28_l0_0_ok (N : Nat) : LoopOk Try.prog Try.f26.ntmps (Zq28_l0_0_s N) (loopAt (loopAt Zq28_code 0) 0) := loopQ (sh := Zq28_l0_0_sh) (ex := Zq28_l0_0_ex) (N := N) (L := []) (fun R k x ks => Zq28_l0_0_again N ks k x) (Zq28_gok N) (fun _ _ _ => rfl) (fun R k x ks => by kernel_rfl) trivial (by kernel_rfl)
noncomputable def Zq28_l0_sh : Sh := ⟨[(1, .one (.adr 0 0)), (3, .one (.ro I))], [.box [.ro I, .ro LLI]]⟩
noncomputable def Zq28_l0_ex : List (Ex × Sh) := [(.ret, ⟨[(2, .one (.ro .bool))], []⟩), (.exit 0, ⟨[], []⟩)]
noncomputable def Zq28_l0 {R : Type} (N : Nat) (k0 : Bool → Option R) (k1 : Unit → Option R) : Nat → Int → Int → (List (List Int)) → Option R
 | 0, _, _, _ => none
 | K + 1, x, o, o1 =>
 (br (ilt x (tLen o1))
 (Zq28_l0_0 N (fun x1 => k0 x1) (fun x2 o2 o3 => Zq28_l0 N k0 k1 K (IntKind.i64.wrap (x2 + 1)) o2 o3) N x 0 o o1)
 (k1 ()))
noncomputable def Zq28_l0_again {R : Type} (N : Nat) (ks : KS Zq28_l0_ex R) (k : Nat) (x : Zq28_l0_sh.T) : Option R :=
 Zq28_l0 N (fun y0 => ks 0 ((y0, ()), ())) (fun (_ : Unit) => ks 1 ((), ())) k x.1.2.1 x.2.1.1 x.2.1.2.1
noncomputable def Zq28_l0_s (N : Nat) : LSum := ⟨Zq28_l0_sh, Zq28_l0_ex, fun x ks => Zq28_l0_again N ks N x⟩
theorem Zq28_l0_ok (N : Nat) : LoopOk Try.prog Try.f26.ntmps (Zq28_l0_s N) (loopAt Zq28_code 0) := loopQ (sh := Zq28_l0_sh) (ex := Zq28_l0_ex) (N := N) (L := [Zq28_l0_0_s N]) (fun R k x ks => Zq28_l0_again N ks k x) (Zq28_gok N) (fun _ _ _ => rfl) (fun R k x ks => by kernel_rfl) ⟨Zq28_l0_0_ok N, trivial⟩ (by kernel_rfl)
noncomputable def Zq28 (N : Nat) (c : (Int × (List (List Int)))) : Option ((Bool × Unit) × (Unit)) :=
 ((Zq25 N c.1 0 6).bind fun r =>
 (br (!r.1.1)
 (some ((false, ()), ()))
 ((br (ilt 64 (tLen c.2))
 (some ((false, ()), ()))
 (Zq28_l0 N (fun x => some ((x, ()), ())) (fun (_ : Unit) => some ((true, ()), ())) N 0 c.1 c.2)))))
noncomputable def Zq28_S (N : Nat) : FSum := ⟨Zq28_ps, Zq28_rs, fun x => Zq28 N x.1⟩
theorem Zq28_pc (N : Nat) : PC Try.prog 26 (Zq28_S N) := pcQ (L := [Zq28_l0_s N]) (Zq28_gok N) Try.call26 Try.func26 (fun x => by kernel_rfl) ⟨Zq28_l0_ok N, trivial⟩ (by kernel_rfl)

abbrev Zq27_ps : List (PV.Mode × Ty) := [(.ro, I)]
abbrev Zq27_rs : List (Bool × Ty) := [(false, LLI)]
noncomputable def Zq27_G (N : Nat) : GTab := gOf []
theorem Zq27_gok (N : Nat) : GOk Try.prog (Zq27_G N) := gOf_ok trivial
noncomputable def Zq27_code : Code := (Try.f45.body).getD .skip
noncomputable def Zq27_l0_0_sh : Sh := ⟨[(0, .one (.ro I)), (3, .one (.ref 0)), (4, .one (.ro I)), (5, .one (.ref 1)), (6, .one (.ro I))], [.sl 44 LI .deep, .sl 3 I .own]⟩
noncomputable def Zq27_l0_0_ex : List (Ex × Sh) := [(.exit 2, ⟨[(0, .one (.ro I)), (3, .one (.ref 0)), (4, .one (.ro I)), (5, .one (.ref 1))], [.sl 44 LI .deep, .sl 3 I .own]⟩)]
noncomputable def Zq27_l0_0 {R : Type} (N : Nat) (k0 : Int → Int → (List (List Int)) → (List Int) → Option R) : Nat → Int → Int → Int → (List (List Int)) → (List Int) → Option R
 | 0, _, _, _, _, _ => none
 | K + 1, vars2, code1, v, o1, o2 =>
 (br (ilt v vars2)
 ((chk (ile 0 (IntKind.i64.wrap ((IntKind.i64.wrap (vars2 - 1)) - v)))
 (chk (room o2 [(bitop .and .i64 (shrI .i64 code1 (IntKind.i64.wrap ((IntKind.i64.wrap (vars2 - 1)) - v))) 1)])
 (Zq27_l0_0 N k0 K vars2 code1 (IntKind.i64.wrap (v + 1)) o1 (tApp o2 [(bitop .and .i64 (shrI .i64 code1 (IntKind.i64.wrap ((IntKind.i64.wrap (vars2 - 1)) - v))) 1)])))))
 (k0 vars2 code1 o1 o2))
noncomputable def Zq27_l0_0_again {R : Type} (N : Nat) (ks : KS Zq27_l0_0_ex R) (k : Nat) (x : Zq27_l0_0_sh.T) : Option R :=
 Zq27_l0_0 N (fun y0 y1 y2 y3 => ks 0 ((y0, (), y1, (), ()), (y2, y3, ()))) k x.1.1 x.1.2.2.1 x.1.2.2.2.2.1 x.2.1 x.2.2.1
noncomputable def Zq27_l0_0_s (N : Nat) : LSum := ⟨Zq27_l0_0_sh, Zq27_l0_0_ex, fun x ks => Zq27_l0_0_again N ks N x⟩
theorem Zq27_l0_0_ok (N : Nat) : LoopOk Try.prog Try.f45.ntmps (Zq27_l0_0_s N) (loopAt (loopAt Zq27_code 0) 0) := loopQ (sh := Zq27_l0_0_sh) (ex := Zq27_l0_0_ex) (N := N) (L := []) (fun R k x ks => Zq27_l0_0_again N ks k x) (Zq27_gok N) (fun _ _ _ => rfl) (fun R k x ks => by kernel_rfl) trivial (by kernel_rfl)
noncomputable def Zq27_l0_sh : Sh := ⟨[(0, .one (.ro I)), (3, .one (.ref 0)), (4, .one (.ro I))], [.sl 44 LI .deep]⟩
noncomputable def Zq27_l0_ex : List (Ex × Sh) := [(.exit 0, ⟨[(3, .one (.ref 0))], [.sl 44 LI .deep]⟩)]
noncomputable def Zq27_l0 {R : Type} (N : Nat) (k0 : (List (List Int)) → Option R) : Nat → Int → Int → (List (List Int)) → Option R
 | 0, _, _, _ => none
 | K + 1, vars1, code, o =>
 (chk (ile 0 vars1)
 (br (ilt code (shlI .i64 1 vars1))
 (Zq27_l0_0 N (fun vars2 code1 o1 o2 => (chk (room o1 [o2])
 (Zq27_l0 N k0 K vars2 (IntKind.i64.wrap (code1 + 1)) (tApp o1 [o2])))) N vars1 code 0 o [])
 (k0 o)))
noncomputable def Zq27_l0_again {R : Type} (N : Nat) (ks : KS Zq27_l0_ex R) (k : Nat) (x : Zq27_l0_sh.T) : Option R :=
 Zq27_l0 N (fun y0 => ks 0 (((), ()), (y0, ()))) k x.1.1 x.1.2.2.1 x.2.1
noncomputable def Zq27_l0_s (N : Nat) : LSum := ⟨Zq27_l0_sh, Zq27_l0_ex, fun x ks => Zq27_l0_again N ks N x⟩
theorem Zq27_l0_ok (N : Nat) : LoopOk Try.prog Try.f45.ntmps (Zq27_l0_s N) (loopAt Zq27_code 0) := loopQ (sh := Zq27_l0_sh) (ex := Zq27_l0_ex) (N := N) (L := [Zq27_l0_0_s N]) (fun R k x ks => Zq27_l0_again N ks k x) (Zq27_gok N) (fun _ _ _ => rfl) (fun R k x ks => by kernel_rfl) ⟨Zq27_l0_0_ok N, trivial⟩ (by kernel_rfl)
noncomputable def Zq27 (N : Nat) (vars : Int) : Option (((List (List Int)) × Unit) × (Unit)) :=
 Zq27_l0 N (fun o => some ((o, ()), ())) N vars 0 []
noncomputable def Zq27_S (N : Nat) : FSum := ⟨Zq27_ps, Zq27_rs, fun x => Zq27 N x.1⟩
theorem Zq27_pc (N : Nat) : PC Try.prog 45 (Zq27_S N) := pcQ (L := [Zq27_l0_s N]) (Zq27_gok N) Try.call45 Try.func45 (fun x => by kernel_rfl) ⟨Zq27_l0_ok N, trivial⟩ (by kernel_rfl)

abbrev Zq30_ps : List (PV.Mode × Ty) := [(.ro, LI), (.ro, I)]
abbrev Zq30_rs : List (Bool × Ty) := [(true, .bool)]
noncomputable def Zq30_G (N : Nat) : GTab := gOf []
theorem Zq30_gok (N : Nat) : GOk Try.prog (Zq30_G N) := gOf_ok trivial
noncomputable def Zq30_code : Code := (Try.f46.body).getD .skip
noncomputable def Zq30 (N : Nat) (bits : (List Int)) (x : Int) : Option ((Bool × Unit) × (Unit)) :=
 (br (ilt 0 x)
 ((chk (inb bits (IntKind.i64.wrap (x - 1)))
 (some (((ieq (rdI bits (IntKind.i64.wrap (x - 1))) 1), ()), ()))))
 ((chk (inb bits (IntKind.i64.wrap ((IntKind.i64.wrap (0 - x)) - 1)))
 (some (((ieq (rdI bits (IntKind.i64.wrap ((IntKind.i64.wrap (0 - x)) - 1))) 0), ()), ())))))
noncomputable def Zq30_S (N : Nat) : FSum := ⟨Zq30_ps, Zq30_rs, fun x => Zq30 N x.1 x.2.1⟩
theorem Zq30_pc (N : Nat) : PC Try.prog 46 (Zq30_S N) := pcQ (L := []) (Zq30_gok N) Try.call46 Try.func46 (fun x => by kernel_rfl) trivial (by kernel_rfl)

abbrev Zq33_ps : List (PV.Mode × Ty) := [(.ro, QILLI), (.ro, LI)]
abbrev Zq33_rs : List (Bool × Ty) := [(true, .bool)]
noncomputable def Zq33_G (N : Nat) : GTab := gOf [(46, Zq30_S N)]
theorem Zq33_gok (N : Nat) : GOk Try.prog (Zq33_G N) := gOf_ok ⟨Zq30_pc N, trivial⟩
noncomputable def Zq33_code : Code := (Try.f29.body).getD .skip
noncomputable def Zq33_l0_0_sh : Sh := ⟨[(1, .one (.ro LI)), (2, .one (.adr 0 0)), (5, .one (.ro I)), (6, .one (.ro .bool)), (7, .one (.ro I))], [.box [.ro I, .ro LLI]]⟩
noncomputable def Zq33_l0_0_ex : List (Ex × Sh) := [(.exit 2, ⟨[(1, .one (.ro LI)), (2, .one (.adr 0 0)), (5, .one (.ro I)), (6, .one (.ro .bool))], [.box [.ro I, .ro LLI]]⟩)]
noncomputable def Zq33_l0_0 {R : Type} (N : Nat) (k0 : (List Int) → Int → Bool → Int → (List (List Int)) → Option R) : Nat → (List Int) → Int → Bool → Int → Int → (List (List Int)) → Option R
 | 0, _, _, _, _, _, _ => none
 | K + 1, bits2, i1, met, kv, o2, o3 =>
 (chk (inb o3 i1)
 (br (ilt kv (tLen (rdL o3 i1)))
 ((br met
 (Zq33_l0_0 N k0 K bits2 i1 true (IntKind.i64.wrap (kv + 1)) o2 o3)
 ((chk (inb o3 i1)
 (chk (inb (rdL o3 i1) kv)
 ((Zq30 N bits2 (rdI (rdL o3 i1) kv)).bind fun r =>
 Zq33_l0_0 N k0 K bits2 i1 r.1.1 (IntKind.i64.wrap (kv + 1)) o2 o3))))))
 (k0 bits2 i1 met o2 o3)))
noncomputable def Zq33_l0_0_again {R : Type} (N : Nat) (ks : KS Zq33_l0_0_ex R) (k : Nat) (x : Zq33_l0_0_sh.T) : Option R :=
 Zq33_l0_0 N (fun y0 y1 y2 y3 y4 => ks 0 ((y0, (), y1, y2, ()), ((y3, y4, ()), ()))) k x.1.1 x.1.2.2.1 x.1.2.2.2.1 x.1.2.2.2.2.1 x.2.1.1 x.2.1.2.1
noncomputable def Zq33_l0_0_s (N : Nat) : LSum := ⟨Zq33_l0_0_sh, Zq33_l0_0_ex, fun x ks => Zq33_l0_0_again N ks N x⟩
theorem Zq33_l0_0_ok (N : Nat) : LoopOk Try.prog Try.f29.ntmps (Zq33_l0_0_s N) (loopAt (loopAt Zq33_code 0) 0) := loopQ (sh := Zq33_l0_0_sh) (ex := Zq33_l0_0_ex) (N := N) (L := []) (fun R k x ks => Zq33_l0_0_again N ks k x) (Zq33_gok N) (fun _ _ _ => rfl) (fun R k x ks => by kernel_rfl) trivial (by kernel_rfl)
noncomputable def Zq33_l0_sh : Sh := ⟨[(1, .one (.ro LI)), (2, .one (.adr 0 0)), (5, .one (.ro I))], [.box [.ro I, .ro LLI]]⟩
noncomputable def Zq33_l0_ex : List (Ex × Sh) := [(.ret, ⟨[(4, .one (.ro .bool))], []⟩), (.exit 0, ⟨[], []⟩)]
noncomputable def Zq33_l0 {R : Type} (N : Nat) (k0 : Bool → Option R) (k1 : Unit → Option R) : Nat → (List Int) → Int → Int → (List (List Int)) → Option R
 | 0, _, _, _, _ => none
 | K + 1, bits1, i, o, o1 =>
 (br (ilt i (tLen o1))
 (Zq33_l0_0 N (fun bits2 i1 met o2 o3 => (br (!met)
 (k0 false)
 (Zq33_l0 N k0 k1 K bits2 (IntKind.i64.wrap (i1 + 1)) o2 o3))) N bits1 i false 0 o o1)
 (k1 ()))
noncomputable def Zq33_l0_again {R : Type} (N : Nat) (ks : KS Zq33_l0_ex R) (k : Nat) (x : Zq33_l0_sh.T) : Option R :=
 Zq33_l0 N (fun y0 => ks 0 ((y0, ()), ())) (fun (_ : Unit) => ks 1 ((), ())) k x.1.1 x.1.2.2.1 x.2.1.1 x.2.1.2.1
noncomputable def Zq33_l0_s (N : Nat) : LSum := ⟨Zq33_l0_sh, Zq33_l0_ex, fun x ks => Zq33_l0_again N ks N x⟩
theorem Zq33_l0_ok (N : Nat) : LoopOk Try.prog Try.f29.ntmps (Zq33_l0_s N) (loopAt Zq33_code 0) := loopQ (sh := Zq33_l0_sh) (ex := Zq33_l0_ex) (N := N) (L := [Zq33_l0_0_s N]) (fun R k x ks => Zq33_l0_again N ks k x) (Zq33_gok N) (fun _ _ _ => rfl) (fun R k x ks => by kernel_rfl) ⟨Zq33_l0_0_ok N, trivial⟩ (by kernel_rfl)
noncomputable def Zq33 (N : Nat) (f : (Int × (List (List Int)))) (bits : (List Int)) : Option ((Bool × Unit) × (Unit)) :=
 Zq33_l0 N (fun x => some ((x, ()), ())) (fun (_ : Unit) => some ((true, ()), ())) N bits 0 f.1 f.2
noncomputable def Zq33_S (N : Nat) : FSum := ⟨Zq33_ps, Zq33_rs, fun x => Zq33 N x.1 x.2.1⟩
theorem Zq33_pc (N : Nat) : PC Try.prog 29 (Zq33_S N) := pcQ (L := [Zq33_l0_s N]) (Zq33_gok N) Try.call29 Try.func29 (fun x => by kernel_rfl) ⟨Zq33_l0_ok N, trivial⟩ (by kernel_rfl)

abbrev Zq32_ps : List (PV.Mode × Ty) := [(.ro, QILLI)]
abbrev Zq32_rs : List (Bool × Ty) := [(false, LLI)]
noncomputable def Zq32_G (N : Nat) : GTab := gOf [(45, Zq27_S N), (29, Zq33_S N)]
theorem Zq32_gok (N : Nat) : GOk Try.prog (Zq32_G N) := gOf_ok ⟨Zq27_pc N, Zq33_pc N, trivial⟩
noncomputable def Zq32_code : Code := (Try.f28.body).getD .skip
noncomputable def Zq32_l0_sh : Sh := ⟨[(1, .one (.adr 0 0)), (3, .one (.ref 1)), (4, .one (.ro LLI)), (5, .one (.ro I))], [.box [.ro I, .ro LLI], .sl 44 LI .own]⟩
noncomputable def Zq32_l0_ex : List (Ex × Sh) := [(.exit 0, ⟨[(3, .one (.ref 0))], [.sl 44 LI .own]⟩)]
noncomputable def Zq32_l0 {R : Type} (N : Nat) (k0 : (List (List Int)) → Option R) : Nat → (List (List Int)) → Int → Int → (List (List Int)) → (List (List Int)) → Option R
 | 0, _, _, _, _, _ => none
 | K + 1, all1, i1, o3, o4, o5 =>
 (br (ilt i1 (tLen all1))
 ((chk (inb all1 i1)
 ((Zq33 N (o3, o4) (rdL all1 i1)).bind fun r2 =>
 (br r2.1.1
 ((chk (inb all1 i1)
 (chk (room o5 [(rdL all1 i1)])
 (Zq32_l0 N k0 K all1 (IntKind.i64.wrap (i1 + 1)) o3 o4 (tApp o5 [(rdL all1 i1)])))))
 (Zq32_l0 N k0 K all1 (IntKind.i64.wrap (i1 + 1)) o3 o4 o5)))))
 (k0 o5))
noncomputable def Zq32_l0_again {R : Type} (N : Nat) (ks : KS Zq32_l0_ex R) (k : Nat) (x : Zq32_l0_sh.T) : Option R :=
 Zq32_l0 N (fun y0 => ks 0 (((), ()), (y0, ()))) k x.1.2.2.1 x.1.2.2.2.1 x.2.1.1 x.2.1.2.1 x.2.2.1
noncomputable def Zq32_l0_s (N : Nat) : LSum := ⟨Zq32_l0_sh, Zq32_l0_ex, fun x ks => Zq32_l0_again N ks N x⟩
theorem Zq32_l0_ok (N : Nat) : LoopOk Try.prog Try.f28.ntmps (Zq32_l0_s N) (loopAt Zq32_code 0) := loopQ (sh := Zq32_l0_sh) (ex := Zq32_l0_ex) (N := N) (L := []) (fun R k x ks => Zq32_l0_again N ks k x) (Zq32_gok N) (fun _ _ _ => rfl) (fun R k x ks => by kernel_rfl) trivial (by kernel_rfl)
noncomputable def Zq32 (N : Nat) (f : (Int × (List (List Int)))) : Option (((List (List Int)) × Unit) × (Unit)) :=
 ((Zq27 N f.1).bind fun r =>
 Zq32_l0 N (fun o3 => some ((o3, ()), ())) N r.1.1 0 f.1 f.2 [])
noncomputable def Zq32_S (N : Nat) : FSum := ⟨Zq32_ps, Zq32_rs, fun x => Zq32 N x.1⟩
theorem Zq32_pc (N : Nat) : PC Try.prog 28 (Zq32_S N) := pcQ (L := [Zq32_l0_s N]) (Zq32_gok N) Try.call28 Try.func28 (fun x => by kernel_rfl) ⟨Zq32_l0_ok N, trivial⟩ (by kernel_rfl)

abbrev Zq26_ps : List (PV.Mode × Ty) := [(.ro, I), (.ro, I)]
abbrev Zq26_rs : List (Bool × Ty) := [(true, I)]
noncomputable def Zq26_G (N : Nat) : GTab := gOf []
theorem Zq26_gok (N : Nat) : GOk Try.prog (Zq26_G N) := gOf_ok trivial
noncomputable def Zq26_code : Code := (Try.f47.body).getD .skip
noncomputable def Zq26 (N : Nat) (a : Int) (b : Int) : Option ((Int × Unit) × (Unit)) :=
 (br (ilt b a)
 (some ((a, ()), ()))
 (some ((b, ()), ())))
noncomputable def Zq26_S (N : Nat) : FSum := ⟨Zq26_ps, Zq26_rs, fun x => Zq26 N x.1 x.2.1⟩
theorem Zq26_pc (N : Nat) : PC Try.prog 47 (Zq26_S N) := pcQ (L := []) (Zq26_gok N) Try.call47 Try.func47 (fun x => by kernel_rfl) trivial (by kernel_rfl)

abbrev Zq31_ps : List (PV.Mode × Ty) := [(.ro, I), (.ro, LI), (.ro, LI), (.ro, LI)]
abbrev Zq31_rs : List (Bool × Ty) := [(true, LI)]
noncomputable def Zq31_G (N : Nat) : GTab := gOf [(47, Zq26_S N)]
theorem Zq31_gok (N : Nat) : GOk Try.prog (Zq31_G N) := gOf_ok ⟨Zq26_pc N, trivial⟩
noncomputable def Zq31_code : Code := (Try.f30.body).getD .skip
noncomputable def Zq31_l0_sh : Sh := ⟨[(0, .one (.ro I)), (1, .one (.ro LI)), (2, .one (.ro LI)), (3, .one (.ro LI)), (9, .one (.ref 0)), (10, .one (.ro I))], [.sl 3 I .own]⟩
noncomputable def Zq31_l0_ex : List (Ex × Sh) := [(.exit 0, ⟨[(9, .one (.ref 0))], [.sl 3 I .own]⟩)]
noncomputable def Zq31_l0 {R : Type} (N : Nat) (k0 : (List Int) → Option R) : Nat → Int → (List Int) → (List Int) → (List Int) → Int → (List Int) → Option R
 | 0, _, _, _, _, _, _ => none
 | K + 1, x, x1, x2, x3, x4, o =>
 (br (ilt x4 (tLen x1))
 ((br (ieq x 1)
 ((chk (inb x1 x4)
 (chk (inb x2 x4)
 (chk (inb x3 x4)
 (chk (room o [(IntKind.i64.wrap ((IntKind.i64.wrap ((IntKind.i64.wrap ((rdI x1 x4) + (rdI x2 x4))) + (rdI x3 x4))).tdiv 2))])
 (Zq31_l0 N k0 K x x1 x2 x3 (IntKind.i64.wrap (x4 + 1)) (tApp o [(IntKind.i64.wrap ((IntKind.i64.wrap ((IntKind.i64.wrap ((rdI x1 x4) + (rdI x2 x4))) + (rdI x3 x4))).tdiv 2))])))))))
 ((br (ieq x 2)
 ((chk (inb x1 x4)
 (chk (inb x2 x4)
 (chk (room o [(IntKind.i64.wrap ((rdI x1 x4) * (rdI x2 x4)))])
 (Zq31_l0 N k0 K x x1 x2 x3 (IntKind.i64.wrap (x4 + 1)) (tApp o [(IntKind.i64.wrap ((rdI x1 x4) * (rdI x2 x4)))]))))))
 ((br (ieq x 3)
 ((chk (inb x1 x4)
 (chk (inb x2 x4)
 ((Zq26 N (rdI x1 x4) (rdI x2 x4)).bind fun r =>
 (chk (room o [r.1.1])
 (Zq31_l0 N k0 K x x1 x2 x3 (IntKind.i64.wrap (x4 + 1)) (tApp o [r.1.1])))))))
 ((chk (inb x1 x4)
 (chk (inb x2 x4)
 (chk (inb x3 x4)
 (chk (room o [((IntKind.i64.wrap ((IntKind.i64.wrap ((rdI x1 x4) + (rdI x2 x4))) + (rdI x3 x4))).tmod 2)])
 (Zq31_l0 N k0 K x x1 x2 x3 (IntKind.i64.wrap (x4 + 1)) (tApp o [((IntKind.i64.wrap ((IntKind.i64.wrap ((rdI x1 x4) + (rdI x2 x4))) + (rdI x3 x4))).tmod 2)])))))))))))))
 (k0 o))
noncomputable def Zq31_l0_again {R : Type} (N : Nat) (ks : KS Zq31_l0_ex R) (k : Nat) (x : Zq31_l0_sh.T) : Option R :=
 Zq31_l0 N (fun y0 => ks 0 (((), ()), (y0, ()))) k x.1.1 x.1.2.1 x.1.2.2.1 x.1.2.2.2.1 x.1.2.2.2.2.2.1 x.2.1
noncomputable def Zq31_l0_s (N : Nat) : LSum := ⟨Zq31_l0_sh, Zq31_l0_ex, fun x ks => Zq31_l0_again N ks N x⟩
theorem Zq31_l0_ok (N : Nat) : LoopOk Try.prog Try.f30.ntmps (Zq31_l0_s N) (loopAt Zq31_code 0) := loopQ (sh := Zq31_l0_sh) (ex := Zq31_l0_ex) (N := N) (L := []) (fun R k x ks => Zq31_l0_again N ks k x) (Zq31_gok N) (fun _ _ _ => rfl) (fun R k x ks => by kernel_rfl) trivial (by kernel_rfl)
noncomputable def Zq31 (N : Nat) (c : Int) (c1 : (List Int)) (c2 : (List Int)) (c3 : (List Int)) : Option (((List Int) × Unit) × (Unit)) :=
 Zq31_l0 N (fun o => some ((o, ()), ())) N c c1 c2 c3 0 []
noncomputable def Zq31_S (N : Nat) : FSum := ⟨Zq31_ps, Zq31_rs, fun x => Zq31 N x.1 x.2.1 x.2.2.1 x.2.2.2.1⟩
theorem Zq31_pc (N : Nat) : PC Try.prog 30 (Zq31_S N) := pcQ (L := [Zq31_l0_s N]) (Zq31_gok N) Try.call30 Try.func30 (fun x => by kernel_rfl) ⟨Zq31_l0_ok N, trivial⟩ (by kernel_rfl)

abbrev Zq24_ps : List (PV.Mode × Ty) := [(.ro, QILLI), (.ro, I)]
abbrev Zq24_rs : List (Bool × Ty) := [(true, .bool), (true, .bool)]
noncomputable def Zq24_G (N : Nat) : GTab := gOf [(26, Zq28_S N), (27, Zq25_S N), (28, Zq32_S N), (30, Zq31_S N), (29, Zq33_S N)]
theorem Zq24_gok (N : Nat) : GOk Try.prog (Zq24_G N) := gOf_ok ⟨Zq28_pc N, Zq25_pc N, Zq32_pc N, Zq31_pc N, Zq33_pc N, trivial⟩
noncomputable def Zq24_code : Code := (Try.f11.body).getD .skip
noncomputable def Zq24_l0_0_0_sh : Sh := ⟨[(1, .one (.ro I)), (2, .one (.adr 0 0)), (6, .one (.ro LLI)), (7, .one (.ro I)), (8, .one (.ro I)), (9, .one (.ro I))], [.box [.ro I, .ro LLI]]⟩
noncomputable def Zq24_l0_0_0_ex : List (Ex × Sh) := [(.ret, ⟨[(4, .one (.ro .bool)), (5, .one (.ro .bool))], []⟩), (.exit 4, ⟨[(1, .one (.ro I)), (2, .one (.adr 0 0)), (6, .one (.ro LLI)), (7, .one (.ro I)), (8, .one (.ro I))], [.box [.ro I, .ro LLI]]⟩)]
noncomputable def Zq24_l0_0_0 {R : Type} (N : Nat) (k0 : Bool → Bool → Option R) (k1 : Int → (List (List Int)) → Int → Int → Int → (List (List Int)) → Option R) : Nat → Int → (List (List Int)) → Int → Int → Int → Int → (List (List Int)) → Option R
 | 0, _, _, _, _, _, _, _ => none
 | K + 1, op3, list2, i2, j1, kv, o4, o5 =>
 (br (ilt kv (tLen list2))
 ((chk (inb list2 i2)
 (chk (inb list2 j1)
 (chk (inb list2 kv)
 ((Zq31 N op3 (rdL list2 i2) (rdL list2 j1) (rdL list2 kv)).bind fun r3 =>
 ((Zq33 N (o4, o5) r3.1.1).bind fun r4 =>
 (br (!r4.1.1)
 (k0 false true)
 (Zq24_l0_0_0 N k0 k1 K op3 list2 i2 j1 (IntKind.i64.wrap (kv + 1)) o4 o5))))))))
 (k1 op3 list2 i2 j1 o4 o5))
noncomputable def Zq24_l0_0_0_again {R : Type} (N : Nat) (ks : KS Zq24_l0_0_0_ex R) (k : Nat) (x : Zq24_l0_0_0_sh.T) : Option R :=
 Zq24_l0_0_0 N (fun y0 y1 => ks 0 ((y0, y1, ()), ())) (fun y0 y1 y2 y3 y4 y5 => ks 1 ((y0, (), y1, y2, y3, ()), ((y4, y5, ()), ()))) k x.1.1 x.1.2.2.1 x.1.2.2.2.1 x.1.2.2.2.2.1 x.1.2.2.2.2.2.1 x.2.1.1 x.2.1.2.1
noncomputable def Zq24_l0_0_0_s (N : Nat) : LSum := ⟨Zq24_l0_0_0_sh, Zq24_l0_0_0_ex, fun x ks => Zq24_l0_0_0_again N ks N x⟩
theorem Zq24_l0_0_0_ok (N : Nat) : LoopOk Try.prog Try.f11.ntmps (Zq24_l0_0_0_s N) (loopAt (loopAt (loopAt Zq24_code 0) 0) 0) := loopQ (sh := Zq24_l0_0_0_sh) (ex := Zq24_l0_0_0_ex) (N := N) (L := []) (fun R k x ks => Zq24_l0_0_0_again N ks k x) (Zq24_gok N) (fun _ _ _ => rfl) (fun R k x ks => by kernel_rfl) trivial (by kernel_rfl)
noncomputable def Zq24_l0_0_sh : Sh := ⟨[(1, .one (.ro I)), (2, .one (.adr 0 0)), (6, .one (.ro LLI)), (7, .one (.ro I)), (8, .one (.ro I))], [.box [.ro I, .ro LLI]]⟩
noncomputable def Zq24_l0_0_ex : List (Ex × Sh) := [(.ret, ⟨[(4, .one (.ro .bool)), (5, .one (.ro .bool))], []⟩), (.exit 2, ⟨[(1, .one (.ro I)), (2, .one (.adr 0 0)), (6, .one (.ro LLI)), (7, .one (.ro I))], [.box [.ro I, .ro LLI]]⟩)]
noncomputable def Zq24_l0_0 {R : Type} (N : Nat) (k0 : Bool → Bool → Option R) (k1 : Int → (List (List Int)) → Int → Int → (List (List Int)) → Option R) : Nat → Int → (List (List Int)) → Int → Int → Int → (List (List Int)) → Option R
 | 0, _, _, _, _, _, _ => none
 | K + 1, op2, list1, i1, j, o2, o3 =>
 (br (ilt j (tLen list1))
 (Zq24_l0_0_0 N (fun x x1 => k0 x x1) (fun op3 list2 i2 j1 o4 o5 => Zq24_l0_0 N k0 k1 K op3 list2 i2 (IntKind.i64.wrap (j1 + 1)) o4 o5) N op2 list1 i1 j 0 o2 o3)
 (k1 op2 list1 i1 o2 o3))
noncomputable def Zq24_l0_0_again {R : Type} (N : Nat) (ks : KS Zq24_l0_0_ex R) (k : Nat) (x : Zq24_l0_0_sh.T) : Option R :=
 Zq24_l0_0 N (fun y0 y1 => ks 0 ((y0, y1, ()), ())) (fun y0 y1 y2 y3 y4 => ks 1 ((y0, (), y1, y2, ()), ((y3, y4, ()), ()))) k x.1.1 x.1.2.2.1 x.1.2.2.2.1 x.1.2.2.2.2.1 x.2.1.1 x.2.1.2.1
noncomputable def Zq24_l0_0_s (N : Nat) : LSum := ⟨Zq24_l0_0_sh, Zq24_l0_0_ex, fun x ks => Zq24_l0_0_again N ks N x⟩
theorem Zq24_l0_0_ok (N : Nat) : LoopOk Try.prog Try.f11.ntmps (Zq24_l0_0_s N) (loopAt (loopAt Zq24_code 0) 0) := loopQ (sh := Zq24_l0_0_sh) (ex := Zq24_l0_0_ex) (N := N) (L := [Zq24_l0_0_0_s N]) (fun R k x ks => Zq24_l0_0_again N ks k x) (Zq24_gok N) (fun _ _ _ => rfl) (fun R k x ks => by kernel_rfl) ⟨Zq24_l0_0_0_ok N, trivial⟩ (by kernel_rfl)
noncomputable def Zq24_l0_sh : Sh := ⟨[(1, .one (.ro I)), (2, .one (.adr 0 0)), (6, .one (.ro LLI)), (7, .one (.ro I))], [.box [.ro I, .ro LLI]]⟩
noncomputable def Zq24_l0_ex : List (Ex × Sh) := [(.ret, ⟨[(4, .one (.ro .bool)), (5, .one (.ro .bool))], []⟩), (.exit 0, ⟨[], []⟩)]
noncomputable def Zq24_l0 {R : Type} (N : Nat) (k0 : Bool → Bool → Option R) (k1 : Unit → Option R) : Nat → Int → (List (List Int)) → Int → Int → (List (List Int)) → Option R
 | 0, _, _, _, _, _ => none
 | K + 1, op1, list, i, o, o1 =>
 (br (ilt i (tLen list))
 (Zq24_l0_0 N (fun x x1 => k0 x x1) (fun op2 list1 i1 o2 o3 => Zq24_l0 N k0 k1 K op2 list1 (IntKind.i64.wrap (i1 + 1)) o2 o3) N op1 list i 0 o o1)
 (k1 ()))
noncomputable def Zq24_l0_again {R : Type} (N : Nat) (ks : KS Zq24_l0_ex R) (k : Nat) (x : Zq24_l0_sh.T) : Option R :=
 Zq24_l0 N (fun y0 y1 => ks 0 ((y0, y1, ()), ())) (fun (_ : Unit) => ks 1 ((), ())) k x.1.1 x.1.2.2.1 x.1.2.2.2.1 x.2.1.1 x.2.1.2.1
noncomputable def Zq24_l0_s (N : Nat) : LSum := ⟨Zq24_l0_sh, Zq24_l0_ex, fun x ks => Zq24_l0_again N ks N x⟩
theorem Zq24_l0_ok (N : Nat) : LoopOk Try.prog Try.f11.ntmps (Zq24_l0_s N) (loopAt Zq24_code 0) := loopQ (sh := Zq24_l0_sh) (ex := Zq24_l0_ex) (N := N) (L := [Zq24_l0_0_s N]) (fun R k x ks => Zq24_l0_again N ks k x) (Zq24_gok N) (fun _ _ _ => rfl) (fun R k x ks => by kernel_rfl) ⟨Zq24_l0_0_ok N, trivial⟩ (by kernel_rfl)
noncomputable def Zq24 (N : Nat) (f : (Int × (List (List Int)))) (op : Int) : Option ((Bool × Bool × Unit) × (Unit)) :=
 ((Zq28 N (f.1, f.2)).bind fun r =>
 (br (!r.1.1)
 (some ((false, false, ()), ()))
 (((Zq25 N op 1 4).bind fun r1 =>
 (br (!r1.1.1)
 (some ((false, false, ()), ()))
 (((Zq32 N (f.1, f.2)).bind fun r2 =>
 Zq24_l0 N (fun x x1 => some ((x, x1, ()), ())) (fun (_ : Unit) => some ((true, true, ()), ())) N op r2.1.1 0 f.1 f.2)))))))
noncomputable def Zq24_S (N : Nat) : FSum := ⟨Zq24_ps, Zq24_rs, fun x => Zq24 N x.1 x.2.1⟩
theorem Zq24_pc (N : Nat) : PC Try.prog 11 (Zq24_S N) := pcQ (L := [Zq24_l0_s N]) (Zq24_gok N) Try.call11 Try.func11 (fun x => by kernel_rfl) ⟨Zq24_l0_ok N, trivial⟩ (by kernel_rfl)

abbrev Zq8_ps : List (PV.Mode × Ty) := [(.ro, I), (.ro, I), (.ro, I)]
abbrev Zq8_rs : List (Bool × Ty) := [(true, .bool)]
noncomputable def Zq8_G (N : Nat) : GTab := gOf []
theorem Zq8_gok (N : Nat) : GOk Try.prog (Zq8_G N) := gOf_ok trivial
noncomputable def Zq8_code : Code := (Try.f33.body).getD .skip
noncomputable def Zq8 (N : Nat) (n : Int) (low : Int) (high : Int) : Option ((Bool × Unit) × (Unit)) :=
 (br (ile low n)
 (some (((ile n high), ()), ()))
 (some ((false, ()), ())))
noncomputable def Zq8_S (N : Nat) : FSum := ⟨Zq8_ps, Zq8_rs, fun x => Zq8 N x.1 x.2.1 x.2.2.1⟩
theorem Zq8_pc (N : Nat) : PC Try.prog 33 (Zq8_S N) := pcQ (L := []) (Zq8_gok N) Try.call33 Try.func33 (fun x => by kernel_rfl) trivial (by kernel_rfl)

abbrev Zq5_ps : List (PV.Mode × Ty) := [(.ro, QILLI)]
abbrev Zq5_rs : List (Bool × Ty) := [(true, .bool)]
noncomputable def Zq5_G (N : Nat) : GTab := gOf [(33, Zq8_S N)]
theorem Zq5_gok (N : Nat) : GOk Try.prog (Zq5_G N) := gOf_ok ⟨Zq8_pc N, trivial⟩
noncomputable def Zq5_code : Code := (Try.f32.body).getD .skip
noncomputable def Zq5_l0_0_sh : Sh := ⟨[(1, .one (.adr 0 0)), (4, .one (.ro LI)), (18, .one (.ro LLI)), (19, .one (.ro I)), (20, .one (.ro I)), (24, .one (.ro LI)), (25, .one (.ro I)), (26, .one (.ro I))], [.box [.ro I, .ro LLI]]⟩
noncomputable def Zq5_l0_0_ex : List (Ex × Sh) := [(.ret, ⟨[(2, .one (.ro .bool))], []⟩), (.exit 2, ⟨[(1, .one (.adr 0 0)), (18, .one (.ro LLI)), (19, .one (.ro I)), (20, .one (.ro I))], [.box [.ro I, .ro LLI]]⟩)]
noncomputable def Zq5_l0_0 {R : Type} (N : Nat) (k0 : Bool → Option R) (k1 : (List (List Int)) → Int → Int → Int → (List (List Int)) → Option R) : Nat → (List Int) → (List (List Int)) → Int → Int → (List Int) → Int → Int → Int → (List (List Int)) → Option R
 | 0, _, _, _, _, _, _, _, _, _ => none
 | K + 1, clause, x3, x4, x5, x6, x7, x8, o2, o3 =>
 (br (ilt x8 x7)
 ((chk (inb x6 x8)
 (br (ieq (rdI x6 x8) 0)
 (k0 false)
 (((Zq8 N (rdI x6 x8) (IntKind.i64.wrap (0 - o2)) o2).bind fun r1 =>
 (br (!r1.1.1)
 (k0 false)
 ((br (ilt 0 x8)
 ((chk (inb clause (IntKind.i64.wrap (x8 - 1)))
 (br (ile (rdI x6 x8) (rdI clause (IntKind.i64.wrap (x8 - 1))))
 (k0 false)
 (Zq5_l0_0 N k0 k1 K clause x3 x4 x5 x6 x7 (IntKind.i64.wrap (x8 + 1)) o2 o3))))
 (Zq5_l0_0 N k0 k1 K clause x3 x4 x5 x6 x7 (IntKind.i64.wrap (x8 + 1)) o2 o3)))))))))
 (k1 x3 x4 x5 o2 o3))
noncomputable def Zq5_l0_0_again {R : Type} (N : Nat) (ks : KS Zq5_l0_0_ex R) (k : Nat) (x : Zq5_l0_0_sh.T) : Option R :=
 Zq5_l0_0 N (fun y0 => ks 0 ((y0, ()), ())) (fun y0 y1 y2 y3 y4 => ks 1 (((), y0, y1, y2, ()), ((y3, y4, ()), ()))) k x.1.2.1 x.1.2.2.1 x.1.2.2.2.1 x.1.2.2.2.2.1 x.1.2.2.2.2.2.1 x.1.2.2.2.2.2.2.1 x.1.2.2.2.2.2.2.2.1 x.2.1.1 x.2.1.2.1
noncomputable def Zq5_l0_0_s (N : Nat) : LSum := ⟨Zq5_l0_0_sh, Zq5_l0_0_ex, fun x ks => Zq5_l0_0_again N ks N x⟩
theorem Zq5_l0_0_ok (N : Nat) : LoopOk Try.prog Try.f32.ntmps (Zq5_l0_0_s N) (loopAt (loopAt Zq5_code 0) 0) := loopQ (sh := Zq5_l0_0_sh) (ex := Zq5_l0_0_ex) (N := N) (L := []) (fun R k x ks => Zq5_l0_0_again N ks k x) (Zq5_gok N) (fun _ _ _ => rfl) (fun R k x ks => by kernel_rfl) trivial (by kernel_rfl)
noncomputable def Zq5_l0_sh : Sh := ⟨[(1, .one (.adr 0 0)), (18, .one (.ro LLI)), (19, .one (.ro I)), (20, .one (.ro I))], [.box [.ro I, .ro LLI]]⟩
noncomputable def Zq5_l0_ex : List (Ex × Sh) := [(.ret, ⟨[(2, .one (.ro .bool))], []⟩), (.exit 0, ⟨[], []⟩)]
noncomputable def Zq5_l0 {R : Type} (N : Nat) (k0 : Bool → Option R) (k1 : Unit → Option R) : Nat → (List (List Int)) → Int → Int → Int → (List (List Int)) → Option R
 | 0, _, _, _, _, _ => none
 | K + 1, x, x1, x2, o, o1 =>
 (br (ilt x2 x1)
 ((chk (inb x x2)
 (Zq5_l0_0 N (fun x3 => k0 x3) (fun x4 x5 x6 o2 o3 => Zq5_l0 N k0 k1 K x4 x5 (IntKind.i64.wrap (x6 + 1)) o2 o3) N (rdL x x2) x x1 x2 (rdL x x2) (tLen (rdL x x2)) 0 o o1)))
 (k1 ()))
noncomputable def Zq5_l0_again {R : Type} (N : Nat) (ks : KS Zq5_l0_ex R) (k : Nat) (x : Zq5_l0_sh.T) : Option R :=
 Zq5_l0 N (fun y0 => ks 0 ((y0, ()), ())) (fun (_ : Unit) => ks 1 ((), ())) k x.1.2.1 x.1.2.2.1 x.1.2.2.2.1 x.2.1.1 x.2.1.2.1
noncomputable def Zq5_l0_s (N : Nat) : LSum := ⟨Zq5_l0_sh, Zq5_l0_ex, fun x ks => Zq5_l0_again N ks N x⟩
theorem Zq5_l0_ok (N : Nat) : LoopOk Try.prog Try.f32.ntmps (Zq5_l0_s N) (loopAt Zq5_code 0) := loopQ (sh := Zq5_l0_sh) (ex := Zq5_l0_ex) (N := N) (L := [Zq5_l0_0_s N]) (fun R k x ks => Zq5_l0_again N ks k x) (Zq5_gok N) (fun _ _ _ => rfl) (fun R k x ks => by kernel_rfl) ⟨Zq5_l0_0_ok N, trivial⟩ (by kernel_rfl)
noncomputable def Zq5 (N : Nat) (f : (Int × (List (List Int)))) : Option ((Bool × Unit) × (Unit)) :=
 ((Zq8 N f.1 0 6).bind fun r =>
 (br (!r.1.1)
 (some ((false, ()), ()))
 ((br (ilt 64 (tLen f.2))
 (some ((false, ()), ()))
 (Zq5_l0 N (fun x => some ((x, ()), ())) (fun (_ : Unit) => some ((true, ()), ())) N f.2 (tLen f.2) 0 f.1 f.2)))))
noncomputable def Zq5_S (N : Nat) : FSum := ⟨Zq5_ps, Zq5_rs, fun x => Zq5 N x.1⟩
theorem Zq5_pc (N : Nat) : PC Try.prog 32 (Zq5_S N) := pcQ (L := [Zq5_l0_s N]) (Zq5_gok N) Try.call32 Try.func32 (fun x => by kernel_rfl) ⟨Zq5_l0_ok N, trivial⟩ (by kernel_rfl)

abbrev Zq23_ps : List (PV.Mode × Ty) := [(.ro, LLI), (.ro, FLIBo)]
abbrev Zq23_rs : List (Bool × Ty) := [(true, I)]
noncomputable def Zq23_G (N : Nat) : GTab := gOf []
theorem Zq23_gok (N : Nat) : GOk Try.prog (Zq23_G N) := gOf_ok trivial
noncomputable def Zq23_code : Code := (Try.f63.body).getD .skip
noncomputable def Zq23_l0_sh : Sh := ⟨[(0, .one (.ro LLI)), (1, .one (.ro FLIBo)), (7, .one (.ro I)), (8, .one (.ro I))], []⟩
noncomputable def Zq23_l0_ex : List (Ex × Sh) := [(.ret, ⟨[(4, .one (.ro I))], []⟩), (.exit 0, ⟨[], []⟩)]
noncomputable def Zq23_l0 {R : Type} (N : Nat) (k0 : Int → Option R) (k1 : Unit → Option R) : Nat → (List (List Int)) → ((List Int) → Option Bool) → Int → Int → Option R
 | 0, _, _, _, _ => none
 | K + 1, s1, f1, x, x1 =>
 (br (ilt x1 x)
 ((chk (inb s1 x1)
 ((f1 (rdL s1 x1)).bind fun v =>
 (br v
 (k0 x1)
 (Zq23_l0 N k0 k1 K s1 f1 x (IntKind.i64.wrap (x1 + 1)))))))
 (k1 ()))
noncomputable def Zq23_l0_again {R : Type} (N : Nat) (ks : KS Zq23_l0_ex R) (k : Nat) (x : Zq23_l0_sh.T) : Option R :=
 Zq23_l0 N (fun y0 => ks 0 ((y0, ()), ())) (fun (_ : Unit) => ks 1 ((), ())) k x.1.1 x.1.2.1 x.1.2.2.1 x.1.2.2.2.1
noncomputable def Zq23_l0_s (N : Nat) : LSum := ⟨Zq23_l0_sh, Zq23_l0_ex, fun x ks => Zq23_l0_again N ks N x⟩
theorem Zq23_l0_ok (N : Nat) : LoopOk Try.prog Try.f63.ntmps (Zq23_l0_s N) (loopAt Zq23_code 0) := loopQ (sh := Zq23_l0_sh) (ex := Zq23_l0_ex) (N := N) (L := []) (fun R k x ks => Zq23_l0_again N ks k x) (Zq23_gok N) (fun _ _ _ => rfl) (fun R k x ks => by kernel_rfl) trivial (by kernel_rfl)
noncomputable def Zq23 (N : Nat) (s : (List (List Int))) (f : ((List Int) → Option Bool)) : Option ((Int × Unit) × (Unit)) :=
 Zq23_l0 N (fun x => some ((x, ()), ())) (fun (_ : Unit) => some (((-1), ()), ())) N s f (tLen s) 0
noncomputable def Zq23_S (N : Nat) : FSum := ⟨Zq23_ps, Zq23_rs, fun x => Zq23 N x.1 x.2.1⟩
theorem Zq23_pc (N : Nat) : PC Try.prog 63 (Zq23_S N) := pcQ (L := [Zq23_l0_s N]) (Zq23_gok N) Try.call63 Try.func63 (fun x => by kernel_rfl) ⟨Zq23_l0_ok N, trivial⟩ (by kernel_rfl)

abbrev Zq21_ps : List (PV.Mode × Ty) := [(.ro, LLI), (.ro, FLIBo)]
abbrev Zq21_rs : List (Bool × Ty) := [(true, .bool)]
noncomputable def Zq21_G (N : Nat) : GTab := gOf [(63, Zq23_S N)]
theorem Zq21_gok (N : Nat) : GOk Try.prog (Zq21_G N) := gOf_ok ⟨Zq23_pc N, trivial⟩
noncomputable def Zq21_code : Code := (Try.f55.body).getD .skip
noncomputable def Zq21 (N : Nat) (s : (List (List Int))) (f : ((List Int) → Option Bool)) : Option ((Bool × Unit) × (Unit)) :=
 ((Zq23 N s f).bind fun r =>
 some (((ile 0 r.1.1), ()), ()))
noncomputable def Zq21_S (N : Nat) : FSum := ⟨Zq21_ps, Zq21_rs, fun x => Zq21 N x.1 x.2.1⟩
theorem Zq21_pc (N : Nat) : PC Try.prog 55 (Zq21_S N) := pcQ (L := []) (Zq21_gok N) Try.call55 Try.func55 (fun x => by kernel_rfl) trivial (by kernel_rfl)

abbrev Zq9_ps : List (PV.Mode × Ty) := [(.ro, LI), (.ro, I)]
abbrev Zq9_rs : List (Bool × Ty) := [(true, .bool)]
noncomputable def Zq9_G (N : Nat) : GTab := gOf []
theorem Zq9_gok (N : Nat) : GOk Try.prog (Zq9_G N) := gOf_ok trivial
noncomputable def Zq9_code : Code := (Try.f59.body).getD .skip
noncomputable def Zq9 (N : Nat) (list : (List Int)) (literal : Int) : Option ((Bool × Unit) × (Unit)) :=
 (br (ilt 0 literal)
 ((chk (inb list (IntKind.i64.wrap (literal - 1)))
 (some (((ieq (rdI list (IntKind.i64.wrap (literal - 1))) 1), ()), ()))))
 ((chk (inb list (IntKind.i64.wrap ((-1) - literal)))
 (some (((ieq (rdI list (IntKind.i64.wrap ((-1) - literal))) 0), ()), ())))))
noncomputable def Zq9_S (N : Nat) : FSum := ⟨Zq9_ps, Zq9_rs, fun x => Zq9 N x.1 x.2.1⟩
theorem Zq9_pc (N : Nat) : PC Try.prog 59 (Zq9_S N) := pcQ (L := []) (Zq9_gok N) Try.call59 Try.func59 (fun x => by kernel_rfl) trivial (by kernel_rfl)

abbrev Zq3_ps : List (PV.Mode × Ty) := [(.ro, I), (.ro, ALI)]
abbrev Zq3_rs : List (Bool × Ty) := [(true, .bool)]
noncomputable def Zq3_G (N : Nat) : GTab := gOf [(59, Zq9_S N)]
theorem Zq3_gok (N : Nat) : GOk Try.prog (Zq3_G N) := gOf_ok ⟨Zq9_pc N, trivial⟩
noncomputable def Zq3_code : Code := (Try.f58.body).getD .skip
noncomputable def Zq3 (N : Nat) (literal : Int) (c : (List Int)) : Option ((Bool × Unit) × (Unit)) :=
 ((Zq9 N c literal).bind fun r =>
 some ((r.1.1, ()), ()))
noncomputable def Zq3_S (N : Nat) : FSum := ⟨Zq3_ps, Zq3_rs, fun x => Zq3 N x.1 x.2.1⟩
theorem Zq3_pc (N : Nat) : PC Try.prog 58 (Zq3_S N) := pcQ (L := []) (Zq3_gok N) Try.call58 Try.func58 (fun x => by kernel_rfl) trivial (by kernel_rfl)

abbrev Zq22_ps : List (PV.Mode × Ty) := [(.ro, LI), (.ro, FIBo)]
abbrev Zq22_rs : List (Bool × Ty) := [(true, I)]
noncomputable def Zq22_G (N : Nat) : GTab := gOf []
theorem Zq22_gok (N : Nat) : GOk Try.prog (Zq22_G N) := gOf_ok trivial
noncomputable def Zq22_code : Code := (Try.f64.body).getD .skip
noncomputable def Zq22_l0_sh : Sh := ⟨[(0, .one (.ro LI)), (1, .one (.ro FIBo)), (7, .one (.ro I)), (8, .one (.ro I))], []⟩
noncomputable def Zq22_l0_ex : List (Ex × Sh) := [(.ret, ⟨[(4, .one (.ro I))], []⟩), (.exit 0, ⟨[], []⟩)]
noncomputable def Zq22_l0 {R : Type} (N : Nat) (k0 : Int → Option R) (k1 : Unit → Option R) : Nat → (List Int) → (Int → Option Bool) → Int → Int → Option R
 | 0, _, _, _, _ => none
 | K + 1, s1, f1, x, x1 =>
 (br (ilt x1 x)
 ((chk (inb s1 x1)
 ((f1 (rdI s1 x1)).bind fun v =>
 (br v
 (k0 x1)
 (Zq22_l0 N k0 k1 K s1 f1 x (IntKind.i64.wrap (x1 + 1)))))))
 (k1 ()))
noncomputable def Zq22_l0_again {R : Type} (N : Nat) (ks : KS Zq22_l0_ex R) (k : Nat) (x : Zq22_l0_sh.T) : Option R :=
 Zq22_l0 N (fun y0 => ks 0 ((y0, ()), ())) (fun (_ : Unit) => ks 1 ((), ())) k x.1.1 x.1.2.1 x.1.2.2.1 x.1.2.2.2.1
noncomputable def Zq22_l0_s (N : Nat) : LSum := ⟨Zq22_l0_sh, Zq22_l0_ex, fun x ks => Zq22_l0_again N ks N x⟩
theorem Zq22_l0_ok (N : Nat) : LoopOk Try.prog Try.f64.ntmps (Zq22_l0_s N) (loopAt Zq22_code 0) := loopQ (sh := Zq22_l0_sh) (ex := Zq22_l0_ex) (N := N) (L := []) (fun R k x ks => Zq22_l0_again N ks k x) (Zq22_gok N) (fun _ _ _ => rfl) (fun R k x ks => by kernel_rfl) trivial (by kernel_rfl)
noncomputable def Zq22 (N : Nat) (s : (List Int)) (f : (Int → Option Bool)) : Option ((Int × Unit) × (Unit)) :=
 Zq22_l0 N (fun x => some ((x, ()), ())) (fun (_ : Unit) => some (((-1), ()), ())) N s f (tLen s) 0
noncomputable def Zq22_S (N : Nat) : FSum := ⟨Zq22_ps, Zq22_rs, fun x => Zq22 N x.1 x.2.1⟩
theorem Zq22_pc (N : Nat) : PC Try.prog 64 (Zq22_S N) := pcQ (L := [Zq22_l0_s N]) (Zq22_gok N) Try.call64 Try.func64 (fun x => by kernel_rfl) ⟨Zq22_l0_ok N, trivial⟩ (by kernel_rfl)

abbrev Zq20_ps : List (PV.Mode × Ty) := [(.ro, LI), (.ro, FIBo)]
abbrev Zq20_rs : List (Bool × Ty) := [(true, .bool)]
noncomputable def Zq20_G (N : Nat) : GTab := gOf [(64, Zq22_S N)]
theorem Zq20_gok (N : Nat) : GOk Try.prog (Zq20_G N) := gOf_ok ⟨Zq22_pc N, trivial⟩
noncomputable def Zq20_code : Code := (Try.f57.body).getD .skip
noncomputable def Zq20 (N : Nat) (s : (List Int)) (f : (Int → Option Bool)) : Option ((Bool × Unit) × (Unit)) :=
 ((Zq22 N s f).bind fun r =>
 some (((ile 0 r.1.1), ()), ()))
noncomputable def Zq20_S (N : Nat) : FSum := ⟨Zq20_ps, Zq20_rs, fun x => Zq20 N x.1 x.2.1⟩
theorem Zq20_pc (N : Nat) : PC Try.prog 57 (Zq20_S N) := pcQ (L := []) (Zq20_gok N) Try.call57 Try.func57 (fun x => by kernel_rfl) trivial (by kernel_rfl)

abbrev Zq2_ps : List (PV.Mode × Ty) := [(.ro, LI), (.ro, ALI)]
abbrev Zq2_rs : List (Bool × Ty) := [(true, .bool)]
noncomputable def Zq2_G (N : Nat) : GTab := gOf [(58, Zq3_S N), (57, Zq20_S N)]
theorem Zq2_gok (N : Nat) : GOk Try.prog (Zq2_G N) := gOf_ok ⟨Zq3_pc N, Zq20_pc N, trivial⟩
noncomputable def Zq2_code : Code := (Try.f56.body).getD .skip
noncomputable def Zq2 (N : Nat) (clause : (List Int)) (c : (List Int)) : Option ((Bool × Unit) × (Unit)) :=
 ((Zq20 N clause (fun y0 => (Zq3 N y0 c).bind fun z => some z.1.1)).bind fun r =>
 some (((!r.1.1), ()), ()))
noncomputable def Zq2_S (N : Nat) : FSum := ⟨Zq2_ps, Zq2_rs, fun x => Zq2 N x.1 x.2.1⟩
theorem Zq2_pc (N : Nat) : PC Try.prog 56 (Zq2_S N) := pcQ (L := []) (Zq2_gok N) Try.call56 Try.func56 (fun x => by kernel_rfl) trivial (by kernel_rfl)
end Go.Proofs.Ytfilchmabmfmaaa
