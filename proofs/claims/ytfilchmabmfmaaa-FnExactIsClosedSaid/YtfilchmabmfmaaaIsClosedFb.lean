/- Functions of the program as functions on data. -/
import Derived.Test.YtfilchmabmfmaaaIsClosedFa
set_option linter.all false
namespace Go.Proofs.Ytfilchmabmfmaaa
open Go Go.PV
abbrev Zq1_ps : List (PV.Mode × Ty) := [(.ro, QILLI), (.ro, LI)]
abbrev Zq1_rs : List (Bool × Ty) := [(true, .bool)]
noncomputable def Zq1_G (N : Nat) : GTab := gOf [(55, Zq21_S N), (56, Zq2_S N)]
theorem Zq1_gok (N : Nat) : GOk Try.prog (Zq1_G N) := gOf_ok ⟨Zq21_pc N, Zq2_pc N, trivial⟩
noncomputable def Zq1_code : Code := (Try.f50.body).getD .skip
noncomputable def Zq1 (N : Nat) (f : (Int × (List (List Int)))) (list : (List Int)) : Option ((Bool × Unit) × (Unit)) :=
 ((Zq21 N f.2 (fun y0 => (Zq2 N y0 list).bind fun z => some z.1.1)).bind fun r =>
 some (((!r.1.1), ()), ()))
noncomputable def Zq1_S (N : Nat) : FSum := ⟨Zq1_ps, Zq1_rs, fun x => Zq1 N x.1 x.2.1⟩
theorem Zq1_pc (N : Nat) : PC Try.prog 50 (Zq1_S N) := pcQ (L := []) (Zq1_gok N) Try.call50 Try.func50 (fun x => by kernel_rfl) trivial (by kernel_rfl)

abbrev Zq7_ps : List (PV.Mode × Ty) := [(.ro, I), (.ro, FLIBo)]
abbrev Zq7_rs : List (Bool × Ty) := [(true, LLI)]
noncomputable def Zq7_G (N : Nat) : GTab := gOf []
theorem Zq7_gok (N : Nat) : GOk Try.prog (Zq7_G N) := gOf_ok trivial
noncomputable def Zq7_code : Code := (Try.f49.body).getD .skip
noncomputable def Zq7_l0_0_sh : Sh := ⟨[(0, .one (.ro I)), (1, .one (.ro FLIBo)), (5, .one (.ref 0)), (6, .one (.ro I)), (7, .one (.ref 1)), (11, .one (.ro I)), (12, .one (.ro I)), (16, .one (.ro I)), (17, .one (.ro I))], [.sl 44 LI .deep, .sl 3 I .own]⟩
noncomputable def Zq7_l0_0_ex : List (Ex × Sh) := [(.exit 2, ⟨[(0, .one (.ro I)), (1, .one (.ro FLIBo)), (5, .one (.ref 0)), (7, .one (.ref 1)), (11, .one (.ro I)), (12, .one (.ro I))], [.sl 44 LI .deep, .sl 3 I .own]⟩)]
noncomputable def Zq7_l0_0 {R : Type} (N : Nat) (k0 : Int → ((List Int) → Option Bool) → Int → Int → (List (List Int)) → (List Int) → Option R) : Nat → Int → ((List Int) → Option Bool) → Int → Int → Int → Int → Int → (List (List Int)) → (List Int) → Option R
 | 0, _, _, _, _, _, _, _, _, _ => none
 | K + 1, vars2, is2, n, x2, x3, x4, x5, o1, o2 =>
 (br (ilt x5 x4)
 ((chk (ile 0 (IntKind.i64.wrap ((IntKind.i64.wrap (vars2 - 1)) - x5)))
 (chk (room o2 [(bitop .and .i64 (shrI .i64 n (IntKind.i64.wrap ((IntKind.i64.wrap (vars2 - 1)) - x5))) 1)])
 (Zq7_l0_0 N k0 K vars2 is2 n x2 x3 x4 (IntKind.i64.wrap (x5 + 1)) o1 (tApp o2 [(bitop .and .i64 (shrI .i64 n (IntKind.i64.wrap ((IntKind.i64.wrap (vars2 - 1)) - x5))) 1)])))))
 (k0 vars2 is2 x2 x3 o1 o2))
noncomputable def Zq7_l0_0_again {R : Type} (N : Nat) (ks : KS Zq7_l0_0_ex R) (k : Nat) (x : Zq7_l0_0_sh.T) : Option R :=
 Zq7_l0_0 N (fun y0 y1 y2 y3 y4 y5 => ks 0 ((y0, y1, (), (), y2, y3, ()), (y4, y5, ()))) k x.1.1 x.1.2.1 x.1.2.2.2.1 x.1.2.2.2.2.2.1 x.1.2.2.2.2.2.2.1 x.1.2.2.2.2.2.2.2.1 x.1.2.2.2.2.2.2.2.2.1 x.2.1 x.2.2.1
noncomputable def Zq7_l0_0_s (N : Nat) : LSum := ⟨Zq7_l0_0_sh, Zq7_l0_0_ex, fun x ks => Zq7_l0_0_again N ks N x⟩
theorem Zq7_l0_0_ok (N : Nat) : LoopOk Try.prog Try.f49.ntmps (Zq7_l0_0_s N) (loopAt (loopAt Zq7_code 0) 0) := loopQ (sh := Zq7_l0_0_sh) (ex := Zq7_l0_0_ex) (N := N) (L := []) (fun R k x ks => Zq7_l0_0_again N ks k x) (Zq7_gok N) (fun _ _ _ => rfl) (fun R k x ks => by kernel_rfl) trivial (by kernel_rfl)
noncomputable def Zq7_l0_sh : Sh := ⟨[(0, .one (.ro I)), (1, .one (.ro FLIBo)), (5, .one (.ref 0)), (11, .one (.ro I)), (12, .one (.ro I))], [.sl 44 LI .deep]⟩
noncomputable def Zq7_l0_ex : List (Ex × Sh) := [(.exit 0, ⟨[(5, .one (.ref 0))], [.sl 44 LI .deep]⟩)]
noncomputable def Zq7_l0 {R : Type} (N : Nat) (k0 : (List (List Int)) → Option R) : Nat → Int → ((List Int) → Option Bool) → Int → Int → (List (List Int)) → Option R
 | 0, _, _, _, _, _ => none
 | K + 1, vars1, is1, x, x1, o =>
 (br (ilt x1 x)
 (Zq7_l0_0 N (fun vars2 is2 x2 x3 o1 o2 => ((is2 o2).bind fun v =>
 (br v
 ((chk (room o1 [o2])
 (Zq7_l0 N k0 K vars2 is2 x2 (IntKind.i64.wrap (x3 + 1)) (tApp o1 [o2]))))
 (Zq7_l0 N k0 K vars2 is2 x2 (IntKind.i64.wrap (x3 + 1)) o1)))) N vars1 is1 x1 x x1 vars1 0 o [])
 (k0 o))
noncomputable def Zq7_l0_again {R : Type} (N : Nat) (ks : KS Zq7_l0_ex R) (k : Nat) (x : Zq7_l0_sh.T) : Option R :=
 Zq7_l0 N (fun y0 => ks 0 (((), ()), (y0, ()))) k x.1.1 x.1.2.1 x.1.2.2.2.1 x.1.2.2.2.2.1 x.2.1
noncomputable def Zq7_l0_s (N : Nat) : LSum := ⟨Zq7_l0_sh, Zq7_l0_ex, fun x ks => Zq7_l0_again N ks N x⟩
theorem Zq7_l0_ok (N : Nat) : LoopOk Try.prog Try.f49.ntmps (Zq7_l0_s N) (loopAt Zq7_code 0) := loopQ (sh := Zq7_l0_sh) (ex := Zq7_l0_ex) (N := N) (L := [Zq7_l0_0_s N]) (fun R k x ks => Zq7_l0_again N ks k x) (Zq7_gok N) (fun _ _ _ => rfl) (fun R k x ks => by kernel_rfl) ⟨Zq7_l0_0_ok N, trivial⟩ (by kernel_rfl)
noncomputable def Zq7 (N : Nat) (vars : Int) (is : ((List Int) → Option Bool)) : Option (((List (List Int)) × Unit) × (Unit)) :=
 (chk (ile 0 vars)
 (Zq7_l0 N (fun o => some ((o, ()), ())) N vars is (shlI .i64 1 vars) 0 []))
noncomputable def Zq7_S (N : Nat) : FSum := ⟨Zq7_ps, Zq7_rs, fun x => Zq7 N x.1 x.2.1⟩
theorem Zq7_pc (N : Nat) : PC Try.prog 49 (Zq7_S N) := pcQ (L := [Zq7_l0_s N]) (Zq7_gok N) Try.call49 Try.func49 (fun x => by kernel_rfl) ⟨Zq7_l0_ok N, trivial⟩ (by kernel_rfl)

abbrev Zq0_ps : List (PV.Mode × Ty) := [(.ro, QILLI)]
abbrev Zq0_rs : List (Bool × Ty) := [(true, LLI)]
noncomputable def Zq0_G (N : Nat) : GTab := gOf [(50, Zq1_S N), (49, Zq7_S N)]
theorem Zq0_gok (N : Nat) : GOk Try.prog (Zq0_G N) := gOf_ok ⟨Zq1_pc N, Zq7_pc N, trivial⟩
noncomputable def Zq0_code : Code := (Try.f34.body).getD .skip
noncomputable def Zq0 (N : Nat) (f : (Int × (List (List Int)))) : Option (((List (List Int)) × Unit) × (Unit)) :=
 ((Zq7 N f.1 (fun y0 => (Zq1 N (f.1, f.2) y0).bind fun z => some z.1.1)).bind fun r =>
 some ((r.1.1, ()), ()))
noncomputable def Zq0_S (N : Nat) : FSum := ⟨Zq0_ps, Zq0_rs, fun x => Zq0 N x.1⟩
theorem Zq0_pc (N : Nat) : PC Try.prog 34 (Zq0_S N) := pcQ (L := []) (Zq0_gok N) Try.call34 Try.func34 (fun x => by kernel_rfl) trivial (by kernel_rfl)

abbrev Zq6_ps : List (PV.Mode × Ty) := [(.ro, LI)]
abbrev Zq6_rs : List (Bool × Ty) := [(true, U64)]
noncomputable def Zq6_G (N : Nat) : GTab := gOf []
theorem Zq6_gok (N : Nat) : GOk Try.prog (Zq6_G N) := gOf_ok trivial
noncomputable def Zq6_code : Code := (Try.f35.body).getD .skip
noncomputable def Zq6_l0_sh : Sh := ⟨[(3, .one (.ro U64)), (6, .one (.ro LI)), (7, .one (.ro I)), (8, .one (.ro I))], []⟩
noncomputable def Zq6_l0_ex : List (Ex × Sh) := [(.exit 0, ⟨[(3, .one (.ro U64))], []⟩)]
noncomputable def Zq6_l0 {R : Type} (N : Nat) (k0 : Int → Option R) : Nat → Int → (List Int) → Int → Int → Option R
 | 0, _, _, _, _ => none
 | K + 1, out, x, x1, x2 =>
 (br (ilt x2 x1)
 ((chk (inb x x2)
 (Zq6_l0 N k0 K (IntKind.u64.wrap ((IntKind.u64.wrap (2 * out)) + (IntKind.u64.wrap ((rdI x x2))))) x x1 (IntKind.i64.wrap (x2 + 1)))))
 (k0 out))
noncomputable def Zq6_l0_again {R : Type} (N : Nat) (ks : KS Zq6_l0_ex R) (k : Nat) (x : Zq6_l0_sh.T) : Option R :=
 Zq6_l0 N (fun y0 => ks 0 ((y0, ()), ())) k x.1.1 x.1.2.1 x.1.2.2.1 x.1.2.2.2.1
noncomputable def Zq6_l0_s (N : Nat) : LSum := ⟨Zq6_l0_sh, Zq6_l0_ex, fun x ks => Zq6_l0_again N ks N x⟩
theorem Zq6_l0_ok (N : Nat) : LoopOk Try.prog Try.f35.ntmps (Zq6_l0_s N) (loopAt Zq6_code 0) := loopQ (sh := Zq6_l0_sh) (ex := Zq6_l0_ex) (N := N) (L := []) (fun R k x ks => Zq6_l0_again N ks k x) (Zq6_gok N) (fun _ _ _ => rfl) (fun R k x ks => by kernel_rfl) trivial (by kernel_rfl)
noncomputable def Zq6 (N : Nat) (list : (List Int)) : Option ((Int × Unit) × (Unit)) :=
 Zq6_l0 N (fun out => some ((out, ()), ())) N 0 list (tLen list) 0
noncomputable def Zq6_S (N : Nat) : FSum := ⟨Zq6_ps, Zq6_rs, fun x => Zq6 N x.1⟩
theorem Zq6_pc (N : Nat) : PC Try.prog 35 (Zq6_S N) := pcQ (L := [Zq6_l0_s N]) (Zq6_gok N) Try.call35 Try.func35 (fun x => by kernel_rfl) ⟨Zq6_l0_ok N, trivial⟩ (by kernel_rfl)

abbrev Zq4_ps : List (PV.Mode × Ty) := [(.ro, QILLI), (.ro, I)]
abbrev Zq4_rs : List (Bool × Ty) := [(true, .bool), (true, .bool)]
noncomputable def Zq4_G (N : Nat) : GTab := gOf [(32, Zq5_S N), (33, Zq8_S N), (34, Zq0_S N), (35, Zq6_S N)]
theorem Zq4_gok (N : Nat) : GOk Try.prog (Zq4_G N) := gOf_ok ⟨Zq5_pc N, Zq8_pc N, Zq0_pc N, Zq6_pc N, trivial⟩
noncomputable def Zq4_code : Code := (Try.f13.body).getD .skip
noncomputable def Zq4_l0_sh : Sh := ⟨[(1, .one (.ro I)), (6, .one (.mref 0)), (7, .one (.ref 1)), (28, .one (.ref 2)), (29, .one (.ro I)), (30, .one (.ro I))], [.mp 64 4 .u64, .sl 64 U64 .own, .sl 44 LI .deep]⟩
noncomputable def Zq4_l0_ex : List (Ex × Sh) := [(.exit 0, ⟨[(1, .one (.ro I)), (6, .one (.mref 0)), (7, .one (.ref 1))], [.mp 64 4 .u64, .sl 64 U64 .own]⟩)]
noncomputable def Zq4_l0 {R : Type} (N : Nat) (k0 : Int → (List Int) → (List Int) → Option R) : Nat → Int → Int → Int → (List Int) → (List Int) → (List (List Int)) → Option R
 | 0, _, _, _, _, _, _ => none
 | K + 1, x, x1, x2, o, o1, o2 =>
 (br (ilt x2 x1)
 ((chk (inb o2 x2)
 ((Zq6 N (rdL o2 x2)).bind fun r3 =>
 (chk (wfI .u64 r3.1.1 && room (α := Int) (β := Int) o [r3.1.1])
 (chk (room o1 [r3.1.1])
 (Zq4_l0 N k0 K x x1 (IntKind.i64.wrap (x2 + 1)) (tApp o [r3.1.1]) (tApp o1 [r3.1.1]) o2))))))
 (k0 x o o1))
noncomputable def Zq4_l0_again {R : Type} (N : Nat) (ks : KS Zq4_l0_ex R) (k : Nat) (x : Zq4_l0_sh.T) : Option R :=
 Zq4_l0 N (fun y0 y1 y2 => ks 0 ((y0, (), (), ()), (y1, y2, ()))) k x.1.1 x.1.2.2.2.2.1 x.1.2.2.2.2.2.1 x.2.1 x.2.2.1 x.2.2.2.1
noncomputable def Zq4_l0_s (N : Nat) : LSum := ⟨Zq4_l0_sh, Zq4_l0_ex, fun x ks => Zq4_l0_again N ks N x⟩
theorem Zq4_l0_ok (N : Nat) : LoopOk Try.prog Try.f13.ntmps (Zq4_l0_s N) (loopAt Zq4_code 0) := loopQ (sh := Zq4_l0_sh) (ex := Zq4_l0_ex) (N := N) (L := []) (fun R k x ks => Zq4_l0_again N ks k x) (Zq4_gok N) (fun _ _ _ => rfl) (fun R k x ks => by kernel_rfl) trivial (by kernel_rfl)
noncomputable def Zq4_l1_0_0_sh : Sh := ⟨[(1, .one (.ro I)), (6, .one (.mref 0)), (7, .one (.ref 1)), (12, .one (.ro U64)), (14, .one (.ro U64)), (43, .one (.ref 1)), (44, .one (.ro I)), (45, .one (.ro I)), (49, .one (.ref 1)), (50, .one (.ro I)), (51, .one (.ro I)), (80, .one (.ro I)), (81, .one (.ro .bool)), (83, .one (.ref 1)), (84, .one (.ro I)), (85, .one (.ro I))], [.mp 64 4 .u64, .sl 64 U64 .own]⟩
noncomputable def Zq4_l1_0_0_ex : List (Ex × Sh) := [(.ret, ⟨[(4, .one (.ro .bool)), (5, .one (.ro .bool))], []⟩), (.exit 7, ⟨[(1, .one (.ro I)), (6, .one (.mref 0)), (7, .one (.ref 1)), (12, .one (.ro U64)), (43, .one (.ref 1)), (44, .one (.ro I)), (45, .one (.ro I)), (49, .one (.ref 1)), (50, .one (.ro I)), (51, .one (.ro I)), (80, .one (.ro I)), (81, .one (.ro .bool))], [.mp 64 4 .u64, .sl 64 U64 .own]⟩)]
noncomputable def Zq4_l1_0_0 {R : Type} (N : Nat) (k0 : Bool → Bool → Option R) (k1 : Int → Int → Int → Int → Int → Int → Int → Bool → (List Int) → (List Int) → Option R) : Nat → Int → Int → Int → Int → Int → Int → Int → Int → Bool → Int → Int → (List Int) → (List Int) → Option R
 | 0, _, _, _, _, _, _, _, _, _, _, _, _, _ => none
 | K + 1, x60, x61, x62, x63, x64, x65, x66, x67, x68, x69, x70, o12, o13 =>
 (br (ilt x70 x69)
 ((chk (inb o13 x70)
 (br (ieq x60 1)
 ((chk (wfI .u64 (bitop .or .u64 (bitop .or .u64 (bitop .and .u64 x61 x62) (bitop .and .u64 x61 (rd U64 o13 x70))) (bitop .and .u64 x62 (rd U64 o13 x70))))
 (br (!(hasI o12 (bitop .or .u64 (bitop .or .u64 (bitop .and .u64 x61 x62) (bitop .and .u64 x61 (rd U64 o13 x70))) (bitop .and .u64 x62 (rd U64 o13 x70)))))
 (k0 false true)
 ((br (ieq x60 4)
 ((chk (wfI .u64 (bitop .xor .u64 (bitop .xor .u64 x61 x62) (rd U64 o13 x70)))
 (br (!(hasI o12 (bitop .xor .u64 (bitop .xor .u64 x61 x62) (rd U64 o13 x70))))
 (k0 false true)
 (Zq4_l1_0_0 N k0 k1 K x60 x61 x62 x63 x64 x65 x66 x67 x68 x69 (IntKind.i64.wrap (x70 + 1)) o12 o13))))
 (Zq4_l1_0_0 N k0 k1 K x60 x61 x62 x63 x64 x65 x66 x67 x68 x69 (IntKind.i64.wrap (x70 + 1)) o12 o13))))))
 ((br (ieq x60 4)
 ((chk (wfI .u64 (bitop .xor .u64 (bitop .xor .u64 x61 x62) (rd U64 o13 x70)))
 (br (!(hasI o12 (bitop .xor .u64 (bitop .xor .u64 x61 x62) (rd U64 o13 x70))))
 (k0 false true)
 (Zq4_l1_0_0 N k0 k1 K x60 x61 x62 x63 x64 x65 x66 x67 x68 x69 (IntKind.i64.wrap (x70 + 1)) o12 o13))))
 (Zq4_l1_0_0 N k0 k1 K x60 x61 x62 x63 x64 x65 x66 x67 x68 x69 (IntKind.i64.wrap (x70 + 1)) o12 o13))))))
 (k1 x60 x61 x63 x64 x65 x66 x67 x68 o12 o13))
noncomputable def Zq4_l1_0_0_again {R : Type} (N : Nat) (ks : KS Zq4_l1_0_0_ex R) (k : Nat) (x : Zq4_l1_0_0_sh.T) : Option R :=
 Zq4_l1_0_0 N (fun y0 y1 => ks 0 ((y0, y1, ()), ())) (fun y0 y1 y2 y3 y4 y5 y6 y7 y8 y9 => ks 1 ((y0, (), (), y1, (), y2, y3, (), y4, y5, y6, y7, ()), (y8, y9, ()))) k x.1.1 x.1.2.2.2.1 x.1.2.2.2.2.1 x.1.2.2.2.2.2.2.1 x.1.2.2.2.2.2.2.2.1 x.1.2.2.2.2.2.2.2.2.2.1 x.1.2.2.2.2.2.2.2.2.2.2.1 x.1.2.2.2.2.2.2.2.2.2.2.2.1 x.1.2.2.2.2.2.2.2.2.2.2.2.2.1 x.1.2.2.2.2.2.2.2.2.2.2.2.2.2.2.1 x.1.2.2.2.2.2.2.2.2.2.2.2.2.2.2.2.1 x.2.1 x.2.2.1
noncomputable def Zq4_l1_0_0_s (N : Nat) : LSum := ⟨Zq4_l1_0_0_sh, Zq4_l1_0_0_ex, fun x ks => Zq4_l1_0_0_again N ks N x⟩
theorem Zq4_l1_0_0_ok (N : Nat) : LoopOk Try.prog Try.f13.ntmps (Zq4_l1_0_0_s N) (loopAt (loopAt (loopAt Zq4_code 1) 0) 0) := loopQ (sh := Zq4_l1_0_0_sh) (ex := Zq4_l1_0_0_ex) (N := N) (L := []) (fun R k x ks => Zq4_l1_0_0_again N ks k x) (Zq4_gok N) (fun _ _ _ => rfl) (fun R k x ks => by kernel_rfl) trivial (by kernel_rfl)
noncomputable def Zq4_l1_0_sh : Sh := ⟨[(1, .one (.ro I)), (6, .one (.mref 0)), (7, .one (.ref 1)), (12, .one (.ro U64)), (43, .one (.ref 1)), (44, .one (.ro I)), (45, .one (.ro I)), (49, .one (.ref 1)), (50, .one (.ro I)), (51, .one (.ro I))], [.mp 64 4 .u64, .sl 64 U64 .own]⟩
noncomputable def Zq4_l1_0_ex : List (Ex × Sh) := [(.ret, ⟨[(4, .one (.ro .bool)), (5, .one (.ro .bool))], []⟩), (.exit 4, ⟨[(1, .one (.ro I)), (6, .one (.mref 0)), (7, .one (.ref 1)), (43, .one (.ref 1)), (44, .one (.ro I)), (45, .one (.ro I))], [.mp 64 4 .u64, .sl 64 U64 .own]⟩)]
noncomputable def Zq4_l1_0 {R : Type} (N : Nat) (k0 : Bool → Bool → Option R) (k1 : Int → Int → Int → (List Int) → (List Int) → Option R) : Nat → Int → Int → Int → Int → Int → Int → (List Int) → (List Int) → Option R
 | 0, _, _, _, _, _, _, _, _ => none
 | K + 1, x4, x5, x6, x7, x8, x9, o4, o5 =>
 (br (ilt x9 x8)
 ((chk (inb o5 x9)
 (br (ieq x4 2)
 ((chk (wfI .u64 (bitop .and .u64 x5 (rd U64 o5 x9)))
 (br (!(hasI o4 (bitop .and .u64 x5 (rd U64 o5 x9))))
 (k0 false true)
 ((br (ieq x4 3)
 ((chk (wfI .u64 (bitop .or .u64 x5 (rd U64 o5 x9)))
 (br (!(hasI o4 (bitop .or .u64 x5 (rd U64 o5 x9))))
 (k0 false true)
 ((br (ieq x4 2)
 (Zq4_l1_0 N k0 k1 K x4 x5 x6 x7 x8 (IntKind.i64.wrap (x9 + 1)) o4 o5)
 ((br (ieq x4 3)
 (Zq4_l1_0 N k0 k1 K x4 x5 x6 x7 x8 (IntKind.i64.wrap (x9 + 1)) o4 o5)
 (Zq4_l1_0_0 N (fun x10 x11 => k0 x10 x11) (fun x12 x13 x14 x15 x16 x17 x18 x19 o6 o7 => Zq4_l1_0 N k0 k1 K x12 x13 x14 x15 x16 (IntKind.i64.wrap (x17 + 1)) o6 o7) N x4 x5 (rd U64 o5 x9) x6 x7 x8 x9 x4 (ieq x4 3) (tLen o5) 0 o4 o5))))))))
 ((br (ieq x4 2)
 (Zq4_l1_0 N k0 k1 K x4 x5 x6 x7 x8 (IntKind.i64.wrap (x9 + 1)) o4 o5)
 ((br (ieq x4 3)
 (Zq4_l1_0 N k0 k1 K x4 x5 x6 x7 x8 (IntKind.i64.wrap (x9 + 1)) o4 o5)
 (Zq4_l1_0_0 N (fun x20 x21 => k0 x20 x21) (fun x22 x23 x24 x25 x26 x27 x28 x29 o8 o9 => Zq4_l1_0 N k0 k1 K x22 x23 x24 x25 x26 (IntKind.i64.wrap (x27 + 1)) o8 o9) N x4 x5 (rd U64 o5 x9) x6 x7 x8 x9 x4 (ieq x4 3) (tLen o5) 0 o4 o5))))))))))
 ((br (ieq x4 3)
 ((chk (wfI .u64 (bitop .or .u64 x5 (rd U64 o5 x9)))
 (br (!(hasI o4 (bitop .or .u64 x5 (rd U64 o5 x9))))
 (k0 false true)
 ((br (ieq x4 2)
 (Zq4_l1_0 N k0 k1 K x4 x5 x6 x7 x8 (IntKind.i64.wrap (x9 + 1)) o4 o5)
 ((br (ieq x4 3)
 (Zq4_l1_0 N k0 k1 K x4 x5 x6 x7 x8 (IntKind.i64.wrap (x9 + 1)) o4 o5)
 (Zq4_l1_0_0 N (fun x30 x31 => k0 x30 x31) (fun x32 x33 x34 x35 x36 x37 x38 x39 o10 o11 => Zq4_l1_0 N k0 k1 K x32 x33 x34 x35 x36 (IntKind.i64.wrap (x37 + 1)) o10 o11) N x4 x5 (rd U64 o5 x9) x6 x7 x8 x9 x4 (ieq x4 3) (tLen o5) 0 o4 o5))))))))
 ((br (ieq x4 2)
 (Zq4_l1_0 N k0 k1 K x4 x5 x6 x7 x8 (IntKind.i64.wrap (x9 + 1)) o4 o5)
 ((br (ieq x4 3)
 (Zq4_l1_0 N k0 k1 K x4 x5 x6 x7 x8 (IntKind.i64.wrap (x9 + 1)) o4 o5)
 (Zq4_l1_0_0 N (fun x40 x41 => k0 x40 x41) (fun x42 x43 x44 x45 x46 x47 x48 x49 o12 o13 => Zq4_l1_0 N k0 k1 K x42 x43 x44 x45 x46 (IntKind.i64.wrap (x47 + 1)) o12 o13) N x4 x5 (rd U64 o5 x9) x6 x7 x8 x9 x4 (ieq x4 3) (tLen o5) 0 o4 o5))))))))))
 (k1 x4 x6 x7 o4 o5))
noncomputable def Zq4_l1_0_again {R : Type} (N : Nat) (ks : KS Zq4_l1_0_ex R) (k : Nat) (x : Zq4_l1_0_sh.T) : Option R :=
 Zq4_l1_0 N (fun y0 y1 => ks 0 ((y0, y1, ()), ())) (fun y0 y1 y2 y3 y4 => ks 1 ((y0, (), (), (), y1, y2, ()), (y3, y4, ()))) k x.1.1 x.1.2.2.2.1 x.1.2.2.2.2.2.1 x.1.2.2.2.2.2.2.1 x.1.2.2.2.2.2.2.2.2.1 x.1.2.2.2.2.2.2.2.2.2.1 x.2.1 x.2.2.1
noncomputable def Zq4_l1_0_s (N : Nat) : LSum := ⟨Zq4_l1_0_sh, Zq4_l1_0_ex, fun x ks => Zq4_l1_0_again N ks N x⟩
theorem Zq4_l1_0_ok (N : Nat) : LoopOk Try.prog Try.f13.ntmps (Zq4_l1_0_s N) (loopAt (loopAt Zq4_code 1) 0) := loopQ (sh := Zq4_l1_0_sh) (ex := Zq4_l1_0_ex) (N := N) (L := [Zq4_l1_0_0_s N]) (fun R k x ks => Zq4_l1_0_again N ks k x) (Zq4_gok N) (fun _ _ _ => rfl) (fun R k x ks => by kernel_rfl) ⟨Zq4_l1_0_0_ok N, trivial⟩ (by kernel_rfl)
noncomputable def Zq4_l1_sh : Sh := ⟨[(1, .one (.ro I)), (6, .one (.mref 0)), (7, .one (.ref 1)), (43, .one (.ref 1)), (44, .one (.ro I)), (45, .one (.ro I))], [.mp 64 4 .u64, .sl 64 U64 .own]⟩
noncomputable def Zq4_l1_ex : List (Ex × Sh) := [(.ret, ⟨[(4, .one (.ro .bool)), (5, .one (.ro .bool))], []⟩), (.exit 2, ⟨[], []⟩)]
noncomputable def Zq4_l1 {R : Type} (N : Nat) (k0 : Bool → Bool → Option R) (k1 : Unit → Option R) : Nat → Int → Int → Int → (List Int) → (List Int) → Option R
 | 0, _, _, _, _, _ => none
 | K + 1, x1, x2, x3, o2, o3 =>
 (br (ilt x3 x2)
 ((chk (inb o3 x3)
 (Zq4_l1_0 N (fun x4 x5 => k0 x4 x5) (fun x6 x7 x8 o4 o5 => Zq4_l1 N k0 k1 K x6 x7 (IntKind.i64.wrap (x8 + 1)) o4 o5) N x1 (rd U64 o3 x3) x2 x3 (tLen o3) 0 o2 o3)))
 (k1 ()))
noncomputable def Zq4_l1_again {R : Type} (N : Nat) (ks : KS Zq4_l1_ex R) (k : Nat) (x : Zq4_l1_sh.T) : Option R :=
 Zq4_l1 N (fun y0 y1 => ks 0 ((y0, y1, ()), ())) (fun (_ : Unit) => ks 1 ((), ())) k x.1.1 x.1.2.2.2.2.1 x.1.2.2.2.2.2.1 x.2.1 x.2.2.1
noncomputable def Zq4_l1_s (N : Nat) : LSum := ⟨Zq4_l1_sh, Zq4_l1_ex, fun x ks => Zq4_l1_again N ks N x⟩
theorem Zq4_l1_ok (N : Nat) : LoopOk Try.prog Try.f13.ntmps (Zq4_l1_s N) (loopAt Zq4_code 1) := loopQ (sh := Zq4_l1_sh) (ex := Zq4_l1_ex) (N := N) (L := [Zq4_l1_0_s N]) (fun R k x ks => Zq4_l1_again N ks k x) (Zq4_gok N) (fun _ _ _ => rfl) (fun R k x ks => by kernel_rfl) ⟨Zq4_l1_0_ok N, trivial⟩ (by kernel_rfl)
noncomputable def Zq4 (N : Nat) (c : (Int × (List (List Int)))) (c1 : Int) : Option ((Bool × Bool × Unit) × (Unit)) :=
 ((Zq5 N (c.1, c.2)).bind fun r =>
 (br (!r.1.1)
 (some ((false, false, ()), ()))
 (((Zq8 N c1 1 4).bind fun r1 =>
 (br (!r1.1.1)
 (some ((false, false, ()), ()))
 (((Zq0 N (c.1, c.2)).bind fun r2 =>
 Zq4_l0 N (fun x o o1 => Zq4_l1 N (fun x1 x2 => some ((x1, x2, ()), ())) (fun (_ : Unit) => some ((true, true, ()), ())) N x (tLen o1) 0 o o1) N c1 (tLen r2.1.1) 0 [] [] r2.1.1)))))))
noncomputable def Zq4_S (N : Nat) : FSum := ⟨Zq4_ps, Zq4_rs, fun x => Zq4 N x.1 x.2.1⟩
theorem Zq4_pc (N : Nat) : PC Try.prog 13 (Zq4_S N) := pcQ (L := [Zq4_l0_s N, Zq4_l1_s N]) (Zq4_gok N) Try.call13 Try.func13 (fun x => by kernel_rfl) ⟨Zq4_l0_ok N, Zq4_l1_ok N, trivial⟩ (by kernel_rfl)

abbrev Zq12_ps : List (PV.Mode × Ty) := [(.ro, LI), (.ro, LI)]
abbrev Zq12_rs : List (Bool × Ty) := [(true, .bool)]
noncomputable def Zq12_G (N : Nat) : GTab := gOf []
theorem Zq12_gok (N : Nat) : GOk Try.prog (Zq12_G N) := gOf_ok trivial
noncomputable def Zq12_code : Code := (Try.f51.body).getD .skip
noncomputable def Zq12_l0_sh : Sh := ⟨[(0, .one (.ro LI)), (1, .one (.ro LI)), (5, .one (.ro I))], []⟩
noncomputable def Zq12_l0_ex : List (Ex × Sh) := [(.ret, ⟨[(4, .one (.ro .bool))], []⟩), (.exit 0, ⟨[], []⟩)]
noncomputable def Zq12_l0 {R : Type} (N : Nat) (k0 : Bool → Option R) (k1 : Unit → Option R) : Nat → (List Int) → (List Int) → Int → Option R
 | 0, _, _, _ => none
 | K + 1, a1, b1, i =>
 (br (ilt i (tLen a1))
 ((chk (inb a1 i)
 (chk (inb b1 i)
 (br (ine (rdI a1 i) (rdI b1 i))
 (k0 false)
 (Zq12_l0 N k0 k1 K a1 b1 (IntKind.i64.wrap (i + 1)))))))
 (k1 ()))
noncomputable def Zq12_l0_again {R : Type} (N : Nat) (ks : KS Zq12_l0_ex R) (k : Nat) (x : Zq12_l0_sh.T) : Option R :=
 Zq12_l0 N (fun y0 => ks 0 ((y0, ()), ())) (fun (_ : Unit) => ks 1 ((), ())) k x.1.1 x.1.2.1 x.1.2.2.1
noncomputable def Zq12_l0_s (N : Nat) : LSum := ⟨Zq12_l0_sh, Zq12_l0_ex, fun x ks => Zq12_l0_again N ks N x⟩
theorem Zq12_l0_ok (N : Nat) : LoopOk Try.prog Try.f51.ntmps (Zq12_l0_s N) (loopAt Zq12_code 0) := loopQ (sh := Zq12_l0_sh) (ex := Zq12_l0_ex) (N := N) (L := []) (fun R k x ks => Zq12_l0_again N ks k x) (Zq12_gok N) (fun _ _ _ => rfl) (fun R k x ks => by kernel_rfl) trivial (by kernel_rfl)
noncomputable def Zq12 (N : Nat) (a : (List Int)) (b : (List Int)) : Option ((Bool × Unit) × (Unit)) :=
 (br (ine (tLen a) (tLen b))
 (some ((false, ()), ()))
 (Zq12_l0 N (fun x => some ((x, ()), ())) (fun (_ : Unit) => some ((true, ()), ())) N a b 0))
noncomputable def Zq12_S (N : Nat) : FSum := ⟨Zq12_ps, Zq12_rs, fun x => Zq12 N x.1 x.2.1⟩
theorem Zq12_pc (N : Nat) : PC Try.prog 51 (Zq12_S N) := pcQ (L := [Zq12_l0_s N]) (Zq12_gok N) Try.call51 Try.func51 (fun x => by kernel_rfl) ⟨Zq12_l0_ok N, trivial⟩ (by kernel_rfl)

abbrev Zq13_ps : List (PV.Mode × Ty) := [(.ro, LLI), (.ro, LLI)]
abbrev Zq13_rs : List (Bool × Ty) := [(true, .bool)]
noncomputable def Zq13_G (N : Nat) : GTab := gOf [(51, Zq12_S N)]
theorem Zq13_gok (N : Nat) : GOk Try.prog (Zq13_G N) := gOf_ok ⟨Zq12_pc N, trivial⟩
noncomputable def Zq13_code : Code := (Try.f36.body).getD .skip
noncomputable def Zq13_l0_sh : Sh := ⟨[(0, .one (.ro LLI)), (1, .one (.ro LLI)), (5, .one (.ro I))], []⟩
noncomputable def Zq13_l0_ex : List (Ex × Sh) := [(.ret, ⟨[(4, .one (.ro .bool))], []⟩), (.exit 0, ⟨[], []⟩)]
noncomputable def Zq13_l0 {R : Type} (N : Nat) (k0 : Bool → Option R) (k1 : Unit → Option R) : Nat → (List (List Int)) → (List (List Int)) → Int → Option R
 | 0, _, _, _ => none
 | K + 1, a1, b1, i =>
 (br (ilt i (tLen a1))
 ((chk (inb a1 i)
 (chk (inb b1 i)
 ((Zq12 N (rdL a1 i) (rdL b1 i)).bind fun r =>
 (br (!r.1.1)
 (k0 false)
 (Zq13_l0 N k0 k1 K a1 b1 (IntKind.i64.wrap (i + 1))))))))
 (k1 ()))
noncomputable def Zq13_l0_again {R : Type} (N : Nat) (ks : KS Zq13_l0_ex R) (k : Nat) (x : Zq13_l0_sh.T) : Option R :=
 Zq13_l0 N (fun y0 => ks 0 ((y0, ()), ())) (fun (_ : Unit) => ks 1 ((), ())) k x.1.1 x.1.2.1 x.1.2.2.1
noncomputable def Zq13_l0_s (N : Nat) : LSum := ⟨Zq13_l0_sh, Zq13_l0_ex, fun x ks => Zq13_l0_again N ks N x⟩
theorem Zq13_l0_ok (N : Nat) : LoopOk Try.prog Try.f36.ntmps (Zq13_l0_s N) (loopAt Zq13_code 0) := loopQ (sh := Zq13_l0_sh) (ex := Zq13_l0_ex) (N := N) (L := []) (fun R k x ks => Zq13_l0_again N ks k x) (Zq13_gok N) (fun _ _ _ => rfl) (fun R k x ks => by kernel_rfl) trivial (by kernel_rfl)
noncomputable def Zq13 (N : Nat) (a : (List (List Int))) (b : (List (List Int))) : Option ((Bool × Unit) × (Unit)) :=
 (br (ine (tLen a) (tLen b))
 (some ((false, ()), ()))
 (Zq13_l0 N (fun x => some ((x, ()), ())) (fun (_ : Unit) => some ((true, ()), ())) N a b 0))
noncomputable def Zq13_S (N : Nat) : FSum := ⟨Zq13_ps, Zq13_rs, fun x => Zq13 N x.1 x.2.1⟩
theorem Zq13_pc (N : Nat) : PC Try.prog 36 (Zq13_S N) := pcQ (L := [Zq13_l0_s N]) (Zq13_gok N) Try.call36 Try.func36 (fun x => by kernel_rfl) ⟨Zq13_l0_ok N, trivial⟩ (by kernel_rfl)

abbrev Zq11_ps : List (PV.Mode × Ty) := [(.ro, QILLI), (.ro, QILLI)]
abbrev Zq11_rs : List (Bool × Ty) := [(true, .bool)]
noncomputable def Zq11_G (N : Nat) : GTab := gOf [(36, Zq13_S N)]
theorem Zq11_gok (N : Nat) : GOk Try.prog (Zq11_G N) := gOf_ok ⟨Zq13_pc N, trivial⟩
noncomputable def Zq11_code : Code := (Try.f14.body).getD .skip
noncomputable def Zq11 (N : Nat) (a : (Int × (List (List Int)))) (b : (Int × (List (List Int)))) : Option ((Bool × Unit) × (Unit)) :=
 (br (ine a.1 b.1)
 (some ((false, ()), ()))
 (((Zq13 N a.2 b.2).bind fun r =>
 (br (!r.1.1)
 (some ((false, ()), ()))
 (some ((true, ()), ()))))))
noncomputable def Zq11_S (N : Nat) : FSum := ⟨Zq11_ps, Zq11_rs, fun x => Zq11 N x.1 x.2.1⟩
theorem Zq11_pc (N : Nat) : PC Try.prog 14 (Zq11_S N) := pcQ (L := []) (Zq11_gok N) Try.call14 Try.func14 (fun x => by kernel_rfl) trivial (by kernel_rfl)

abbrev Zq10_ps : List (PV.Mode × Ty) := [(.ro, QILLI), (.ro, I)]
abbrev Zq10_rs : List (Bool × Ty) := [(true, .bool)]
noncomputable def Zq10_G (N : Nat) : GTab := gOf [(10, Zq14_S N), (12, Zq17_S N), (11, Zq24_S N), (13, Zq4_S N), (14, Zq11_S N)]
theorem Zq10_gok (N : Nat) : GOk Try.prog (Zq10_G N) := gOf_ok ⟨Zq14_pc N, Zq17_pc N, Zq24_pc N, Zq4_pc N, Zq11_pc N, trivial⟩
noncomputable def Zq10_code : Code := (Try.f4.body).getD .skip
noncomputable def Zq10 (N : Nat) (aF : (Int × (List (List Int)))) (aOp : Int) : Option ((Bool × Unit) × (Unit)) :=
 ((Zq14 N (aF.1, aF.2) 1048576).bind fun r =>
 (br (ilt r.1.1 0)
 (some ((true, ()), ()))
 (((Zq17 N (aF.1, aF.2)).bind fun r1 =>
 ((Zq24 N (r1.1.1.1, r1.1.1.2) aOp).bind fun r2 =>
 ((Zq17 N (aF.1, aF.2)).bind fun r3 =>
 ((Zq4 N (r3.1.1.1, r3.1.1.2) aOp).bind fun r4 =>
 (br (!(r4.1.1 == r2.1.1))
 (some ((false, ()), ()))
 ((br (!(r4.1.2.1 == r2.1.2.1))
 (some ((false, ()), ()))
 (((Zq17 N (aF.1, aF.2)).bind fun r5 =>
 ((Zq11 N (r3.1.1.1, r3.1.1.2) (r5.1.1.1, r5.1.1.2)).bind fun r6 =>
 (br (!r6.1.1)
 (some ((false, ()), ()))
 (some ((true, ()), ()))))))))))))))))
noncomputable def Zq10_S (N : Nat) : FSum := ⟨Zq10_ps, Zq10_rs, fun x => Zq10 N x.1 x.2.1⟩
theorem Zq10_pc (N : Nat) : PC Try.prog 4 (Zq10_S N) := pcQ (L := []) (Zq10_gok N) Try.call4 Try.func4 (fun x => by kernel_rfl) trivial (by kernel_rfl)
end Go.Proofs.Ytfilchmabmfmaaa
