/- Functions of the program as functions on data. -/
import Derived.Test.YtfilchmabmfmaaaGreatClosuresFa
set_option linter.all false
namespace Go.Proofs.YtfilchmabmfmaaaGreat
open Go Go.PV
abbrev Zq12_ps : List (PV.Mode × Ty) := [(.ro, QILLI), (.ro, I)]
abbrev Zq12_rs : List (Bool × Ty) := [(true, .bool), (true, .bool)]
noncomputable def Zq12_G (N : Nat) : GTab := gOf [(38, Zq13_S N), (39, Zq18_S N), (40, Zq8_S N), (41, Zq15_S N)]
theorem Zq12_gok (N : Nat) : GOk Tryz.prog (Zq12_G N) := gOf_ok ⟨Zq13_pc N, Zq18_pc N, Zq8_pc N, Zq15_pc N, trivial⟩
noncomputable def Zq12_code : Code := (Tryz.f7.body).getD .skip
noncomputable def Zq12_l0_sh : Sh := ⟨[(1, .one (.ro I)), (6, .one (.mref 0)), (7, .one (.ref 1)), (28, .one (.ref 2)), (29, .one (.ro I)), (30, .one (.ro I))], [.mp 74 4 .u64, .sl 74 U64 .own, .sl 33 LI .deep]⟩
noncomputable def Zq12_l0_ex : List (Ex × Sh) := [(.exit 0, ⟨[(1, .one (.ro I)), (6, .one (.mref 0)), (7, .one (.ref 1))], [.mp 74 4 .u64, .sl 74 U64 .own]⟩)]
noncomputable def Zq12_l0 {R : Type} (N : Nat) (k0 : Int → (List Int) → (List Int) → Option R) : Nat → Int → Int → Int → (List Int) → (List Int) → (List (List Int)) → Option R
 | 0, _, _, _, _, _, _ => none
 | K + 1, x, x1, x2, o, o1, o2 =>
 (br (ilt x2 x1)
 ((chk (inb o2 x2)
 ((Zq15 N (rdL o2 x2)).bind fun r3 =>
 (chk (wfI .u64 r3.1.1 && room (α := Int) (β := Int) o [r3.1.1])
 (chk (room o1 [r3.1.1])
 (Zq12_l0 N k0 K x x1 (IntKind.i64.wrap (x2 + 1)) (tApp o [r3.1.1]) (tApp o1 [r3.1.1]) o2))))))
 (k0 x o o1))
noncomputable def Zq12_l0_again {R : Type} (N : Nat) (ks : KS Zq12_l0_ex R) (k : Nat) (x : Zq12_l0_sh.T) : Option R :=
 Zq12_l0 N (fun y0 y1 y2 => ks 0 ((y0, (), (), ()), (y1, y2, ()))) k x.1.1 x.1.2.2.2.2.1 x.1.2.2.2.2.2.1 x.2.1 x.2.2.1 x.2.2.2.1
noncomputable def Zq12_l0_s (N : Nat) : LSum := ⟨Zq12_l0_sh, Zq12_l0_ex, fun x ks => Zq12_l0_again N ks N x⟩
theorem Zq12_l0_ok (N : Nat) : LoopOk Tryz.prog Tryz.f7.ntmps (Zq12_l0_s N) (loopAt Zq12_code 0) := loopQ (sh := Zq12_l0_sh) (ex := Zq12_l0_ex) (N := N) (L := []) (fun R k x ks => Zq12_l0_again N ks k x) (Zq12_gok N) (fun _ _ _ => rfl) (fun R k x ks => by kernel_rfl) trivial (by kernel_rfl)
noncomputable def Zq12_l1_0_0_sh : Sh := ⟨[(1, .one (.ro I)), (6, .one (.mref 0)), (7, .one (.ref 1)), (12, .one (.ro U64)), (14, .one (.ro U64)), (43, .one (.ref 1)), (44, .one (.ro I)), (45, .one (.ro I)), (49, .one (.ref 1)), (50, .one (.ro I)), (51, .one (.ro I)), (80, .one (.ro I)), (81, .one (.ro .bool)), (83, .one (.ref 1)), (84, .one (.ro I)), (85, .one (.ro I))], [.mp 74 4 .u64, .sl 74 U64 .own]⟩
noncomputable def Zq12_l1_0_0_ex : List (Ex × Sh) := [(.ret, ⟨[(4, .one (.ro .bool)), (5, .one (.ro .bool))], []⟩), (.exit 7, ⟨[(1, .one (.ro I)), (6, .one (.mref 0)), (7, .one (.ref 1)), (12, .one (.ro U64)), (43, .one (.ref 1)), (44, .one (.ro I)), (45, .one (.ro I)), (49, .one (.ref 1)), (50, .one (.ro I)), (51, .one (.ro I)), (80, .one (.ro I)), (81, .one (.ro .bool))], [.mp 74 4 .u64, .sl 74 U64 .own]⟩)]
noncomputable def Zq12_l1_0_0 {R : Type} (N : Nat) (k0 : Bool → Bool → Option R) (k1 : Int → Int → Int → Int → Int → Int → Int → Bool → (List Int) → (List Int) → Option R) : Nat → Int → Int → Int → Int → Int → Int → Int → Int → Bool → Int → Int → (List Int) → (List Int) → Option R
 | 0, _, _, _, _, _, _, _, _, _, _, _, _, _ => none
 | K + 1, x60, x61, x62, x63, x64, x65, x66, x67, x68, x69, x70, o12, o13 =>
 (br (ilt x70 x69)
 ((chk (inb o13 x70)
 (br (ieq x60 1)
 ((chk (wfI .u64 (bitop .or .u64 (bitop .or .u64 (bitop .and .u64 x61 x62) (bitop .and .u64 x61 (rd U64 o13 x70))) (bitop .and .u64 x62 (rd U64 o13 x70))))
 (br (!(hasI o12 (bitop .or .u64 (bitop .or .u64 (bitop .and .u64 x61 x62) (bitop .and .u64 x61 (rd U64 o13 x70))) (bitop .and .u64 x62 (rd U64 o13 x70)))))
 (k0 false true)
 ((br (ieq x60 4)
 ((chk (wfI .u64 (bitop .xor .u64 (bitop .xor .u64 x61 x62) (rd U64 o13 x70)))
 (br (!(hasI o12 (bitop .xor .u64 (bitop .xor .u64 x61 x62) (rd U64 o13 x70))))
 (k0 false true)
 (Zq12_l1_0_0 N k0 k1 K x60 x61 x62 x63 x64 x65 x66 x67 x68 x69 (IntKind.i64.wrap (x70 + 1)) o12 o13))))
 (Zq12_l1_0_0 N k0 k1 K x60 x61 x62 x63 x64 x65 x66 x67 x68 x69 (IntKind.i64.wrap (x70 + 1)) o12 o13))))))
 ((br (ieq x60 4)
 ((chk (wfI .u64 (bitop .xor .u64 (bitop .xor .u64 x61 x62) (rd U64 o13 x70)))
 (br (!(hasI o12 (bitop .xor .u64 (bitop .xor .u64 x61 x62) (rd U64 o13 x70))))
 (k0 false true)
 (Zq12_l1_0_0 N k0 k1 K x60 x61 x62 x63 x64 x65 x66 x67 x68 x69 (IntKind.i64.wrap (x70 + 1)) o12 o13))))
 (Zq12_l1_0_0 N k0 k1 K x60 x61 x62 x63 x64 x65 x66 x67 x68 x69 (IntKind.i64.wrap (x70 + 1)) o12 o13))))))
 (k1 x60 x61 x63 x64 x65 x66 x67 x68 o12 o13))
noncomputable def Zq12_l1_0_0_again {R : Type} (N : Nat) (ks : KS Zq12_l1_0_0_ex R) (k : Nat) (x : Zq12_l1_0_0_sh.T) : Option R :=
 Zq12_l1_0_0 N (fun y0 y1 => ks 0 ((y0, y1, ()), ())) (fun y0 y1 y2 y3 y4 y5 y6 y7 y8 y9 => ks 1 ((y0, (), (), y1, (), y2, y3, (), y4, y5, y6, y7, ()), (y8, y9, ()))) k x.1.1 x.1.2.2.2.1 x.1.2.2.2.2.1 x.1.2.2.2.2.2.2.1 x.1.2.2.2.2.2.2.2.1 x.1.2.2.2.2.2.2.2.2.2.1 x.1.2.2.2.2.2.2.2.2.2.2.1 x.1.2.2.2.2.2.2.2.2.2.2.2.1 x.1.2.2.2.2.2.2.2.2.2.2.2.2.1 x.1.2.2.2.2.2.2.2.2.2.2.2.2.2.2.1 x.1.2.2.2.2.2.2.2.2.2.2.2.2.2.2.2.1 x.2.1 x.2.2.1
noncomputable def Zq12_l1_0_0_s (N : Nat) : LSum := ⟨Zq12_l1_0_0_sh, Zq12_l1_0_0_ex, fun x ks => Zq12_l1_0_0_again N ks N x⟩
theorem Zq12_l1_0_0_ok (N : Nat) : LoopOk Tryz.prog Tryz.f7.ntmps (Zq12_l1_0_0_s N) (loopAt (loopAt (loopAt Zq12_code 1) 0) 0) := loopQ (sh := Zq12_l1_0_0_sh) (ex := Zq12_l1_0_0_ex) (N := N) (L := []) (fun R k x ks => Zq12_l1_0_0_again N ks k x) (Zq12_gok N) (fun _ _ _ => rfl) (fun R k x ks => by kernel_rfl) trivial (by kernel_rfl)
noncomputable def Zq12_l1_0_sh : Sh := ⟨[(1, .one (.ro I)), (6, .one (.mref 0)), (7, .one (.ref 1)), (12, .one (.ro U64)), (43, .one (.ref 1)), (44, .one (.ro I)), (45, .one (.ro I)), (49, .one (.ref 1)), (50, .one (.ro I)), (51, .one (.ro I))], [.mp 74 4 .u64, .sl 74 U64 .own]⟩
noncomputable def Zq12_l1_0_ex : List (Ex × Sh) := [(.ret, ⟨[(4, .one (.ro .bool)), (5, .one (.ro .bool))], []⟩), (.exit 4, ⟨[(1, .one (.ro I)), (6, .one (.mref 0)), (7, .one (.ref 1)), (43, .one (.ref 1)), (44, .one (.ro I)), (45, .one (.ro I))], [.mp 74 4 .u64, .sl 74 U64 .own]⟩)]
noncomputable def Zq12_l1_0 {R : Type} (N : Nat) (k0 : Bool → Bool → Option R) (k1 : Int → Int → Int → (List Int) → (List Int) → Option R) : Nat → Int → Int → Int → Int → Int → Int → (List Int) → (List Int) → Option R
 | 0, _, _, _, _, _, _, _, _ => none
 | K + 1, x4, x5, x6, x7, x8, x9, o4, o5 =>
 (br (ilt x9 x8)
 ((chk (inb o5 x9)
 (br (ieq x4 2)
 ((chk (wfI .u64 (bitop .and .u64 x5 (rd U64 o5 x9)))
 (br (!(hasI o4 (bitop .and .u64 x5 (rd U64 o5 x9))))
 (k0 false true)
 ((br (ieq x4 3)
 ((chk (wfI .u64 (bitop .or .u64 x5 (rd U64 o5 x9)))
 (br (!(hasI o4 (bitop .or .u64 x5 (rd U64 o5 x9))))
 (k0 false true)
 ((br (ieq x4 2)
 (Zq12_l1_0 N k0 k1 K x4 x5 x6 x7 x8 (IntKind.i64.wrap (x9 + 1)) o4 o5)
 ((br (ieq x4 3)
 (Zq12_l1_0 N k0 k1 K x4 x5 x6 x7 x8 (IntKind.i64.wrap (x9 + 1)) o4 o5)
 (Zq12_l1_0_0 N (fun x10 x11 => k0 x10 x11) (fun x12 x13 x14 x15 x16 x17 x18 x19 o6 o7 => Zq12_l1_0 N k0 k1 K x12 x13 x14 x15 x16 (IntKind.i64.wrap (x17 + 1)) o6 o7) N x4 x5 (rd U64 o5 x9) x6 x7 x8 x9 x4 (ieq x4 3) (tLen o5) 0 o4 o5))))))))
 ((br (ieq x4 2)
 (Zq12_l1_0 N k0 k1 K x4 x5 x6 x7 x8 (IntKind.i64.wrap (x9 + 1)) o4 o5)
 ((br (ieq x4 3)
 (Zq12_l1_0 N k0 k1 K x4 x5 x6 x7 x8 (IntKind.i64.wrap (x9 + 1)) o4 o5)
 (Zq12_l1_0_0 N (fun x20 x21 => k0 x20 x21) (fun x22 x23 x24 x25 x26 x27 x28 x29 o8 o9 => Zq12_l1_0 N k0 k1 K x22 x23 x24 x25 x26 (IntKind.i64.wrap (x27 + 1)) o8 o9) N x4 x5 (rd U64 o5 x9) x6 x7 x8 x9 x4 (ieq x4 3) (tLen o5) 0 o4 o5))))))))))
 ((br (ieq x4 3)
 ((chk (wfI .u64 (bitop .or .u64 x5 (rd U64 o5 x9)))
 (br (!(hasI o4 (bitop .or .u64 x5 (rd U64 o5 x9))))
 (k0 false true)
 ((br (ieq x4 2)
 (Zq12_l1_0 N k0 k1 K x4 x5 x6 x7 x8 (IntKind.i64.wrap (x9 + 1)) o4 o5)
 ((br (ieq x4 3)
 (Zq12_l1_0 N k0 k1 K x4 x5 x6 x7 x8 (IntKind.i64.wrap (x9 + 1)) o4 o5)
 (Zq12_l1_0_0 N (fun x30 x31 => k0 x30 x31) (fun x32 x33 x34 x35 x36 x37 x38 x39 o10 o11 => Zq12_l1_0 N k0 k1 K x32 x33 x34 x35 x36 (IntKind.i64.wrap (x37 + 1)) o10 o11) N x4 x5 (rd U64 o5 x9) x6 x7 x8 x9 x4 (ieq x4 3) (tLen o5) 0 o4 o5))))))))
 ((br (ieq x4 2)
 (Zq12_l1_0 N k0 k1 K x4 x5 x6 x7 x8 (IntKind.i64.wrap (x9 + 1)) o4 o5)
 ((br (ieq x4 3)
 (Zq12_l1_0 N k0 k1 K x4 x5 x6 x7 x8 (IntKind.i64.wrap (x9 + 1)) o4 o5)
 (Zq12_l1_0_0 N (fun x40 x41 => k0 x40 x41) (fun x42 x43 x44 x45 x46 x47 x48 x49 o12 o13 => Zq12_l1_0 N k0 k1 K x42 x43 x44 x45 x46 (IntKind.i64.wrap (x47 + 1)) o12 o13) N x4 x5 (rd U64 o5 x9) x6 x7 x8 x9 x4 (ieq x4 3) (tLen o5) 0 o4 o5))))))))))
 (k1 x4 x6 x7 o4 o5))
noncomputable def Zq12_l1_0_again {R : Type} (N : Nat) (ks : KS Zq12_l1_0_ex R) (k : Nat) (x : Zq12_l1_0_sh.T) : Option R :=
 Zq12_l1_0 N (fun y0 y1 => ks 0 ((y0, y1, ()), ())) (fun y0 y1 y2 y3 y4 => ks 1 ((y0, (), (), (), y1, y2, ()), (y3, y4, ()))) k x.1.1 x.1.2.2.2.1 x.1.2.2.2.2.2.1 x.1.2.2.2.2.2.2.1 x.1.2.2.2.2.2.2.2.2.1 x.1.2.2.2.2.2.2.2.2.2.1 x.2.1 x.2.2.1
noncomputable def Zq12_l1_0_s (N : Nat) : LSum := ⟨Zq12_l1_0_sh, Zq12_l1_0_ex, fun x ks => Zq12_l1_0_again N ks N x⟩
theorem Zq12_l1_0_ok (N : Nat) : LoopOk Tryz.prog Tryz.f7.ntmps (Zq12_l1_0_s N) (loopAt (loopAt Zq12_code 1) 0) := loopQ (sh := Zq12_l1_0_sh) (ex := Zq12_l1_0_ex) (N := N) (L := [Zq12_l1_0_0_s N]) (fun R k x ks => Zq12_l1_0_again N ks k x) (Zq12_gok N) (fun _ _ _ => rfl) (fun R k x ks => by kernel_rfl) ⟨Zq12_l1_0_0_ok N, trivial⟩ (by kernel_rfl)
noncomputable def Zq12_l1_sh : Sh := ⟨[(1, .one (.ro I)), (6, .one (.mref 0)), (7, .one (.ref 1)), (43, .one (.ref 1)), (44, .one (.ro I)), (45, .one (.ro I))], [.mp 74 4 .u64, .sl 74 U64 .own]⟩
noncomputable def Zq12_l1_ex : List (Ex × Sh) := [(.ret, ⟨[(4, .one (.ro .bool)), (5, .one (.ro .bool))], []⟩), (.exit 2, ⟨[], []⟩)]
noncomputable def Zq12_l1 {R : Type} (N : Nat) (k0 : Bool → Bool → Option R) (k1 : Unit → Option R) : Nat → Int → Int → Int → (List Int) → (List Int) → Option R
 | 0, _, _, _, _, _ => none
 | K + 1, x1, x2, x3, o2, o3 =>
 (br (ilt x3 x2)
 ((chk (inb o3 x3)
 (Zq12_l1_0 N (fun x4 x5 => k0 x4 x5) (fun x6 x7 x8 o4 o5 => Zq12_l1 N k0 k1 K x6 x7 (IntKind.i64.wrap (x8 + 1)) o4 o5) N x1 (rd U64 o3 x3) x2 x3 (tLen o3) 0 o2 o3)))
 (k1 ()))
noncomputable def Zq12_l1_again {R : Type} (N : Nat) (ks : KS Zq12_l1_ex R) (k : Nat) (x : Zq12_l1_sh.T) : Option R :=
 Zq12_l1 N (fun y0 y1 => ks 0 ((y0, y1, ()), ())) (fun (_ : Unit) => ks 1 ((), ())) k x.1.1 x.1.2.2.2.2.1 x.1.2.2.2.2.2.1 x.2.1 x.2.2.1
noncomputable def Zq12_l1_s (N : Nat) : LSum := ⟨Zq12_l1_sh, Zq12_l1_ex, fun x ks => Zq12_l1_again N ks N x⟩
theorem Zq12_l1_ok (N : Nat) : LoopOk Tryz.prog Tryz.f7.ntmps (Zq12_l1_s N) (loopAt Zq12_code 1) := loopQ (sh := Zq12_l1_sh) (ex := Zq12_l1_ex) (N := N) (L := [Zq12_l1_0_s N]) (fun R k x ks => Zq12_l1_again N ks k x) (Zq12_gok N) (fun _ _ _ => rfl) (fun R k x ks => by kernel_rfl) ⟨Zq12_l1_0_ok N, trivial⟩ (by kernel_rfl)
noncomputable def Zq12 (N : Nat) (c : (Int × (List (List Int)))) (c1 : Int) : Option ((Bool × Bool × Unit) × (Unit)) :=
 ((Zq13 N (c.1, c.2)).bind fun r =>
 (br (!r.1.1)
 (some ((false, false, ()), ()))
 (((Zq18 N c1 1 4).bind fun r1 =>
 (br (!r1.1.1)
 (some ((false, false, ()), ()))
 (((Zq8 N (c.1, c.2)).bind fun r2 =>
 Zq12_l0 N (fun x o o1 => Zq12_l1 N (fun x1 x2 => some ((x1, x2, ()), ())) (fun (_ : Unit) => some ((true, true, ()), ())) N x (tLen o1) 0 o o1) N c1 (tLen r2.1.1) 0 [] [] r2.1.1)))))))
noncomputable def Zq12_S (N : Nat) : FSum := ⟨Zq12_ps, Zq12_rs, fun x => Zq12 N x.1 x.2.1⟩
theorem Zq12_pc (N : Nat) : PC Tryz.prog 7 (Zq12_S N) := pcQ (L := [Zq12_l0_s N, Zq12_l1_s N]) (Zq12_gok N) Tryz.call7 Tryz.func7 (fun x => by kernel_rfl) ⟨Zq12_l0_ok N, Zq12_l1_ok N, trivial⟩ (by kernel_rfl)

abbrev Zq71_ps : List (PV.Mode × Ty) := [(.ro, I)]
abbrev Zq71_rs : List (Bool × Ty) := [(false, LLI)]
noncomputable def Zq71_G (N : Nat) : GTab := gOf []
theorem Zq71_gok (N : Nat) : GOk Tryz.prog (Zq71_G N) := gOf_ok trivial
noncomputable def Zq71_code : Code := (Tryz.f81.body).getD .skip
noncomputable def Zq71_l0_0_sh : Sh := ⟨[(0, .one (.ro I)), (3, .one (.ref 0)), (4, .one (.ro I)), (5, .one (.ref 1)), (6, .one (.ro I))], [.sl 33 LI .deep, .sl 3 I .own]⟩
noncomputable def Zq71_l0_0_ex : List (Ex × Sh) := [(.exit 2, ⟨[(0, .one (.ro I)), (3, .one (.ref 0)), (4, .one (.ro I)), (5, .one (.ref 1))], [.sl 33 LI .deep, .sl 3 I .own]⟩)]
noncomputable def Zq71_l0_0 {R : Type} (N : Nat) (k0 : Int → Int → (List (List Int)) → (List Int) → Option R) : Nat → Int → Int → Int → (List (List Int)) → (List Int) → Option R
 | 0, _, _, _, _, _ => none
 | K + 1, vars2, code1, v, o1, o2 =>
 (br (ilt v vars2)
 ((chk (ile 0 (IntKind.i64.wrap ((IntKind.i64.wrap (vars2 - 1)) - v)))
 (chk (room o2 [(bitop .and .i64 (shrI .i64 code1 (IntKind.i64.wrap ((IntKind.i64.wrap (vars2 - 1)) - v))) 1)])
 (Zq71_l0_0 N k0 K vars2 code1 (IntKind.i64.wrap (v + 1)) o1 (tApp o2 [(bitop .and .i64 (shrI .i64 code1 (IntKind.i64.wrap ((IntKind.i64.wrap (vars2 - 1)) - v))) 1)])))))
 (k0 vars2 code1 o1 o2))
noncomputable def Zq71_l0_0_again {R : Type} (N : Nat) (ks : KS Zq71_l0_0_ex R) (k : Nat) (x : Zq71_l0_0_sh.T) : Option R :=
 Zq71_l0_0 N (fun y0 y1 y2 y3 => ks 0 ((y0, (), y1, (), ()), (y2, y3, ()))) k x.1.1 x.1.2.2.1 x.1.2.2.2.2.1 x.2.1 x.2.2.1
noncomputable def Zq71_l0_0_s (N : Nat) : LSum := ⟨Zq71_l0_0_sh, Zq71_l0_0_ex, fun x ks => Zq71_l0_0_again N ks N x⟩
theorem Zq71_l0_0_ok (N : Nat) : LoopOk Tryz.prog Tryz.f81.ntmps (Zq71_l0_0_s N) (loopAt (loopAt Zq71_code 0) 0) := loopQ (sh := Zq71_l0_0_sh) (ex := Zq71_l0_0_ex) (N := N) (L := []) (fun R k x ks => Zq71_l0_0_again N ks k x) (Zq71_gok N) (fun _ _ _ => rfl) (fun R k x ks => by kernel_rfl) trivial (by kernel_rfl)
noncomputable def Zq71_l0_sh : Sh := ⟨[(0, .one (.ro I)), (3, .one (.ref 0)), (4, .one (.ro I))], [.sl 33 LI .deep]⟩
noncomputable def Zq71_l0_ex : List (Ex × Sh) := [(.exit 0, ⟨[(3, .one (.ref 0))], [.sl 33 LI .deep]⟩)]
noncomputable def Zq71_l0 {R : Type} (N : Nat) (k0 : (List (List Int)) → Option R) : Nat → Int → Int → (List (List Int)) → Option R
 | 0, _, _, _ => none
 | K + 1, vars1, code, o =>
 (chk (ile 0 vars1)
 (br (ilt code (shlI .i64 1 vars1))
 (Zq71_l0_0 N (fun vars2 code1 o1 o2 => (chk (room o1 [o2])
 (Zq71_l0 N k0 K vars2 (IntKind.i64.wrap (code1 + 1)) (tApp o1 [o2])))) N vars1 code 0 o [])
 (k0 o)))
noncomputable def Zq71_l0_again {R : Type} (N : Nat) (ks : KS Zq71_l0_ex R) (k : Nat) (x : Zq71_l0_sh.T) : Option R :=
 Zq71_l0 N (fun y0 => ks 0 (((), ()), (y0, ()))) k x.1.1 x.1.2.2.1 x.2.1
noncomputable def Zq71_l0_s (N : Nat) : LSum := ⟨Zq71_l0_sh, Zq71_l0_ex, fun x ks => Zq71_l0_again N ks N x⟩
theorem Zq71_l0_ok (N : Nat) : LoopOk Tryz.prog Tryz.f81.ntmps (Zq71_l0_s N) (loopAt Zq71_code 0) := loopQ (sh := Zq71_l0_sh) (ex := Zq71_l0_ex) (N := N) (L := [Zq71_l0_0_s N]) (fun R k x ks => Zq71_l0_again N ks k x) (Zq71_gok N) (fun _ _ _ => rfl) (fun R k x ks => by kernel_rfl) ⟨Zq71_l0_0_ok N, trivial⟩ (by kernel_rfl)
noncomputable def Zq71 (N : Nat) (vars : Int) : Option (((List (List Int)) × Unit) × (Unit)) :=
 Zq71_l0 N (fun o => some ((o, ()), ())) N vars 0 []
noncomputable def Zq71_S (N : Nat) : FSum := ⟨Zq71_ps, Zq71_rs, fun x => Zq71 N x.1⟩
theorem Zq71_pc (N : Nat) : PC Tryz.prog 81 (Zq71_S N) := pcQ (L := [Zq71_l0_s N]) (Zq71_gok N) Tryz.call81 Tryz.func81 (fun x => by kernel_rfl) ⟨Zq71_l0_ok N, trivial⟩ (by kernel_rfl)

abbrev Zq78_ps : List (PV.Mode × Ty) := [(.ro, LI), (.ro, I)]
abbrev Zq78_rs : List (Bool × Ty) := [(true, .bool)]
noncomputable def Zq78_G (N : Nat) : GTab := gOf []
theorem Zq78_gok (N : Nat) : GOk Tryz.prog (Zq78_G N) := gOf_ok trivial
noncomputable def Zq78_code : Code := (Tryz.f82.body).getD .skip
noncomputable def Zq78 (N : Nat) (bits : (List Int)) (x : Int) : Option ((Bool × Unit) × (Unit)) :=
 (br (ilt 0 x)
 ((chk (inb bits (IntKind.i64.wrap (x - 1)))
 (some (((ieq (rdI bits (IntKind.i64.wrap (x - 1))) 1), ()), ()))))
 ((chk (inb bits (IntKind.i64.wrap ((IntKind.i64.wrap (0 - x)) - 1)))
 (some (((ieq (rdI bits (IntKind.i64.wrap ((IntKind.i64.wrap (0 - x)) - 1))) 0), ()), ())))))
noncomputable def Zq78_S (N : Nat) : FSum := ⟨Zq78_ps, Zq78_rs, fun x => Zq78 N x.1 x.2.1⟩
theorem Zq78_pc (N : Nat) : PC Tryz.prog 82 (Zq78_S N) := pcQ (L := []) (Zq78_gok N) Tryz.call82 Tryz.func82 (fun x => by kernel_rfl) trivial (by kernel_rfl)

abbrev Zq81_ps : List (PV.Mode × Ty) := [(.ro, QILLI), (.ro, LI)]
abbrev Zq81_rs : List (Bool × Ty) := [(true, .bool)]
noncomputable def Zq81_G (N : Nat) : GTab := gOf [(82, Zq78_S N)]
theorem Zq81_gok (N : Nat) : GOk Tryz.prog (Zq81_G N) := gOf_ok ⟨Zq78_pc N, trivial⟩
noncomputable def Zq81_code : Code := (Tryz.f44.body).getD .skip
noncomputable def Zq81_l0_0_sh : Sh := ⟨[(1, .one (.ro LI)), (2, .one (.adr 0 0)), (5, .one (.ro I)), (6, .one (.ro .bool)), (7, .one (.ro I))], [.box [.ro I, .ro LLI]]⟩
noncomputable def Zq81_l0_0_ex : List (Ex × Sh) := [(.exit 2, ⟨[(1, .one (.ro LI)), (2, .one (.adr 0 0)), (5, .one (.ro I)), (6, .one (.ro .bool))], [.box [.ro I, .ro LLI]]⟩)]
noncomputable def Zq81_l0_0 {R : Type} (N : Nat) (k0 : (List Int) → Int → Bool → Int → (List (List Int)) → Option R) : Nat → (List Int) → Int → Bool → Int → Int → (List (List Int)) → Option R
 | 0, _, _, _, _, _, _ => none
 | K + 1, bits2, i1, met, kv, o2, o3 =>
 (chk (inb o3 i1)
 (br (ilt kv (tLen (rdL o3 i1)))
 ((br met
 (Zq81_l0_0 N k0 K bits2 i1 true (IntKind.i64.wrap (kv + 1)) o2 o3)
 ((chk (inb o3 i1)
 (chk (inb (rdL o3 i1) kv)
 ((Zq78 N bits2 (rdI (rdL o3 i1) kv)).bind fun r =>
 Zq81_l0_0 N k0 K bits2 i1 r.1.1 (IntKind.i64.wrap (kv + 1)) o2 o3))))))
 (k0 bits2 i1 met o2 o3)))
noncomputable def Zq81_l0_0_again {R : Type} (N : Nat) (ks : KS Zq81_l0_0_ex R) (k : Nat) (x : Zq81_l0_0_sh.T) : Option R :=
 Zq81_l0_0 N (fun y0 y1 y2 y3 y4 => ks 0 ((y0, (), y1, y2, ()), ((y3, y4, ()), ()))) k x.1.1 x.1.2.2.1 x.1.2.2.2.1 x.1.2.2.2.2.1 x.2.1.1 x.2.1.2.1
noncomputable def Zq81_l0_0_s (N : Nat) : LSum := ⟨Zq81_l0_0_sh, Zq81_l0_0_ex, fun x ks => Zq81_l0_0_again N ks N x⟩
theorem Zq81_l0_0_ok (N : Nat) : LoopOk Tryz.prog Tryz.f44.ntmps (Zq81_l0_0_s N) (loopAt (loopAt Zq81_code 0) 0) := loopQ (sh := Zq81_l0_0_sh) (ex := Zq81_l0_0_ex) (N := N) (L := []) (fun R k x ks => Zq81_l0_0_again N ks k x) (Zq81_gok N) (fun _ _ _ => rfl) (fun R k x ks => by kernel_rfl) trivial (by kernel_rfl)
noncomputable def Zq81_l0_sh : Sh := ⟨[(1, .one (.ro LI)), (2, .one (.adr 0 0)), (5, .one (.ro I))], [.box [.ro I, .ro LLI]]⟩
noncomputable def Zq81_l0_ex : List (Ex × Sh) := [(.ret, ⟨[(4, .one (.ro .bool))], []⟩), (.exit 0, ⟨[], []⟩)]
noncomputable def Zq81_l0 {R : Type} (N : Nat) (k0 : Bool → Option R) (k1 : Unit → Option R) : Nat → (List Int) → Int → Int → (List (List Int)) → Option R
 | 0, _, _, _, _ => none
 | K + 1, bits1, i, o, o1 =>
 (br (ilt i (tLen o1))
 (Zq81_l0_0 N (fun bits2 i1 met o2 o3 => (br (!met)
 (k0 false)
 (Zq81_l0 N k0 k1 K bits2 (IntKind.i64.wrap (i1 + 1)) o2 o3))) N bits1 i false 0 o o1)
 (k1 ()))
noncomputable def Zq81_l0_again {R : Type} (N : Nat) (ks : KS Zq81_l0_ex R) (k : Nat) (x : Zq81_l0_sh.T) : Option R :=
 Zq81_l0 N (fun y0 => ks 0 ((y0, ()), ())) (fun (_ : Unit) => ks 1 ((), ())) k x.1.1 x.1.2.2.1 x.2.1.1 x.2.1.2.1
noncomputable def Zq81_l0_s (N : Nat) : LSum := ⟨Zq81_l0_sh, Zq81_l0_ex, fun x ks => Zq81_l0_again N ks N x⟩
theorem Zq81_l0_ok (N : Nat) : LoopOk Tryz.prog Tryz.f44.ntmps (Zq81_l0_s N) (loopAt Zq81_code 0) := loopQ (sh := Zq81_l0_sh) (ex := Zq81_l0_ex) (N := N) (L := [Zq81_l0_0_s N]) (fun R k x ks => Zq81_l0_again N ks k x) (Zq81_gok N) (fun _ _ _ => rfl) (fun R k x ks => by kernel_rfl) ⟨Zq81_l0_0_ok N, trivial⟩ (by kernel_rfl)
noncomputable def Zq81 (N : Nat) (f : (Int × (List (List Int)))) (bits : (List Int)) : Option ((Bool × Unit) × (Unit)) :=
 Zq81_l0 N (fun x => some ((x, ()), ())) (fun (_ : Unit) => some ((true, ()), ())) N bits 0 f.1 f.2
noncomputable def Zq81_S (N : Nat) : FSum := ⟨Zq81_ps, Zq81_rs, fun x => Zq81 N x.1 x.2.1⟩
theorem Zq81_pc (N : Nat) : PC Tryz.prog 44 (Zq81_S N) := pcQ (L := [Zq81_l0_s N]) (Zq81_gok N) Tryz.call44 Tryz.func44 (fun x => by kernel_rfl) ⟨Zq81_l0_ok N, trivial⟩ (by kernel_rfl)

abbrev Zq80_ps : List (PV.Mode × Ty) := [(.ro, QILLI)]
abbrev Zq80_rs : List (Bool × Ty) := [(false, LLI)]
noncomputable def Zq80_G (N : Nat) : GTab := gOf [(81, Zq71_S N), (44, Zq81_S N)]
theorem Zq80_gok (N : Nat) : GOk Tryz.prog (Zq80_G N) := gOf_ok ⟨Zq71_pc N, Zq81_pc N, trivial⟩
noncomputable def Zq80_code : Code := (Tryz.f43.body).getD .skip
noncomputable def Zq80_l0_sh : Sh := ⟨[(1, .one (.adr 0 0)), (3, .one (.ref 1)), (4, .one (.ro LLI)), (5, .one (.ro I))], [.box [.ro I, .ro LLI], .sl 33 LI .own]⟩
noncomputable def Zq80_l0_ex : List (Ex × Sh) := [(.exit 0, ⟨[(3, .one (.ref 0))], [.sl 33 LI .own]⟩)]
noncomputable def Zq80_l0 {R : Type} (N : Nat) (k0 : (List (List Int)) → Option R) : Nat → (List (List Int)) → Int → Int → (List (List Int)) → (List (List Int)) → Option R
 | 0, _, _, _, _, _ => none
 | K + 1, all1, i1, o3, o4, o5 =>
 (br (ilt i1 (tLen all1))
 ((chk (inb all1 i1)
 ((Zq81 N (o3, o4) (rdL all1 i1)).bind fun r2 =>
 (br r2.1.1
 ((chk (inb all1 i1)
 (chk (room o5 [(rdL all1 i1)])
 (Zq80_l0 N k0 K all1 (IntKind.i64.wrap (i1 + 1)) o3 o4 (tApp o5 [(rdL all1 i1)])))))
 (Zq80_l0 N k0 K all1 (IntKind.i64.wrap (i1 + 1)) o3 o4 o5)))))
 (k0 o5))
noncomputable def Zq80_l0_again {R : Type} (N : Nat) (ks : KS Zq80_l0_ex R) (k : Nat) (x : Zq80_l0_sh.T) : Option R :=
 Zq80_l0 N (fun y0 => ks 0 (((), ()), (y0, ()))) k x.1.2.2.1 x.1.2.2.2.1 x.2.1.1 x.2.1.2.1 x.2.2.1
noncomputable def Zq80_l0_s (N : Nat) : LSum := ⟨Zq80_l0_sh, Zq80_l0_ex, fun x ks => Zq80_l0_again N ks N x⟩
theorem Zq80_l0_ok (N : Nat) : LoopOk Tryz.prog Tryz.f43.ntmps (Zq80_l0_s N) (loopAt Zq80_code 0) := loopQ (sh := Zq80_l0_sh) (ex := Zq80_l0_ex) (N := N) (L := []) (fun R k x ks => Zq80_l0_again N ks k x) (Zq80_gok N) (fun _ _ _ => rfl) (fun R k x ks => by kernel_rfl) trivial (by kernel_rfl)
noncomputable def Zq80 (N : Nat) (f : (Int × (List (List Int)))) : Option (((List (List Int)) × Unit) × (Unit)) :=
 ((Zq71 N f.1).bind fun r =>
 Zq80_l0 N (fun o3 => some ((o3, ()), ())) N r.1.1 0 f.1 f.2 [])
noncomputable def Zq80_S (N : Nat) : FSum := ⟨Zq80_ps, Zq80_rs, fun x => Zq80 N x.1⟩
theorem Zq80_pc (N : Nat) : PC Tryz.prog 43 (Zq80_S N) := pcQ (L := [Zq80_l0_s N]) (Zq80_gok N) Tryz.call43 Tryz.func43 (fun x => by kernel_rfl) ⟨Zq80_l0_ok N, trivial⟩ (by kernel_rfl)

abbrev Zq79_ps : List (PV.Mode × Ty) := [(.ro, I), (.ro, LI), (.ro, LI), (.ro, LI)]
abbrev Zq79_rs : List (Bool × Ty) := [(true, LI)]
noncomputable def Zq79_G (N : Nat) : GTab := gOf [(47, Zq65_S N)]
theorem Zq79_gok (N : Nat) : GOk Tryz.prog (Zq79_G N) := gOf_ok ⟨Zq65_pc N, trivial⟩
noncomputable def Zq79_code : Code := (Tryz.f45.body).getD .skip
noncomputable def Zq79_l0_sh : Sh := ⟨[(0, .one (.ro I)), (1, .one (.ro LI)), (2, .one (.ro LI)), (3, .one (.ro LI)), (9, .one (.ref 0)), (10, .one (.ro I))], [.sl 3 I .own]⟩
noncomputable def Zq79_l0_ex : List (Ex × Sh) := [(.exit 0, ⟨[(9, .one (.ref 0))], [.sl 3 I .own]⟩)]
noncomputable def Zq79_l0 {R : Type} (N : Nat) (k0 : (List Int) → Option R) : Nat → Int → (List Int) → (List Int) → (List Int) → Int → (List Int) → Option R
 | 0, _, _, _, _, _, _ => none
 | K + 1, x, x1, x2, x3, x4, o =>
 (br (ilt x4 (tLen x1))
 ((br (ieq x 1)
 ((chk (inb x1 x4)
 (chk (inb x2 x4)
 (chk (inb x3 x4)
 (chk (room o [(IntKind.i64.wrap ((IntKind.i64.wrap ((IntKind.i64.wrap ((rdI x1 x4) + (rdI x2 x4))) + (rdI x3 x4))).tdiv 2))])
 (Zq79_l0 N k0 K x x1 x2 x3 (IntKind.i64.wrap (x4 + 1)) (tApp o [(IntKind.i64.wrap ((IntKind.i64.wrap ((IntKind.i64.wrap ((rdI x1 x4) + (rdI x2 x4))) + (rdI x3 x4))).tdiv 2))])))))))
 ((br (ieq x 2)
 ((chk (inb x1 x4)
 (chk (inb x2 x4)
 (chk (room o [(IntKind.i64.wrap ((rdI x1 x4) * (rdI x2 x4)))])
 (Zq79_l0 N k0 K x x1 x2 x3 (IntKind.i64.wrap (x4 + 1)) (tApp o [(IntKind.i64.wrap ((rdI x1 x4) * (rdI x2 x4)))]))))))
 ((br (ieq x 3)
 ((chk (inb x1 x4)
 (chk (inb x2 x4)
 ((Zq65 N (rdI x1 x4) (rdI x2 x4)).bind fun r =>
 (chk (room o [r.1.1])
 (Zq79_l0 N k0 K x x1 x2 x3 (IntKind.i64.wrap (x4 + 1)) (tApp o [r.1.1])))))))
 ((chk (inb x1 x4)
 (chk (inb x2 x4)
 (chk (inb x3 x4)
 (chk (room o [((IntKind.i64.wrap ((IntKind.i64.wrap ((rdI x1 x4) + (rdI x2 x4))) + (rdI x3 x4))).tmod 2)])
 (Zq79_l0 N k0 K x x1 x2 x3 (IntKind.i64.wrap (x4 + 1)) (tApp o [((IntKind.i64.wrap ((IntKind.i64.wrap ((rdI x1 x4) + (rdI x2 x4))) + (rdI x3 x4))).tmod 2)])))))))))))))
 (k0 o))
noncomputable def Zq79_l0_again {R : Type} (N : Nat) (ks : KS Zq79_l0_ex R) (k : Nat) (x : Zq79_l0_sh.T) : Option R :=
 Zq79_l0 N (fun y0 => ks 0 (((), ()), (y0, ()))) k x.1.1 x.1.2.1 x.1.2.2.1 x.1.2.2.2.1 x.1.2.2.2.2.2.1 x.2.1
noncomputable def Zq79_l0_s (N : Nat) : LSum := ⟨Zq79_l0_sh, Zq79_l0_ex, fun x ks => Zq79_l0_again N ks N x⟩
theorem Zq79_l0_ok (N : Nat) : LoopOk Tryz.prog Tryz.f45.ntmps (Zq79_l0_s N) (loopAt Zq79_code 0) := loopQ (sh := Zq79_l0_sh) (ex := Zq79_l0_ex) (N := N) (L := []) (fun R k x ks => Zq79_l0_again N ks k x) (Zq79_gok N) (fun _ _ _ => rfl) (fun R k x ks => by kernel_rfl) trivial (by kernel_rfl)
noncomputable def Zq79 (N : Nat) (c : Int) (c1 : (List Int)) (c2 : (List Int)) (c3 : (List Int)) : Option (((List Int) × Unit) × (Unit)) :=
 Zq79_l0 N (fun o => some ((o, ()), ())) N c c1 c2 c3 0 []
noncomputable def Zq79_S (N : Nat) : FSum := ⟨Zq79_ps, Zq79_rs, fun x => Zq79 N x.1 x.2.1 x.2.2.1 x.2.2.2.1⟩
theorem Zq79_pc (N : Nat) : PC Tryz.prog 45 (Zq79_S N) := pcQ (L := [Zq79_l0_s N]) (Zq79_gok N) Tryz.call45 Tryz.func45 (fun x => by kernel_rfl) ⟨Zq79_l0_ok N, trivial⟩ (by kernel_rfl)

abbrev Zq55_ps : List (PV.Mode × Ty) := [(.ro, QILLI), (.ro, I)]
abbrev Zq55_rs : List (Bool × Ty) := [(true, .bool), (true, .bool)]
noncomputable def Zq55_G (N : Nat) : GTab := gOf [(36, Zq75_S N), (42, Zq63_S N), (43, Zq80_S N), (45, Zq79_S N), (44, Zq81_S N)]
theorem Zq55_gok (N : Nat) : GOk Tryz.prog (Zq55_G N) := gOf_ok ⟨Zq75_pc N, Zq63_pc N, Zq80_pc N, Zq79_pc N, Zq81_pc N, trivial⟩
noncomputable def Zq55_code : Code := (Tryz.f8.body).getD .skip
noncomputable def Zq55_l0_0_0_sh : Sh := ⟨[(1, .one (.ro I)), (2, .one (.adr 0 0)), (6, .one (.ro LLI)), (7, .one (.ro I)), (8, .one (.ro I)), (9, .one (.ro I))], [.box [.ro I, .ro LLI]]⟩
noncomputable def Zq55_l0_0_0_ex : List (Ex × Sh) := [(.ret, ⟨[(4, .one (.ro .bool)), (5, .one (.ro .bool))], []⟩), (.exit 4, ⟨[(1, .one (.ro I)), (2, .one (.adr 0 0)), (6, .one (.ro LLI)), (7, .one (.ro I)), (8, .one (.ro I))], [.box [.ro I, .ro LLI]]⟩)]
noncomputable def Zq55_l0_0_0 {R : Type} (N : Nat) (k0 : Bool → Bool → Option R) (k1 : Int → (List (List Int)) → Int → Int → Int → (List (List Int)) → Option R) : Nat → Int → (List (List Int)) → Int → Int → Int → Int → (List (List Int)) → Option R
 | 0, _, _, _, _, _, _, _ => none
 | K + 1, op3, list2, i2, j1, kv, o4, o5 =>
 (br (ilt kv (tLen list2))
 ((chk (inb list2 i2)
 (chk (inb list2 j1)
 (chk (inb list2 kv)
 ((Zq79 N op3 (rdL list2 i2) (rdL list2 j1) (rdL list2 kv)).bind fun r3 =>
 ((Zq81 N (o4, o5) r3.1.1).bind fun r4 =>
 (br (!r4.1.1)
 (k0 false true)
 (Zq55_l0_0_0 N k0 k1 K op3 list2 i2 j1 (IntKind.i64.wrap (kv + 1)) o4 o5))))))))
 (k1 op3 list2 i2 j1 o4 o5))
noncomputable def Zq55_l0_0_0_again {R : Type} (N : Nat) (ks : KS Zq55_l0_0_0_ex R) (k : Nat) (x : Zq55_l0_0_0_sh.T) : Option R :=
 Zq55_l0_0_0 N (fun y0 y1 => ks 0 ((y0, y1, ()), ())) (fun y0 y1 y2 y3 y4 y5 => ks 1 ((y0, (), y1, y2, y3, ()), ((y4, y5, ()), ()))) k x.1.1 x.1.2.2.1 x.1.2.2.2.1 x.1.2.2.2.2.1 x.1.2.2.2.2.2.1 x.2.1.1 x.2.1.2.1
noncomputable def Zq55_l0_0_0_s (N : Nat) : LSum := ⟨Zq55_l0_0_0_sh, Zq55_l0_0_0_ex, fun x ks => Zq55_l0_0_0_again N ks N x⟩
theorem Zq55_l0_0_0_ok (N : Nat) : LoopOk Tryz.prog Tryz.f8.ntmps (Zq55_l0_0_0_s N) (loopAt (loopAt (loopAt Zq55_code 0) 0) 0) := loopQ (sh := Zq55_l0_0_0_sh) (ex := Zq55_l0_0_0_ex) (N := N) (L := []) (fun R k x ks => Zq55_l0_0_0_again N ks k x) (Zq55_gok N) (fun _ _ _ => rfl) (fun R k x ks => by kernel_rfl) trivial (by kernel_rfl)
noncomputable def Zq55_l0_0_sh : Sh := ⟨[(1, .one (.ro I)), (2, .one (.adr 0 0)), (6, .one (.ro LLI)), (7, .one (.ro I)), (8, .one (.ro I))], [.box [.ro I, .ro LLI]]⟩
noncomputable def Zq55_l0_0_ex : List (Ex × Sh) := [(.ret, ⟨[(4, .one (.ro .bool)), (5, .one (.ro .bool))], []⟩), (.exit 2, ⟨[(1, .one (.ro I)), (2, .one (.adr 0 0)), (6, .one (.ro LLI)), (7, .one (.ro I))], [.box [.ro I, .ro LLI]]⟩)]
noncomputable def Zq55_l0_0 {R : Type} (N : Nat) (k0 : Bool → Bool → Option R) (k1 : Int → (List (List Int)) → Int → Int → (List (List Int)) → Option R) : Nat → Int → (List (List Int)) → Int → Int → Int → (List (List Int)) → Option R
 | 0, _, _, _, _, _, _ => none
 | K + 1, op2, list1, i1, j, o2, o3 =>
 (br (ilt j (tLen list1))
 (Zq55_l0_0_0 N (fun x x1 => k0 x x1) (fun op3 list2 i2 j1 o4 o5 => Zq55_l0_0 N k0 k1 K op3 list2 i2 (IntKind.i64.wrap (j1 + 1)) o4 o5) N op2 list1 i1 j 0 o2 o3)
 (k1 op2 list1 i1 o2 o3))
noncomputable def Zq55_l0_0_again {R : Type} (N : Nat) (ks : KS Zq55_l0_0_ex R) (k : Nat) (x : Zq55_l0_0_sh.T) : Option R :=
 Zq55_l0_0 N (fun y0 y1 => ks 0 ((y0, y1, ()), ())) (fun y0 y1 y2 y3 y4 => ks 1 ((y0, (), y1, y2, ()), ((y3, y4, ()), ()))) k x.1.1 x.1.2.2.1 x.1.2.2.2.1 x.1.2.2.2.2.1 x.2.1.1 x.2.1.2.1
noncomputable def Zq55_l0_0_s (N : Nat) : LSum := ⟨Zq55_l0_0_sh, Zq55_l0_0_ex, fun x ks => Zq55_l0_0_again N ks N x⟩
theorem Zq55_l0_0_ok (N : Nat) : LoopOk Tryz.prog Tryz.f8.ntmps (Zq55_l0_0_s N) (loopAt (loopAt Zq55_code 0) 0) := loopQ (sh := Zq55_l0_0_sh) (ex := Zq55_l0_0_ex) (N := N) (L := [Zq55_l0_0_0_s N]) (fun R k x ks => Zq55_l0_0_again N ks k x) (Zq55_gok N) (fun _ _ _ => rfl) (fun R k x ks => by kernel_rfl) ⟨Zq55_l0_0_0_ok N, trivial⟩ (by kernel_rfl)
noncomputable def Zq55_l0_sh : Sh := ⟨[(1, .one (.ro I)), (2, .one (.adr 0 0)), (6, .one (.ro LLI)), (7, .one (.ro I))], [.box [.ro I, .ro LLI]]⟩
noncomputable def Zq55_l0_ex : List (Ex × Sh) := [(.ret, ⟨[(4, .one (.ro .bool)), (5, .one (.ro .bool))], []⟩), (.exit 0, ⟨[], []⟩)]
noncomputable def Zq55_l0 {R : Type} (N : Nat) (k0 : Bool → Bool → Option R) (k1 : Unit → Option R) : Nat → Int → (List (List Int)) → Int → Int → (List (List Int)) → Option R
 | 0, _, _, _, _, _ => none
 | K + 1, op1, list, i, o, o1 =>
 (br (ilt i (tLen list))
 (Zq55_l0_0 N (fun x x1 => k0 x x1) (fun op2 list1 i1 o2 o3 => Zq55_l0 N k0 k1 K op2 list1 (IntKind.i64.wrap (i1 + 1)) o2 o3) N op1 list i 0 o o1)
 (k1 ()))
noncomputable def Zq55_l0_again {R : Type} (N : Nat) (ks : KS Zq55_l0_ex R) (k : Nat) (x : Zq55_l0_sh.T) : Option R :=
 Zq55_l0 N (fun y0 y1 => ks 0 ((y0, y1, ()), ())) (fun (_ : Unit) => ks 1 ((), ())) k x.1.1 x.1.2.2.1 x.1.2.2.2.1 x.2.1.1 x.2.1.2.1
noncomputable def Zq55_l0_s (N : Nat) : LSum := ⟨Zq55_l0_sh, Zq55_l0_ex, fun x ks => Zq55_l0_again N ks N x⟩
theorem Zq55_l0_ok (N : Nat) : LoopOk Tryz.prog Tryz.f8.ntmps (Zq55_l0_s N) (loopAt Zq55_code 0) := loopQ (sh := Zq55_l0_sh) (ex := Zq55_l0_ex) (N := N) (L := [Zq55_l0_0_s N]) (fun R k x ks => Zq55_l0_again N ks k x) (Zq55_gok N) (fun _ _ _ => rfl) (fun R k x ks => by kernel_rfl) ⟨Zq55_l0_0_ok N, trivial⟩ (by kernel_rfl)
noncomputable def Zq55 (N : Nat) (f : (Int × (List (List Int)))) (op : Int) : Option ((Bool × Bool × Unit) × (Unit)) :=
 ((Zq75 N (f.1, f.2)).bind fun r =>
 (br (!r.1.1)
 (some ((false, false, ()), ()))
 (((Zq63 N op 1 4).bind fun r1 =>
 (br (!r1.1.1)
 (some ((false, false, ()), ()))
 (((Zq80 N (f.1, f.2)).bind fun r2 =>
 Zq55_l0 N (fun x x1 => some ((x, x1, ()), ())) (fun (_ : Unit) => some ((true, true, ()), ())) N op r2.1.1 0 f.1 f.2)))))))
noncomputable def Zq55_S (N : Nat) : FSum := ⟨Zq55_ps, Zq55_rs, fun x => Zq55 N x.1 x.2.1⟩
theorem Zq55_pc (N : Nat) : PC Tryz.prog 8 (Zq55_S N) := pcQ (L := [Zq55_l0_s N]) (Zq55_gok N) Tryz.call8 Tryz.func8 (fun x => by kernel_rfl) ⟨Zq55_l0_ok N, trivial⟩ (by kernel_rfl)

abbrev Zq2_ps : List (PV.Mode × Ty) := [(.ro, QILLI)]
abbrev Zq2_rs : List (Bool × Ty) := [(true, .bool), (true, .bool), (true, .bool), (true, .bool)]
noncomputable def Zq2_G (N : Nat) : GTab := gOf [(38, Zq13_S N)]
theorem Zq2_gok (N : Nat) : GOk Tryz.prog (Zq2_G N) := gOf_ok ⟨Zq13_pc N, trivial⟩
noncomputable def Zq2_code : Code := (Tryz.f9.body).getD .skip
noncomputable def Zq2_l0_0_sh : Sh := ⟨[(6, .one (.ro .bool)), (7, .one (.ro .bool)), (8, .one (.ro .bool)), (10, .one (.ro LI)), (11, .one (.ro I)), (18, .one (.ro LLI)), (19, .one (.ro I)), (20, .one (.ro I)), (24, .one (.ro LI)), (25, .one (.ro I)), (26, .one (.ro I))], []⟩
noncomputable def Zq2_l0_0_ex : List (Ex × Sh) := [(.exit 2, ⟨[(6, .one (.ro .bool)), (7, .one (.ro .bool)), (8, .one (.ro .bool)), (10, .one (.ro LI)), (11, .one (.ro I)), (18, .one (.ro LLI)), (19, .one (.ro I)), (20, .one (.ro I))], []⟩)]
noncomputable def Zq2_l0_0 {R : Type} (N : Nat) (k0 : Bool → Bool → Bool → (List Int) → Int → (List (List Int)) → Int → Int → Option R) : Nat → Bool → Bool → Bool → (List Int) → Int → (List (List Int)) → Int → Int → (List Int) → Int → Int → Option R
 | 0, _, _, _, _, _, _, _, _, _, _, _ => none
 | K + 1, two1, horn1, dual1, clause, above, x3, x4, x5, x6, x7, x8 =>
 (br (ilt x8 x7)
 ((chk (inb x6 x8)
 (br (ilt 0 (rdI x6 x8))
 (Zq2_l0_0 N k0 K two1 horn1 dual1 clause (IntKind.i64.wrap (above + 1)) x3 x4 x5 x6 x7 (IntKind.i64.wrap (x8 + 1)))
 (Zq2_l0_0 N k0 K two1 horn1 dual1 clause above x3 x4 x5 x6 x7 (IntKind.i64.wrap (x8 + 1))))))
 (k0 two1 horn1 dual1 clause above x3 x4 x5))
noncomputable def Zq2_l0_0_again {R : Type} (N : Nat) (ks : KS Zq2_l0_0_ex R) (k : Nat) (x : Zq2_l0_0_sh.T) : Option R :=
 Zq2_l0_0 N (fun y0 y1 y2 y3 y4 y5 y6 y7 => ks 0 ((y0, y1, y2, y3, y4, y5, y6, y7, ()), ())) k x.1.1 x.1.2.1 x.1.2.2.1 x.1.2.2.2.1 x.1.2.2.2.2.1 x.1.2.2.2.2.2.1 x.1.2.2.2.2.2.2.1 x.1.2.2.2.2.2.2.2.1 x.1.2.2.2.2.2.2.2.2.1 x.1.2.2.2.2.2.2.2.2.2.1 x.1.2.2.2.2.2.2.2.2.2.2.1
noncomputable def Zq2_l0_0_s (N : Nat) : LSum := ⟨Zq2_l0_0_sh, Zq2_l0_0_ex, fun x ks => Zq2_l0_0_again N ks N x⟩
theorem Zq2_l0_0_ok (N : Nat) : LoopOk Tryz.prog Tryz.f9.ntmps (Zq2_l0_0_s N) (loopAt (loopAt Zq2_code 0) 0) := loopQ (sh := Zq2_l0_0_sh) (ex := Zq2_l0_0_ex) (N := N) (L := []) (fun R k x ks => Zq2_l0_0_again N ks k x) (Zq2_gok N) (fun _ _ _ => rfl) (fun R k x ks => by kernel_rfl) trivial (by kernel_rfl)
noncomputable def Zq2_l0_sh : Sh := ⟨[(6, .one (.ro .bool)), (7, .one (.ro .bool)), (8, .one (.ro .bool)), (18, .one (.ro LLI)), (19, .one (.ro I)), (20, .one (.ro I))], []⟩
noncomputable def Zq2_l0_ex : List (Ex × Sh) := [(.exit 0, ⟨[(6, .one (.ro .bool)), (7, .one (.ro .bool)), (8, .one (.ro .bool))], []⟩)]
noncomputable def Zq2_l0 {R : Type} (N : Nat) (k0 : Bool → Bool → Bool → Option R) : Nat → Bool → Bool → Bool → (List (List Int)) → Int → Int → Option R
 | 0, _, _, _, _, _, _ => none
 | K + 1, two, horn, dual, x, x1, x2 =>
 (br (ilt x2 x1)
 ((chk (inb x x2)
 (Zq2_l0_0 N (fun two1 horn1 dual1 clause above x3 x4 x5 => (br two1
 ((br horn1
 ((br dual1
 (Zq2_l0 N k0 K (ile (tLen clause) 2) (ile above 1) (ile (IntKind.i64.wrap ((tLen clause) - above)) 1) x3 x4 (IntKind.i64.wrap (x5 + 1)))
 (Zq2_l0 N k0 K (ile (tLen clause) 2) (ile above 1) false x3 x4 (IntKind.i64.wrap (x5 + 1)))))
 ((br dual1
 (Zq2_l0 N k0 K (ile (tLen clause) 2) false (ile (IntKind.i64.wrap ((tLen clause) - above)) 1) x3 x4 (IntKind.i64.wrap (x5 + 1)))
 (Zq2_l0 N k0 K (ile (tLen clause) 2) false false x3 x4 (IntKind.i64.wrap (x5 + 1)))))))
 ((br horn1
 ((br dual1
 (Zq2_l0 N k0 K false (ile above 1) (ile (IntKind.i64.wrap ((tLen clause) - above)) 1) x3 x4 (IntKind.i64.wrap (x5 + 1)))
 (Zq2_l0 N k0 K false (ile above 1) false x3 x4 (IntKind.i64.wrap (x5 + 1)))))
 ((br dual1
 (Zq2_l0 N k0 K false false (ile (IntKind.i64.wrap ((tLen clause) - above)) 1) x3 x4 (IntKind.i64.wrap (x5 + 1)))
 (Zq2_l0 N k0 K false false false x3 x4 (IntKind.i64.wrap (x5 + 1))))))))) N two horn dual (rdL x x2) 0 x x1 x2 (rdL x x2) (tLen (rdL x x2)) 0)))
 (k0 two horn dual))
noncomputable def Zq2_l0_again {R : Type} (N : Nat) (ks : KS Zq2_l0_ex R) (k : Nat) (x : Zq2_l0_sh.T) : Option R :=
 Zq2_l0 N (fun y0 y1 y2 => ks 0 ((y0, y1, y2, ()), ())) k x.1.1 x.1.2.1 x.1.2.2.1 x.1.2.2.2.1 x.1.2.2.2.2.1 x.1.2.2.2.2.2.1
noncomputable def Zq2_l0_s (N : Nat) : LSum := ⟨Zq2_l0_sh, Zq2_l0_ex, fun x ks => Zq2_l0_again N ks N x⟩
theorem Zq2_l0_ok (N : Nat) : LoopOk Tryz.prog Tryz.f9.ntmps (Zq2_l0_s N) (loopAt Zq2_code 0) := loopQ (sh := Zq2_l0_sh) (ex := Zq2_l0_ex) (N := N) (L := [Zq2_l0_0_s N]) (fun R k x ks => Zq2_l0_again N ks k x) (Zq2_gok N) (fun _ _ _ => rfl) (fun R k x ks => by kernel_rfl) ⟨Zq2_l0_0_ok N, trivial⟩ (by kernel_rfl)
noncomputable def Zq2 (N : Nat) (f : (Int × (List (List Int)))) : Option ((Bool × Bool × Bool × Bool × Unit) × (Unit)) :=
 ((Zq13 N (f.1, f.2)).bind fun r =>
 (br (!r.1.1)
 (some ((false, false, false, false, ()), ()))
 (Zq2_l0 N (fun two horn dual => some ((two, horn, dual, true, ()), ())) N true true true f.2 (tLen f.2) 0)))
noncomputable def Zq2_S (N : Nat) : FSum := ⟨Zq2_ps, Zq2_rs, fun x => Zq2 N x.1⟩
theorem Zq2_pc (N : Nat) : PC Tryz.prog 9 (Zq2_S N) := pcQ (L := [Zq2_l0_s N]) (Zq2_gok N) Tryz.call9 Tryz.func9 (fun x => by kernel_rfl) ⟨Zq2_l0_ok N, trivial⟩ (by kernel_rfl)

abbrev Zq64_ps : List (PV.Mode × Ty) := [(.ro, I), (.ro, I)]
abbrev Zq64_rs : List (Bool × Ty) := [(true, I)]
noncomputable def Zq64_G (N : Nat) : GTab := gOf []
theorem Zq64_gok (N : Nat) : GOk Tryz.prog (Zq64_G N) := gOf_ok trivial
noncomputable def Zq64_code : Code := (Tryz.f48.body).getD .skip
noncomputable def Zq64 (N : Nat) (a : Int) (b : Int) : Option ((Int × Unit) × (Unit)) :=
 (br (ilt a b)
 (some ((a, ()), ()))
 (some ((b, ()), ())))
noncomputable def Zq64_S (N : Nat) : FSum := ⟨Zq64_ps, Zq64_rs, fun x => Zq64 N x.1 x.2.1⟩
theorem Zq64_pc (N : Nat) : PC Tryz.prog 48 (Zq64_S N) := pcQ (L := []) (Zq64_gok N) Tryz.call48 Tryz.func48 (fun x => by kernel_rfl) trivial (by kernel_rfl)

abbrev Zq70_ps : List (PV.Mode × Ty) := [(.ro, I), (.ro, I)]
abbrev Zq70_rs : List (Bool × Ty) := [(true, LI)]
noncomputable def Zq70_G (N : Nat) : GTab := gOf []
theorem Zq70_gok (N : Nat) : GOk Tryz.prog (Zq70_G N) := gOf_ok trivial
noncomputable def Zq70_code : Code := (Tryz.f46.body).getD .skip
noncomputable def Zq70_l0_sh : Sh := ⟨[(0, .one (.ro I)), (1, .one (.ro I)), (5, .one (.ref 0)), (6, .one (.ro I))], [.sl 3 I .own]⟩
noncomputable def Zq70_l0_ex : List (Ex × Sh) := [(.exit 0, ⟨[(5, .one (.ref 0))], [.sl 3 I .own]⟩)]
noncomputable def Zq70_l0 {R : Type} (N : Nat) (k0 : (List Int) → Option R) : Nat → Int → Int → Int → (List Int) → Option R
 | 0, _, _, _, _ => none
 | K + 1, n1, code1, x, o =>
 (br (ilt x n1)
 ((chk (ile 0 x)
 (br (ieq (bitop .and .i64 (shrI .i64 code1 x) 1) 1)
 ((chk (room o [x])
 (Zq70_l0 N k0 K n1 code1 (IntKind.i64.wrap (x + 1)) (tApp o [x]))))
 (Zq70_l0 N k0 K n1 code1 (IntKind.i64.wrap (x + 1)) o))))
 (k0 o))
noncomputable def Zq70_l0_again {R : Type} (N : Nat) (ks : KS Zq70_l0_ex R) (k : Nat) (x : Zq70_l0_sh.T) : Option R :=
 Zq70_l0 N (fun y0 => ks 0 (((), ()), (y0, ()))) k x.1.1 x.1.2.1 x.1.2.2.2.1 x.2.1
noncomputable def Zq70_l0_s (N : Nat) : LSum := ⟨Zq70_l0_sh, Zq70_l0_ex, fun x ks => Zq70_l0_again N ks N x⟩
theorem Zq70_l0_ok (N : Nat) : LoopOk Tryz.prog Tryz.f46.ntmps (Zq70_l0_s N) (loopAt Zq70_code 0) := loopQ (sh := Zq70_l0_sh) (ex := Zq70_l0_ex) (N := N) (L := []) (fun R k x ks => Zq70_l0_again N ks k x) (Zq70_gok N) (fun _ _ _ => rfl) (fun R k x ks => by kernel_rfl) trivial (by kernel_rfl)
noncomputable def Zq70 (N : Nat) (n : Int) (code : Int) : Option (((List Int) × Unit) × (Unit)) :=
 Zq70_l0 N (fun o => some ((o, ()), ())) N n code 0 []
noncomputable def Zq70_S (N : Nat) : FSum := ⟨Zq70_ps, Zq70_rs, fun x => Zq70 N x.1 x.2.1⟩
theorem Zq70_pc (N : Nat) : PC Tryz.prog 46 (Zq70_S N) := pcQ (L := [Zq70_l0_s N]) (Zq70_gok N) Tryz.call46 Tryz.func46 (fun x => by kernel_rfl) ⟨Zq70_l0_ok N, trivial⟩ (by kernel_rfl)

abbrev Zq51_ps : List (PV.Mode × Ty) := [(.ro, LU8)]
abbrev Zq51_rs : List (Bool × Ty) := [(false, QILLI), (false, LI)]
noncomputable def Zq51_G (N : Nat) : GTab := gOf [(35, Zq58_S N), (48, Zq64_S N), (47, Zq65_S N), (49, Zq61_S N), (37, Zq57_S N), (46, Zq70_S N), (50, Zq60_S N)]
theorem Zq51_gok (N : Nat) : GOk Tryz.prog (Zq51_G N) := gOf_ok ⟨Zq58_pc N, Zq64_pc N, Zq65_pc N, Zq61_pc N, Zq57_pc N, Zq70_pc N, Zq60_pc N, trivial⟩
noncomputable def Zq51_code : Code := (Tryz.f10.body).getD .skip
noncomputable def Zq51 (N : Nat) (code : (List Int)) : Option (((Int × (List (List Int))) × (List Int) × Unit) × (Unit)) :=
 ((Zq58 N (code, (0, 0))).bind fun r =>
 ((Zq64 N r.1.1.1 7).bind fun r1 =>
 ((Zq65 N r1.1.1 0).bind fun r2 =>
 ((Zq61 N r.2.1 128).bind fun r3 =>
 ((Zq57 N r3.2.1 [127, 127, r3.1.1]).bind fun r4 =>
 ((Zq70 N r2.1.1 r4.1.1).bind fun r5 =>
 ((Zq60 N r4.2.1 20).bind fun r6 =>
 (br r6.1.1
 (((Zq57 N r6.2.1 [(-1), 0, 6]).bind fun r7 =>
 (chk (room r5.1.1 [r7.1.1])
 (some (((r.1.1.1, r.1.1.2), (tApp r5.1.1 [r7.1.1]), ()), ())))))
 (some (((r.1.1.1, r.1.1.2), r5.1.1, ()), ()))))))))))
noncomputable def Zq51_S (N : Nat) : FSum := ⟨Zq51_ps, Zq51_rs, fun x => Zq51 N x.1⟩
theorem Zq51_pc (N : Nat) : PC Tryz.prog 10 (Zq51_S N) := pcQ (L := []) (Zq51_gok N) Tryz.call10 Tryz.func10 (fun x => by kernel_rfl) trivial (by kernel_rfl)

abbrev Zq26_ps : List (PV.Mode × Ty) := [(.ro, LI), (.ro, I)]
abbrev Zq26_rs : List (Bool × Ty) := [(true, .bool)]
noncomputable def Zq26_G (N : Nat) : GTab := gOf [(39, Zq18_S N)]
theorem Zq26_gok (N : Nat) : GOk Tryz.prog (Zq26_G N) := gOf_ok ⟨Zq18_pc N, trivial⟩
noncomputable def Zq26_code : Code := (Tryz.f51.body).getD .skip
noncomputable def Zq26_l0_sh : Sh := ⟨[(0, .one (.ro LI)), (1, .one (.ro I)), (7, .one (.ro LI)), (8, .one (.ro I)), (9, .one (.ro I))], []⟩
noncomputable def Zq26_l0_ex : List (Ex × Sh) := [(.ret, ⟨[(4, .one (.ro .bool))], []⟩), (.exit 0, ⟨[], []⟩)]
noncomputable def Zq26_l0 {R : Type} (N : Nat) (k0 : Bool → Option R) (k1 : Unit → Option R) : Nat → (List Int) → Int → (List Int) → Int → Int → Option R
 | 0, _, _, _, _, _ => none
 | K + 1, list1, below1, x, x1, x2 =>
 (br (ilt x2 x1)
 ((chk (inb x x2)
 ((Zq18 N (rdI x x2) 0 (IntKind.i64.wrap (below1 - 1))).bind fun r =>
 (br (!r.1.1)
 (k0 false)
 ((br (ilt 0 x2)
 ((chk (inb list1 (IntKind.i64.wrap (x2 - 1)))
 (br (ile (rdI x x2) (rdI list1 (IntKind.i64.wrap (x2 - 1))))
 (k0 false)
 (Zq26_l0 N k0 k1 K list1 below1 x x1 (IntKind.i64.wrap (x2 + 1))))))
 (Zq26_l0 N k0 k1 K list1 below1 x x1 (IntKind.i64.wrap (x2 + 1)))))))))
 (k1 ()))
noncomputable def Zq26_l0_again {R : Type} (N : Nat) (ks : KS Zq26_l0_ex R) (k : Nat) (x : Zq26_l0_sh.T) : Option R :=
 Zq26_l0 N (fun y0 => ks 0 ((y0, ()), ())) (fun (_ : Unit) => ks 1 ((), ())) k x.1.1 x.1.2.1 x.1.2.2.1 x.1.2.2.2.1 x.1.2.2.2.2.1
noncomputable def Zq26_l0_s (N : Nat) : LSum := ⟨Zq26_l0_sh, Zq26_l0_ex, fun x ks => Zq26_l0_again N ks N x⟩
theorem Zq26_l0_ok (N : Nat) : LoopOk Tryz.prog Tryz.f51.ntmps (Zq26_l0_s N) (loopAt Zq26_code 0) := loopQ (sh := Zq26_l0_sh) (ex := Zq26_l0_ex) (N := N) (L := []) (fun R k x ks => Zq26_l0_again N ks k x) (Zq26_gok N) (fun _ _ _ => rfl) (fun R k x ks => by kernel_rfl) trivial (by kernel_rfl)
noncomputable def Zq26 (N : Nat) (list : (List Int)) (below : Int) : Option ((Bool × Unit) × (Unit)) :=
 Zq26_l0 N (fun x => some ((x, ()), ())) (fun (_ : Unit) => some ((true, ()), ())) N list below list (tLen list) 0
noncomputable def Zq26_S (N : Nat) : FSum := ⟨Zq26_ps, Zq26_rs, fun x => Zq26 N x.1 x.2.1⟩
theorem Zq26_pc (N : Nat) : PC Tryz.prog 51 (Zq26_S N) := pcQ (L := [Zq26_l0_s N]) (Zq26_gok N) Tryz.call51 Tryz.func51 (fun x => by kernel_rfl) ⟨Zq26_l0_ok N, trivial⟩ (by kernel_rfl)

abbrev Zq37_ps : List (PV.Mode × Ty) := [(.ro, LI)]
abbrev Zq37_rs : List (Bool × Ty) := [(true, LI)]
noncomputable def Zq37_G (N : Nat) : GTab := gOf []
theorem Zq37_gok (N : Nat) : GOk Tryz.prog (Zq37_G N) := gOf_ok trivial
noncomputable def Zq37_code : Code := (Tryz.f84.body).getD .skip
noncomputable def Zq37 (N : Nat) (s : (List Int)) : Option (((List Int) × Unit) × (Unit)) :=
 (br (ieq (tLen s) 0)
 ((amb
 (some (([], ()), ()))
 ((chk (room (α := Int) (β := Int) [] s)
 (some (((tApp [] s), ()), ()))))))
 ((chk (room (α := Int) (β := Int) [] s)
 (some (((tApp [] s), ()), ())))))
noncomputable def Zq37_S (N : Nat) : FSum := ⟨Zq37_ps, Zq37_rs, fun x => Zq37 N x.1⟩
theorem Zq37_pc (N : Nat) : PC Tryz.prog 84 (Zq37_S N) := pcQ (L := []) (Zq37_gok N) Tryz.call84 Tryz.func84 (fun x => by kernel_rfl) trivial (by kernel_rfl)

abbrev Zq19_ps : List (PV.Mode × Ty) := [(.ro, LLI)]
abbrev Zq19_rs : List (Bool × Ty) := [(true, LLI)]
noncomputable def Zq19_G (N : Nat) : GTab := gOf [(84, Zq37_S N)]
theorem Zq19_gok (N : Nat) : GOk Tryz.prog (Zq19_G N) := gOf_ok ⟨Zq37_pc N, trivial⟩
noncomputable def Zq19_code : Code := (Tryz.f52.body).getD .skip
noncomputable def Zq19_l0_sh : Sh := ⟨[(3, .one (.ref 0)), (7, .one (.ro LLI)), (8, .one (.ro I)), (9, .one (.ro I))], [.sl 33 LI .deep]⟩
noncomputable def Zq19_l0_ex : List (Ex × Sh) := [(.exit 0, ⟨[(3, .one (.ref 0))], [.sl 33 LI .deep]⟩)]
noncomputable def Zq19_l0 {R : Type} (N : Nat) (k0 : (List (List Int)) → Option R) : Nat → (List (List Int)) → Int → Int → (List (List Int)) → Option R
 | 0, _, _, _, _ => none
 | K + 1, x, x1, x2, o =>
 (br (ilt x2 x1)
 ((chk (inb x x2)
 ((Zq37 N (rdL x x2)).bind fun r =>
 (chk (room o [r.1.1])
 (Zq19_l0 N k0 K x x1 (IntKind.i64.wrap (x2 + 1)) (tApp o [r.1.1]))))))
 (k0 o))
noncomputable def Zq19_l0_again {R : Type} (N : Nat) (ks : KS Zq19_l0_ex R) (k : Nat) (x : Zq19_l0_sh.T) : Option R :=
 Zq19_l0 N (fun y0 => ks 0 (((), ()), (y0, ()))) k x.1.2.1 x.1.2.2.1 x.1.2.2.2.1 x.2.1
noncomputable def Zq19_l0_s (N : Nat) : LSum := ⟨Zq19_l0_sh, Zq19_l0_ex, fun x ks => Zq19_l0_again N ks N x⟩
theorem Zq19_l0_ok (N : Nat) : LoopOk Tryz.prog Tryz.f52.ntmps (Zq19_l0_s N) (loopAt Zq19_code 0) := loopQ (sh := Zq19_l0_sh) (ex := Zq19_l0_ex) (N := N) (L := []) (fun R k x ks => Zq19_l0_again N ks k x) (Zq19_gok N) (fun _ _ _ => rfl) (fun R k x ks => by kernel_rfl) trivial (by kernel_rfl)
noncomputable def Zq19 (N : Nat) (lists : (List (List Int))) : Option (((List (List Int)) × Unit) × (Unit)) :=
 Zq19_l0 N (fun o => some ((o, ()), ())) N lists (tLen lists) 0 []
noncomputable def Zq19_S (N : Nat) : FSum := ⟨Zq19_ps, Zq19_rs, fun x => Zq19 N x.1⟩
theorem Zq19_pc (N : Nat) : PC Tryz.prog 52 (Zq19_S N) := pcQ (L := [Zq19_l0_s N]) (Zq19_gok N) Tryz.call52 Tryz.func52 (fun x => by kernel_rfl) ⟨Zq19_l0_ok N, trivial⟩ (by kernel_rfl)

abbrev Zq45_ps : List (PV.Mode × Ty) := [(.ro, LI), (.ro, I)]
abbrev Zq45_rs : List (Bool × Ty) := [(true, I)]
noncomputable def Zq45_G (N : Nat) : GTab := gOf []
theorem Zq45_gok (N : Nat) : GOk Tryz.prog (Zq45_G N) := gOf_ok trivial
noncomputable def Zq45_code : Code := (Tryz.f85.body).getD .skip
noncomputable def Zq45_l0_sh : Sh := ⟨[(0, .one (.ro LI)), (1, .one (.ro I)), (7, .one (.ro I)), (8, .one (.ro I))], []⟩
noncomputable def Zq45_l0_ex : List (Ex × Sh) := [(.ret, ⟨[(4, .one (.ro I))], []⟩), (.exit 0, ⟨[], []⟩)]
noncomputable def Zq45_l0 {R : Type} (N : Nat) (k0 : Int → Option R) (k1 : Unit → Option R) : Nat → (List Int) → Int → Int → Int → Option R
 | 0, _, _, _, _ => none
 | K + 1, s1, v1, x, x1 =>
 (br (ilt x1 x)
 ((chk (inb s1 x1)
 (br (ieq v1 (rdI s1 x1))
 (k0 x1)
 (Zq45_l0 N k0 k1 K s1 v1 x (IntKind.i64.wrap (x1 + 1))))))
 (k1 ()))
noncomputable def Zq45_l0_again {R : Type} (N : Nat) (ks : KS Zq45_l0_ex R) (k : Nat) (x : Zq45_l0_sh.T) : Option R :=
 Zq45_l0 N (fun y0 => ks 0 ((y0, ()), ())) (fun (_ : Unit) => ks 1 ((), ())) k x.1.1 x.1.2.1 x.1.2.2.1 x.1.2.2.2.1
noncomputable def Zq45_l0_s (N : Nat) : LSum := ⟨Zq45_l0_sh, Zq45_l0_ex, fun x ks => Zq45_l0_again N ks N x⟩
theorem Zq45_l0_ok (N : Nat) : LoopOk Tryz.prog Tryz.f85.ntmps (Zq45_l0_s N) (loopAt Zq45_code 0) := loopQ (sh := Zq45_l0_sh) (ex := Zq45_l0_ex) (N := N) (L := []) (fun R k x ks => Zq45_l0_again N ks k x) (Zq45_gok N) (fun _ _ _ => rfl) (fun R k x ks => by kernel_rfl) trivial (by kernel_rfl)
noncomputable def Zq45 (N : Nat) (s : (List Int)) (v : Int) : Option ((Int × Unit) × (Unit)) :=
 Zq45_l0 N (fun x => some ((x, ()), ())) (fun (_ : Unit) => some (((-1), ()), ())) N s v (tLen s) 0
noncomputable def Zq45_S (N : Nat) : FSum := ⟨Zq45_ps, Zq45_rs, fun x => Zq45 N x.1 x.2.1⟩
theorem Zq45_pc (N : Nat) : PC Tryz.prog 85 (Zq45_S N) := pcQ (L := [Zq45_l0_s N]) (Zq45_gok N) Tryz.call85 Tryz.func85 (fun x => by kernel_rfl) ⟨Zq45_l0_ok N, trivial⟩ (by kernel_rfl)

abbrev Zq41_ps : List (PV.Mode × Ty) := [(.ro, LI), (.ro, I)]
abbrev Zq41_rs : List (Bool × Ty) := [(true, .bool)]
noncomputable def Zq41_G (N : Nat) : GTab := gOf [(85, Zq45_S N)]
theorem Zq41_gok (N : Nat) : GOk Tryz.prog (Zq41_G N) := gOf_ok ⟨Zq45_pc N, trivial⟩
noncomputable def Zq41_code : Code := (Tryz.f53.body).getD .skip
noncomputable def Zq41 (N : Nat) (s : (List Int)) (v : Int) : Option ((Bool × Unit) × (Unit)) :=
 ((Zq45 N s v).bind fun r =>
 some (((ile 0 r.1.1), ()), ()))
noncomputable def Zq41_S (N : Nat) : FSum := ⟨Zq41_ps, Zq41_rs, fun x => Zq41 N x.1 x.2.1⟩
theorem Zq41_pc (N : Nat) : PC Tryz.prog 53 (Zq41_S N) := pcQ (L := []) (Zq41_gok N) Tryz.call53 Tryz.func53 (fun x => by kernel_rfl) trivial (by kernel_rfl)

abbrev Zq47_ps : List (PV.Mode × Ty) := [(.mut, LI)]
abbrev Zq47_rs : List (Bool × Ty) := []
noncomputable def Zq47 (N : Nat) (x : List Int) : Option (Unit × (List Int × Unit)) := sortIF x
noncomputable def Zq47_S (N : Nat) : FSum := ⟨Zq47_ps, Zq47_rs, fun x => Zq47 N x.1⟩
theorem Zq47_pc (N : Nat) : PC Tryz.prog 54 (Zq47_S N) := sortInts_pc (sortsI Tryz.sortIL) (sortsINone Tryz.sortIL) Tryz.call54

abbrev Zq14_ps : List (PV.Mode × Ty) := [(.ro, QILLI), (.ro, LI)]
abbrev Zq14_rs : List (Bool × Ty) := [(true, QILLI), (true, .bool)]
noncomputable def Zq14_G (N : Nat) : GTab := gOf [(38, Zq13_S N), (51, Zq26_S N), (52, Zq19_S N), (53, Zq41_S N), (54, Zq47_S N)]
theorem Zq14_gok (N : Nat) : GOk Tryz.prog (Zq14_G N) := gOf_ok ⟨Zq13_pc N, Zq26_pc N, Zq19_pc N, Zq41_pc N, Zq47_pc N, trivial⟩
noncomputable def Zq14_code : Code := (Tryz.f11.body).getD .skip
noncomputable def Zq14_l0_0_sh : Sh := ⟨[(1, .one (.ro LI)), (4, .one (.adr 0 0)), (6, .one (.adr 1 0)), (8, .one (.el 2)), (29, .one (.ref 2)), (30, .one (.ro I)), (31, .one (.ro I)), (35, .one (.el 2)), (36, .one (.ro I)), (37, .one (.ro I))], [.box [.ro I, .nilsl], .box [.ro I, .ref 2], .sl 33 LI .deep]⟩
noncomputable def Zq14_l0_0_ex : List (Ex × Sh) := [(.exit 2, ⟨[(1, .one (.ro LI)), (4, .one (.adr 0 0)), (6, .one (.adr 1 0)), (8, .one (.el 2)), (29, .one (.ref 2)), (30, .one (.ro I)), (31, .one (.ro I))], [.box [.ro I, .nilsl], .box [.ro I, .ref 2], .sl 33 LI .deep]⟩)]
noncomputable def Zq14_l0_0 {R : Type} (N : Nat) (k0 : (List Int) → Int → Int → Int → Int → Int → (List (List Int)) → Option R) : Nat → (List Int) → Int → Int → Int → Int → Int → Int → Int → Int → (List (List Int)) → Option R
 | 0, _, _, _, _, _, _, _, _, _, _ => none
 | K + 1, vars2, clause, x2, x3, x4, x5, x6, o3, o4, o5 =>
 (br (ilt x6 x5)
 ((chk (inb (rdL o5 x4) x6)
 ((Zq41 N vars2 (IntKind.i64.wrap ((if (IntKind.i64.wrap (0 - (rdI (rdL o5 x4) x6))) > (rdI (rdL o5 x4) x6) then (IntKind.i64.wrap (0 - (rdI (rdL o5 x4) x6))) else (rdI (rdL o5 x4) x6)) - 1))).bind fun r3 =>
 (br r3.1.1
 ((chk (inb (rdL o5 clause) x6)
 (Zq14_l0_0 N k0 K vars2 clause x2 x3 x4 x5 (IntKind.i64.wrap (x6 + 1)) o3 o4 (tSet o5 clause (tSet (rdL o5 clause) x6 (IntKind.i64.wrap (0 - (rdI (rdL o5 x4) x6))))))))
 (Zq14_l0_0 N k0 K vars2 clause x2 x3 x4 x5 (IntKind.i64.wrap (x6 + 1)) o3 o4 o5)))))
 (k0 vars2 clause x2 x3 o3 o4 o5))
noncomputable def Zq14_l0_0_again {R : Type} (N : Nat) (ks : KS Zq14_l0_0_ex R) (k : Nat) (x : Zq14_l0_0_sh.T) : Option R :=
 Zq14_l0_0 N (fun y0 y1 y2 y3 y4 y5 y6 => ks 0 ((y0, (), (), y1, (), y2, y3, ()), ((y4, (), ()), (y5, (), ()), y6, ()))) k x.1.1 x.1.2.2.2.1 x.1.2.2.2.2.2.1 x.1.2.2.2.2.2.2.1 x.1.2.2.2.2.2.2.2.1 x.1.2.2.2.2.2.2.2.2.1 x.1.2.2.2.2.2.2.2.2.2.1 x.2.1.1 x.2.2.1.1 x.2.2.2.1
noncomputable def Zq14_l0_0_s (N : Nat) : LSum := ⟨Zq14_l0_0_sh, Zq14_l0_0_ex, fun x ks => Zq14_l0_0_again N ks N x⟩
theorem Zq14_l0_0_ok (N : Nat) : LoopOk Tryz.prog Tryz.f11.ntmps (Zq14_l0_0_s N) (loopAt (loopAt Zq14_code 0) 0) := loopQ (sh := Zq14_l0_0_sh) (ex := Zq14_l0_0_ex) (N := N) (L := []) (fun R k x ks => Zq14_l0_0_again N ks k x) (Zq14_gok N) (fun _ _ _ => rfl) (fun R k x ks => by kernel_rfl) trivial (by kernel_rfl)
noncomputable def Zq14_l0_sh : Sh := ⟨[(1, .one (.ro LI)), (4, .one (.adr 0 0)), (6, .one (.adr 1 0)), (29, .one (.ref 2)), (30, .one (.ro I)), (31, .one (.ro I))], [.box [.ro I, .nilsl], .box [.ro I, .ref 2], .sl 33 LI .deep]⟩
noncomputable def Zq14_l0_ex : List (Ex × Sh) := [(.exit 0, ⟨[(4, .one (.adr 0 0)), (6, .one (.adr 1 0))], [.box [.ro I, .nilsl], .box [.ro I, .ref 2], .sl 33 LI .deep]⟩)]
noncomputable def Zq14_l0 {R : Type} (N : Nat) (k0 : Int → Int → (List (List Int)) → Option R) : Nat → (List Int) → Int → Int → Int → Int → (List (List Int)) → Option R
 | 0, _, _, _, _, _, _ => none
 | K + 1, vars1, x, x1, o, o1, o2 =>
 (br (ilt x1 x)
 ((chk (inb o2 x1)
 (Zq14_l0_0 N (fun vars2 clause x2 x3 o3 o4 o5 => ((Zq47 N (rdL o5 clause)).bind fun r3 =>
 Zq14_l0 N k0 K vars2 x2 (IntKind.i64.wrap (x3 + 1)) o3 o4 (tSet o5 clause r3.2.1))) N vars1 x1 x x1 x1 (tLen (rdL o2 x1)) 0 o o1 o2)))
 (k0 o o1 o2))
noncomputable def Zq14_l0_again {R : Type} (N : Nat) (ks : KS Zq14_l0_ex R) (k : Nat) (x : Zq14_l0_sh.T) : Option R :=
 Zq14_l0 N (fun y0 y1 y2 => ks 0 (((), (), ()), ((y0, (), ()), (y1, (), ()), y2, ()))) k x.1.1 x.1.2.2.2.2.1 x.1.2.2.2.2.2.1 x.2.1.1 x.2.2.1.1 x.2.2.2.1
noncomputable def Zq14_l0_s (N : Nat) : LSum := ⟨Zq14_l0_sh, Zq14_l0_ex, fun x ks => Zq14_l0_again N ks N x⟩
theorem Zq14_l0_ok (N : Nat) : LoopOk Tryz.prog Tryz.f11.ntmps (Zq14_l0_s N) (loopAt Zq14_code 0) := loopQ (sh := Zq14_l0_sh) (ex := Zq14_l0_ex) (N := N) (L := [Zq14_l0_0_s N]) (fun R k x ks => Zq14_l0_again N ks k x) (Zq14_gok N) (fun _ _ _ => rfl) (fun R k x ks => by kernel_rfl) ⟨Zq14_l0_0_ok N, trivial⟩ (by kernel_rfl)
noncomputable def Zq14 (N : Nat) (f : (Int × (List (List Int)))) (vars : (List Int)) : Option (((Int × (List (List Int))) × Bool × Unit) × (Unit)) :=
 ((Zq13 N (f.1, f.2)).bind fun r =>
 (br (!r.1.1)
 (some (((0, []), false, ()), ()))
 (((Zq26 N vars f.1).bind fun r1 =>
 (br (!r1.1.1)
 (some (((0, []), false, ()), ()))
 (((Zq19 N f.2).bind fun r2 =>
 Zq14_l0 N (fun o o1 o2 => some (((o1, o2), true, ()), ())) N vars (tLen r2.1.1) 0 0 f.1 r2.1.1)))))))
noncomputable def Zq14_S (N : Nat) : FSum := ⟨Zq14_ps, Zq14_rs, fun x => Zq14 N x.1 x.2.1⟩
theorem Zq14_pc (N : Nat) : PC Tryz.prog 11 (Zq14_S N) := pcQ (L := [Zq14_l0_s N]) (Zq14_gok N) Tryz.call11 Tryz.func11 (fun x => by kernel_rfl) ⟨Zq14_l0_ok N, trivial⟩ (by kernel_rfl)

abbrev Zq68_ps : List (PV.Mode × Ty) := [(.ro, LI), (.ro, I), (.ro, I)]
abbrev Zq68_rs : List (Bool × Ty) := [(true, .bool)]
noncomputable def Zq68_G (N : Nat) : GTab := gOf [(42, Zq63_S N)]
theorem Zq68_gok (N : Nat) : GOk Tryz.prog (Zq68_G N) := gOf_ok ⟨Zq63_pc N, trivial⟩
noncomputable def Zq68_code : Code := (Tryz.f55.body).getD .skip
noncomputable def Zq68_l0_sh : Sh := ⟨[(0, .one (.ro LI)), (1, .one (.ro I)), (2, .one (.ro I)), (7, .one (.ro I))], []⟩
noncomputable def Zq68_l0_ex : List (Ex × Sh) := [(.ret, ⟨[(6, .one (.ro .bool))], []⟩), (.exit 0, ⟨[], []⟩)]
noncomputable def Zq68_l0 {R : Type} (N : Nat) (k0 : Bool → Option R) (k1 : Unit → Option R) : Nat → (List Int) → Int → Int → Int → Option R
 | 0, _, _, _, _ => none
 | K + 1, l1, lo1, hi1, i =>
 (br (ilt i (tLen l1))
 ((chk (inb l1 i)
 ((Zq63 N (rdI l1 i) lo1 hi1).bind fun r =>
 (br (!r.1.1)
 (k0 false)
 ((br (ilt 0 i)
 ((chk (inb l1 (IntKind.i64.wrap (i - 1)))
 (chk (inb l1 i)
 (br (ile (rdI l1 i) (rdI l1 (IntKind.i64.wrap (i - 1))))
 (k0 false)
 (Zq68_l0 N k0 k1 K l1 lo1 hi1 (IntKind.i64.wrap (i + 1)))))))
 (Zq68_l0 N k0 k1 K l1 lo1 hi1 (IntKind.i64.wrap (i + 1)))))))))
 (k1 ()))
noncomputable def Zq68_l0_again {R : Type} (N : Nat) (ks : KS Zq68_l0_ex R) (k : Nat) (x : Zq68_l0_sh.T) : Option R :=
 Zq68_l0 N (fun y0 => ks 0 ((y0, ()), ())) (fun (_ : Unit) => ks 1 ((), ())) k x.1.1 x.1.2.1 x.1.2.2.1 x.1.2.2.2.1
noncomputable def Zq68_l0_s (N : Nat) : LSum := ⟨Zq68_l0_sh, Zq68_l0_ex, fun x ks => Zq68_l0_again N ks N x⟩
theorem Zq68_l0_ok (N : Nat) : LoopOk Tryz.prog Tryz.f55.ntmps (Zq68_l0_s N) (loopAt Zq68_code 0) := loopQ (sh := Zq68_l0_sh) (ex := Zq68_l0_ex) (N := N) (L := []) (fun R k x ks => Zq68_l0_again N ks k x) (Zq68_gok N) (fun _ _ _ => rfl) (fun R k x ks => by kernel_rfl) trivial (by kernel_rfl)
noncomputable def Zq68 (N : Nat) (l : (List Int)) (lo : Int) (hi : Int) : Option ((Bool × Unit) × (Unit)) :=
 Zq68_l0 N (fun x => some ((x, ()), ())) (fun (_ : Unit) => some ((true, ()), ())) N l lo hi 0
noncomputable def Zq68_S (N : Nat) : FSum := ⟨Zq68_ps, Zq68_rs, fun x => Zq68 N x.1 x.2.1 x.2.2.1⟩
theorem Zq68_pc (N : Nat) : PC Tryz.prog 55 (Zq68_S N) := pcQ (L := [Zq68_l0_s N]) (Zq68_gok N) Tryz.call55 Tryz.func55 (fun x => by kernel_rfl) ⟨Zq68_l0_ok N, trivial⟩ (by kernel_rfl)

abbrev Zq62_ps : List (PV.Mode × Ty) := [(.ro, LI), (.ro, I)]
abbrev Zq62_rs : List (Bool × Ty) := [(true, .bool)]
noncomputable def Zq62_G (N : Nat) : GTab := gOf []
theorem Zq62_gok (N : Nat) : GOk Tryz.prog (Zq62_G N) := gOf_ok trivial
noncomputable def Zq62_code : Code := (Tryz.f56.body).getD .skip
noncomputable def Zq62_l0_sh : Sh := ⟨[(0, .one (.ro LI)), (1, .one (.ro I)), (5, .one (.ro I))], []⟩
noncomputable def Zq62_l0_ex : List (Ex × Sh) := [(.ret, ⟨[(4, .one (.ro .bool))], []⟩), (.exit 0, ⟨[], []⟩)]
noncomputable def Zq62_l0 {R : Type} (N : Nat) (k0 : Bool → Option R) (k1 : Unit → Option R) : Nat → (List Int) → Int → Int → Option R
 | 0, _, _, _ => none
 | K + 1, l1, n1, i =>
 (br (ilt i (tLen l1))
 ((chk (inb l1 i)
 (br (ieq (rdI l1 i) n1)
 (k0 true)
 (Zq62_l0 N k0 k1 K l1 n1 (IntKind.i64.wrap (i + 1))))))
 (k1 ()))
noncomputable def Zq62_l0_again {R : Type} (N : Nat) (ks : KS Zq62_l0_ex R) (k : Nat) (x : Zq62_l0_sh.T) : Option R :=
 Zq62_l0 N (fun y0 => ks 0 ((y0, ()), ())) (fun (_ : Unit) => ks 1 ((), ())) k x.1.1 x.1.2.1 x.1.2.2.1
noncomputable def Zq62_l0_s (N : Nat) : LSum := ⟨Zq62_l0_sh, Zq62_l0_ex, fun x ks => Zq62_l0_again N ks N x⟩
theorem Zq62_l0_ok (N : Nat) : LoopOk Tryz.prog Tryz.f56.ntmps (Zq62_l0_s N) (loopAt Zq62_code 0) := loopQ (sh := Zq62_l0_sh) (ex := Zq62_l0_ex) (N := N) (L := []) (fun R k x ks => Zq62_l0_again N ks k x) (Zq62_gok N) (fun _ _ _ => rfl) (fun R k x ks => by kernel_rfl) trivial (by kernel_rfl)
noncomputable def Zq62 (N : Nat) (l : (List Int)) (n : Int) : Option ((Bool × Unit) × (Unit)) :=
 Zq62_l0 N (fun x => some ((x, ()), ())) (fun (_ : Unit) => some ((false, ()), ())) N l n 0
noncomputable def Zq62_S (N : Nat) : FSum := ⟨Zq62_ps, Zq62_rs, fun x => Zq62 N x.1 x.2.1⟩
theorem Zq62_pc (N : Nat) : PC Tryz.prog 56 (Zq62_S N) := pcQ (L := [Zq62_l0_s N]) (Zq62_gok N) Tryz.call56 Tryz.func56 (fun x => by kernel_rfl) ⟨Zq62_l0_ok N, trivial⟩ (by kernel_rfl)

abbrev Zq56_ps : List (PV.Mode × Ty) := [(.ro, QILLI), (.ro, LI)]
abbrev Zq56_rs : List (Bool × Ty) := [(true, QILLI), (true, .bool)]
noncomputable def Zq56_G (N : Nat) : GTab := gOf [(36, Zq75_S N), (55, Zq68_S N), (47, Zq65_S N), (56, Zq62_S N), (57, Zq67_S N)]
theorem Zq56_gok (N : Nat) : GOk Tryz.prog (Zq56_G N) := gOf_ok ⟨Zq75_pc N, Zq68_pc N, Zq65_pc N, Zq62_pc N, Zq67_pc N, trivial⟩
noncomputable def Zq56_code : Code := (Tryz.f12.body).getD .skip
noncomputable def Zq56_l0_0_sh : Sh := ⟨[(1, .one (.ro LI)), (2, .one (.adr 0 0)), (4, .one (.adr 1 0)), (6, .one (.adr 2 0)), (7, .one (.ro I)), (8, .one (.ref 3)), (9, .one (.ro I))], [.box [.ro I, .ro LLI], .box [.ro I, .nilsl], .box [.ro I, .ref 4], .sl 3 I .own, .sl 33 LI .deep]⟩
noncomputable def Zq56_l0_0_ex : List (Ex × Sh) := [(.exit 2, ⟨[(1, .one (.ro LI)), (2, .one (.adr 0 0)), (4, .one (.adr 1 0)), (6, .one (.adr 2 0)), (7, .one (.ro I)), (8, .one (.ref 3))], [.box [.ro I, .ro LLI], .box [.ro I, .nilsl], .box [.ro I, .ref 4], .sl 3 I .own, .sl 33 LI .deep]⟩)]
noncomputable def Zq56_l0_0 {R : Type} (N : Nat) (k0 : (List Int) → Int → Int → (List (List Int)) → Int → Int → (List Int) → (List (List Int)) → Option R) : Nat → (List Int) → Int → Int → Int → (List (List Int)) → Int → Int → (List Int) → (List (List Int)) → Option R
 | 0, _, _, _, _, _, _, _, _, _ => none
 | K + 1, x2, x3, x4, o5, o6, o7, o8, o9, o10 =>
 (chk (inb o6 x3)
 (br (ilt x4 (tLen (rdL o6 x3)))
 ((chk (inb o6 x3)
 (chk (inb (rdL o6 x3) x4)
 ((Zq65 N (rdI (rdL o6 x3) x4) (IntKind.i64.wrap (0 - (rdI (rdL o6 x3) x4)))).bind fun r2 =>
 ((Zq62 N x2 (IntKind.i64.wrap (r2.1.1 - 1))).bind fun r3 =>
 (br r3.1.1
 (((Zq67 N o9 (IntKind.i64.wrap (0 - (rdI (rdL o6 x3) x4)))).bind fun r4 =>
 Zq56_l0_0 N k0 K x2 x3 (IntKind.i64.wrap (x4 + 1)) o5 o6 o7 o8 r4.1.1 o10))
 (((Zq67 N o9 (rdI (rdL o6 x3) x4)).bind fun r5 =>
 Zq56_l0_0 N k0 K x2 x3 (IntKind.i64.wrap (x4 + 1)) o5 o6 o7 o8 r5.1.1 o10))))))))
 (k0 x2 x3 o5 o6 o7 o8 o9 o10)))
noncomputable def Zq56_l0_0_again {R : Type} (N : Nat) (ks : KS Zq56_l0_0_ex R) (k : Nat) (x : Zq56_l0_0_sh.T) : Option R :=
 Zq56_l0_0 N (fun y0 y1 y2 y3 y4 y5 y6 y7 => ks 0 ((y0, (), (), (), y1, (), ()), ((y2, y3, ()), (y4, (), ()), (y5, (), ()), y6, y7, ()))) k x.1.1 x.1.2.2.2.2.1 x.1.2.2.2.2.2.2.1 x.2.1.1 x.2.1.2.1 x.2.2.1.1 x.2.2.2.1.1 x.2.2.2.2.1 x.2.2.2.2.2.1
noncomputable def Zq56_l0_0_s (N : Nat) : LSum := ⟨Zq56_l0_0_sh, Zq56_l0_0_ex, fun x ks => Zq56_l0_0_again N ks N x⟩
theorem Zq56_l0_0_ok (N : Nat) : LoopOk Tryz.prog Tryz.f12.ntmps (Zq56_l0_0_s N) (loopAt (loopAt Zq56_code 0) 0) := loopQ (sh := Zq56_l0_0_sh) (ex := Zq56_l0_0_ex) (N := N) (L := []) (fun R k x ks => Zq56_l0_0_again N ks k x) (Zq56_gok N) (fun _ _ _ => rfl) (fun R k x ks => by kernel_rfl) trivial (by kernel_rfl)
noncomputable def Zq56_l0_sh : Sh := ⟨[(1, .one (.ro LI)), (2, .one (.adr 0 0)), (4, .one (.adr 1 0)), (6, .one (.adr 2 0)), (7, .one (.ro I))], [.box [.ro I, .ro LLI], .box [.ro I, .nilsl], .box [.ro I, .ref 3], .sl 33 LI .deep]⟩
noncomputable def Zq56_l0_ex : List (Ex × Sh) := [(.exit 0, ⟨[(4, .one (.adr 0 0)), (6, .one (.adr 1 0))], [.box [.ro I, .nilsl], .box [.ro I, .ref 2], .sl 33 LI .deep]⟩)]
noncomputable def Zq56_l0 {R : Type} (N : Nat) (k0 : Int → Int → (List (List Int)) → Option R) : Nat → (List Int) → Int → Int → (List (List Int)) → Int → Int → (List (List Int)) → Option R
 | 0, _, _, _, _, _, _, _ => none
 | K + 1, x, x1, o, o1, o2, o3, o4 =>
 (br (ilt x1 (tLen o1))
 (Zq56_l0_0 N (fun x2 x3 o5 o6 o7 o8 o9 o10 => (chk (room o10 [o9])
 (Zq56_l0 N k0 K x2 (IntKind.i64.wrap (x3 + 1)) o5 o6 o7 o8 (tApp o10 [o9])))) N x x1 0 o o1 o2 o3 [] o4)
 (k0 o2 o3 o4))
noncomputable def Zq56_l0_again {R : Type} (N : Nat) (ks : KS Zq56_l0_ex R) (k : Nat) (x : Zq56_l0_sh.T) : Option R :=
 Zq56_l0 N (fun y0 y1 y2 => ks 0 (((), (), ()), ((y0, (), ()), (y1, (), ()), y2, ()))) k x.1.1 x.1.2.2.2.2.1 x.2.1.1 x.2.1.2.1 x.2.2.1.1 x.2.2.2.1.1 x.2.2.2.2.1
noncomputable def Zq56_l0_s (N : Nat) : LSum := ⟨Zq56_l0_sh, Zq56_l0_ex, fun x ks => Zq56_l0_again N ks N x⟩
theorem Zq56_l0_ok (N : Nat) : LoopOk Tryz.prog Tryz.f12.ntmps (Zq56_l0_s N) (loopAt Zq56_code 0) := loopQ (sh := Zq56_l0_sh) (ex := Zq56_l0_ex) (N := N) (L := [Zq56_l0_0_s N]) (fun R k x ks => Zq56_l0_again N ks k x) (Zq56_gok N) (fun _ _ _ => rfl) (fun R k x ks => by kernel_rfl) ⟨Zq56_l0_0_ok N, trivial⟩ (by kernel_rfl)
noncomputable def Zq56 (N : Nat) (c : (Int × (List (List Int)))) (c1 : (List Int)) : Option (((Int × (List (List Int))) × Bool × Unit) × (Unit)) :=
 ((Zq75 N (c.1, c.2)).bind fun r =>
 (br (!r.1.1)
 (some (((0, []), false, ()), ()))
 (((Zq68 N c1 0 (IntKind.i64.wrap (c.1 - 1))).bind fun r1 =>
 (br (!r1.1.1)
 (some (((0, []), false, ()), ()))
 (Zq56_l0 N (fun o o1 o2 => some (((o1, o2), true, ()), ())) N c1 0 c.1 c.2 0 c.1 []))))))
noncomputable def Zq56_S (N : Nat) : FSum := ⟨Zq56_ps, Zq56_rs, fun x => Zq56 N x.1 x.2.1⟩
theorem Zq56_pc (N : Nat) : PC Tryz.prog 12 (Zq56_S N) := pcQ (L := [Zq56_l0_s N]) (Zq56_gok N) Tryz.call12 Tryz.func12 (fun x => by kernel_rfl) ⟨Zq56_l0_ok N, trivial⟩ (by kernel_rfl)

abbrev Zq33_ps : List (PV.Mode × Ty) := [(.ro, LI), (.ro, LI)]
abbrev Zq33_rs : List (Bool × Ty) := [(true, .bool)]
noncomputable def Zq33_G (N : Nat) : GTab := gOf []
theorem Zq33_gok (N : Nat) : GOk Tryz.prog (Zq33_G N) := gOf_ok trivial
noncomputable def Zq33_code : Code := (Tryz.f30.body).getD .skip
noncomputable def Zq33_l0_sh : Sh := ⟨[(0, .one (.ro LI)), (1, .one (.ro LI)), (5, .one (.ro I))], []⟩
noncomputable def Zq33_l0_ex : List (Ex × Sh) := [(.ret, ⟨[(4, .one (.ro .bool))], []⟩), (.exit 0, ⟨[], []⟩)]
noncomputable def Zq33_l0 {R : Type} (N : Nat) (k0 : Bool → Option R) (k1 : Unit → Option R) : Nat → (List Int) → (List Int) → Int → Option R
 | 0, _, _, _ => none
 | K + 1, a1, b1, i =>
 (br (ilt i (tLen a1))
 ((chk (inb a1 i)
 (chk (inb b1 i)
 (br (ine (rdI a1 i) (rdI b1 i))
 (k0 false)
 (Zq33_l0 N k0 k1 K a1 b1 (IntKind.i64.wrap (i + 1)))))))
 (k1 ()))
noncomputable def Zq33_l0_again {R : Type} (N : Nat) (ks : KS Zq33_l0_ex R) (k : Nat) (x : Zq33_l0_sh.T) : Option R :=
 Zq33_l0 N (fun y0 => ks 0 ((y0, ()), ())) (fun (_ : Unit) => ks 1 ((), ())) k x.1.1 x.1.2.1 x.1.2.2.1
noncomputable def Zq33_l0_s (N : Nat) : LSum := ⟨Zq33_l0_sh, Zq33_l0_ex, fun x ks => Zq33_l0_again N ks N x⟩
theorem Zq33_l0_ok (N : Nat) : LoopOk Tryz.prog Tryz.f30.ntmps (Zq33_l0_s N) (loopAt Zq33_code 0) := loopQ (sh := Zq33_l0_sh) (ex := Zq33_l0_ex) (N := N) (L := []) (fun R k x ks => Zq33_l0_again N ks k x) (Zq33_gok N) (fun _ _ _ => rfl) (fun R k x ks => by kernel_rfl) trivial (by kernel_rfl)
noncomputable def Zq33 (N : Nat) (a : (List Int)) (b : (List Int)) : Option ((Bool × Unit) × (Unit)) :=
 (br (ine (tLen a) (tLen b))
 (some ((false, ()), ()))
 (Zq33_l0 N (fun x => some ((x, ()), ())) (fun (_ : Unit) => some ((true, ()), ())) N a b 0))
noncomputable def Zq33_S (N : Nat) : FSum := ⟨Zq33_ps, Zq33_rs, fun x => Zq33 N x.1 x.2.1⟩
theorem Zq33_pc (N : Nat) : PC Tryz.prog 30 (Zq33_S N) := pcQ (L := [Zq33_l0_s N]) (Zq33_gok N) Tryz.call30 Tryz.func30 (fun x => by kernel_rfl) ⟨Zq33_l0_ok N, trivial⟩ (by kernel_rfl)

abbrev Zq36_ps : List (PV.Mode × Ty) := [(.ro, LLI), (.ro, LLI)]
abbrev Zq36_rs : List (Bool × Ty) := [(true, .bool)]
noncomputable def Zq36_G (N : Nat) : GTab := gOf [(30, Zq33_S N)]
theorem Zq36_gok (N : Nat) : GOk Tryz.prog (Zq36_G N) := gOf_ok ⟨Zq33_pc N, trivial⟩
noncomputable def Zq36_code : Code := (Tryz.f13.body).getD .skip
noncomputable def Zq36_l0_sh : Sh := ⟨[(0, .one (.ro LLI)), (1, .one (.ro LLI)), (5, .one (.ro I))], []⟩
noncomputable def Zq36_l0_ex : List (Ex × Sh) := [(.ret, ⟨[(4, .one (.ro .bool))], []⟩), (.exit 0, ⟨[], []⟩)]
noncomputable def Zq36_l0 {R : Type} (N : Nat) (k0 : Bool → Option R) (k1 : Unit → Option R) : Nat → (List (List Int)) → (List (List Int)) → Int → Option R
 | 0, _, _, _ => none
 | K + 1, a1, b1, i =>
 (br (ilt i (tLen a1))
 ((chk (inb a1 i)
 (chk (inb b1 i)
 ((Zq33 N (rdL a1 i) (rdL b1 i)).bind fun r =>
 (br (!r.1.1)
 (k0 false)
 (Zq36_l0 N k0 k1 K a1 b1 (IntKind.i64.wrap (i + 1))))))))
 (k1 ()))
noncomputable def Zq36_l0_again {R : Type} (N : Nat) (ks : KS Zq36_l0_ex R) (k : Nat) (x : Zq36_l0_sh.T) : Option R :=
 Zq36_l0 N (fun y0 => ks 0 ((y0, ()), ())) (fun (_ : Unit) => ks 1 ((), ())) k x.1.1 x.1.2.1 x.1.2.2.1
noncomputable def Zq36_l0_s (N : Nat) : LSum := ⟨Zq36_l0_sh, Zq36_l0_ex, fun x ks => Zq36_l0_again N ks N x⟩
theorem Zq36_l0_ok (N : Nat) : LoopOk Tryz.prog Tryz.f13.ntmps (Zq36_l0_s N) (loopAt Zq36_code 0) := loopQ (sh := Zq36_l0_sh) (ex := Zq36_l0_ex) (N := N) (L := []) (fun R k x ks => Zq36_l0_again N ks k x) (Zq36_gok N) (fun _ _ _ => rfl) (fun R k x ks => by kernel_rfl) trivial (by kernel_rfl)
noncomputable def Zq36 (N : Nat) (a : (List (List Int))) (b : (List (List Int))) : Option ((Bool × Unit) × (Unit)) :=
 (br (ine (tLen a) (tLen b))
 (some ((false, ()), ()))
 (Zq36_l0 N (fun x => some ((x, ()), ())) (fun (_ : Unit) => some ((true, ()), ())) N a b 0))
noncomputable def Zq36_S (N : Nat) : FSum := ⟨Zq36_ps, Zq36_rs, fun x => Zq36 N x.1 x.2.1⟩
theorem Zq36_pc (N : Nat) : PC Tryz.prog 13 (Zq36_S N) := pcQ (L := [Zq36_l0_s N]) (Zq36_gok N) Tryz.call13 Tryz.func13 (fun x => by kernel_rfl) ⟨Zq36_l0_ok N, trivial⟩ (by kernel_rfl)

abbrev Zq49_ps : List (PV.Mode × Ty) := [(.ro, LU8)]
abbrev Zq49_rs : List (Bool × Ty) := [(false, I), (false, LLI)]
noncomputable def Zq49_G (N : Nat) : GTab := gOf [(37, Zq57_S N), (49, Zq61_S N), (50, Zq60_S N)]
theorem Zq49_gok (N : Nat) : GOk Tryz.prog (Zq49_G N) := gOf_ok ⟨Zq57_pc N, Zq61_pc N, Zq60_pc N, trivial⟩
noncomputable def Zq49_code : Code := (Tryz.f14.body).getD .skip
noncomputable def Zq49_l0_0_sh : Sh := ⟨[(4, .one (.adr 0 0)), (5, .one (.ro I)), (6, .one (.ref 1)), (7, .one (.ro I)), (8, .one (.ref 2)), (9, .one (.ro I))], [.mbox QOU8QIU64, .sl 33 LI .deep, .sl 3 I .own]⟩
noncomputable def Zq49_l0_0_ex : List (Ex × Sh) := [(.exit 2, ⟨[(4, .one (.adr 0 0)), (5, .one (.ro I)), (6, .one (.ref 1)), (7, .one (.ro I)), (8, .one (.ref 2))], [.mbox QOU8QIU64, .sl 33 LI .deep, .sl 3 I .own]⟩)]
noncomputable def Zq49_l0_0 {R : Type} (N : Nat) (k0 : Int → Int → ((List Int) × (Int × Int)) → (List (List Int)) → (List Int) → Option R) : Nat → Int → Int → Int → ((List Int) × (Int × Int)) → (List (List Int)) → (List Int) → Option R
 | 0, _, _, _, _, _, _ => none
 | K + 1, vars1, n1, v, o2, o3, o4 =>
 (br (ilt v vars1)
 (((Zq61 N o2 2).bind fun r2 =>
 (chk (room o4 [r2.1.1])
 (Zq49_l0_0 N k0 K vars1 n1 (IntKind.i64.wrap (v + 1)) r2.2.1 o3 (tApp o4 [r2.1.1])))))
 (k0 vars1 n1 o2 o3 o4))
noncomputable def Zq49_l0_0_again {R : Type} (N : Nat) (ks : KS Zq49_l0_0_ex R) (k : Nat) (x : Zq49_l0_0_sh.T) : Option R :=
 Zq49_l0_0 N (fun y0 y1 y2 y3 y4 => ks 0 (((), y0, (), y1, (), ()), (y2, y3, y4, ()))) k x.1.2.1 x.1.2.2.2.1 x.1.2.2.2.2.2.1 x.2.1 x.2.2.1 x.2.2.2.1
noncomputable def Zq49_l0_0_s (N : Nat) : LSum := ⟨Zq49_l0_0_sh, Zq49_l0_0_ex, fun x ks => Zq49_l0_0_again N ks N x⟩
theorem Zq49_l0_0_ok (N : Nat) : LoopOk Tryz.prog Tryz.f14.ntmps (Zq49_l0_0_s N) (loopAt (loopAt Zq49_code 0) 0) := loopQ (sh := Zq49_l0_0_sh) (ex := Zq49_l0_0_ex) (N := N) (L := []) (fun R k x ks => Zq49_l0_0_again N ks k x) (Zq49_gok N) (fun _ _ _ => rfl) (fun R k x ks => by kernel_rfl) trivial (by kernel_rfl)
noncomputable def Zq49_l0_sh : Sh := ⟨[(4, .one (.adr 0 0)), (5, .one (.ro I)), (6, .one (.ref 1)), (7, .one (.ro I))], [.mbox QOU8QIU64, .sl 33 LI .deep]⟩
noncomputable def Zq49_l0_ex : List (Ex × Sh) := [(.exit 0, ⟨[(4, .one (.adr 0 0)), (5, .one (.ro I)), (6, .one (.ref 1))], [.mbox QOU8QIU64, .sl 33 LI .deep]⟩)]
noncomputable def Zq49_l0 {R : Type} (N : Nat) (k0 : Int → ((List Int) × (Int × Int)) → (List (List Int)) → Option R) : Nat → Int → Int → ((List Int) × (Int × Int)) → (List (List Int)) → Option R
 | 0, _, _, _, _ => none
 | K + 1, vars, n, o, o1 =>
 (br (ilt 0 n)
 (Zq49_l0_0 N (fun vars1 n1 o2 o3 o4 => (chk (room o3 [o4])
 (Zq49_l0 N k0 K vars1 (IntKind.i64.wrap (n1 - 1)) o2 (tApp o3 [o4])))) N vars n 0 o o1 [])
 (k0 vars o o1))
noncomputable def Zq49_l0_again {R : Type} (N : Nat) (ks : KS Zq49_l0_ex R) (k : Nat) (x : Zq49_l0_sh.T) : Option R :=
 Zq49_l0 N (fun y0 y1 y2 => ks 0 (((), y0, (), ()), (y1, y2, ()))) k x.1.2.1 x.1.2.2.2.1 x.2.1 x.2.2.1
noncomputable def Zq49_l0_s (N : Nat) : LSum := ⟨Zq49_l0_sh, Zq49_l0_ex, fun x ks => Zq49_l0_again N ks N x⟩
theorem Zq49_l0_ok (N : Nat) : LoopOk Tryz.prog Tryz.f14.ntmps (Zq49_l0_s N) (loopAt Zq49_code 0) := loopQ (sh := Zq49_l0_sh) (ex := Zq49_l0_ex) (N := N) (L := [Zq49_l0_0_s N]) (fun R k x ks => Zq49_l0_again N ks k x) (Zq49_gok N) (fun _ _ _ => rfl) (fun R k x ks => by kernel_rfl) ⟨Zq49_l0_0_ok N, trivial⟩ (by kernel_rfl)
noncomputable def Zq49 (N : Nat) (code : (List Int)) : Option ((Int × (List (List Int)) × Unit) × (Unit)) :=
 ((Zq57 N (code, (0, 0)) [3, 2, 4, 1, 0, 6, 7, (-1)]).bind fun r =>
 ((Zq57 N r.2.1 [3, 5, 1, 0, 8]).bind fun r1 =>
 Zq49_l0 N (fun vars o o1 => ((Zq60 N o 16).bind fun r2 =>
 (br r2.1.1
 (((Zq57 N r2.2.1 [0, 2]).bind fun r3 =>
 (chk (room o1 [[r3.1.1]])
 (some ((vars, (tApp o1 [[r3.1.1]]), ()), ())))))
 (some ((vars, o1, ()), ()))))) N r.1.1 r1.1.1 r1.2.1 []))
noncomputable def Zq49_S (N : Nat) : FSum := ⟨Zq49_ps, Zq49_rs, fun x => Zq49 N x.1⟩
theorem Zq49_pc (N : Nat) : PC Tryz.prog 14 (Zq49_S N) := pcQ (L := [Zq49_l0_s N]) (Zq49_gok N) Tryz.call14 Tryz.func14 (fun x => by kernel_rfl) ⟨Zq49_l0_ok N, trivial⟩ (by kernel_rfl)

abbrev Zq24_ps : List (PV.Mode × Ty) := [(.ro, I)]
abbrev Zq24_rs : List (Bool × Ty) := [(true, .bool)]
noncomputable def Zq24_G (N : Nat) : GTab := gOf [(39, Zq18_S N)]
theorem Zq24_gok (N : Nat) : GOk Tryz.prog (Zq24_G N) := gOf_ok ⟨Zq18_pc N, trivial⟩
noncomputable def Zq24_code : Code := (Tryz.f90.body).getD .skip
noncomputable def Zq24 (N : Nat) (n : Int) : Option ((Bool × Unit) × (Unit)) :=
 ((Zq18 N n 0 1).bind fun r =>
 some (((!r.1.1), ()), ()))
noncomputable def Zq24_S (N : Nat) : FSum := ⟨Zq24_ps, Zq24_rs, fun x => Zq24 N x.1⟩
theorem Zq24_pc (N : Nat) : PC Tryz.prog 90 (Zq24_S N) := pcQ (L := []) (Zq24_gok N) Tryz.call90 Tryz.func90 (fun x => by kernel_rfl) trivial (by kernel_rfl)
end Go.Proofs.YtfilchmabmfmaaaGreat
