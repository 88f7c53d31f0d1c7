/- Functions of the program as functions on data. -/
import Derived.Test.YtfilchmabmfmaaaGreatParitiesFc
set_option linter.all false
namespace Go.Proofs.YtfilchmabmfmaaaGreat
open Go Go.PV
abbrev Zq49_ps : List (PV.Mode × Ty) := [(.ro, U64), (.ro, U64)]
abbrev Zq49_rs : List (Bool × Ty) := [(true, U64), (true, U64)]
noncomputable def Zq49_G (N : Nat) : GTab := gOf []
theorem Zq49_gok (N : Nat) : GOk Tryz.prog (Zq49_G N) := gOf_ok trivial
noncomputable def Zq49_code : Code := (Tryz.f157.body).getD .skip
noncomputable def Zq49 (N : Nat) (x : Int) (y : Int) : Option ((Int × Int × Unit) × (Unit)) :=
 some (((IntKind.u64.wrap ((IntKind.u64.wrap ((IntKind.u64.wrap ((shrI .u64 x 32) * (shrI .u64 y 32))) + (shrI .u64 (IntKind.u64.wrap ((IntKind.u64.wrap ((shrI .u64 x 32) * (bitop .and .u64 y 4294967295))) + (shrI .u64 (IntKind.u64.wrap ((bitop .and .u64 x 4294967295) * (bitop .and .u64 y 4294967295))) 32))) 32))) + (shrI .u64 (IntKind.u64.wrap ((bitop .and .u64 (IntKind.u64.wrap ((IntKind.u64.wrap ((shrI .u64 x 32) * (bitop .and .u64 y 4294967295))) + (shrI .u64 (IntKind.u64.wrap ((bitop .and .u64 x 4294967295) * (bitop .and .u64 y 4294967295))) 32))) 4294967295) + (IntKind.u64.wrap ((bitop .and .u64 x 4294967295) * (shrI .u64 y 32))))) 32))), (IntKind.u64.wrap (x * y)), ()), ())
noncomputable def Zq49_S (N : Nat) : FSum := ⟨Zq49_ps, Zq49_rs, fun x => Zq49 N x.1 x.2.1⟩
theorem Zq49_pc (N : Nat) : PC Tryz.prog 157 (Zq49_S N) := pcQ (L := []) (Zq49_gok N) Tryz.call157 Tryz.func157 (fun x => by kernel_rfl) trivial (by kernel_rfl)

abbrev Zq48_ps : List (PV.Mode × Ty) := [(.ro, U64), (.ro, U64)]
abbrev Zq48_rs : List (Bool × Ty) := [(true, U64), (true, U64)]
noncomputable def Zq48_G (N : Nat) : GTab := gOf [(157, Zq49_S N)]
theorem Zq48_gok (N : Nat) : GOk Tryz.prog (Zq48_G N) := gOf_ok ⟨Zq49_pc N, trivial⟩
noncomputable def Zq48_code : Code := (Tryz.f147.body).getD .skip
noncomputable def Zq48 (N : Nat) (x : Int) (y : Int) : Option ((Int × Int × Unit) × (Unit)) :=
 ((Zq49 N x y).bind fun r =>
 some ((r.1.1, r.1.2.1, ()), ()))
noncomputable def Zq48_S (N : Nat) : FSum := ⟨Zq48_ps, Zq48_rs, fun x => Zq48 N x.1 x.2.1⟩
theorem Zq48_pc (N : Nat) : PC Tryz.prog 147 (Zq48_S N) := pcQ (L := []) (Zq48_gok N) Tryz.call147 Tryz.func147 (fun x => by kernel_rfl) trivial (by kernel_rfl)

abbrev Zq58_ps : List (PV.Mode × Ty) := [(.ro, LI), (.ro, I)]
abbrev Zq58_rs : List (Bool × Ty) := [(true, LI)]
noncomputable def Zq58_G (N : Nat) : GTab := gOf [(147, Zq48_S N)]
theorem Zq58_gok (N : Nat) : GOk Tryz.prog (Zq58_G N) := gOf_ok ⟨Zq48_pc N, trivial⟩
noncomputable def Zq58_code : Code := (Tryz.f127.body).getD .skip
noncomputable def Zq58_l0_sh : Sh := ⟨[(7, .one (.ref 0)), (8, .one (.ro I))], [.sl 3 I .own]⟩
noncomputable def Zq58_l0_ex : List (Ex × Sh) := [(.exit 0, ⟨[(7, .one (.ref 0))], [.sl 3 I .own]⟩)]
noncomputable def Zq58_l0 {R : Type} (N : Nat) (k0 : (List Int) → Option R) : Nat → Int → (List Int) → Option R
 | 0, _, _ => none
 | K + 1, n, o =>
 (br (ilt n (tLen o))
 ((chk (ile 0 n && ile n (tLen o) && ile (tLen o) (tLen o))
 (chk (ile 0 0 && ile 0 n && ile n (tLen o))
 (Zq58_l0 N k0 K (IntKind.i64.wrap (n + (tMin ((tLen o) - n) (tLen (tCut o 0 n))))) (tPut o n (tCut (tCut o 0 n) 0 (tMin ((tLen o) - n) (tLen (tCut o 0 n)))))))))
 (k0 o))
noncomputable def Zq58_l0_again {R : Type} (N : Nat) (ks : KS Zq58_l0_ex R) (k : Nat) (x : Zq58_l0_sh.T) : Option R :=
 Zq58_l0 N (fun y0 => ks 0 (((), ()), (y0, ()))) k x.1.2.1 x.2.1
noncomputable def Zq58_l0_s (N : Nat) : LSum := ⟨Zq58_l0_sh, Zq58_l0_ex, fun x ks => Zq58_l0_again N ks N x⟩
theorem Zq58_l0_ok (N : Nat) : LoopOk Tryz.prog Tryz.f127.ntmps (Zq58_l0_s N) (loopAt Zq58_code 0) := loopQ (sh := Zq58_l0_sh) (ex := Zq58_l0_ex) (N := N) (L := []) (fun R k x ks => Zq58_l0_again N ks k x) (Zq58_gok N) (fun _ _ _ => rfl) (fun R k x ks => by kernel_rfl) trivial (by kernel_rfl)
noncomputable def Zq58 (N : Nat) (x : (List Int)) (count : Int) : Option (((List Int) × Unit) × (Unit)) :=
 (br (ilt count 0)
 (none)
 (((Zq48 N (IntKind.u64.wrap ((tLen x))) (IntKind.u64.wrap (count))).bind fun r =>
 (br (ilt 0 r.1.1)
 (none)
 ((br (ilt 9223372036854775807 r.1.2.1)
 (none)
 ((chk (ile 0 (IntKind.i64.wrap (r.1.2.1)) && ile (IntKind.i64.wrap (r.1.2.1)) (IntKind.i64.wrap (r.1.2.1)) && fits (IntKind.i64.wrap (r.1.2.1)))
 (Zq58_l0 N (fun o => some ((o, ()), ())) N (tMin (tLen (tRep (IntKind.i64.wrap (r.1.2.1)) (0 : Int))) (tLen x)) (tPut (tRep (IntKind.i64.wrap (r.1.2.1)) (0 : Int)) 0 (tCut x 0 (tMin (tLen (tRep (IntKind.i64.wrap (r.1.2.1)) (0 : Int))) (tLen x)))))))))))))
noncomputable def Zq58_S (N : Nat) : FSum := ⟨Zq58_ps, Zq58_rs, fun x => Zq58 N x.1 x.2.1⟩
theorem Zq58_pc (N : Nat) : PC Tryz.prog 127 (Zq58_S N) := pcQ (L := [Zq58_l0_s N]) (Zq58_gok N) Tryz.call127 Tryz.func127 (fun x => by kernel_rfl) ⟨Zq58_l0_ok N, trivial⟩ (by kernel_rfl)

abbrev Zq39_ps : List (PV.Mode × Ty) := [(.ro, LLI), (.ro, I)]
abbrev Zq39_rs : List (Bool × Ty) := [(true, LI)]
noncomputable def Zq39_G (N : Nat) : GTab := gOf [(127, Zq58_S N)]
theorem Zq39_gok (N : Nat) : GOk Tryz.prog (Zq39_G N) := gOf_ok ⟨Zq58_pc N, trivial⟩
noncomputable def Zq39_code : Code := (Tryz.f103.body).getD .skip
noncomputable def Zq39_l0_0_sh : Sh := ⟨[(0, .one (.ro LLI)), (5, .one (.ref 0)), (6, .one (.sub 1 1)), (7, .one (.ro I)), (30, .one (.ro LI)), (31, .one (.ro I)), (32, .one (.ro I))], [.sl 3 I .own, .sl 3 I .own]⟩
noncomputable def Zq39_l0_0_ex : List (Ex × Sh) := [(.exit 2, ⟨[(0, .one (.ro LLI)), (5, .one (.ref 0)), (6, .one (.sub 1 1))], [.sl 3 I .own, .sl 3 I .own]⟩)]
noncomputable def Zq39_l0_0 {R : Type} (N : Nat) (k0 : (List (List Int)) → Int → Int → (List Int) → (List Int) → Option R) : Nat → (List (List Int)) → Int → Int → Int → (List Int) → Int → Int → (List Int) → (List Int) → Option R
 | 0, _, _, _, _, _, _, _, _, _ => none
 | K + 1, roads2, queue2, queue3, i, x, x1, x2, o2, o3 =>
 (br (ilt x2 x1)
 ((chk (inb x x2)
 (chk (inb o2 (rdI x x2))
 (br (ilt (rdI o2 (rdI x x2)) 0)
 ((chk (inb o2 i)
 (chk (inb o2 (rdI x x2))
 (chk (room (tCut o3 queue2 queue3) [(rdI x x2)])
 (Zq39_l0_0 N k0 K roads2 0 (tLen (tApp (tCut o3 queue2 queue3) [(rdI x x2)])) i x x1 (IntKind.i64.wrap (x2 + 1)) (tSet o2 (rdI x x2) (IntKind.i64.wrap ((rdI o2 i) + 1))) (tApp (tCut o3 queue2 queue3) [(rdI x x2)]))))))
 (Zq39_l0_0 N k0 K roads2 queue2 queue3 i x x1 (IntKind.i64.wrap (x2 + 1)) o2 o3)))))
 (k0 roads2 queue2 queue3 o2 o3))
noncomputable def Zq39_l0_0_again {R : Type} (N : Nat) (ks : KS Zq39_l0_0_ex R) (k : Nat) (x : Zq39_l0_0_sh.T) : Option R :=
 Zq39_l0_0 N (fun y0 y1 y2 y3 y4 => ks 0 ((y0, (), (y1, y2), ()), (y3, y4, ()))) k x.1.1 x.1.2.2.1.1 x.1.2.2.1.2 x.1.2.2.2.1 x.1.2.2.2.2.1 x.1.2.2.2.2.2.1 x.1.2.2.2.2.2.2.1 x.2.1 x.2.2.1
noncomputable def Zq39_l0_0_s (N : Nat) : LSum := ⟨Zq39_l0_0_sh, Zq39_l0_0_ex, fun x ks => Zq39_l0_0_again N ks N x⟩
theorem Zq39_l0_0_ok (N : Nat) : LoopOk Tryz.prog Tryz.f103.ntmps (Zq39_l0_0_s N) (loopAt (loopAt Zq39_code 0) 0) := loopQ (sh := Zq39_l0_0_sh) (ex := Zq39_l0_0_ex) (N := N) (L := []) (fun R k x ks => Zq39_l0_0_again N ks k x) (Zq39_gok N) (fun _ _ _ => rfl) (fun R k x ks => by kernel_rfl) trivial (by kernel_rfl)
noncomputable def Zq39_l0_sh : Sh := ⟨[(0, .one (.ro LLI)), (5, .one (.ref 0)), (6, .one (.sub 1 1))], [.sl 3 I .own, .sl 3 I .own]⟩
noncomputable def Zq39_l0_ex : List (Ex × Sh) := [(.exit 0, ⟨[(5, .one (.ref 0))], [.sl 3 I .own]⟩)]
noncomputable def Zq39_l0 {R : Type} (N : Nat) (k0 : (List Int) → Option R) : Nat → (List (List Int)) → Int → Int → (List Int) → (List Int) → Option R
 | 0, _, _, _, _, _ => none
 | K + 1, roads1, queue, queue1, o, o1 =>
 (br (ilt 0 (queue1 - queue))
 ((chk (ile 0 0 && ilt 0 (queue1 - queue))
 (chk (ile 0 1 && ile 1 (queue1 - queue) && ile (queue1 - queue) (queue1 - queue))
 (chk (inb roads1 (rdI o1 (queue + 0)))
 (Zq39_l0_0 N (fun roads2 queue2 queue3 o2 o3 => Zq39_l0 N k0 K roads2 queue2 queue3 o2 o3) N roads1 (queue + 1) (queue + (queue1 - queue)) (rdI o1 (queue + 0)) (rdL roads1 (rdI o1 (queue + 0))) (tLen (rdL roads1 (rdI o1 (queue + 0)))) 0 o o1)))))
 (k0 o))
noncomputable def Zq39_l0_again {R : Type} (N : Nat) (ks : KS Zq39_l0_ex R) (k : Nat) (x : Zq39_l0_sh.T) : Option R :=
 Zq39_l0 N (fun y0 => ks 0 (((), ()), (y0, ()))) k x.1.1 x.1.2.2.1.1 x.1.2.2.1.2 x.2.1 x.2.2.1
noncomputable def Zq39_l0_s (N : Nat) : LSum := ⟨Zq39_l0_sh, Zq39_l0_ex, fun x ks => Zq39_l0_again N ks N x⟩
theorem Zq39_l0_ok (N : Nat) : LoopOk Tryz.prog Tryz.f103.ntmps (Zq39_l0_s N) (loopAt Zq39_code 0) := loopQ (sh := Zq39_l0_sh) (ex := Zq39_l0_ex) (N := N) (L := [Zq39_l0_0_s N]) (fun R k x ks => Zq39_l0_again N ks k x) (Zq39_gok N) (fun _ _ _ => rfl) (fun R k x ks => by kernel_rfl) ⟨Zq39_l0_0_ok N, trivial⟩ (by kernel_rfl)
noncomputable def Zq39 (N : Nat) (roads : (List (List Int))) (fromv : Int) : Option (((List Int) × Unit) × (Unit)) :=
 ((Zq58 N [(-1)] (tLen roads)).bind fun r =>
 (chk (inb r.1.1 fromv)
 (Zq39_l0 N (fun o => some ((o, ()), ())) N roads 0 (tLen [fromv]) (tSet r.1.1 fromv 0) [fromv])))
noncomputable def Zq39_S (N : Nat) : FSum := ⟨Zq39_ps, Zq39_rs, fun x => Zq39 N x.1 x.2.1⟩
theorem Zq39_pc (N : Nat) : PC Tryz.prog 103 (Zq39_S N) := pcQ (L := [Zq39_l0_s N]) (Zq39_gok N) Tryz.call103 Tryz.func103 (fun x => by kernel_rfl) ⟨Zq39_l0_ok N, trivial⟩ (by kernel_rfl)

abbrev Zq3_ps : List (PV.Mode × Ty) := [(.ro, QLLILQII), (.ro, I)]
abbrev Zq3_rs : List (Bool × Ty) := [(true, LI), (true, .bool)]
noncomputable def Zq3_G (N : Nat) : GTab := gOf [(101, Zq12_S N), (102, Zq19_S N), (104, Zq20_S N), (103, Zq39_S N)]
theorem Zq3_gok (N : Nat) : GOk Tryz.prog (Zq3_G N) := gOf_ok ⟨Zq12_pc N, Zq19_pc N, Zq20_pc N, Zq39_pc N, trivial⟩
noncomputable def Zq3_code : Code := (Tryz.f76.body).getD .skip
noncomputable def Zq3 (N : Nat) (x : ((List (List Int)) × (List (Int × Int)))) (i : Int) : Option (((List Int) × Bool × Unit) × (Unit)) :=
 ((Zq12 N (x.1, x.2)).bind fun r =>
 (br (!r.1.1)
 (some (([], false, ()), ()))
 (((Zq19 N (x.1, x.2) i).bind fun r1 =>
 (br (!r1.1.1)
 (some (([], false, ()), ()))
 (((Zq20 N (x.1, x.2)).bind fun r2 =>
 ((Zq39 N r2.1.1 i).bind fun r3 =>
 some ((r3.1.1, true, ()), ())))))))))
noncomputable def Zq3_S (N : Nat) : FSum := ⟨Zq3_ps, Zq3_rs, fun x => Zq3 N x.1 x.2.1⟩
theorem Zq3_pc (N : Nat) : PC Tryz.prog 76 (Zq3_S N) := pcQ (L := []) (Zq3_gok N) Tryz.call76 Tryz.func76 (fun x => by kernel_rfl) trivial (by kernel_rfl)

abbrev Zq84_ps : List (PV.Mode × Ty) := [(.ro, LI)]
abbrev Zq84_rs : List (Bool × Ty) := [(true, .bool)]
noncomputable def Zq84_G (N : Nat) : GTab := gOf [(42, Zq72_S N)]
theorem Zq84_gok (N : Nat) : GOk Tryz.prog (Zq84_G N) := gOf_ok ⟨Zq72_pc N, trivial⟩
noncomputable def Zq84_code : Code := (Tryz.f148.body).getD .skip
noncomputable def Zq84_l0_sh : Sh := ⟨[(0, .one (.ro LI)), (3, .one (.ro I))], []⟩
noncomputable def Zq84_l0_ex : List (Ex × Sh) := [(.ret, ⟨[(2, .one (.ro .bool))], []⟩), (.exit 0, ⟨[(0, .one (.ro LI))], []⟩)]
noncomputable def Zq84_l0 {R : Type} (N : Nat) (k0 : Bool → Option R) (k1 : (List Int) → Option R) : Nat → (List Int) → Int → Option R
 | 0, _, _ => none
 | K + 1, state1, i =>
 (br (ilt i (tLen state1))
 ((chk (inb state1 i)
 ((Zq72 N (rdI state1 i) (-99) 99).bind fun r =>
 (br (!r.1.1)
 (k0 false)
 (Zq84_l0 N k0 k1 K state1 (IntKind.i64.wrap (i + 1)))))))
 (k1 state1))
noncomputable def Zq84_l0_again {R : Type} (N : Nat) (ks : KS Zq84_l0_ex R) (k : Nat) (x : Zq84_l0_sh.T) : Option R :=
 Zq84_l0 N (fun y0 => ks 0 ((y0, ()), ())) (fun y0 => ks 1 ((y0, ()), ())) k x.1.1 x.1.2.1
noncomputable def Zq84_l0_s (N : Nat) : LSum := ⟨Zq84_l0_sh, Zq84_l0_ex, fun x ks => Zq84_l0_again N ks N x⟩
theorem Zq84_l0_ok (N : Nat) : LoopOk Tryz.prog Tryz.f148.ntmps (Zq84_l0_s N) (loopAt Zq84_code 0) := loopQ (sh := Zq84_l0_sh) (ex := Zq84_l0_ex) (N := N) (L := []) (fun R k x ks => Zq84_l0_again N ks k x) (Zq84_gok N) (fun _ _ _ => rfl) (fun R k x ks => by kernel_rfl) trivial (by kernel_rfl)
noncomputable def Zq84 (N : Nat) (state : (List Int)) : Option ((Bool × Unit) × (Unit)) :=
 Zq84_l0 N (fun x => some ((x, ()), ())) (fun state1 => some (((ile (tLen state1) 24), ()), ())) N state 0
noncomputable def Zq84_S (N : Nat) : FSum := ⟨Zq84_ps, Zq84_rs, fun x => Zq84 N x.1⟩
theorem Zq84_pc (N : Nat) : PC Tryz.prog 148 (Zq84_S N) := pcQ (L := [Zq84_l0_s N]) (Zq84_gok N) Tryz.call148 Tryz.func148 (fun x => by kernel_rfl) ⟨Zq84_l0_ok N, trivial⟩ (by kernel_rfl)

abbrev Zq75_ps : List (PV.Mode × Ty) := [(.ro, LI), (.ro, LI)]
abbrev Zq75_rs : List (Bool × Ty) := [(true, .bool)]
noncomputable def Zq75_G (N : Nat) : GTab := gOf []
theorem Zq75_gok (N : Nat) : GOk Tryz.prog (Zq75_G N) := gOf_ok trivial
noncomputable def Zq75_code : Code := (Tryz.f149.body).getD .skip
noncomputable def Zq75_l0_sh : Sh := ⟨[(0, .one (.ro LI)), (1, .one (.ro LI)), (5, .one (.ro I))], []⟩
noncomputable def Zq75_l0_ex : List (Ex × Sh) := [(.ret, ⟨[(4, .one (.ro .bool))], []⟩), (.exit 0, ⟨[(0, .one (.ro LI)), (1, .one (.ro LI))], []⟩)]
noncomputable def Zq75_l0 {R : Type} (N : Nat) (k0 : Bool → Option R) (k1 : (List Int) → (List Int) → Option R) : Nat → (List Int) → (List Int) → Int → Option R
 | 0, _, _, _ => none
 | K + 1, a1, b1, i =>
 (br (ilt i (tLen a1))
 ((br (ilt i (tLen b1))
 ((chk (inb a1 i)
 (chk (inb b1 i)
 (br (ine (rdI a1 i) (rdI b1 i))
 ((chk (inb a1 i)
 (chk (inb b1 i)
 (k0 (ilt (rdI a1 i) (rdI b1 i))))))
 (Zq75_l0 N k0 k1 K a1 b1 (IntKind.i64.wrap (i + 1)))))))
 (k1 a1 b1)))
 (k1 a1 b1))
noncomputable def Zq75_l0_again {R : Type} (N : Nat) (ks : KS Zq75_l0_ex R) (k : Nat) (x : Zq75_l0_sh.T) : Option R :=
 Zq75_l0 N (fun y0 => ks 0 ((y0, ()), ())) (fun y0 y1 => ks 1 ((y0, y1, ()), ())) k x.1.1 x.1.2.1 x.1.2.2.1
noncomputable def Zq75_l0_s (N : Nat) : LSum := ⟨Zq75_l0_sh, Zq75_l0_ex, fun x ks => Zq75_l0_again N ks N x⟩
theorem Zq75_l0_ok (N : Nat) : LoopOk Tryz.prog Tryz.f149.ntmps (Zq75_l0_s N) (loopAt Zq75_code 0) := loopQ (sh := Zq75_l0_sh) (ex := Zq75_l0_ex) (N := N) (L := []) (fun R k x ks => Zq75_l0_again N ks k x) (Zq75_gok N) (fun _ _ _ => rfl) (fun R k x ks => by kernel_rfl) trivial (by kernel_rfl)
noncomputable def Zq75 (N : Nat) (a : (List Int)) (b : (List Int)) : Option ((Bool × Unit) × (Unit)) :=
 Zq75_l0 N (fun x => some ((x, ()), ())) (fun a1 b1 => some (((ilt (tLen a1) (tLen b1)), ()), ())) N a b 0
noncomputable def Zq75_S (N : Nat) : FSum := ⟨Zq75_ps, Zq75_rs, fun x => Zq75 N x.1 x.2.1⟩
theorem Zq75_pc (N : Nat) : PC Tryz.prog 149 (Zq75_S N) := pcQ (L := [Zq75_l0_s N]) (Zq75_gok N) Tryz.call149 Tryz.func149 (fun x => by kernel_rfl) ⟨Zq75_l0_ok N, trivial⟩ (by kernel_rfl)

abbrev Zq78_ps : List (PV.Mode × Ty) := [(.ro, QII), (.ro, QII)]
abbrev Zq78_rs : List (Bool × Ty) := [(true, .bool)]
noncomputable def Zq78_G (N : Nat) : GTab := gOf []
theorem Zq78_gok (N : Nat) : GOk Tryz.prog (Zq78_G N) := gOf_ok trivial
noncomputable def Zq78_code : Code := (Tryz.f158.body).getD .skip
noncomputable def Zq78 (N : Nat) (a : (Int × Int)) (b : (Int × Int)) : Option ((Bool × Unit) × (Unit)) :=
 (br (ilt a.1 b.1)
 (some ((true, ()), ()))
 ((br (ieq a.1 b.1)
 (some (((ilt a.2 b.2), ()), ()))
 (some ((false, ()), ())))))
noncomputable def Zq78_S (N : Nat) : FSum := ⟨Zq78_ps, Zq78_rs, fun x => Zq78 N x.1 x.2.1⟩
theorem Zq78_pc (N : Nat) : PC Tryz.prog 158 (Zq78_S N) := pcQ (L := []) (Zq78_gok N) Tryz.call158 Tryz.func158 (fun x => by kernel_rfl) trivial (by kernel_rfl)

abbrev Zq80_ps : List (PV.Mode × Ty) := [(.ro, LQII), (.ro, I)]
abbrev Zq80_rs : List (Bool × Ty) := [(true, .bool)]
noncomputable def Zq80_G (N : Nat) : GTab := gOf [(42, Zq72_S N), (158, Zq78_S N)]
theorem Zq80_gok (N : Nat) : GOk Tryz.prog (Zq80_G N) := gOf_ok ⟨Zq72_pc N, Zq78_pc N, trivial⟩
noncomputable def Zq80_code : Code := (Tryz.f150.body).getD .skip
noncomputable def Zq80_l0_sh : Sh := ⟨[(0, .one (.ro LQII)), (1, .one (.ro I)), (5, .one (.ro I))], []⟩
noncomputable def Zq80_l0_ex : List (Ex × Sh) := [(.ret, ⟨[(4, .one (.ro .bool))], []⟩), (.exit 0, ⟨[], []⟩)]
noncomputable def Zq80_l0 {R : Type} (N : Nat) (k0 : Bool → Option R) (k1 : Unit → Option R) : Nat → (List (Int × Int)) → Int → Int → Option R
 | 0, _, _, _ => none
 | K + 1, pairs1, n1, i =>
 (br (ilt i (tLen pairs1))
 ((chk (inb pairs1 i)
 ((Zq72 N ((rdP pairs1 i).1) 0 (IntKind.i64.wrap (n1 - 1))).bind fun r =>
 (br (!r.1.1)
 (k0 false)
 (((Zq72 N ((rdP pairs1 i).2) 0 (IntKind.i64.wrap (n1 - 1))).bind fun r1 =>
 (br (!r1.1.1)
 (k0 false)
 ((br (ile ((rdP pairs1 i).2) ((rdP pairs1 i).1))
 (k0 false)
 ((br (ilt 0 i)
 ((chk (inb pairs1 (IntKind.i64.wrap (i - 1)))
 ((Zq78 N (rdP pairs1 (IntKind.i64.wrap (i - 1))) ((rdP pairs1 i).1, (rdP pairs1 i).2)).bind fun r2 =>
 (br (!r2.1.1)
 (k0 false)
 (Zq80_l0 N k0 k1 K pairs1 n1 (IntKind.i64.wrap (i + 1)))))))
 (Zq80_l0 N k0 k1 K pairs1 n1 (IntKind.i64.wrap (i + 1))))))))))))))
 (k1 ()))
noncomputable def Zq80_l0_again {R : Type} (N : Nat) (ks : KS Zq80_l0_ex R) (k : Nat) (x : Zq80_l0_sh.T) : Option R :=
 Zq80_l0 N (fun y0 => ks 0 ((y0, ()), ())) (fun (_ : Unit) => ks 1 ((), ())) k x.1.1 x.1.2.1 x.1.2.2.1
noncomputable def Zq80_l0_s (N : Nat) : LSum := ⟨Zq80_l0_sh, Zq80_l0_ex, fun x ks => Zq80_l0_again N ks N x⟩
theorem Zq80_l0_ok (N : Nat) : LoopOk Tryz.prog Tryz.f150.ntmps (Zq80_l0_s N) (loopAt Zq80_code 0) := loopQ (sh := Zq80_l0_sh) (ex := Zq80_l0_ex) (N := N) (L := []) (fun R k x ks => Zq80_l0_again N ks k x) (Zq80_gok N) (fun _ _ _ => rfl) (fun R k x ks => by kernel_rfl) trivial (by kernel_rfl)
noncomputable def Zq80 (N : Nat) (pairs : (List (Int × Int))) (n : Int) : Option ((Bool × Unit) × (Unit)) :=
 Zq80_l0 N (fun x => some ((x, ()), ())) (fun (_ : Unit) => some ((true, ()), ())) N pairs n 0
noncomputable def Zq80_S (N : Nat) : FSum := ⟨Zq80_ps, Zq80_rs, fun x => Zq80 N x.1 x.2.1⟩
theorem Zq80_pc (N : Nat) : PC Tryz.prog 150 (Zq80_S N) := pcQ (L := [Zq80_l0_s N]) (Zq80_gok N) Tryz.call150 Tryz.func150 (fun x => by kernel_rfl) ⟨Zq80_l0_ok N, trivial⟩ (by kernel_rfl)

abbrev Zq82_ps : List (PV.Mode × Ty) := [(.ro, QLLILQII)]
abbrev Zq82_rs : List (Bool × Ty) := [(true, .bool)]
noncomputable def Zq82_G (N : Nat) : GTab := gOf [(148, Zq84_S N), (149, Zq75_S N), (150, Zq80_S N)]
theorem Zq82_gok (N : Nat) : GOk Tryz.prog (Zq82_G N) := gOf_ok ⟨Zq84_pc N, Zq75_pc N, Zq80_pc N, trivial⟩
noncomputable def Zq82_code : Code := (Tryz.f128.body).getD .skip
noncomputable def Zq82_l0_sh : Sh := ⟨[(1, .one (.adr 0 0)), (3, .one (.ro I))], [.box [.ro LLI, .ro LQII]]⟩
noncomputable def Zq82_l0_ex : List (Ex × Sh) := [(.ret, ⟨[(2, .one (.ro .bool))], []⟩), (.exit 0, ⟨[(1, .one (.adr 0 0))], [.box [.ro LLI, .ro LQII]]⟩)]
noncomputable def Zq82_l0 {R : Type} (N : Nat) (k0 : Bool → Option R) (k1 : (List (List Int)) → (List (Int × Int)) → Option R) : Nat → Int → (List (List Int)) → (List (Int × Int)) → Option R
 | 0, _, _, _ => none
 | K + 1, i, o, o1 =>
 (br (ilt i (tLen o))
 ((chk (inb o i)
 ((Zq84 N (rdL o i)).bind fun r =>
 (br (!r.1.1)
 (k0 false)
 ((br (ilt 0 i)
 ((chk (inb o (IntKind.i64.wrap (i - 1)))
 (chk (inb o i)
 ((Zq75 N (rdL o (IntKind.i64.wrap (i - 1))) (rdL o i)).bind fun r1 =>
 (br (!r1.1.1)
 (k0 false)
 (Zq82_l0 N k0 k1 K (IntKind.i64.wrap (i + 1)) o o1))))))
 (Zq82_l0 N k0 k1 K (IntKind.i64.wrap (i + 1)) o o1)))))))
 (k1 o o1))
noncomputable def Zq82_l0_again {R : Type} (N : Nat) (ks : KS Zq82_l0_ex R) (k : Nat) (x : Zq82_l0_sh.T) : Option R :=
 Zq82_l0 N (fun y0 => ks 0 ((y0, ()), ())) (fun y0 y1 => ks 1 (((), ()), ((y0, y1, ()), ()))) k x.1.2.1 x.2.1.1 x.2.1.2.1
noncomputable def Zq82_l0_s (N : Nat) : LSum := ⟨Zq82_l0_sh, Zq82_l0_ex, fun x ks => Zq82_l0_again N ks N x⟩
theorem Zq82_l0_ok (N : Nat) : LoopOk Tryz.prog Tryz.f128.ntmps (Zq82_l0_s N) (loopAt Zq82_code 0) := loopQ (sh := Zq82_l0_sh) (ex := Zq82_l0_ex) (N := N) (L := []) (fun R k x ks => Zq82_l0_again N ks k x) (Zq82_gok N) (fun _ _ _ => rfl) (fun R k x ks => by kernel_rfl) trivial (by kernel_rfl)
noncomputable def Zq82 (N : Nat) (x : ((List (List Int)) × (List (Int × Int)))) : Option ((Bool × Unit) × (Unit)) :=
 (br (ilt 300 (tLen x.1))
 (some ((false, ()), ()))
 ((br (ilt 6000 (tLen x.2))
 (some ((false, ()), ()))
 (Zq82_l0 N (fun x1 => some ((x1, ()), ())) (fun o o1 => ((Zq80 N o1 (tLen o)).bind fun r =>
 some ((r.1.1, ()), ()))) N 0 x.1 x.2))))
noncomputable def Zq82_S (N : Nat) : FSum := ⟨Zq82_ps, Zq82_rs, fun x => Zq82 N x.1⟩
theorem Zq82_pc (N : Nat) : PC Tryz.prog 128 (Zq82_S N) := pcQ (L := [Zq82_l0_s N]) (Zq82_gok N) Tryz.call128 Tryz.func128 (fun x => by kernel_rfl) ⟨Zq82_l0_ok N, trivial⟩ (by kernel_rfl)

abbrev Zq81_ps : List (PV.Mode × Ty) := [(.ro, QLLILQII), (.ro, I)]
abbrev Zq81_rs : List (Bool × Ty) := [(true, .bool)]
noncomputable def Zq81_G (N : Nat) : GTab := gOf [(128, Zq82_S N), (42, Zq72_S N)]
theorem Zq81_gok (N : Nat) : GOk Tryz.prog (Zq81_G N) := gOf_ok ⟨Zq82_pc N, Zq72_pc N, trivial⟩
noncomputable def Zq81_code : Code := (Tryz.f105.body).getD .skip
noncomputable def Zq81 (N : Nat) (x : ((List (List Int)) × (List (Int × Int)))) (i : Int) : Option ((Bool × Unit) × (Unit)) :=
 ((Zq82 N (x.1, x.2)).bind fun r =>
 (br r.1.1
 (((Zq72 N i 0 (IntKind.i64.wrap ((tLen x.1) - 1))).bind fun r1 =>
 some ((r1.1.1, ()), ())))
 (some ((false, ()), ()))))
noncomputable def Zq81_S (N : Nat) : FSum := ⟨Zq81_ps, Zq81_rs, fun x => Zq81 N x.1 x.2.1⟩
theorem Zq81_pc (N : Nat) : PC Tryz.prog 105 (Zq81_S N) := pcQ (L := []) (Zq81_gok N) Tryz.call105 Tryz.func105 (fun x => by kernel_rfl) trivial (by kernel_rfl)

abbrev Zq79_ps : List (PV.Mode × Ty) := [(.ro, QLLILQII)]
abbrev Zq79_rs : List (Bool × Ty) := [(true, LLI)]
noncomputable def Zq79_G (N : Nat) : GTab := gOf []
theorem Zq79_gok (N : Nat) : GOk Tryz.prog (Zq79_G N) := gOf_ok trivial
noncomputable def Zq79_code : Code := (Tryz.f130.body).getD .skip
noncomputable def Zq79_l0_sh : Sh := ⟨[(1, .one (.adr 0 0)), (3, .one (.ref 1)), (4, .one (.ro I))], [.box [.ro LLI, .ro LQII], .sl 33 LI .deep]⟩
noncomputable def Zq79_l0_ex : List (Ex × Sh) := [(.exit 0, ⟨[(1, .one (.adr 0 0)), (3, .one (.ref 1))], [.box [.ro LLI, .ro LQII], .sl 33 LI .deep]⟩)]
noncomputable def Zq79_l0 {R : Type} (N : Nat) (k0 : (List (List Int)) → (List (Int × Int)) → (List (List Int)) → Option R) : Nat → Int → (List (List Int)) → (List (Int × Int)) → (List (List Int)) → Option R
 | 0, _, _, _, _ => none
 | K + 1, x, o, o1, o2 =>
 (br (ilt x (tLen o1))
 ((chk (inb o1 x)
 (chk (inb o1 x)
 (chk (inb o2 ((rdP o1 x).2))
 (chk (room (rdL o2 ((rdP o1 x).2)) [(rdP o1 x).1])
 (chk (inb o2 ((rdP o1 x).2))
 (chk (ieq ((rdP o1 x).2) ((rdP o1 x).2))
 (Zq79_l0 N k0 K (IntKind.i64.wrap (x + 1)) o o1 (tSet o2 ((rdP o1 x).2) (tApp (rdL o2 ((rdP o1 x).2)) [(rdP o1 x).1]))))))))))
 (k0 o o1 o2))
noncomputable def Zq79_l0_again {R : Type} (N : Nat) (ks : KS Zq79_l0_ex R) (k : Nat) (x : Zq79_l0_sh.T) : Option R :=
 Zq79_l0 N (fun y0 y1 y2 => ks 0 (((), (), ()), ((y0, y1, ()), y2, ()))) k x.1.2.2.1 x.2.1.1 x.2.1.2.1 x.2.2.1
noncomputable def Zq79_l0_s (N : Nat) : LSum := ⟨Zq79_l0_sh, Zq79_l0_ex, fun x ks => Zq79_l0_again N ks N x⟩
theorem Zq79_l0_ok (N : Nat) : LoopOk Tryz.prog Tryz.f130.ntmps (Zq79_l0_s N) (loopAt Zq79_code 0) := loopQ (sh := Zq79_l0_sh) (ex := Zq79_l0_ex) (N := N) (L := []) (fun R k x ks => Zq79_l0_again N ks k x) (Zq79_gok N) (fun _ _ _ => rfl) (fun R k x ks => by kernel_rfl) trivial (by kernel_rfl)
noncomputable def Zq79_l1_sh : Sh := ⟨[(1, .one (.adr 0 0)), (3, .one (.ref 1)), (7, .one (.ro I))], [.box [.ro LLI, .ro LQII], .sl 33 LI .deep]⟩
noncomputable def Zq79_l1_ex : List (Ex × Sh) := [(.exit 2, ⟨[(3, .one (.ref 0))], [.sl 33 LI .deep]⟩)]
noncomputable def Zq79_l1 {R : Type} (N : Nat) (k0 : (List (List Int)) → Option R) : Nat → Int → (List (List Int)) → (List (Int × Int)) → (List (List Int)) → Option R
 | 0, _, _, _, _ => none
 | K + 1, x, o3, o4, o5 =>
 (br (ilt x (tLen o4))
 ((chk (inb o4 x)
 (chk (inb o4 x)
 (chk (inb o5 ((rdP o4 x).1))
 (chk (room (rdL o5 ((rdP o4 x).1)) [(rdP o4 x).2])
 (chk (inb o5 ((rdP o4 x).1))
 (chk (ieq ((rdP o4 x).1) ((rdP o4 x).1))
 (Zq79_l1 N k0 K (IntKind.i64.wrap (x + 1)) o3 o4 (tSet o5 ((rdP o4 x).1) (tApp (rdL o5 ((rdP o4 x).1)) [(rdP o4 x).2]))))))))))
 (k0 o5))
noncomputable def Zq79_l1_again {R : Type} (N : Nat) (ks : KS Zq79_l1_ex R) (k : Nat) (x : Zq79_l1_sh.T) : Option R :=
 Zq79_l1 N (fun y0 => ks 0 (((), ()), (y0, ()))) k x.1.2.2.1 x.2.1.1 x.2.1.2.1 x.2.2.1
noncomputable def Zq79_l1_s (N : Nat) : LSum := ⟨Zq79_l1_sh, Zq79_l1_ex, fun x ks => Zq79_l1_again N ks N x⟩
theorem Zq79_l1_ok (N : Nat) : LoopOk Tryz.prog Tryz.f130.ntmps (Zq79_l1_s N) (loopAt Zq79_code 1) := loopQ (sh := Zq79_l1_sh) (ex := Zq79_l1_ex) (N := N) (L := []) (fun R k x ks => Zq79_l1_again N ks k x) (Zq79_gok N) (fun _ _ _ => rfl) (fun R k x ks => by kernel_rfl) trivial (by kernel_rfl)
noncomputable def Zq79 (N : Nat) (c : ((List (List Int)) × (List (Int × Int)))) : Option (((List (List Int)) × Unit) × (Unit)) :=
 (chk (ile 0 (tLen c.1) && ile (tLen c.1) (tLen c.1) && fits (tLen c.1))
 (Zq79_l0 N (fun o o1 o2 => Zq79_l1 N (fun o3 => some ((o3, ()), ())) N 0 o o1 o2) N 0 c.1 c.2 (tRep (tLen c.1) [])))
noncomputable def Zq79_S (N : Nat) : FSum := ⟨Zq79_ps, Zq79_rs, fun x => Zq79 N x.1⟩
theorem Zq79_pc (N : Nat) : PC Tryz.prog 130 (Zq79_S N) := pcQ (L := [Zq79_l0_s N, Zq79_l1_s N]) (Zq79_gok N) Tryz.call130 Tryz.func130 (fun x => by kernel_rfl) ⟨Zq79_l0_ok N, Zq79_l1_ok N, trivial⟩ (by kernel_rfl)

abbrev Zq83_ps : List (PV.Mode × Ty) := [(.ro, LLI), (.ro, I)]
abbrev Zq83_rs : List (Bool × Ty) := [(true, LI)]
noncomputable def Zq83_G (N : Nat) : GTab := gOf []
theorem Zq83_gok (N : Nat) : GOk Tryz.prog (Zq83_G N) := gOf_ok trivial
noncomputable def Zq83_code : Code := (Tryz.f129.body).getD .skip
noncomputable def Zq83_l0_sh : Sh := ⟨[(0, .one (.ro LLI)), (1, .one (.ro I)), (5, .one (.ref 0)), (6, .one (.ro I))], [.sl 3 I .own]⟩
noncomputable def Zq83_l0_ex : List (Ex × Sh) := [(.exit 0, ⟨[(0, .one (.ro LLI)), (1, .one (.ro I)), (5, .one (.ref 0))], [.sl 3 I .own]⟩)]
noncomputable def Zq83_l0 {R : Type} (N : Nat) (k0 : (List (List Int)) → Int → (List Int) → Option R) : Nat → (List (List Int)) → Int → Int → (List Int) → Option R
 | 0, _, _, _, _ => none
 | K + 1, x, x1, x2, o =>
 (br (ilt x2 (tLen o))
 ((chk (inb o x2)
 (Zq83_l0 N k0 K x x1 (IntKind.i64.wrap (x2 + 1)) (tSet o x2 (-1)))))
 (k0 x x1 o))
noncomputable def Zq83_l0_again {R : Type} (N : Nat) (ks : KS Zq83_l0_ex R) (k : Nat) (x : Zq83_l0_sh.T) : Option R :=
 Zq83_l0 N (fun y0 y1 y2 => ks 0 ((y0, y1, (), ()), (y2, ()))) k x.1.1 x.1.2.1 x.1.2.2.2.1 x.2.1
noncomputable def Zq83_l0_s (N : Nat) : LSum := ⟨Zq83_l0_sh, Zq83_l0_ex, fun x ks => Zq83_l0_again N ks N x⟩
theorem Zq83_l0_ok (N : Nat) : LoopOk Tryz.prog Tryz.f129.ntmps (Zq83_l0_s N) (loopAt Zq83_code 0) := loopQ (sh := Zq83_l0_sh) (ex := Zq83_l0_ex) (N := N) (L := []) (fun R k x ks => Zq83_l0_again N ks k x) (Zq83_gok N) (fun _ _ _ => rfl) (fun R k x ks => by kernel_rfl) trivial (by kernel_rfl)
noncomputable def Zq83_l1_0_sh : Sh := ⟨[(0, .one (.ro LLI)), (5, .one (.ref 0)), (7, .one (.ref 1)), (8, .one (.ro I)), (9, .one (.ro LI)), (10, .one (.ro I))], [.sl 3 I .own, .sl 3 I .own]⟩
noncomputable def Zq83_l1_0_ex : List (Ex × Sh) := [(.exit 4, ⟨[(0, .one (.ro LLI)), (5, .one (.ref 0)), (7, .one (.ref 1)), (8, .one (.ro I))], [.sl 3 I .own, .sl 3 I .own]⟩)]
noncomputable def Zq83_l1_0 {R : Type} (N : Nat) (k0 : (List (List Int)) → Int → (List Int) → (List Int) → Option R) : Nat → (List (List Int)) → Int → (List Int) → Int → (List Int) → (List Int) → Option R
 | 0, _, _, _, _, _, _ => none
 | K + 1, x4, x5, x6, x7, o3, o4 =>
 (br (ilt x7 (tLen x6))
 ((chk (inb x6 x7)
 (chk (inb o3 (rdI x6 x7))
 (br (ilt (rdI o3 (rdI x6 x7)) 0)
 ((chk (inb x6 x7)
 (chk (inb o4 x5)
 (chk (inb o3 (rdI o4 x5))
 (chk (inb o3 (rdI x6 x7))
 (chk (inb x6 x7)
 (chk (room o4 [(rdI x6 x7)])
 (Zq83_l1_0 N k0 K x4 x5 x6 (IntKind.i64.wrap (x7 + 1)) (tSet o3 (rdI x6 x7) (IntKind.i64.wrap ((rdI o3 (rdI o4 x5)) + 1))) (tApp o4 [(rdI x6 x7)])))))))))
 (Zq83_l1_0 N k0 K x4 x5 x6 (IntKind.i64.wrap (x7 + 1)) o3 o4)))))
 (k0 x4 x5 o3 o4))
noncomputable def Zq83_l1_0_again {R : Type} (N : Nat) (ks : KS Zq83_l1_0_ex R) (k : Nat) (x : Zq83_l1_0_sh.T) : Option R :=
 Zq83_l1_0 N (fun y0 y1 y2 y3 => ks 0 ((y0, (), (), y1, ()), (y2, y3, ()))) k x.1.1 x.1.2.2.2.1 x.1.2.2.2.2.1 x.1.2.2.2.2.2.1 x.2.1 x.2.2.1
noncomputable def Zq83_l1_0_s (N : Nat) : LSum := ⟨Zq83_l1_0_sh, Zq83_l1_0_ex, fun x ks => Zq83_l1_0_again N ks N x⟩
theorem Zq83_l1_0_ok (N : Nat) : LoopOk Tryz.prog Tryz.f129.ntmps (Zq83_l1_0_s N) (loopAt (loopAt Zq83_code 1) 0) := loopQ (sh := Zq83_l1_0_sh) (ex := Zq83_l1_0_ex) (N := N) (L := []) (fun R k x ks => Zq83_l1_0_again N ks k x) (Zq83_gok N) (fun _ _ _ => rfl) (fun R k x ks => by kernel_rfl) trivial (by kernel_rfl)
noncomputable def Zq83_l1_sh : Sh := ⟨[(0, .one (.ro LLI)), (5, .one (.ref 0)), (7, .one (.ref 1)), (8, .one (.ro I))], [.sl 3 I .own, .sl 3 I .own]⟩
noncomputable def Zq83_l1_ex : List (Ex × Sh) := [(.exit 2, ⟨[(5, .one (.ref 0))], [.sl 3 I .own]⟩)]
noncomputable def Zq83_l1 {R : Type} (N : Nat) (k0 : (List Int) → Option R) : Nat → (List (List Int)) → Int → (List Int) → (List Int) → Option R
 | 0, _, _, _, _ => none
 | K + 1, x2, x3, o1, o2 =>
 (br (ilt x3 (tLen o2))
 ((chk (inb o2 x3)
 (chk (inb x2 (rdI o2 x3))
 (Zq83_l1_0 N (fun x4 x5 o3 o4 => Zq83_l1 N k0 K x4 (IntKind.i64.wrap (x5 + 1)) o3 o4) N x2 x3 (rdL x2 (rdI o2 x3)) 0 o1 o2))))
 (k0 o1))
noncomputable def Zq83_l1_again {R : Type} (N : Nat) (ks : KS Zq83_l1_ex R) (k : Nat) (x : Zq83_l1_sh.T) : Option R :=
 Zq83_l1 N (fun y0 => ks 0 (((), ()), (y0, ()))) k x.1.1 x.1.2.2.2.1 x.2.1 x.2.2.1
noncomputable def Zq83_l1_s (N : Nat) : LSum := ⟨Zq83_l1_sh, Zq83_l1_ex, fun x ks => Zq83_l1_again N ks N x⟩
theorem Zq83_l1_ok (N : Nat) : LoopOk Tryz.prog Tryz.f129.ntmps (Zq83_l1_s N) (loopAt Zq83_code 1) := loopQ (sh := Zq83_l1_sh) (ex := Zq83_l1_ex) (N := N) (L := [Zq83_l1_0_s N]) (fun R k x ks => Zq83_l1_again N ks k x) (Zq83_gok N) (fun _ _ _ => rfl) (fun R k x ks => by kernel_rfl) ⟨Zq83_l1_0_ok N, trivial⟩ (by kernel_rfl)
noncomputable def Zq83 (N : Nat) (c : (List (List Int))) (c1 : Int) : Option (((List Int) × Unit) × (Unit)) :=
 (chk (ile 0 (tLen c) && ile (tLen c) (tLen c) && fits (tLen c))
 (Zq83_l0 N (fun x x1 o => (chk (inb o x1)
 (Zq83_l1 N (fun o1 => some ((o1, ()), ())) N x 0 (tSet o x1 0) [x1]))) N c c1 0 (tRep (tLen c) (0 : Int))))
noncomputable def Zq83_S (N : Nat) : FSum := ⟨Zq83_ps, Zq83_rs, fun x => Zq83 N x.1 x.2.1⟩
theorem Zq83_pc (N : Nat) : PC Tryz.prog 129 (Zq83_S N) := pcQ (L := [Zq83_l0_s N, Zq83_l1_s N]) (Zq83_gok N) Tryz.call129 Tryz.func129 (fun x => by kernel_rfl) ⟨Zq83_l0_ok N, Zq83_l1_ok N, trivial⟩ (by kernel_rfl)

abbrev Zq77_ps : List (PV.Mode × Ty) := [(.ro, QLLILQII), (.ro, I)]
abbrev Zq77_rs : List (Bool × Ty) := [(true, LI)]
noncomputable def Zq77_G (N : Nat) : GTab := gOf [(130, Zq79_S N), (129, Zq83_S N)]
theorem Zq77_gok (N : Nat) : GOk Tryz.prog (Zq77_G N) := gOf_ok ⟨Zq79_pc N, Zq83_pc N, trivial⟩
noncomputable def Zq77_code : Code := (Tryz.f106.body).getD .skip
noncomputable def Zq77 (N : Nat) (x : ((List (List Int)) × (List (Int × Int)))) (i : Int) : Option (((List Int) × Unit) × (Unit)) :=
 ((Zq79 N (x.1, x.2)).bind fun r =>
 ((Zq83 N r.1.1 i).bind fun r1 =>
 some ((r1.1.1, ()), ())))
noncomputable def Zq77_S (N : Nat) : FSum := ⟨Zq77_ps, Zq77_rs, fun x => Zq77 N x.1 x.2.1⟩
theorem Zq77_pc (N : Nat) : PC Tryz.prog 106 (Zq77_S N) := pcQ (L := []) (Zq77_gok N) Tryz.call106 Tryz.func106 (fun x => by kernel_rfl) trivial (by kernel_rfl)

abbrev Zq61_ps : List (PV.Mode × Ty) := [(.ro, QLLILQII), (.ro, I)]
abbrev Zq61_rs : List (Bool × Ty) := [(true, LI), (true, .bool)]
noncomputable def Zq61_G (N : Nat) : GTab := gOf [(105, Zq81_S N), (106, Zq77_S N)]
theorem Zq61_gok (N : Nat) : GOk Tryz.prog (Zq61_G N) := gOf_ok ⟨Zq81_pc N, Zq77_pc N, trivial⟩
noncomputable def Zq61_code : Code := (Tryz.f77.body).getD .skip
noncomputable def Zq61 (N : Nat) (x : ((List (List Int)) × (List (Int × Int)))) (i : Int) : Option (((List Int) × Bool × Unit) × (Unit)) :=
 ((Zq81 N (x.1, x.2) i).bind fun r =>
 (br (!r.1.1)
 (some (([], false, ()), ()))
 (((Zq77 N (x.1, x.2) i).bind fun r1 =>
 some ((r1.1.1, true, ()), ())))))
noncomputable def Zq61_S (N : Nat) : FSum := ⟨Zq61_ps, Zq61_rs, fun x => Zq61 N x.1 x.2.1⟩
theorem Zq61_pc (N : Nat) : PC Tryz.prog 77 (Zq61_S N) := pcQ (L := []) (Zq61_gok N) Tryz.call77 Tryz.func77 (fun x => by kernel_rfl) trivial (by kernel_rfl)

abbrev Zq42_ps : List (PV.Mode × Ty) := [(.ro, QLLILQII), (.ro, I)]
abbrev Zq42_rs : List (Bool × Ty) := [(true, LI), (true, .bool)]
noncomputable def Zq42_G (N : Nat) : GTab := gOf [(76, Zq3_S N), (77, Zq61_S N), (30, Zq44_S N)]
theorem Zq42_gok (N : Nat) : GOk Tryz.prog (Zq42_G N) := gOf_ok ⟨Zq3_pc N, Zq61_pc N, Zq44_pc N, trivial⟩
noncomputable def Zq42_code : Code := (Tryz.f33.body).getD .skip
noncomputable def Zq42 (N : Nat) (x : ((List (List Int)) × (List (Int × Int)))) (i : Int) : Option (((List Int) × Bool × Unit) × (Unit)) :=
 ((Zq3 N (x.1, x.2) i).bind fun r =>
 ((Zq61 N (x.1, x.2) i).bind fun r1 =>
 (br r.1.2.1
 ((br r1.1.2.1
 (((Zq44 N r.1.1 r1.1.1).bind fun r2 =>
 some ((r.1.1, r2.1.1, ()), ())))
 (some ((r.1.1, false, ()), ()))))
 (some ((r.1.1, false, ()), ())))))
noncomputable def Zq42_S (N : Nat) : FSum := ⟨Zq42_ps, Zq42_rs, fun x => Zq42 N x.1 x.2.1⟩
theorem Zq42_pc (N : Nat) : PC Tryz.prog 33 (Zq42_S N) := pcQ (L := []) (Zq42_gok N) Tryz.call33 Tryz.func33 (fun x => by kernel_rfl) trivial (by kernel_rfl)

abbrev Zq43_ps : List (PV.Mode × Ty) := [(.ro, LI), (.ro, I)]
abbrev Zq43_rs : List (Bool × Ty) := [(true, .bool)]
noncomputable def Zq43_G (N : Nat) : GTab := gOf []
theorem Zq43_gok (N : Nat) : GOk Tryz.prog (Zq43_G N) := gOf_ok trivial
noncomputable def Zq43_code : Code := (Tryz.f34.body).getD .skip
noncomputable def Zq43_l0_sh : Sh := ⟨[(0, .one (.ro LI)), (1, .one (.ro I)), (5, .one (.ro I))], []⟩
noncomputable def Zq43_l0_ex : List (Ex × Sh) := [(.ret, ⟨[(4, .one (.ro .bool))], []⟩), (.exit 0, ⟨[], []⟩)]
noncomputable def Zq43_l0 {R : Type} (N : Nat) (k0 : Bool → Option R) (k1 : Unit → Option R) : Nat → (List Int) → Int → Int → Option R
 | 0, _, _, _ => none
 | K + 1, list1, x1, i =>
 (br (ilt i (tLen list1))
 ((chk (inb list1 i)
 (br (ieq (rdI list1 i) x1)
 (k0 true)
 (Zq43_l0 N k0 k1 K list1 x1 (IntKind.i64.wrap (i + 1))))))
 (k1 ()))
noncomputable def Zq43_l0_again {R : Type} (N : Nat) (ks : KS Zq43_l0_ex R) (k : Nat) (x : Zq43_l0_sh.T) : Option R :=
 Zq43_l0 N (fun y0 => ks 0 ((y0, ()), ())) (fun (_ : Unit) => ks 1 ((), ())) k x.1.1 x.1.2.1 x.1.2.2.1
noncomputable def Zq43_l0_s (N : Nat) : LSum := ⟨Zq43_l0_sh, Zq43_l0_ex, fun x ks => Zq43_l0_again N ks N x⟩
theorem Zq43_l0_ok (N : Nat) : LoopOk Tryz.prog Tryz.f34.ntmps (Zq43_l0_s N) (loopAt Zq43_code 0) := loopQ (sh := Zq43_l0_sh) (ex := Zq43_l0_ex) (N := N) (L := []) (fun R k x ks => Zq43_l0_again N ks k x) (Zq43_gok N) (fun _ _ _ => rfl) (fun R k x ks => by kernel_rfl) trivial (by kernel_rfl)
noncomputable def Zq43 (N : Nat) (list : (List Int)) (x : Int) : Option ((Bool × Unit) × (Unit)) :=
 Zq43_l0 N (fun x1 => some ((x1, ()), ())) (fun (_ : Unit) => some ((false, ()), ())) N list x 0
noncomputable def Zq43_S (N : Nat) : FSum := ⟨Zq43_ps, Zq43_rs, fun x => Zq43 N x.1 x.2.1⟩
theorem Zq43_pc (N : Nat) : PC Tryz.prog 34 (Zq43_S N) := pcQ (L := [Zq43_l0_s N]) (Zq43_gok N) Tryz.call34 Tryz.func34 (fun x => by kernel_rfl) ⟨Zq43_l0_ok N, trivial⟩ (by kernel_rfl)

abbrev Zq40_ps : List (PV.Mode × Ty) := [(.ro, LU8)]
abbrev Zq40_rs : List (Bool × Ty) := [(true, .bool)]
noncomputable def Zq40_G (N : Nat) : GTab := gOf [(5, Zq41_S N), (24, Zq63_S N), (25, Zq16_S N), (26, Zq66_S N), (27, Zq10_S N), (19, Zq46_S N), (28, Zq13_S N), (29, Zq64_S N), (30, Zq44_S N), (31, Zq15_S N), (32, Zq65_S N), (13, Zq47_S N), (7, Zq8_S N), (33, Zq42_S N), (34, Zq43_S N)]
theorem Zq40_gok (N : Nat) : GOk Tryz.prog (Zq40_G N) := gOf_ok ⟨Zq41_pc N, Zq63_pc N, Zq16_pc N, Zq66_pc N, Zq10_pc N, Zq46_pc N, Zq13_pc N, Zq64_pc N, Zq44_pc N, Zq15_pc N, Zq65_pc N, Zq47_pc N, Zq8_pc N, Zq42_pc N, Zq43_pc N, trivial⟩
noncomputable def Zq40_code : Code := (Tryz.f4.body).getD .skip
noncomputable def Zq40_l0_0_0_sh : Sh := ⟨[(3, .one (.adr 0 0)), (4, .one (.adr 1 0)), (8, .one (.ref 2)), (18, .one (.ro I)), (19, .one (.ref 3)), (21, .one (.ro I)), (22, .one (.ro I)), (23, .one (.ro .bool)), (24, .one (.ro I))], [.box [.ro I, .ro LLI, .ro LI], .box [.ref 4, .ref 5], .sl 3 I .own, .sl 3 I .own, .sl 33 LI .deep, .sl 108 QII .own]⟩
noncomputable def Zq40_l0_0_0_ex : List (Ex × Sh) := [(.exit 4, ⟨[(3, .one (.adr 0 0)), (4, .one (.adr 1 0)), (8, .one (.ref 2)), (18, .one (.ro I)), (19, .one (.ref 3)), (21, .one (.ro I)), (22, .one (.ro I)), (23, .one (.ro .bool))], [.box [.ro I, .ro LLI, .ro LI], .box [.ref 4, .ref 5], .sl 3 I .own, .sl 3 I .own, .sl 33 LI .deep, .sl 108 QII .own]⟩)]
noncomputable def Zq40_l0_0_0 {R : Type} (N : Nat) (k0 : Int → Int → Int → Bool → Int → (List (List Int)) → (List Int) → (List Int) → (List Int) → (List (List Int)) → (List (Int × Int)) → Option R) : Nat → Int → Int → Int → Bool → Int → Int → (List (List Int)) → (List Int) → (List Int) → (List Int) → (List (List Int)) → (List (Int × Int)) → Option R
 | 0, _, _, _, _, _, _, _, _, _, _, _, _ => none
 | K + 1, x3, x4, x5, x6, x7, o13, o14, o15, o16, o17, o18, o19 =>
 (br (ilt x7 o13)
 ((chk (inb o18 x3)
 (chk (inb (rdL o18 x3) x7)
 (chk (inb o18 x4)
 (chk (inb (rdL o18 x4) x7)
 (br (ine (rdI (rdL o18 x3) x7) (rdI (rdL o18 x4) x7))
 ((br x6
 (((Zq43 N o16 x7).bind fun r14 =>
 Zq40_l0_0_0 N k0 K x3 x4 (IntKind.i64.wrap (x5 + 1)) r14.1.1 (IntKind.i64.wrap (x7 + 1)) o13 o14 o15 o16 o17 o18 o19))
 (Zq40_l0_0_0 N k0 K x3 x4 (IntKind.i64.wrap (x5 + 1)) false (IntKind.i64.wrap (x7 + 1)) o13 o14 o15 o16 o17 o18 o19)))
 (Zq40_l0_0_0 N k0 K x3 x4 x5 x6 (IntKind.i64.wrap (x7 + 1)) o13 o14 o15 o16 o17 o18 o19)))))))
 (k0 x3 x4 x5 x6 o13 o14 o15 o16 o17 o18 o19))
noncomputable def Zq40_l0_0_0_again {R : Type} (N : Nat) (ks : KS Zq40_l0_0_0_ex R) (k : Nat) (x : Zq40_l0_0_0_sh.T) : Option R :=
 Zq40_l0_0_0 N (fun y0 y1 y2 y3 y4 y5 y6 y7 y8 y9 y10 => ks 0 (((), (), (), y0, (), y1, y2, y3, ()), ((y4, y5, y6, ()), ((), (), ()), y7, y8, y9, y10, ()))) k x.1.2.2.2.1 x.1.2.2.2.2.2.1 x.1.2.2.2.2.2.2.1 x.1.2.2.2.2.2.2.2.1 x.1.2.2.2.2.2.2.2.2.1 x.2.1.1 x.2.1.2.1 x.2.1.2.2.1 x.2.2.2.1 x.2.2.2.2.1 x.2.2.2.2.2.1 x.2.2.2.2.2.2.1
noncomputable def Zq40_l0_0_0_s (N : Nat) : LSum := ⟨Zq40_l0_0_0_sh, Zq40_l0_0_0_ex, fun x ks => Zq40_l0_0_0_again N ks N x⟩
theorem Zq40_l0_0_0_ok (N : Nat) : LoopOk Tryz.prog Tryz.f4.ntmps (Zq40_l0_0_0_s N) (loopAt (loopAt (loopAt Zq40_code 0) 0) 0) := loopQ (sh := Zq40_l0_0_0_sh) (ex := Zq40_l0_0_0_ex) (N := N) (L := []) (fun R k x ks => Zq40_l0_0_0_again N ks k x) (Zq40_gok N) (fun _ _ _ => rfl) (fun R k x ks => by kernel_rfl) trivial (by kernel_rfl)
noncomputable def Zq40_l0_0_sh : Sh := ⟨[(3, .one (.adr 0 0)), (4, .one (.adr 1 0)), (8, .one (.ref 2)), (18, .one (.ro I)), (19, .one (.ref 3)), (21, .one (.ro I))], [.box [.ro I, .ro LLI, .ro LI], .box [.ref 4, .ref 5], .sl 3 I .own, .sl 3 I .own, .sl 33 LI .deep, .sl 108 QII .own]⟩
noncomputable def Zq40_l0_0_ex : List (Ex × Sh) := [(.ret, ⟨[(2, .one (.ro .bool))], []⟩), (.exit 2, ⟨[(3, .one (.adr 0 0)), (4, .one (.adr 1 0)), (8, .one (.ref 2)), (18, .one (.ro I))], [.box [.ro I, .ro LLI, .ro LI], .box [.ref 3, .ref 4], .sl 3 I .own, .sl 33 LI .deep, .sl 108 QII .own]⟩)]
noncomputable def Zq40_l0_0 {R : Type} (N : Nat) (k0 : Bool → Option R) (k1 : Int → Int → (List (List Int)) → (List Int) → (List Int) → (List (List Int)) → (List (Int × Int)) → Option R) : Nat → Int → Int → Int → (List (List Int)) → (List Int) → (List Int) → (List Int) → (List (List Int)) → (List (Int × Int)) → Option R
 | 0, _, _, _, _, _, _, _, _, _ => none
 | K + 1, x1, x2, o6, o7, o8, o9, o10, o11, o12 =>
 (br (ilt x2 (tLen o11))
 (Zq40_l0_0_0 N (fun x3 x4 x5 x6 o13 o14 o15 o16 o17 o18 o19 => (br x6
 ((chk (inb o17 x4)
 (br (ine (rdI o17 x4) x5)
 (k0 false)
 ((br (!x6)
 ((chk (inb o17 x4)
 (br (ile 0 (rdI o17 x4))
 (k0 false)
 (Zq40_l0_0 N k0 k1 K x3 (IntKind.i64.wrap (x4 + 1)) o13 o14 o15 o16 o17 o18 o19))))
 (Zq40_l0_0 N k0 k1 K x3 (IntKind.i64.wrap (x4 + 1)) o13 o14 o15 o16 o17 o18 o19))))))
 ((br (!x6)
 ((chk (inb o17 x4)
 (br (ile 0 (rdI o17 x4))
 (k0 false)
 (Zq40_l0_0 N k0 k1 K x3 (IntKind.i64.wrap (x4 + 1)) o13 o14 o15 o16 o17 o18 o19))))
 (Zq40_l0_0 N k0 k1 K x3 (IntKind.i64.wrap (x4 + 1)) o13 o14 o15 o16 o17 o18 o19))))) N x1 x2 0 true 0 o6 o7 o8 o9 o10 o11 o12)
 (k1 x1 o6 o7 o8 o9 o11 o12))
noncomputable def Zq40_l0_0_again {R : Type} (N : Nat) (ks : KS Zq40_l0_0_ex R) (k : Nat) (x : Zq40_l0_0_sh.T) : Option R :=
 Zq40_l0_0 N (fun y0 => ks 0 ((y0, ()), ())) (fun y0 y1 y2 y3 y4 y5 y6 => ks 1 (((), (), (), y0, ()), ((y1, y2, y3, ()), ((), (), ()), y4, y5, y6, ()))) k x.1.2.2.2.1 x.1.2.2.2.2.2.1 x.2.1.1 x.2.1.2.1 x.2.1.2.2.1 x.2.2.2.1 x.2.2.2.2.1 x.2.2.2.2.2.1 x.2.2.2.2.2.2.1
noncomputable def Zq40_l0_0_s (N : Nat) : LSum := ⟨Zq40_l0_0_sh, Zq40_l0_0_ex, fun x ks => Zq40_l0_0_again N ks N x⟩
theorem Zq40_l0_0_ok (N : Nat) : LoopOk Tryz.prog Tryz.f4.ntmps (Zq40_l0_0_s N) (loopAt (loopAt Zq40_code 0) 0) := loopQ (sh := Zq40_l0_0_sh) (ex := Zq40_l0_0_ex) (N := N) (L := [Zq40_l0_0_0_s N]) (fun R k x ks => Zq40_l0_0_again N ks k x) (Zq40_gok N) (fun _ _ _ => rfl) (fun R k x ks => by kernel_rfl) ⟨Zq40_l0_0_0_ok N, trivial⟩ (by kernel_rfl)
noncomputable def Zq40_l0_sh : Sh := ⟨[(3, .one (.adr 0 0)), (4, .one (.adr 1 0)), (8, .one (.ref 2)), (18, .one (.ro I))], [.box [.ro I, .ro LLI, .ro LI], .box [.ref 3, .ref 4], .sl 3 I .own, .sl 33 LI .deep, .sl 108 QII .own]⟩
noncomputable def Zq40_l0_ex : List (Ex × Sh) := [(.ret, ⟨[(2, .one (.ro .bool))], []⟩), (.exit 0, ⟨[], []⟩)]
noncomputable def Zq40_l0 {R : Type} (N : Nat) (k0 : Bool → Option R) (k1 : Unit → Option R) : Nat → Int → Int → (List (List Int)) → (List Int) → (List Int) → (List (List Int)) → (List (Int × Int)) → Option R
 | 0, _, _, _, _, _, _, _ => none
 | K + 1, x, o, o1, o2, o3, o4, o5 =>
 (br (ilt x (tLen o4))
 (((Zq42 N (o4, o5) x).bind fun r13 =>
 (br (!r13.1.2.1)
 (k0 false)
 (Zq40_l0_0 N (fun x1 => k0 x1) (fun x2 o6 o7 o8 o9 o10 o11 => Zq40_l0 N k0 k1 K (IntKind.i64.wrap (x2 + 1)) o6 o7 o8 o9 o10 o11) N x 0 o o1 o2 o3 r13.1.1 o4 o5))))
 (k1 ()))
noncomputable def Zq40_l0_again {R : Type} (N : Nat) (ks : KS Zq40_l0_ex R) (k : Nat) (x : Zq40_l0_sh.T) : Option R :=
 Zq40_l0 N (fun y0 => ks 0 ((y0, ()), ())) (fun (_ : Unit) => ks 1 ((), ())) k x.1.2.2.2.1 x.2.1.1 x.2.1.2.1 x.2.1.2.2.1 x.2.2.2.1 x.2.2.2.2.1 x.2.2.2.2.2.1
noncomputable def Zq40_l0_s (N : Nat) : LSum := ⟨Zq40_l0_sh, Zq40_l0_ex, fun x ks => Zq40_l0_again N ks N x⟩
theorem Zq40_l0_ok (N : Nat) : LoopOk Tryz.prog Tryz.f4.ntmps (Zq40_l0_s N) (loopAt Zq40_code 0) := loopQ (sh := Zq40_l0_sh) (ex := Zq40_l0_ex) (N := N) (L := [Zq40_l0_0_s N]) (fun R k x ks => Zq40_l0_again N ks k x) (Zq40_gok N) (fun _ _ _ => rfl) (fun R k x ks => by kernel_rfl) ⟨Zq40_l0_0_ok N, trivial⟩ (by kernel_rfl)
noncomputable def Zq40 (N : Nat) (c : (List Int)) : Option ((Bool × Unit) × (Unit)) :=
 ((Zq41 N c).bind fun r =>
 (br r.1.1
 (some ((true, ()), ()))
 (((Zq63 N c).bind fun r1 =>
 ((Zq16 N (r1.1.1.1, (r1.1.1.2.1, r1.1.1.2.2))).bind fun r2 =>
 ((Zq66 N (r1.1.1.1, (r1.1.1.2.1, r1.1.1.2.2))).bind fun r3 =>
 (br (!(r2.1.2.1 == r3.1.2.1))
 (some ((false, ()), ()))
 (((Zq10 N (r1.1.1.1, (r1.1.1.2.1, r1.1.1.2.2))).bind fun r4 =>
 (br (!(r2.1.2.1 == r4.1.1))
 (some ((false, ()), ()))
 (((Zq46 N (r2.1.1.1, r2.1.1.2) (r3.1.1.1, r3.1.1.2)).bind fun r5 =>
 (br (!r5.1.1)
 (some ((false, ()), ()))
 (((Zq13 N (r1.1.1.1, (r1.1.1.2.1, r1.1.1.2.2))).bind fun r6 =>
 ((Zq64 N (r1.1.1.1, (r1.1.1.2.1, r1.1.1.2.2))).bind fun r7 =>
 (br (!(r6.1.2.1 == r7.1.2.1))
 (some ((false, ()), ()))
 ((br (!(r6.1.2.1 == r2.1.2.1))
 (some ((false, ()), ()))
 (((Zq44 N r6.1.1 r7.1.1).bind fun r8 =>
 (br (!r8.1.1)
 (some ((false, ()), ()))
 (((Zq15 N (r1.1.1.1, (r1.1.1.2.1, r1.1.1.2.2))).bind fun r9 =>
 ((Zq65 N (r1.1.1.1, (r1.1.1.2.1, r1.1.1.2.2))).bind fun r10 =>
 (br (!(r9.1.2.1 == r10.1.2.1))
 (some ((false, ()), ()))
 ((br (!(r9.1.2.1 == r2.1.2.1))
 (some ((false, ()), ()))
 ((br (ine r9.1.1.1 r10.1.1.1)
 (some ((false, ()), ()))
 (((Zq47 N r9.1.1.2 r10.1.1.2).bind fun r11 =>
 (br (!r11.1.1)
 (some ((false, ()), ()))
 ((br (!r2.1.2.1)
 (some ((true, ()), ()))
 (((Zq8 N (r9.1.1.1, r9.1.1.2) 4).bind fun r12 =>
 (br (!r12.1.2.1)
 (some ((false, ()), ()))
 ((br (!r12.1.1)
 (some ((false, ()), ()))
 (Zq40_l0 N (fun x => some ((x, ()), ())) (fun (_ : Unit) => some ((true, ()), ())) N 0 r1.1.1.1 r1.1.1.2.1 r1.1.1.2.2 r6.1.1 r2.1.1.1 r2.1.1.2)))))))))))))))))))))))))))))))))))))))))
noncomputable def Zq40_S (N : Nat) : FSum := ⟨Zq40_ps, Zq40_rs, fun x => Zq40 N x.1⟩
theorem Zq40_pc (N : Nat) : PC Tryz.prog 4 (Zq40_S N) := pcQ (L := [Zq40_l0_s N]) (Zq40_gok N) Tryz.call4 Tryz.func4 (fun x => by kernel_rfl) ⟨Zq40_l0_ok N, trivial⟩ (by kernel_rfl)
end Go.Proofs.YtfilchmabmfmaaaGreat
