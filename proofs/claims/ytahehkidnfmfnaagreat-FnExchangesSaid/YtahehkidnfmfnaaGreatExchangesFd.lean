/- Functions of the program as functions on data. -/
import Derived.Test.YtahehkidnfmfnaaGreatExchangesFc
set_option linter.all false
namespace Go.Proofs.YtahehkidnfmfnaaGreat
open Go Go.PV
abbrev Zq50_ps : List (PV.Mode × Ty) := [(.ro, LLI), (.ro, I)]
abbrev Zq50_rs : List (Bool × Ty) := [(true, LI)]
noncomputable def Zq50_G (N : Nat) : GTab := gOf [(144, Zq73_S N)]
theorem Zq50_gok (N : Nat) : GOk Tryz.prog (Zq50_G N) := gOf_ok ⟨Zq73_pc N, trivial⟩
noncomputable def Zq50_code : Code := (Tryz.f106.body).getD .skip
noncomputable def Zq50_l0_0_sh : Sh := ⟨[(0, .one (.ro LLI)), (5, .one (.ref 0)), (6, .one (.sub 1 1)), (7, .one (.ro I)), (30, .one (.ro LI)), (31, .one (.ro I)), (32, .one (.ro I))], [.sl 3 I .own, .sl 3 I .own]⟩
noncomputable def Zq50_l0_0_ex : List (Ex × Sh) := [(.exit 2, ⟨[(0, .one (.ro LLI)), (5, .one (.ref 0)), (6, .one (.sub 1 1))], [.sl 3 I .own, .sl 3 I .own]⟩)]
noncomputable def Zq50_l0_0 {R : Type} (N : Nat) (k0 : (List (List Int)) → Int → Int → (List Int) → (List Int) → Option R) : Nat → (List (List Int)) → Int → Int → Int → (List Int) → Int → Int → (List Int) → (List Int) → Option R
 | 0, _, _, _, _, _, _, _, _, _ => none
 | K + 1, roads2, queue2, queue3, i, x, x1, x2, o2, o3 =>
 (br (ilt x2 x1)
 ((chk (inb x x2)
 (chk (inb o2 (rdI x x2))
 (br (ilt (rdI o2 (rdI x x2)) 0)
 ((chk (inb o2 i)
 (chk (inb o2 (rdI x x2))
 (chk (room (tCut o3 queue2 queue3) [(rdI x x2)])
 (Zq50_l0_0 N k0 K roads2 0 (tLen (tApp (tCut o3 queue2 queue3) [(rdI x x2)])) i x x1 (IntKind.i64.wrap (x2 + 1)) (tSet o2 (rdI x x2) (IntKind.i64.wrap ((rdI o2 i) + 1))) (tApp (tCut o3 queue2 queue3) [(rdI x x2)]))))))
 (Zq50_l0_0 N k0 K roads2 queue2 queue3 i x x1 (IntKind.i64.wrap (x2 + 1)) o2 o3)))))
 (k0 roads2 queue2 queue3 o2 o3))
noncomputable def Zq50_l0_0_again {R : Type} (N : Nat) (ks : KS Zq50_l0_0_ex R) (k : Nat) (x : Zq50_l0_0_sh.T) : Option R :=
 Zq50_l0_0 N (fun y0 y1 y2 y3 y4 => ks 0 ((y0, (), (y1, y2), ()), (y3, y4, ()))) k x.1.1 x.1.2.2.1.1 x.1.2.2.1.2 x.1.2.2.2.1 x.1.2.2.2.2.1 x.1.2.2.2.2.2.1 x.1.2.2.2.2.2.2.1 x.2.1 x.2.2.1
noncomputable def Zq50_l0_0_s (N : Nat) : LSum := ⟨Zq50_l0_0_sh, Zq50_l0_0_ex, fun x ks => Zq50_l0_0_again N ks N x⟩
theorem Zq50_l0_0_ok (N : Nat) : LoopOk Tryz.prog Tryz.f106.ntmps (Zq50_l0_0_s N) (loopAt (loopAt Zq50_code 0) 0) := loopQ (sh := Zq50_l0_0_sh) (ex := Zq50_l0_0_ex) (N := N) (L := []) (fun R k x ks => Zq50_l0_0_again N ks k x) (Zq50_gok N) (fun _ _ _ => rfl) (fun R k x ks => by kernel_rfl) trivial (by kernel_rfl)
noncomputable def Zq50_l0_sh : Sh := ⟨[(0, .one (.ro LLI)), (5, .one (.ref 0)), (6, .one (.sub 1 1))], [.sl 3 I .own, .sl 3 I .own]⟩
noncomputable def Zq50_l0_ex : List (Ex × Sh) := [(.exit 0, ⟨[(5, .one (.ref 0))], [.sl 3 I .own]⟩)]
noncomputable def Zq50_l0 {R : Type} (N : Nat) (k0 : (List Int) → Option R) : Nat → (List (List Int)) → Int → Int → (List Int) → (List Int) → Option R
 | 0, _, _, _, _, _ => none
 | K + 1, roads1, queue, queue1, o, o1 =>
 (br (ilt 0 (queue1 - queue))
 ((chk (ile 0 0 && ilt 0 (queue1 - queue))
 (chk (ile 0 1 && ile 1 (queue1 - queue) && ile (queue1 - queue) (queue1 - queue))
 (chk (inb roads1 (rdI o1 (queue + 0)))
 (Zq50_l0_0 N (fun roads2 queue2 queue3 o2 o3 => Zq50_l0 N k0 K roads2 queue2 queue3 o2 o3) N roads1 (queue + 1) (queue + (queue1 - queue)) (rdI o1 (queue + 0)) (rdL roads1 (rdI o1 (queue + 0))) (tLen (rdL roads1 (rdI o1 (queue + 0)))) 0 o o1)))))
 (k0 o))
noncomputable def Zq50_l0_again {R : Type} (N : Nat) (ks : KS Zq50_l0_ex R) (k : Nat) (x : Zq50_l0_sh.T) : Option R :=
 Zq50_l0 N (fun y0 => ks 0 (((), ()), (y0, ()))) k x.1.1 x.1.2.2.1.1 x.1.2.2.1.2 x.2.1 x.2.2.1
noncomputable def Zq50_l0_s (N : Nat) : LSum := ⟨Zq50_l0_sh, Zq50_l0_ex, fun x ks => Zq50_l0_again N ks N x⟩
theorem Zq50_l0_ok (N : Nat) : LoopOk Tryz.prog Tryz.f106.ntmps (Zq50_l0_s N) (loopAt Zq50_code 0) := loopQ (sh := Zq50_l0_sh) (ex := Zq50_l0_ex) (N := N) (L := [Zq50_l0_0_s N]) (fun R k x ks => Zq50_l0_again N ks k x) (Zq50_gok N) (fun _ _ _ => rfl) (fun R k x ks => by kernel_rfl) ⟨Zq50_l0_0_ok N, trivial⟩ (by kernel_rfl)
noncomputable def Zq50 (N : Nat) (roads : (List (List Int))) (fromv : Int) : Option (((List Int) × Unit) × (Unit)) :=
 ((Zq73 N [(-1)] (tLen roads)).bind fun r =>
 (chk (inb r.1.1 fromv)
 (Zq50_l0 N (fun o => some ((o, ()), ())) N roads 0 (tLen [fromv]) (tSet r.1.1 fromv 0) [fromv])))
noncomputable def Zq50_S (N : Nat) : FSum := ⟨Zq50_ps, Zq50_rs, fun x => Zq50 N x.1 x.2.1⟩
theorem Zq50_pc (N : Nat) : PC Tryz.prog 106 (Zq50_S N) := pcQ (L := [Zq50_l0_s N]) (Zq50_gok N) Tryz.call106 Tryz.func106 (fun x => by kernel_rfl) ⟨Zq50_l0_ok N, trivial⟩ (by kernel_rfl)

abbrev Zq24_ps : List (PV.Mode × Ty) := [(.ro, QLLILQII), (.ro, I), (.ro, I)]
abbrev Zq24_rs : List (Bool × Ty) := [(true, LI), (true, .bool)]
noncomputable def Zq24_G (N : Nat) : GTab := gOf [(105, Zq27_S N), (106, Zq50_S N)]
theorem Zq24_gok (N : Nat) : GOk Tryz.prog (Zq24_G N) := gOf_ok ⟨Zq27_pc N, Zq50_pc N, trivial⟩
noncomputable def Zq24_code : Code := (Tryz.f59.body).getD .skip
noncomputable def Zq24_l0_0_sh : Sh := ⟨[(1, .one (.ro I)), (2, .one (.ro I)), (8, .one (.ref 0)), (9, .one (.ref 1)), (10, .one (.ref 2)), (31, .one (.el 0)), (32, .one (.ro I)), (33, .one (.ro I))], [.sl 27 LI .deep, .sl 3 I .own, .sl 3 I .own]⟩
noncomputable def Zq24_l0_0_ex : List (Ex × Sh) := [(.exit 2, ⟨[(1, .one (.ro I)), (2, .one (.ro I)), (8, .one (.ref 0)), (9, .one (.ref 1)), (10, .one (.ref 2))], [.sl 27 LI .deep, .sl 3 I .own, .sl 3 I .own]⟩)]
noncomputable def Zq24_l0_0 {R : Type} (N : Nat) (k0 : Int → Int → (List (List Int)) → (List Int) → (List Int) → Option R) : Nat → Int → Int → Int → Int → Int → (List (List Int)) → (List Int) → (List Int) → Option R
 | 0, _, _, _, _, _, _, _, _ => none
 | K + 1, i2, j2, x1, x2, x3, o3, o4, o5 =>
 (br (ilt x3 x2)
 ((chk (inb (rdL o3 x1) x3)
 (chk (inb o4 (rdI (rdL o3 x1) x3))
 (chk (inb o4 i2)
 (br (ieq (rdI o4 (rdI (rdL o3 x1) x3)) (IntKind.i64.wrap ((rdI o4 i2) - 1)))
 (k0 (rdI (rdL o3 x1) x3) j2 o3 o4 o5)
 (Zq24_l0_0 N k0 K i2 j2 x1 x2 (IntKind.i64.wrap (x3 + 1)) o3 o4 o5))))))
 (k0 i2 j2 o3 o4 o5))
noncomputable def Zq24_l0_0_again {R : Type} (N : Nat) (ks : KS Zq24_l0_0_ex R) (k : Nat) (x : Zq24_l0_0_sh.T) : Option R :=
 Zq24_l0_0 N (fun y0 y1 y2 y3 y4 => ks 0 ((y0, y1, (), (), (), ()), (y2, y3, y4, ()))) k x.1.1 x.1.2.1 x.1.2.2.2.2.2.1 x.1.2.2.2.2.2.2.1 x.1.2.2.2.2.2.2.2.1 x.2.1 x.2.2.1 x.2.2.2.1
noncomputable def Zq24_l0_0_s (N : Nat) : LSum := ⟨Zq24_l0_0_sh, Zq24_l0_0_ex, fun x ks => Zq24_l0_0_again N ks N x⟩
theorem Zq24_l0_0_ok (N : Nat) : LoopOk Tryz.prog Tryz.f59.ntmps (Zq24_l0_0_s N) (loopAt (loopAt Zq24_code 0) 0) := loopQ (sh := Zq24_l0_0_sh) (ex := Zq24_l0_0_ex) (N := N) (L := []) (fun R k x ks => Zq24_l0_0_again N ks k x) (Zq24_gok N) (fun _ _ _ => rfl) (fun R k x ks => by kernel_rfl) trivial (by kernel_rfl)
noncomputable def Zq24_l0_sh : Sh := ⟨[(1, .one (.ro I)), (2, .one (.ro I)), (8, .one (.ref 0)), (9, .one (.ref 1)), (10, .one (.ref 2))], [.sl 27 LI .deep, .sl 3 I .own, .sl 3 I .own]⟩
noncomputable def Zq24_l0_ex : List (Ex × Sh) := [(.exit 0, ⟨[(10, .one (.ref 0))], [.sl 3 I .own]⟩)]
noncomputable def Zq24_l0 {R : Type} (N : Nat) (k0 : (List Int) → Option R) : Nat → Int → Int → (List (List Int)) → (List Int) → (List Int) → Option R
 | 0, _, _, _, _, _ => none
 | K + 1, i1, j1, o, o1, o2 =>
 (br (ine i1 j1)
 ((chk (inb o i1)
 (Zq24_l0_0 N (fun i2 j2 o3 o4 o5 => (chk (room o5 [i2])
 (Zq24_l0 N k0 K i2 j2 o3 o4 (tApp o5 [i2])))) N i1 j1 i1 (tLen (rdL o i1)) 0 o o1 o2)))
 (k0 o2))
noncomputable def Zq24_l0_again {R : Type} (N : Nat) (ks : KS Zq24_l0_ex R) (k : Nat) (x : Zq24_l0_sh.T) : Option R :=
 Zq24_l0 N (fun y0 => ks 0 (((), ()), (y0, ()))) k x.1.1 x.1.2.1 x.2.1 x.2.2.1 x.2.2.2.1
noncomputable def Zq24_l0_s (N : Nat) : LSum := ⟨Zq24_l0_sh, Zq24_l0_ex, fun x ks => Zq24_l0_again N ks N x⟩
theorem Zq24_l0_ok (N : Nat) : LoopOk Tryz.prog Tryz.f59.ntmps (Zq24_l0_s N) (loopAt Zq24_code 0) := loopQ (sh := Zq24_l0_sh) (ex := Zq24_l0_ex) (N := N) (L := [Zq24_l0_0_s N]) (fun R k x ks => Zq24_l0_again N ks k x) (Zq24_gok N) (fun _ _ _ => rfl) (fun R k x ks => by kernel_rfl) ⟨Zq24_l0_0_ok N, trivial⟩ (by kernel_rfl)
noncomputable def Zq24 (N : Nat) (x : ((List (List Int)) × (List (Int × Int)))) (i : Int) (j : Int) : Option (((List Int) × Bool × Unit) × (Unit)) :=
 ((Zq27 N (x.1, x.2)).bind fun r =>
 ((Zq50 N r.1.1 j).bind fun r1 =>
 (chk (inb r1.1.1 i)
 (br (ilt (rdI r1.1.1 i) 0)
 (some (([], false, ()), ()))
 (Zq24_l0 N (fun o => some ((o, true, ()), ())) N i j r.1.1 r1.1.1 [i])))))
noncomputable def Zq24_S (N : Nat) : FSum := ⟨Zq24_ps, Zq24_rs, fun x => Zq24 N x.1 x.2.1 x.2.2.1⟩
theorem Zq24_pc (N : Nat) : PC Tryz.prog 59 (Zq24_S N) := pcQ (L := [Zq24_l0_s N]) (Zq24_gok N) Tryz.call59 Tryz.func59 (fun x => by kernel_rfl) ⟨Zq24_l0_ok N, trivial⟩ (by kernel_rfl)

abbrev Zq62_ps : List (PV.Mode × Ty) := [(.ro, LI)]
abbrev Zq62_rs : List (Bool × Ty) := [(true, LI)]
noncomputable def Zq62_G (N : Nat) : GTab := gOf []
theorem Zq62_gok (N : Nat) : GOk Tryz.prog (Zq62_G N) := gOf_ok trivial
noncomputable def Zq62_code : Code := (Tryz.f68.body).getD .skip
noncomputable def Zq62 (N : Nat) (s : (List Int)) : Option (((List Int) × Unit) × (Unit)) :=
 (br (ieq (tLen s) 0)
 ((amb
 (some (([], ()), ()))
 ((chk (room (α := Int) (β := Int) [] s)
 (some (((tApp [] s), ()), ()))))))
 ((chk (room (α := Int) (β := Int) [] s)
 (some (((tApp [] s), ()), ())))))
noncomputable def Zq62_S (N : Nat) : FSum := ⟨Zq62_ps, Zq62_rs, fun x => Zq62 N x.1⟩
theorem Zq62_pc (N : Nat) : PC Tryz.prog 68 (Zq62_S N) := pcQ (L := []) (Zq62_gok N) Tryz.call68 Tryz.func68 (fun x => by kernel_rfl) trivial (by kernel_rfl)

abbrev Zq28_ps : List (PV.Mode × Ty) := [(.ro, QLLILQII), (.ro, LI), (.ro, LI)]
abbrev Zq28_rs : List (Bool × Ty) := [(true, LLI), (true, .bool)]
noncomputable def Zq28_G (N : Nat) : GTab := gOf [(47, Zq26_S N), (59, Zq24_S N), (68, Zq62_S N)]
theorem Zq28_gok (N : Nat) : GOk Tryz.prog (Zq28_G N) := gOf_ok ⟨Zq26_pc N, Zq24_pc N, Zq62_pc N, trivial⟩
noncomputable def Zq28_code : Code := (Tryz.f28.body).getD .skip
noncomputable def Zq28_l0_sh : Sh := ⟨[(3, .one (.adr 0 0)), (13, .one (.ro .bool)), (14, .one (.ref 1)), (43, .one (.ref 2)), (44, .one (.ro I)), (45, .one (.ro I))], [.box [.ro LLI, .ro LQII], .sl 27 LI .deep, .sl 3 I .own]⟩
noncomputable def Zq28_l0_ex : List (Ex × Sh) := [(.exit 0, ⟨[(13, .one (.ro .bool)), (14, .one (.ref 0))], [.sl 27 LI .deep]⟩)]
noncomputable def Zq28_l0 {R : Type} (N : Nat) (k0 : Bool → (List (List Int)) → Option R) : Nat → Bool → Int → Int → (List (List Int)) → (List (Int × Int)) → (List (List Int)) → (List Int) → Option R
 | 0, _, _, _, _, _, _, _ => none
 | K + 1, ok, x1, x2, o, o1, o2, o3 =>
 (br (ilt x2 x1)
 ((chk (inb o3 x2)
 (chk (inb o (rdI o3 x2))
 ((Zq62 N (rdL o (rdI o3 x2))).bind fun r3 =>
 (chk (room o2 [r3.1.1])
 (Zq28_l0 N k0 K ok x1 (IntKind.i64.wrap (x2 + 1)) o o1 (tApp o2 [r3.1.1]) o3))))))
 (k0 ok o2))
noncomputable def Zq28_l0_again {R : Type} (N : Nat) (ks : KS Zq28_l0_ex R) (k : Nat) (x : Zq28_l0_sh.T) : Option R :=
 Zq28_l0 N (fun y0 y1 => ks 0 ((y0, (), ()), (y1, ()))) k x.1.2.1 x.1.2.2.2.2.1 x.1.2.2.2.2.2.1 x.2.1.1 x.2.1.2.1 x.2.2.1 x.2.2.2.1
noncomputable def Zq28_l0_s (N : Nat) : LSum := ⟨Zq28_l0_sh, Zq28_l0_ex, fun x ks => Zq28_l0_again N ks N x⟩
theorem Zq28_l0_ok (N : Nat) : LoopOk Tryz.prog Tryz.f28.ntmps (Zq28_l0_s N) (loopAt Zq28_code 0) := loopQ (sh := Zq28_l0_sh) (ex := Zq28_l0_ex) (N := N) (L := []) (fun R k x ks => Zq28_l0_again N ks k x) (Zq28_gok N) (fun _ _ _ => rfl) (fun R k x ks => by kernel_rfl) trivial (by kernel_rfl)
noncomputable def Zq28 (N : Nat) (x : ((List (List Int)) × (List (Int × Int)))) (a : (List Int)) (b : (List Int)) : Option (((List (List Int)) × Bool × Unit) × (Unit)) :=
 ((Zq26 N (x.1, x.2) a).bind fun r =>
 ((Zq26 N (x.1, x.2) b).bind fun r1 =>
 (br (!r.1.2.1)
 (some (([], false, ()), ()))
 ((br (!r1.1.2.1)
 (some (([], false, ()), ()))
 (((Zq24 N (x.1, x.2) r.1.1 r1.1.1).bind fun r2 =>
 Zq28_l0 N (fun ok o => some ((o, ok, ()), ())) N r2.1.2.1 (tLen r2.1.1) 0 x.1 x.2 [] r2.1.1)))))))
noncomputable def Zq28_S (N : Nat) : FSum := ⟨Zq28_ps, Zq28_rs, fun x => Zq28 N x.1 x.2.1 x.2.2.1⟩
theorem Zq28_pc (N : Nat) : PC Tryz.prog 28 (Zq28_S N) := pcQ (L := [Zq28_l0_s N]) (Zq28_gok N) Tryz.call28 Tryz.func28 (fun x => by kernel_rfl) ⟨Zq28_l0_ok N, trivial⟩ (by kernel_rfl)

abbrev Zq4_ps : List (PV.Mode × Ty) := [(.ro, QILQII), (.ro, I), (.ro, LI), (.ro, LI)]
abbrev Zq4_rs : List (Bool × Ty) := [(true, LLI), (true, .bool)]
noncomputable def Zq4_G (N : Nat) : GTab := gOf [(27, Zq40_S N), (10, Zq3_S N), (28, Zq28_S N)]
theorem Zq4_gok (N : Nat) : GOk Tryz.prog (Zq4_G N) := gOf_ok ⟨Zq40_pc N, Zq3_pc N, Zq28_pc N, trivial⟩
noncomputable def Zq4_code : Code := (Tryz.f6.body).getD .skip
noncomputable def Zq4 (N : Nat) (g : (Int × (List (Int × Int)))) (kind : Int) (a : (List Int)) (b : (List Int)) : Option (((List (List Int)) × Bool × Unit) × (Unit)) :=
 ((Zq40 N (g.1, g.2) kind a).bind fun r =>
 (br (!r.1.1)
 (some (([], false, ()), ()))
 (((Zq40 N (g.1, g.2) kind b).bind fun r1 =>
 (br (!r1.1.1)
 (some (([], false, ()), ()))
 ((br (ine (tLen a) (tLen b))
 (some (([], false, ()), ()))
 (((Zq3 N (g.1, g.2) kind (tLen a)).bind fun r2 =>
 ((Zq28 N (r2.1.1.1, r2.1.1.2) a b).bind fun r3 =>
 some ((r3.1.1, r3.1.2.1, ()), ())))))))))))
noncomputable def Zq4_S (N : Nat) : FSum := ⟨Zq4_ps, Zq4_rs, fun x => Zq4 N x.1 x.2.1 x.2.2.1 x.2.2.2.1⟩
theorem Zq4_pc (N : Nat) : PC Tryz.prog 6 (Zq4_S N) := pcQ (L := []) (Zq4_gok N) Tryz.call6 Tryz.func6 (fun x => by kernel_rfl) trivial (by kernel_rfl)

abbrev Zq102_ps : List (PV.Mode × Ty) := [(.ro, LI), (.ro, I), (.ro, I)]
abbrev Zq102_rs : List (Bool × Ty) := [(true, .bool)]
noncomputable def Zq102_G (N : Nat) : GTab := gOf [(83, Zq96_S N)]
theorem Zq102_gok (N : Nat) : GOk Tryz.prog (Zq102_G N) := gOf_ok ⟨Zq96_pc N, trivial⟩
noncomputable def Zq102_code : Code := (Tryz.f146.body).getD .skip
noncomputable def Zq102_l0_sh : Sh := ⟨[(0, .one (.ro LI)), (1, .one (.ro I)), (2, .one (.ro I)), (7, .one (.ro I))], []⟩
noncomputable def Zq102_l0_ex : List (Ex × Sh) := [(.ret, ⟨[(6, .one (.ro .bool))], []⟩), (.exit 0, ⟨[], []⟩)]
noncomputable def Zq102_l0 {R : Type} (N : Nat) (k0 : Bool → Option R) (k1 : Unit → Option R) : Nat → (List Int) → Int → Int → Int → Option R
 | 0, _, _, _, _ => none
 | K + 1, l1, lo1, hi1, i =>
 (br (ilt i (tLen l1))
 ((chk (inb l1 i)
 ((Zq96 N (rdI l1 i) lo1 hi1).bind fun r =>
 (br (!r.1.1)
 (k0 false)
 ((br (ilt 0 i)
 ((chk (inb l1 (IntKind.i64.wrap (i - 1)))
 (chk (inb l1 i)
 (br (ile (rdI l1 i) (rdI l1 (IntKind.i64.wrap (i - 1))))
 (k0 false)
 (Zq102_l0 N k0 k1 K l1 lo1 hi1 (IntKind.i64.wrap (i + 1)))))))
 (Zq102_l0 N k0 k1 K l1 lo1 hi1 (IntKind.i64.wrap (i + 1)))))))))
 (k1 ()))
noncomputable def Zq102_l0_again {R : Type} (N : Nat) (ks : KS Zq102_l0_ex R) (k : Nat) (x : Zq102_l0_sh.T) : Option R :=
 Zq102_l0 N (fun y0 => ks 0 ((y0, ()), ())) (fun (_ : Unit) => ks 1 ((), ())) k x.1.1 x.1.2.1 x.1.2.2.1 x.1.2.2.2.1
noncomputable def Zq102_l0_s (N : Nat) : LSum := ⟨Zq102_l0_sh, Zq102_l0_ex, fun x ks => Zq102_l0_again N ks N x⟩
theorem Zq102_l0_ok (N : Nat) : LoopOk Tryz.prog Tryz.f146.ntmps (Zq102_l0_s N) (loopAt Zq102_code 0) := loopQ (sh := Zq102_l0_sh) (ex := Zq102_l0_ex) (N := N) (L := []) (fun R k x ks => Zq102_l0_again N ks k x) (Zq102_gok N) (fun _ _ _ => rfl) (fun R k x ks => by kernel_rfl) trivial (by kernel_rfl)
noncomputable def Zq102 (N : Nat) (l : (List Int)) (lo : Int) (hi : Int) : Option ((Bool × Unit) × (Unit)) :=
 Zq102_l0 N (fun x => some ((x, ()), ())) (fun (_ : Unit) => some ((true, ()), ())) N l lo hi 0
noncomputable def Zq102_S (N : Nat) : FSum := ⟨Zq102_ps, Zq102_rs, fun x => Zq102 N x.1 x.2.1 x.2.2.1⟩
theorem Zq102_pc (N : Nat) : PC Tryz.prog 146 (Zq102_S N) := pcQ (L := [Zq102_l0_s N]) (Zq102_gok N) Tryz.call146 Tryz.func146 (fun x => by kernel_rfl) ⟨Zq102_l0_ok N, trivial⟩ (by kernel_rfl)

abbrev Zq113_ps : List (PV.Mode × Ty) := [(.ro, QILQII), (.ro, LI)]
abbrev Zq113_rs : List (Bool × Ty) := [(true, .bool)]
noncomputable def Zq113_G (N : Nat) : GTab := gOf [(146, Zq102_S N)]
theorem Zq113_gok (N : Nat) : GOk Tryz.prog (Zq113_G N) := gOf_ok ⟨Zq102_pc N, trivial⟩
noncomputable def Zq113_code : Code := (Tryz.f113.body).getD .skip
noncomputable def Zq113 (N : Nat) (g : (Int × (List (Int × Int)))) (setv : (List Int)) : Option ((Bool × Unit) × (Unit)) :=
 ((Zq102 N setv 0 (IntKind.i64.wrap (g.1 - 1))).bind fun r =>
 some ((r.1.1, ()), ()))
noncomputable def Zq113_S (N : Nat) : FSum := ⟨Zq113_ps, Zq113_rs, fun x => Zq113 N x.1 x.2.1⟩
theorem Zq113_pc (N : Nat) : PC Tryz.prog 113 (Zq113_S N) := pcQ (L := []) (Zq113_gok N) Tryz.call113 Tryz.func113 (fun x => by kernel_rfl) trivial (by kernel_rfl)

abbrev Zq82_ps : List (PV.Mode × Ty) := [(.ro, QILQII), (.ro, I), (.ro, LI)]
abbrev Zq82_rs : List (Bool × Ty) := [(true, .bool), (true, .bool)]
noncomputable def Zq82_G (N : Nat) : GTab := gOf [(64, Zq119_S N), (113, Zq113_S N), (112, Zq120_S N)]
theorem Zq82_gok (N : Nat) : GOk Tryz.prog (Zq82_G N) := gOf_ok ⟨Zq119_pc N, Zq113_pc N, Zq120_pc N, trivial⟩
noncomputable def Zq82_code : Code := (Tryz.f69.body).getD .skip
noncomputable def Zq82 (N : Nat) (g : (Int × (List (Int × Int)))) (kind : Int) (setv : (List Int)) : Option ((Bool × Bool × Unit) × (Unit)) :=
 ((Zq119 N (g.1, g.2) kind).bind fun r =>
 (br (!r.1.1)
 (some ((false, false, ()), ()))
 (((Zq113 N (g.1, g.2) setv).bind fun r1 =>
 (br (!r1.1.1)
 (some ((false, false, ()), ()))
 (((Zq120 N (g.1, g.2) kind setv).bind fun r2 =>
 some ((r2.1.1, true, ()), ()))))))))
noncomputable def Zq82_S (N : Nat) : FSum := ⟨Zq82_ps, Zq82_rs, fun x => Zq82 N x.1 x.2.1 x.2.2.1⟩
theorem Zq82_pc (N : Nat) : PC Tryz.prog 69 (Zq82_S N) := pcQ (L := []) (Zq82_gok N) Tryz.call69 Tryz.func69 (fun x => by kernel_rfl) trivial (by kernel_rfl)

abbrev Zq125_ps : List (PV.Mode × Ty) := [(.ro, QILQII), (.ro, I), (.ro, LI)]
abbrev Zq125_rs : List (Bool × Ty) := [(true, .bool)]
noncomputable def Zq125_G (N : Nat) : GTab := gOf [(69, Zq82_S N)]
theorem Zq125_gok (N : Nat) : GOk Tryz.prog (Zq125_G N) := gOf_ok ⟨Zq82_pc N, trivial⟩
noncomputable def Zq125_code : Code := (Tryz.f29.body).getD .skip
noncomputable def Zq125 (N : Nat) (g : (Int × (List (Int × Int)))) (kind : Int) (setv : (List Int)) : Option ((Bool × Unit) × (Unit)) :=
 ((Zq82 N (g.1, g.2) kind setv).bind fun r =>
 (br r.1.1
 (some ((r.1.2.1, ()), ()))
 (some ((false, ()), ()))))
noncomputable def Zq125_S (N : Nat) : FSum := ⟨Zq125_ps, Zq125_rs, fun x => Zq125 N x.1 x.2.1 x.2.2.1⟩
theorem Zq125_pc (N : Nat) : PC Tryz.prog 29 (Zq125_S N) := pcQ (L := []) (Zq125_gok N) Tryz.call29 Tryz.func29 (fun x => by kernel_rfl) trivial (by kernel_rfl)

abbrev Zq123_ps : List (PV.Mode × Ty) := [(.ro, LI), (.ro, LI)]
abbrev Zq123_rs : List (Bool × Ty) := [(true, LI)]
noncomputable def Zq123_G (N : Nat) : GTab := gOf [(115, Zq95_S N)]
theorem Zq123_gok (N : Nat) : GOk Tryz.prog (Zq123_G N) := gOf_ok ⟨Zq95_pc N, trivial⟩
noncomputable def Zq123_code : Code := (Tryz.f71.body).getD .skip
noncomputable def Zq123_l0_sh : Sh := ⟨[(0, .one (.ro LI)), (1, .one (.ro LI)), (5, .one (.ref 0)), (6, .one (.ro I))], [.sl 3 I .own]⟩
noncomputable def Zq123_l0_ex : List (Ex × Sh) := [(.exit 0, ⟨[(5, .one (.ref 0))], [.sl 3 I .own]⟩)]
noncomputable def Zq123_l0 {R : Type} (N : Nat) (k0 : (List Int) → Option R) : Nat → (List Int) → (List Int) → Int → (List Int) → Option R
 | 0, _, _, _, _ => none
 | K + 1, a1, b1, i, o =>
 (br (ilt i (tLen a1))
 ((chk (inb a1 i)
 ((Zq95 N b1 (rdI a1 i)).bind fun r =>
 (br (!r.1.1)
 ((chk (inb a1 i)
 (chk (room o [(rdI a1 i)])
 (Zq123_l0 N k0 K a1 b1 (IntKind.i64.wrap (i + 1)) (tApp o [(rdI a1 i)])))))
 (Zq123_l0 N k0 K a1 b1 (IntKind.i64.wrap (i + 1)) o)))))
 (k0 o))
noncomputable def Zq123_l0_again {R : Type} (N : Nat) (ks : KS Zq123_l0_ex R) (k : Nat) (x : Zq123_l0_sh.T) : Option R :=
 Zq123_l0 N (fun y0 => ks 0 (((), ()), (y0, ()))) k x.1.1 x.1.2.1 x.1.2.2.2.1 x.2.1
noncomputable def Zq123_l0_s (N : Nat) : LSum := ⟨Zq123_l0_sh, Zq123_l0_ex, fun x ks => Zq123_l0_again N ks N x⟩
theorem Zq123_l0_ok (N : Nat) : LoopOk Tryz.prog Tryz.f71.ntmps (Zq123_l0_s N) (loopAt Zq123_code 0) := loopQ (sh := Zq123_l0_sh) (ex := Zq123_l0_ex) (N := N) (L := []) (fun R k x ks => Zq123_l0_again N ks k x) (Zq123_gok N) (fun _ _ _ => rfl) (fun R k x ks => by kernel_rfl) trivial (by kernel_rfl)
noncomputable def Zq123 (N : Nat) (a : (List Int)) (b : (List Int)) : Option (((List Int) × Unit) × (Unit)) :=
 Zq123_l0 N (fun o => some ((o, ()), ())) N a b 0 []
noncomputable def Zq123_S (N : Nat) : FSum := ⟨Zq123_ps, Zq123_rs, fun x => Zq123 N x.1 x.2.1⟩
theorem Zq123_pc (N : Nat) : PC Tryz.prog 71 (Zq123_S N) := pcQ (L := [Zq123_l0_s N]) (Zq123_gok N) Tryz.call71 Tryz.func71 (fun x => by kernel_rfl) ⟨Zq123_l0_ok N, trivial⟩ (by kernel_rfl)

abbrev Zq117_ps : List (PV.Mode × Ty) := [(.ro, QILQII), (.ro, I), (.ro, I), (.ro, .bool)]
abbrev Zq117_rs : List (Bool × Ty) := [(false, QLLILQII)]
noncomputable def Zq117_G (N : Nat) : GTab := gOf [(66, Zq126_S N), (70, Zq114_S N), (71, Zq123_S N), (72, Zq110_S N)]
theorem Zq117_gok (N : Nat) : GOk Tryz.prog (Zq117_G N) := gOf_ok ⟨Zq126_pc N, Zq114_pc N, Zq123_pc N, Zq110_pc N, trivial⟩
noncomputable def Zq117_code : Code := (Tryz.f30.body).getD .skip
noncomputable def Zq117_l0_sh : Sh := ⟨[(2, .one (.ro I)), (3, .one (.ro .bool)), (4, .one (.adr 0 0)), (8, .one (.adr 1 0)), (9, .one (.ro LLI)), (10, .one (.ref 2)), (11, .one (.ro I))], [.box [.ro I, .ro LQII], .box [.nilsl, .nilsl], .sl 27 LI .own]⟩
noncomputable def Zq117_l0_ex : List (Ex × Sh) := [(.exit 0, ⟨[(3, .one (.ro .bool)), (4, .one (.adr 0 0)), (8, .one (.adr 1 0)), (10, .one (.ref 2))], [.box [.ro I, .ro LQII], .box [.nilsl, .nilsl], .sl 27 LI .own]⟩)]
noncomputable def Zq117_l0 {R : Type} (N : Nat) (k0 : Bool → Int → (List (Int × Int)) → (List (List Int)) → Option R) : Nat → Int → Bool → (List (List Int)) → Int → Int → (List (Int × Int)) → (List (List Int)) → Option R
 | 0, _, _, _, _, _, _, _ => none
 | K + 1, x4, x5, x6, x7, o3, o4, o5 =>
 (br (ilt x7 (tLen x6))
 ((chk (inb x6 x7)
 (br (ieq (tLen (rdL x6 x7)) x4)
 ((chk (inb x6 x7)
 (chk (room o5 [(rdL x6 x7)])
 (Zq117_l0 N k0 K x4 x5 x6 (IntKind.i64.wrap (x7 + 1)) o3 o4 (tApp o5 [(rdL x6 x7)])))))
 (Zq117_l0 N k0 K x4 x5 x6 (IntKind.i64.wrap (x7 + 1)) o3 o4 o5))))
 (k0 x5 o3 o4 o5))
noncomputable def Zq117_l0_again {R : Type} (N : Nat) (ks : KS Zq117_l0_ex R) (k : Nat) (x : Zq117_l0_sh.T) : Option R :=
 Zq117_l0 N (fun y0 y1 y2 y3 => ks 0 ((y0, (), (), (), ()), ((y1, y2, ()), ((), (), ()), y3, ()))) k x.1.1 x.1.2.1 x.1.2.2.2.2.1 x.1.2.2.2.2.2.2.1 x.2.1.1 x.2.1.2.1 x.2.2.2.1
noncomputable def Zq117_l0_s (N : Nat) : LSum := ⟨Zq117_l0_sh, Zq117_l0_ex, fun x ks => Zq117_l0_again N ks N x⟩
theorem Zq117_l0_ok (N : Nat) : LoopOk Tryz.prog Tryz.f30.ntmps (Zq117_l0_s N) (loopAt Zq117_code 0) := loopQ (sh := Zq117_l0_sh) (ex := Zq117_l0_ex) (N := N) (L := []) (fun R k x ks => Zq117_l0_again N ks k x) (Zq117_gok N) (fun _ _ _ => rfl) (fun R k x ks => by kernel_rfl) trivial (by kernel_rfl)
noncomputable def Zq117_l1_0_sh : Sh := ⟨[(3, .one (.ro .bool)), (4, .one (.adr 0 0)), (8, .one (.adr 1 0)), (12, .one (.adr 2 0)), (13, .one (.ro I)), (14, .one (.ro I))], [.box [.ro I, .ro LQII], .box [.nilsl, .nilsl], .box [.ro LLI, .ref 3], .sl 73 QII .own]⟩
noncomputable def Zq117_l1_0_ex : List (Ex × Sh) := [(.exit 4, ⟨[(3, .one (.ro .bool)), (4, .one (.adr 0 0)), (8, .one (.adr 1 0)), (12, .one (.adr 2 0)), (13, .one (.ro I))], [.box [.ro I, .ro LQII], .box [.nilsl, .nilsl], .box [.ro LLI, .ref 3], .sl 73 QII .own]⟩)]
noncomputable def Zq117_l1_0 {R : Type} (N : Nat) (k0 : Bool → Int → Int → (List (Int × Int)) → (List (List Int)) → (List (Int × Int)) → Option R) : Nat → Bool → Int → Int → Int → (List (Int × Int)) → (List (List Int)) → (List (Int × Int)) → Option R
 | 0, _, _, _, _, _, _, _ => none
 | K + 1, x7, x8, x9, o10, o11, o12, o13 =>
 (br (ilt x9 (tLen o12))
 ((chk (inb o12 x8)
 (chk (inb o12 x9)
 ((Zq123 N (rdL o12 x8) (rdL o12 x9)).bind fun r2 =>
 (chk (inb o12 x9)
 (chk (inb o12 x8)
 ((Zq123 N (rdL o12 x9) (rdL o12 x8)).bind fun r3 =>
 (br (ieq (tLen r2.1.1) 1)
 ((br (!x7)
 ((chk (room o13 [(x8, x9)])
 (Zq117_l1_0 N k0 K x7 x8 (IntKind.i64.wrap (x9 + 1)) o10 o11 o12 (tApp o13 [(x8, x9)]))))
 ((chk (inb r2.1.1 0)
 (chk (inb r3.1.1 0)
 ((Zq110 N (o10, o11) (rdI r2.1.1 0) (rdI r3.1.1 0)).bind fun r4 =>
 (br r4.1.1
 ((chk (room o13 [(x8, x9)])
 (Zq117_l1_0 N k0 K x7 x8 (IntKind.i64.wrap (x9 + 1)) o10 o11 o12 (tApp o13 [(x8, x9)]))))
 (Zq117_l1_0 N k0 K x7 x8 (IntKind.i64.wrap (x9 + 1)) o10 o11 o12 o13))))))))
 (Zq117_l1_0 N k0 K x7 x8 (IntKind.i64.wrap (x9 + 1)) o10 o11 o12 o13)))))))))
 (k0 x7 x8 o10 o11 o12 o13))
noncomputable def Zq117_l1_0_again {R : Type} (N : Nat) (ks : KS Zq117_l1_0_ex R) (k : Nat) (x : Zq117_l1_0_sh.T) : Option R :=
 Zq117_l1_0 N (fun y0 y1 y2 y3 y4 y5 => ks 0 ((y0, (), (), (), y1, ()), ((y2, y3, ()), ((), (), ()), (y4, (), ()), y5, ()))) k x.1.1 x.1.2.2.2.2.1 x.1.2.2.2.2.2.1 x.2.1.1 x.2.1.2.1 x.2.2.2.1.1 x.2.2.2.2.1
noncomputable def Zq117_l1_0_s (N : Nat) : LSum := ⟨Zq117_l1_0_sh, Zq117_l1_0_ex, fun x ks => Zq117_l1_0_again N ks N x⟩
theorem Zq117_l1_0_ok (N : Nat) : LoopOk Tryz.prog Tryz.f30.ntmps (Zq117_l1_0_s N) (loopAt (loopAt Zq117_code 1) 0) := loopQ (sh := Zq117_l1_0_sh) (ex := Zq117_l1_0_ex) (N := N) (L := []) (fun R k x ks => Zq117_l1_0_again N ks k x) (Zq117_gok N) (fun _ _ _ => rfl) (fun R k x ks => by kernel_rfl) trivial (by kernel_rfl)
noncomputable def Zq117_l1_sh : Sh := ⟨[(3, .one (.ro .bool)), (4, .one (.adr 0 0)), (8, .one (.adr 1 0)), (12, .one (.adr 2 0)), (13, .one (.ro I))], [.box [.ro I, .ro LQII], .box [.nilsl, .nilsl], .box [.ro LLI, .ref 3], .sl 73 QII .own]⟩
noncomputable def Zq117_l1_ex : List (Ex × Sh) := [(.exit 2, ⟨[(8, .one (.adr 0 0)), (12, .one (.adr 1 0))], [.box [.nilsl, .nilsl], .box [.ro LLI, .ref 2], .sl 73 QII .own]⟩)]
noncomputable def Zq117_l1 {R : Type} (N : Nat) (k0 : (List (List Int)) → (List (Int × Int)) → Option R) : Nat → Bool → Int → Int → (List (Int × Int)) → (List (List Int)) → (List (Int × Int)) → Option R
 | 0, _, _, _, _, _, _ => none
 | K + 1, x5, x6, o6, o7, o8, o9 =>
 (br (ilt x6 (tLen o8))
 (Zq117_l1_0 N (fun x7 x8 o10 o11 o12 o13 => Zq117_l1 N k0 K x7 (IntKind.i64.wrap (x8 + 1)) o10 o11 o12 o13) N x5 x6 (IntKind.i64.wrap (x6 + 1)) o6 o7 o8 o9)
 (k0 o8 o9))
noncomputable def Zq117_l1_again {R : Type} (N : Nat) (ks : KS Zq117_l1_ex R) (k : Nat) (x : Zq117_l1_sh.T) : Option R :=
 Zq117_l1 N (fun y0 y1 => ks 0 (((), (), ()), (((), (), ()), (y0, (), ()), y1, ()))) k x.1.1 x.1.2.2.2.2.1 x.2.1.1 x.2.1.2.1 x.2.2.2.1.1 x.2.2.2.2.1
noncomputable def Zq117_l1_s (N : Nat) : LSum := ⟨Zq117_l1_sh, Zq117_l1_ex, fun x ks => Zq117_l1_again N ks N x⟩
theorem Zq117_l1_ok (N : Nat) : LoopOk Tryz.prog Tryz.f30.ntmps (Zq117_l1_s N) (loopAt Zq117_code 1) := loopQ (sh := Zq117_l1_sh) (ex := Zq117_l1_ex) (N := N) (L := [Zq117_l1_0_s N]) (fun R k x ks => Zq117_l1_again N ks k x) (Zq117_gok N) (fun _ _ _ => rfl) (fun R k x ks => by kernel_rfl) ⟨Zq117_l1_0_ok N, trivial⟩ (by kernel_rfl)
noncomputable def Zq117 (N : Nat) (c : (Int × (List (Int × Int)))) (c1 : Int) (c2 : Int) (c3 : Bool) : Option ((((List (List Int)) × (List (Int × Int))) × Unit) × (Unit)) :=
 ((Zq126 N (c.1, c.2) c1).bind fun r =>
 Zq117_l0 N (fun x4 o3 o4 o5 => ((Zq114 N o5).bind fun r1 =>
 Zq117_l1 N (fun o6 o7 => some (((o6, o7), ()), ())) N x4 0 o3 o4 r1.1.1 [])) N c2 c3 r.1.1 0 c.1 c.2 [])
noncomputable def Zq117_S (N : Nat) : FSum := ⟨Zq117_ps, Zq117_rs, fun x => Zq117 N x.1 x.2.1 x.2.2.1 x.2.2.2.1⟩
theorem Zq117_pc (N : Nat) : PC Tryz.prog 30 (Zq117_S N) := pcQ (L := [Zq117_l0_s N, Zq117_l1_s N]) (Zq117_gok N) Tryz.call30 Tryz.func30 (fun x => by kernel_rfl) ⟨Zq117_l0_ok N, Zq117_l1_ok N, trivial⟩ (by kernel_rfl)

abbrev Zq108_ps : List (PV.Mode × Ty) := [(.ro, QLLILQII), (.ro, LI)]
abbrev Zq108_rs : List (Bool × Ty) := [(true, I)]
noncomputable def Zq108_G (N : Nat) : GTab := gOf [(75, Zq103_S N)]
theorem Zq108_gok (N : Nat) : GOk Tryz.prog (Zq108_G N) := gOf_ok ⟨Zq103_pc N, trivial⟩
noncomputable def Zq108_code : Code := (Tryz.f32.body).getD .skip
noncomputable def Zq108_l0_sh : Sh := ⟨[(1, .one (.ro LI)), (2, .one (.adr 0 0)), (5, .one (.ro I))], [.box [.ro LLI, .ro LQII]]⟩
noncomputable def Zq108_l0_ex : List (Ex × Sh) := [(.ret, ⟨[(4, .one (.ro I))], []⟩), (.exit 0, ⟨[], []⟩)]
noncomputable def Zq108_l0 {R : Type} (N : Nat) (k0 : Int → Option R) (k1 : Unit → Option R) : Nat → (List Int) → Int → (List (List Int)) → (List (Int × Int)) → Option R
 | 0, _, _, _, _ => none
 | K + 1, state1, i, o, o1 =>
 (br (ilt i (tLen o))
 ((chk (inb o i)
 ((Zq103 N (rdL o i) state1).bind fun r =>
 (br r.1.1
 (k0 i)
 (Zq108_l0 N k0 k1 K state1 (IntKind.i64.wrap (i + 1)) o o1)))))
 (k1 ()))
noncomputable def Zq108_l0_again {R : Type} (N : Nat) (ks : KS Zq108_l0_ex R) (k : Nat) (x : Zq108_l0_sh.T) : Option R :=
 Zq108_l0 N (fun y0 => ks 0 ((y0, ()), ())) (fun (_ : Unit) => ks 1 ((), ())) k x.1.1 x.1.2.2.1 x.2.1.1 x.2.1.2.1
noncomputable def Zq108_l0_s (N : Nat) : LSum := ⟨Zq108_l0_sh, Zq108_l0_ex, fun x ks => Zq108_l0_again N ks N x⟩
theorem Zq108_l0_ok (N : Nat) : LoopOk Tryz.prog Tryz.f32.ntmps (Zq108_l0_s N) (loopAt Zq108_code 0) := loopQ (sh := Zq108_l0_sh) (ex := Zq108_l0_ex) (N := N) (L := []) (fun R k x ks => Zq108_l0_again N ks k x) (Zq108_gok N) (fun _ _ _ => rfl) (fun R k x ks => by kernel_rfl) trivial (by kernel_rfl)
noncomputable def Zq108 (N : Nat) (x : ((List (List Int)) × (List (Int × Int)))) (state : (List Int)) : Option ((Int × Unit) × (Unit)) :=
 Zq108_l0 N (fun x1 => some ((x1, ()), ())) (fun (_ : Unit) => some (((-1), ()), ())) N state 0 x.1 x.2
noncomputable def Zq108_S (N : Nat) : FSum := ⟨Zq108_ps, Zq108_rs, fun x => Zq108 N x.1 x.2.1⟩
theorem Zq108_pc (N : Nat) : PC Tryz.prog 32 (Zq108_S N) := pcQ (L := [Zq108_l0_s N]) (Zq108_gok N) Tryz.call32 Tryz.func32 (fun x => by kernel_rfl) ⟨Zq108_l0_ok N, trivial⟩ (by kernel_rfl)

abbrev Zq109_ps : List (PV.Mode × Ty) := [(.ro, QLLILQII)]
abbrev Zq109_rs : List (Bool × Ty) := [(true, LLI)]
noncomputable def Zq109_G (N : Nat) : GTab := gOf []
theorem Zq109_gok (N : Nat) : GOk Tryz.prog (Zq109_G N) := gOf_ok trivial
noncomputable def Zq109_code : Code := (Tryz.f73.body).getD .skip
noncomputable def Zq109_l0_sh : Sh := ⟨[(1, .one (.adr 0 0)), (3, .one (.ref 1)), (4, .one (.ro I))], [.box [.ro LLI, .ro LQII], .sl 27 LI .deep]⟩
noncomputable def Zq109_l0_ex : List (Ex × Sh) := [(.exit 0, ⟨[(1, .one (.adr 0 0)), (3, .one (.ref 1))], [.box [.ro LLI, .ro LQII], .sl 27 LI .deep]⟩)]
noncomputable def Zq109_l0 {R : Type} (N : Nat) (k0 : (List (List Int)) → (List (Int × Int)) → (List (List Int)) → Option R) : Nat → Int → (List (List Int)) → (List (Int × Int)) → (List (List Int)) → Option R
 | 0, _, _, _, _ => none
 | K + 1, x, o, o1, o2 =>
 (br (ilt x (tLen o1))
 ((chk (inb o1 x)
 (chk (inb o1 x)
 (chk (inb o2 ((rdP o1 x).2))
 (chk (room (rdL o2 ((rdP o1 x).2)) [(rdP o1 x).1])
 (chk (inb o2 ((rdP o1 x).2))
 (chk (ieq ((rdP o1 x).2) ((rdP o1 x).2))
 (Zq109_l0 N k0 K (IntKind.i64.wrap (x + 1)) o o1 (tSet o2 ((rdP o1 x).2) (tApp (rdL o2 ((rdP o1 x).2)) [(rdP o1 x).1]))))))))))
 (k0 o o1 o2))
noncomputable def Zq109_l0_again {R : Type} (N : Nat) (ks : KS Zq109_l0_ex R) (k : Nat) (x : Zq109_l0_sh.T) : Option R :=
 Zq109_l0 N (fun y0 y1 y2 => ks 0 (((), (), ()), ((y0, y1, ()), y2, ()))) k x.1.2.2.1 x.2.1.1 x.2.1.2.1 x.2.2.1
noncomputable def Zq109_l0_s (N : Nat) : LSum := ⟨Zq109_l0_sh, Zq109_l0_ex, fun x ks => Zq109_l0_again N ks N x⟩
theorem Zq109_l0_ok (N : Nat) : LoopOk Tryz.prog Tryz.f73.ntmps (Zq109_l0_s N) (loopAt Zq109_code 0) := loopQ (sh := Zq109_l0_sh) (ex := Zq109_l0_ex) (N := N) (L := []) (fun R k x ks => Zq109_l0_again N ks k x) (Zq109_gok N) (fun _ _ _ => rfl) (fun R k x ks => by kernel_rfl) trivial (by kernel_rfl)
noncomputable def Zq109_l1_sh : Sh := ⟨[(1, .one (.adr 0 0)), (3, .one (.ref 1)), (7, .one (.ro I))], [.box [.ro LLI, .ro LQII], .sl 27 LI .deep]⟩
noncomputable def Zq109_l1_ex : List (Ex × Sh) := [(.exit 2, ⟨[(3, .one (.ref 0))], [.sl 27 LI .deep]⟩)]
noncomputable def Zq109_l1 {R : Type} (N : Nat) (k0 : (List (List Int)) → Option R) : Nat → Int → (List (List Int)) → (List (Int × Int)) → (List (List Int)) → Option R
 | 0, _, _, _, _ => none
 | K + 1, x, o3, o4, o5 =>
 (br (ilt x (tLen o4))
 ((chk (inb o4 x)
 (chk (inb o4 x)
 (chk (inb o5 ((rdP o4 x).1))
 (chk (room (rdL o5 ((rdP o4 x).1)) [(rdP o4 x).2])
 (chk (inb o5 ((rdP o4 x).1))
 (chk (ieq ((rdP o4 x).1) ((rdP o4 x).1))
 (Zq109_l1 N k0 K (IntKind.i64.wrap (x + 1)) o3 o4 (tSet o5 ((rdP o4 x).1) (tApp (rdL o5 ((rdP o4 x).1)) [(rdP o4 x).2]))))))))))
 (k0 o5))
noncomputable def Zq109_l1_again {R : Type} (N : Nat) (ks : KS Zq109_l1_ex R) (k : Nat) (x : Zq109_l1_sh.T) : Option R :=
 Zq109_l1 N (fun y0 => ks 0 (((), ()), (y0, ()))) k x.1.2.2.1 x.2.1.1 x.2.1.2.1 x.2.2.1
noncomputable def Zq109_l1_s (N : Nat) : LSum := ⟨Zq109_l1_sh, Zq109_l1_ex, fun x ks => Zq109_l1_again N ks N x⟩
theorem Zq109_l1_ok (N : Nat) : LoopOk Tryz.prog Tryz.f73.ntmps (Zq109_l1_s N) (loopAt Zq109_code 1) := loopQ (sh := Zq109_l1_sh) (ex := Zq109_l1_ex) (N := N) (L := []) (fun R k x ks => Zq109_l1_again N ks k x) (Zq109_gok N) (fun _ _ _ => rfl) (fun R k x ks => by kernel_rfl) trivial (by kernel_rfl)
noncomputable def Zq109 (N : Nat) (c : ((List (List Int)) × (List (Int × Int)))) : Option (((List (List Int)) × Unit) × (Unit)) :=
 (chk (ile 0 (tLen c.1) && ile (tLen c.1) (tLen c.1) && fits (tLen c.1))
 (Zq109_l0 N (fun o o1 o2 => Zq109_l1 N (fun o3 => some ((o3, ()), ())) N 0 o o1 o2) N 0 c.1 c.2 (tRep (tLen c.1) [])))
noncomputable def Zq109_S (N : Nat) : FSum := ⟨Zq109_ps, Zq109_rs, fun x => Zq109 N x.1⟩
theorem Zq109_pc (N : Nat) : PC Tryz.prog 73 (Zq109_S N) := pcQ (L := [Zq109_l0_s N, Zq109_l1_s N]) (Zq109_gok N) Tryz.call73 Tryz.func73 (fun x => by kernel_rfl) ⟨Zq109_l0_ok N, Zq109_l1_ok N, trivial⟩ (by kernel_rfl)

abbrev Zq115_ps : List (PV.Mode × Ty) := [(.ro, LLI), (.ro, I)]
abbrev Zq115_rs : List (Bool × Ty) := [(true, LI)]
noncomputable def Zq115_G (N : Nat) : GTab := gOf []
theorem Zq115_gok (N : Nat) : GOk Tryz.prog (Zq115_G N) := gOf_ok trivial
noncomputable def Zq115_code : Code := (Tryz.f74.body).getD .skip
noncomputable def Zq115_l0_sh : Sh := ⟨[(0, .one (.ro LLI)), (1, .one (.ro I)), (5, .one (.ref 0)), (6, .one (.ro I))], [.sl 3 I .own]⟩
noncomputable def Zq115_l0_ex : List (Ex × Sh) := [(.exit 0, ⟨[(0, .one (.ro LLI)), (1, .one (.ro I)), (5, .one (.ref 0))], [.sl 3 I .own]⟩)]
noncomputable def Zq115_l0 {R : Type} (N : Nat) (k0 : (List (List Int)) → Int → (List Int) → Option R) : Nat → (List (List Int)) → Int → Int → (List Int) → Option R
 | 0, _, _, _, _ => none
 | K + 1, x, x1, x2, o =>
 (br (ilt x2 (tLen o))
 ((chk (inb o x2)
 (Zq115_l0 N k0 K x x1 (IntKind.i64.wrap (x2 + 1)) (tSet o x2 (-1)))))
 (k0 x x1 o))
noncomputable def Zq115_l0_again {R : Type} (N : Nat) (ks : KS Zq115_l0_ex R) (k : Nat) (x : Zq115_l0_sh.T) : Option R :=
 Zq115_l0 N (fun y0 y1 y2 => ks 0 ((y0, y1, (), ()), (y2, ()))) k x.1.1 x.1.2.1 x.1.2.2.2.1 x.2.1
noncomputable def Zq115_l0_s (N : Nat) : LSum := ⟨Zq115_l0_sh, Zq115_l0_ex, fun x ks => Zq115_l0_again N ks N x⟩
theorem Zq115_l0_ok (N : Nat) : LoopOk Tryz.prog Tryz.f74.ntmps (Zq115_l0_s N) (loopAt Zq115_code 0) := loopQ (sh := Zq115_l0_sh) (ex := Zq115_l0_ex) (N := N) (L := []) (fun R k x ks => Zq115_l0_again N ks k x) (Zq115_gok N) (fun _ _ _ => rfl) (fun R k x ks => by kernel_rfl) trivial (by kernel_rfl)
noncomputable def Zq115_l1_0_sh : Sh := ⟨[(0, .one (.ro LLI)), (5, .one (.ref 0)), (7, .one (.ref 1)), (8, .one (.ro I)), (9, .one (.ro LI)), (10, .one (.ro I))], [.sl 3 I .own, .sl 3 I .own]⟩
noncomputable def Zq115_l1_0_ex : List (Ex × Sh) := [(.exit 4, ⟨[(0, .one (.ro LLI)), (5, .one (.ref 0)), (7, .one (.ref 1)), (8, .one (.ro I))], [.sl 3 I .own, .sl 3 I .own]⟩)]
noncomputable def Zq115_l1_0 {R : Type} (N : Nat) (k0 : (List (List Int)) → Int → (List Int) → (List Int) → Option R) : Nat → (List (List Int)) → Int → (List Int) → Int → (List Int) → (List Int) → Option R
 | 0, _, _, _, _, _, _ => none
 | K + 1, x4, x5, x6, x7, o3, o4 =>
 (br (ilt x7 (tLen x6))
 ((chk (inb x6 x7)
 (chk (inb o3 (rdI x6 x7))
 (br (ilt (rdI o3 (rdI x6 x7)) 0)
 ((chk (inb x6 x7)
 (chk (inb o4 x5)
 (chk (inb o3 (rdI o4 x5))
 (chk (inb o3 (rdI x6 x7))
 (chk (inb x6 x7)
 (chk (room o4 [(rdI x6 x7)])
 (Zq115_l1_0 N k0 K x4 x5 x6 (IntKind.i64.wrap (x7 + 1)) (tSet o3 (rdI x6 x7) (IntKind.i64.wrap ((rdI o3 (rdI o4 x5)) + 1))) (tApp o4 [(rdI x6 x7)])))))))))
 (Zq115_l1_0 N k0 K x4 x5 x6 (IntKind.i64.wrap (x7 + 1)) o3 o4)))))
 (k0 x4 x5 o3 o4))
noncomputable def Zq115_l1_0_again {R : Type} (N : Nat) (ks : KS Zq115_l1_0_ex R) (k : Nat) (x : Zq115_l1_0_sh.T) : Option R :=
 Zq115_l1_0 N (fun y0 y1 y2 y3 => ks 0 ((y0, (), (), y1, ()), (y2, y3, ()))) k x.1.1 x.1.2.2.2.1 x.1.2.2.2.2.1 x.1.2.2.2.2.2.1 x.2.1 x.2.2.1
noncomputable def Zq115_l1_0_s (N : Nat) : LSum := ⟨Zq115_l1_0_sh, Zq115_l1_0_ex, fun x ks => Zq115_l1_0_again N ks N x⟩
theorem Zq115_l1_0_ok (N : Nat) : LoopOk Tryz.prog Tryz.f74.ntmps (Zq115_l1_0_s N) (loopAt (loopAt Zq115_code 1) 0) := loopQ (sh := Zq115_l1_0_sh) (ex := Zq115_l1_0_ex) (N := N) (L := []) (fun R k x ks => Zq115_l1_0_again N ks k x) (Zq115_gok N) (fun _ _ _ => rfl) (fun R k x ks => by kernel_rfl) trivial (by kernel_rfl)
noncomputable def Zq115_l1_sh : Sh := ⟨[(0, .one (.ro LLI)), (5, .one (.ref 0)), (7, .one (.ref 1)), (8, .one (.ro I))], [.sl 3 I .own, .sl 3 I .own]⟩
noncomputable def Zq115_l1_ex : List (Ex × Sh) := [(.exit 2, ⟨[(5, .one (.ref 0))], [.sl 3 I .own]⟩)]
noncomputable def Zq115_l1 {R : Type} (N : Nat) (k0 : (List Int) → Option R) : Nat → (List (List Int)) → Int → (List Int) → (List Int) → Option R
 | 0, _, _, _, _ => none
 | K + 1, x2, x3, o1, o2 =>
 (br (ilt x3 (tLen o2))
 ((chk (inb o2 x3)
 (chk (inb x2 (rdI o2 x3))
 (Zq115_l1_0 N (fun x4 x5 o3 o4 => Zq115_l1 N k0 K x4 (IntKind.i64.wrap (x5 + 1)) o3 o4) N x2 x3 (rdL x2 (rdI o2 x3)) 0 o1 o2))))
 (k0 o1))
noncomputable def Zq115_l1_again {R : Type} (N : Nat) (ks : KS Zq115_l1_ex R) (k : Nat) (x : Zq115_l1_sh.T) : Option R :=
 Zq115_l1 N (fun y0 => ks 0 (((), ()), (y0, ()))) k x.1.1 x.1.2.2.2.1 x.2.1 x.2.2.1
noncomputable def Zq115_l1_s (N : Nat) : LSum := ⟨Zq115_l1_sh, Zq115_l1_ex, fun x ks => Zq115_l1_again N ks N x⟩
theorem Zq115_l1_ok (N : Nat) : LoopOk Tryz.prog Tryz.f74.ntmps (Zq115_l1_s N) (loopAt Zq115_code 1) := loopQ (sh := Zq115_l1_sh) (ex := Zq115_l1_ex) (N := N) (L := [Zq115_l1_0_s N]) (fun R k x ks => Zq115_l1_again N ks k x) (Zq115_gok N) (fun _ _ _ => rfl) (fun R k x ks => by kernel_rfl) ⟨Zq115_l1_0_ok N, trivial⟩ (by kernel_rfl)
noncomputable def Zq115 (N : Nat) (c : (List (List Int))) (c1 : Int) : Option (((List Int) × Unit) × (Unit)) :=
 (chk (ile 0 (tLen c) && ile (tLen c) (tLen c) && fits (tLen c))
 (Zq115_l0 N (fun x x1 o => (chk (inb o x1)
 (Zq115_l1 N (fun o1 => some ((o1, ()), ())) N x 0 (tSet o x1 0) [x1]))) N c c1 0 (tRep (tLen c) (0 : Int))))
noncomputable def Zq115_S (N : Nat) : FSum := ⟨Zq115_ps, Zq115_rs, fun x => Zq115 N x.1 x.2.1⟩
theorem Zq115_pc (N : Nat) : PC Tryz.prog 74 (Zq115_S N) := pcQ (L := [Zq115_l0_s N, Zq115_l1_s N]) (Zq115_gok N) Tryz.call74 Tryz.func74 (fun x => by kernel_rfl) ⟨Zq115_l0_ok N, Zq115_l1_ok N, trivial⟩ (by kernel_rfl)

abbrev Zq116_ps : List (PV.Mode × Ty) := [(.ro, QLLILQII), (.ro, I), (.ro, I)]
abbrev Zq116_rs : List (Bool × Ty) := [(true, LI)]
noncomputable def Zq116_G (N : Nat) : GTab := gOf [(73, Zq109_S N), (74, Zq115_S N)]
theorem Zq116_gok (N : Nat) : GOk Tryz.prog (Zq116_G N) := gOf_ok ⟨Zq109_pc N, Zq115_pc N, trivial⟩
noncomputable def Zq116_code : Code := (Tryz.f31.body).getD .skip
noncomputable def Zq116_l0_0_sh : Sh := ⟨[(1, .one (.ro I)), (2, .one (.ro I)), (7, .one (.ref 0)), (8, .one (.ref 1)), (9, .one (.ref 2)), (10, .one (.ro I))], [.sl 27 LI .deep, .sl 3 I .own, .sl 3 I .own]⟩
noncomputable def Zq116_l0_0_ex : List (Ex × Sh) := [(.exit 2, ⟨[(1, .one (.ro I)), (2, .one (.ro I)), (7, .one (.ref 0)), (8, .one (.ref 1)), (9, .one (.ref 2)), (10, .one (.ro I))], [.sl 27 LI .deep, .sl 3 I .own, .sl 3 I .own]⟩)]
noncomputable def Zq116_l0_0 {R : Type} (N : Nat) (k0 : Int → Int → Int → (List (List Int)) → (List Int) → (List Int) → Option R) : Nat → Int → Int → Int → (List (List Int)) → (List Int) → (List Int) → Option R
 | 0, _, _, _, _, _, _ => none
 | K + 1, i2, j2, kv, o3, o4, o5 =>
 (chk (inb o3 i2)
 (chk (inb (rdL o3 i2) kv)
 (chk (inb o4 (rdI (rdL o3 i2) kv))
 (chk (inb o4 i2)
 (br (ine (rdI o4 (rdI (rdL o3 i2) kv)) (IntKind.i64.wrap ((rdI o4 i2) - 1)))
 (Zq116_l0_0 N k0 K i2 j2 (IntKind.i64.wrap (kv + 1)) o3 o4 o5)
 (k0 i2 j2 kv o3 o4 o5))))))
noncomputable def Zq116_l0_0_again {R : Type} (N : Nat) (ks : KS Zq116_l0_0_ex R) (k : Nat) (x : Zq116_l0_0_sh.T) : Option R :=
 Zq116_l0_0 N (fun y0 y1 y2 y3 y4 y5 => ks 0 ((y0, y1, (), (), (), y2, ()), (y3, y4, y5, ()))) k x.1.1 x.1.2.1 x.1.2.2.2.2.2.1 x.2.1 x.2.2.1 x.2.2.2.1
noncomputable def Zq116_l0_0_s (N : Nat) : LSum := ⟨Zq116_l0_0_sh, Zq116_l0_0_ex, fun x ks => Zq116_l0_0_again N ks N x⟩
theorem Zq116_l0_0_ok (N : Nat) : LoopOk Tryz.prog Tryz.f31.ntmps (Zq116_l0_0_s N) (loopAt (loopAt Zq116_code 0) 0) := loopQ (sh := Zq116_l0_0_sh) (ex := Zq116_l0_0_ex) (N := N) (L := []) (fun R k x ks => Zq116_l0_0_again N ks k x) (Zq116_gok N) (fun _ _ _ => rfl) (fun R k x ks => by kernel_rfl) trivial (by kernel_rfl)
noncomputable def Zq116_l0_sh : Sh := ⟨[(1, .one (.ro I)), (2, .one (.ro I)), (7, .one (.ref 0)), (8, .one (.ref 1)), (9, .one (.ref 2))], [.sl 27 LI .deep, .sl 3 I .own, .sl 3 I .own]⟩
noncomputable def Zq116_l0_ex : List (Ex × Sh) := [(.exit 0, ⟨[(9, .one (.ref 0))], [.sl 3 I .own]⟩)]
noncomputable def Zq116_l0 {R : Type} (N : Nat) (k0 : (List Int) → Option R) : Nat → Int → Int → (List (List Int)) → (List Int) → (List Int) → Option R
 | 0, _, _, _, _, _ => none
 | K + 1, i1, j1, o, o1, o2 =>
 (br (ine i1 j1)
 (Zq116_l0_0 N (fun i2 j2 kv o3 o4 o5 => (chk (inb o3 i2)
 (chk (inb (rdL o3 i2) kv)
 (chk (room o5 [(rdI (rdL o3 i2) kv)])
 (Zq116_l0 N k0 K (rdI (rdL o3 i2) kv) j2 o3 o4 (tApp o5 [(rdI (rdL o3 i2) kv)])))))) N i1 j1 0 o o1 o2)
 (k0 o2))
noncomputable def Zq116_l0_again {R : Type} (N : Nat) (ks : KS Zq116_l0_ex R) (k : Nat) (x : Zq116_l0_sh.T) : Option R :=
 Zq116_l0 N (fun y0 => ks 0 (((), ()), (y0, ()))) k x.1.1 x.1.2.1 x.2.1 x.2.2.1 x.2.2.2.1
noncomputable def Zq116_l0_s (N : Nat) : LSum := ⟨Zq116_l0_sh, Zq116_l0_ex, fun x ks => Zq116_l0_again N ks N x⟩
theorem Zq116_l0_ok (N : Nat) : LoopOk Tryz.prog Tryz.f31.ntmps (Zq116_l0_s N) (loopAt Zq116_code 0) := loopQ (sh := Zq116_l0_sh) (ex := Zq116_l0_ex) (N := N) (L := [Zq116_l0_0_s N]) (fun R k x ks => Zq116_l0_again N ks k x) (Zq116_gok N) (fun _ _ _ => rfl) (fun R k x ks => by kernel_rfl) ⟨Zq116_l0_0_ok N, trivial⟩ (by kernel_rfl)
noncomputable def Zq116 (N : Nat) (x : ((List (List Int)) × (List (Int × Int)))) (i : Int) (j : Int) : Option (((List Int) × Unit) × (Unit)) :=
 ((Zq109 N (x.1, x.2)).bind fun r =>
 ((Zq115 N r.1.1 j).bind fun r1 =>
 (chk (inb r1.1.1 i)
 (br (ilt (rdI r1.1.1 i) 0)
 (some (([], ()), ()))
 (Zq116_l0 N (fun o => some ((o, ()), ())) N i j r.1.1 r1.1.1 [i])))))
noncomputable def Zq116_S (N : Nat) : FSum := ⟨Zq116_ps, Zq116_rs, fun x => Zq116 N x.1 x.2.1 x.2.2.1⟩
theorem Zq116_pc (N : Nat) : PC Tryz.prog 31 (Zq116_S N) := pcQ (L := [Zq116_l0_s N]) (Zq116_gok N) Tryz.call31 Tryz.func31 (fun x => by kernel_rfl) ⟨Zq116_l0_ok N, trivial⟩ (by kernel_rfl)

abbrev Zq124_ps : List (PV.Mode × Ty) := [(.ro, QLLILQII), (.ro, LI)]
abbrev Zq124_rs : List (Bool × Ty) := [(true, LLI)]
noncomputable def Zq124_G (N : Nat) : GTab := gOf [(67, Zq99_S N)]
theorem Zq124_gok (N : Nat) : GOk Tryz.prog (Zq124_G N) := gOf_ok ⟨Zq99_pc N, trivial⟩
noncomputable def Zq124_code : Code := (Tryz.f33.body).getD .skip
noncomputable def Zq124_l0_sh : Sh := ⟨[(1, .one (.ro LI)), (2, .one (.adr 0 0)), (5, .one (.ref 1)), (6, .one (.ro I))], [.box [.ro LLI, .ro LQII], .sl 27 LI .deep]⟩
noncomputable def Zq124_l0_ex : List (Ex × Sh) := [(.exit 0, ⟨[(5, .one (.ref 0))], [.sl 27 LI .deep]⟩)]
noncomputable def Zq124_l0 {R : Type} (N : Nat) (k0 : (List (List Int)) → Option R) : Nat → (List Int) → Int → (List (List Int)) → (List (Int × Int)) → (List (List Int)) → Option R
 | 0, _, _, _, _, _ => none
 | K + 1, walk1, i, o, o1, o2 =>
 (br (ilt i (tLen walk1))
 ((chk (inb walk1 i)
 (chk (inb o (rdI walk1 i))
 ((Zq99 N (rdL o (rdI walk1 i))).bind fun r =>
 (chk (room o2 [r.1.1])
 (Zq124_l0 N k0 K walk1 (IntKind.i64.wrap (i + 1)) o o1 (tApp o2 [r.1.1])))))))
 (k0 o2))
noncomputable def Zq124_l0_again {R : Type} (N : Nat) (ks : KS Zq124_l0_ex R) (k : Nat) (x : Zq124_l0_sh.T) : Option R :=
 Zq124_l0 N (fun y0 => ks 0 (((), ()), (y0, ()))) k x.1.1 x.1.2.2.2.1 x.2.1.1 x.2.1.2.1 x.2.2.1
noncomputable def Zq124_l0_s (N : Nat) : LSum := ⟨Zq124_l0_sh, Zq124_l0_ex, fun x ks => Zq124_l0_again N ks N x⟩
theorem Zq124_l0_ok (N : Nat) : LoopOk Tryz.prog Tryz.f33.ntmps (Zq124_l0_s N) (loopAt Zq124_code 0) := loopQ (sh := Zq124_l0_sh) (ex := Zq124_l0_ex) (N := N) (L := []) (fun R k x ks => Zq124_l0_again N ks k x) (Zq124_gok N) (fun _ _ _ => rfl) (fun R k x ks => by kernel_rfl) trivial (by kernel_rfl)
noncomputable def Zq124 (N : Nat) (x : ((List (List Int)) × (List (Int × Int)))) (walk : (List Int)) : Option (((List (List Int)) × Unit) × (Unit)) :=
 Zq124_l0 N (fun o => some ((o, ()), ())) N walk 0 x.1 x.2 []
noncomputable def Zq124_S (N : Nat) : FSum := ⟨Zq124_ps, Zq124_rs, fun x => Zq124 N x.1 x.2.1⟩
theorem Zq124_pc (N : Nat) : PC Tryz.prog 33 (Zq124_S N) := pcQ (L := [Zq124_l0_s N]) (Zq124_gok N) Tryz.call33 Tryz.func33 (fun x => by kernel_rfl) ⟨Zq124_l0_ok N, trivial⟩ (by kernel_rfl)

abbrev Zq81_ps : List (PV.Mode × Ty) := [(.ro, QILQII), (.ro, I), (.ro, LI), (.ro, LI)]
abbrev Zq81_rs : List (Bool × Ty) := [(true, LLI), (true, .bool)]
noncomputable def Zq81_G (N : Nat) : GTab := gOf [(29, Zq125_S N), (30, Zq117_S N), (32, Zq108_S N), (31, Zq116_S N), (33, Zq124_S N)]
theorem Zq81_gok (N : Nat) : GOk Tryz.prog (Zq81_G N) := gOf_ok ⟨Zq125_pc N, Zq117_pc N, Zq108_pc N, Zq116_pc N, Zq124_pc N, trivial⟩
noncomputable def Zq81_code : Code := (Tryz.f7.body).getD .skip
noncomputable def Zq81 (N : Nat) (g : (Int × (List (Int × Int)))) (kind : Int) (a : (List Int)) (b : (List Int)) : Option (((List (List Int)) × Bool × Unit) × (Unit)) :=
 ((Zq125 N (g.1, g.2) kind a).bind fun r =>
 (br (!r.1.1)
 (some (([], false, ()), ()))
 (((Zq125 N (g.1, g.2) kind b).bind fun r1 =>
 (br (!r1.1.1)
 (some (([], false, ()), ()))
 ((br (ine (tLen a) (tLen b))
 (some (([], false, ()), ()))
 (((Zq117 N (g.1, g.2) kind (tLen a) false).bind fun r2 =>
 ((Zq108 N (r2.1.1.1, r2.1.1.2) a).bind fun r3 =>
 ((Zq108 N (r2.1.1.1, r2.1.1.2) b).bind fun r4 =>
 ((Zq116 N (r2.1.1.1, r2.1.1.2) r3.1.1 r4.1.1).bind fun r5 =>
 ((Zq124 N (r2.1.1.1, r2.1.1.2) r5.1.1).bind fun r6 =>
 some ((r6.1.1, (ilt 0 (tLen r5.1.1)), ()), ()))))))))))))))
noncomputable def Zq81_S (N : Nat) : FSum := ⟨Zq81_ps, Zq81_rs, fun x => Zq81 N x.1 x.2.1 x.2.2.1 x.2.2.2.1⟩
theorem Zq81_pc (N : Nat) : PC Tryz.prog 7 (Zq81_S N) := pcQ (L := []) (Zq81_gok N) Tryz.call7 Tryz.func7 (fun x => by kernel_rfl) trivial (by kernel_rfl)

abbrev Zq53_ps : List (PV.Mode × Ty) := [(.ro, LI), (.ro, LI)]
abbrev Zq53_rs : List (Bool × Ty) := [(true, .bool)]
noncomputable def Zq53_G (N : Nat) : GTab := gOf []
theorem Zq53_gok (N : Nat) : GOk Tryz.prog (Zq53_G N) := gOf_ok trivial
noncomputable def Zq53_code : Code := (Tryz.f20.body).getD .skip
noncomputable def Zq53_l0_sh : Sh := ⟨[(0, .one (.ro LI)), (1, .one (.ro LI)), (5, .one (.ro I))], []⟩
noncomputable def Zq53_l0_ex : List (Ex × Sh) := [(.ret, ⟨[(4, .one (.ro .bool))], []⟩), (.exit 0, ⟨[], []⟩)]
noncomputable def Zq53_l0 {R : Type} (N : Nat) (k0 : Bool → Option R) (k1 : Unit → Option R) : Nat → (List Int) → (List Int) → Int → Option R
 | 0, _, _, _ => none
 | K + 1, a1, b1, i =>
 (br (ilt i (tLen a1))
 ((chk (inb a1 i)
 (chk (inb b1 i)
 (br (ine (rdI a1 i) (rdI b1 i))
 (k0 false)
 (Zq53_l0 N k0 k1 K a1 b1 (IntKind.i64.wrap (i + 1)))))))
 (k1 ()))
noncomputable def Zq53_l0_again {R : Type} (N : Nat) (ks : KS Zq53_l0_ex R) (k : Nat) (x : Zq53_l0_sh.T) : Option R :=
 Zq53_l0 N (fun y0 => ks 0 ((y0, ()), ())) (fun (_ : Unit) => ks 1 ((), ())) k x.1.1 x.1.2.1 x.1.2.2.1
noncomputable def Zq53_l0_s (N : Nat) : LSum := ⟨Zq53_l0_sh, Zq53_l0_ex, fun x ks => Zq53_l0_again N ks N x⟩
theorem Zq53_l0_ok (N : Nat) : LoopOk Tryz.prog Tryz.f20.ntmps (Zq53_l0_s N) (loopAt Zq53_code 0) := loopQ (sh := Zq53_l0_sh) (ex := Zq53_l0_ex) (N := N) (L := []) (fun R k x ks => Zq53_l0_again N ks k x) (Zq53_gok N) (fun _ _ _ => rfl) (fun R k x ks => by kernel_rfl) trivial (by kernel_rfl)
noncomputable def Zq53 (N : Nat) (a : (List Int)) (b : (List Int)) : Option ((Bool × Unit) × (Unit)) :=
 (br (ine (tLen a) (tLen b))
 (some ((false, ()), ()))
 (Zq53_l0 N (fun x => some ((x, ()), ())) (fun (_ : Unit) => some ((true, ()), ())) N a b 0))
noncomputable def Zq53_S (N : Nat) : FSum := ⟨Zq53_ps, Zq53_rs, fun x => Zq53 N x.1 x.2.1⟩
theorem Zq53_pc (N : Nat) : PC Tryz.prog 20 (Zq53_S N) := pcQ (L := [Zq53_l0_s N]) (Zq53_gok N) Tryz.call20 Tryz.func20 (fun x => by kernel_rfl) ⟨Zq53_l0_ok N, trivial⟩ (by kernel_rfl)

abbrev Zq56_ps : List (PV.Mode × Ty) := [(.ro, LLI), (.ro, LLI)]
abbrev Zq56_rs : List (Bool × Ty) := [(true, .bool)]
noncomputable def Zq56_G (N : Nat) : GTab := gOf [(20, Zq53_S N)]
theorem Zq56_gok (N : Nat) : GOk Tryz.prog (Zq56_G N) := gOf_ok ⟨Zq53_pc N, trivial⟩
noncomputable def Zq56_code : Code := (Tryz.f8.body).getD .skip
noncomputable def Zq56_l0_sh : Sh := ⟨[(0, .one (.ro LLI)), (1, .one (.ro LLI)), (5, .one (.ro I))], []⟩
noncomputable def Zq56_l0_ex : List (Ex × Sh) := [(.ret, ⟨[(4, .one (.ro .bool))], []⟩), (.exit 0, ⟨[], []⟩)]
noncomputable def Zq56_l0 {R : Type} (N : Nat) (k0 : Bool → Option R) (k1 : Unit → Option R) : Nat → (List (List Int)) → (List (List Int)) → Int → Option R
 | 0, _, _, _ => none
 | K + 1, a1, b1, i =>
 (br (ilt i (tLen a1))
 ((chk (inb a1 i)
 (chk (inb b1 i)
 ((Zq53 N (rdL a1 i) (rdL b1 i)).bind fun r =>
 (br (!r.1.1)
 (k0 false)
 (Zq56_l0 N k0 k1 K a1 b1 (IntKind.i64.wrap (i + 1))))))))
 (k1 ()))
noncomputable def Zq56_l0_again {R : Type} (N : Nat) (ks : KS Zq56_l0_ex R) (k : Nat) (x : Zq56_l0_sh.T) : Option R :=
 Zq56_l0 N (fun y0 => ks 0 ((y0, ()), ())) (fun (_ : Unit) => ks 1 ((), ())) k x.1.1 x.1.2.1 x.1.2.2.1
noncomputable def Zq56_l0_s (N : Nat) : LSum := ⟨Zq56_l0_sh, Zq56_l0_ex, fun x ks => Zq56_l0_again N ks N x⟩
theorem Zq56_l0_ok (N : Nat) : LoopOk Tryz.prog Tryz.f8.ntmps (Zq56_l0_s N) (loopAt Zq56_code 0) := loopQ (sh := Zq56_l0_sh) (ex := Zq56_l0_ex) (N := N) (L := []) (fun R k x ks => Zq56_l0_again N ks k x) (Zq56_gok N) (fun _ _ _ => rfl) (fun R k x ks => by kernel_rfl) trivial (by kernel_rfl)
noncomputable def Zq56 (N : Nat) (a : (List (List Int))) (b : (List (List Int))) : Option ((Bool × Unit) × (Unit)) :=
 (br (ine (tLen a) (tLen b))
 (some ((false, ()), ()))
 (Zq56_l0 N (fun x => some ((x, ()), ())) (fun (_ : Unit) => some ((true, ()), ())) N a b 0))
noncomputable def Zq56_S (N : Nat) : FSum := ⟨Zq56_ps, Zq56_rs, fun x => Zq56 N x.1 x.2.1⟩
theorem Zq56_pc (N : Nat) : PC Tryz.prog 8 (Zq56_S N) := pcQ (L := [Zq56_l0_s N]) (Zq56_gok N) Tryz.call8 Tryz.func8 (fun x => by kernel_rfl) ⟨Zq56_l0_ok N, trivial⟩ (by kernel_rfl)

abbrev Zq86_ps : List (PV.Mode × Ty) := [(.mut, BQOU8QIU64)]
abbrev Zq86_rs : List (Bool × Ty) := [(false, QILQII)]
noncomputable def Zq86_G (N : Nat) : GTab := gOf [(23, Zq94_S N)]
theorem Zq86_gok (N : Nat) : GOk Tryz.prog (Zq86_G N) := gOf_ok ⟨Zq94_pc N, trivial⟩
noncomputable def Zq86_code : Code := (Tryz.f94.body).getD .skip
noncomputable def Zq86 (N : Nat) (c : ((List Int) × (Int × Int))) : Option (((Int × (List (Int × Int))) × Unit) × (((List Int) × (Int × Int)) × Unit)) :=
 ((Zq94 N c 8).bind fun r =>
 some (((r.1.1.1, r.1.1.2), ()), (r.2.1, ())))
noncomputable def Zq86_S (N : Nat) : FSum := ⟨Zq86_ps, Zq86_rs, fun x => Zq86 N x.1⟩
theorem Zq86_pc (N : Nat) : PC Tryz.prog 94 (Zq86_S N) := pcQ (L := []) (Zq86_gok N) Tryz.call94 Tryz.func94 (fun x => by kernel_rfl) trivial (by kernel_rfl)

abbrev Zq88_ps : List (PV.Mode × Ty) := [(.mut, BQOU8QIU64)]
abbrev Zq88_rs : List (Bool × Ty) := [(false, QILQII), (true, I), (true, I)]
noncomputable def Zq88_G (N : Nat) : GTab := gOf [(23, Zq94_S N), (26, Zq92_S N), (94, Zq86_S N), (62, Zq97_S N), (95, Zq98_S N), (61, Zq93_S N), (60, Zq85_S N), (24, Zq87_S N)]
theorem Zq88_gok (N : Nat) : GOk Tryz.prog (Zq88_G N) := gOf_ok ⟨Zq94_pc N, Zq92_pc N, Zq86_pc N, Zq97_pc N, Zq98_pc N, Zq93_pc N, Zq85_pc N, Zq87_pc N, trivial⟩
noncomputable def Zq88_code : Code := (Tryz.f52.body).getD .skip
noncomputable def Zq88 (N : Nat) (c : ((List Int) × (Int × Int))) : Option (((Int × (List (Int × Int))) × Int × Int × Unit) × (((List Int) × (Int × Int)) × Unit)) :=
 ((Zq94 N c 5).bind fun r =>
 ((Zq92 N r.2.1 6).bind fun r1 =>
 (br r1.1.1
 (((Zq86 N r1.2.1).bind fun r2 =>
 ((Zq97 N r2.1.1.1 8).bind fun r3 =>
 ((Zq98 N r3.1.1 0).bind fun r4 =>
 ((Zq93 N r2.2.1 (IntKind.i64.wrap (r4.1.1 + 1))).bind fun r5 =>
 ((Zq92 N r5.2.1 24).bind fun r6 =>
 (br r6.1.1
 (((Zq85 N r6.2.1 [(-1), (IntKind.i64.wrap (r2.1.1.1 + 1)), 9]).bind fun r7 =>
 ((Zq87 N (r7.2.1.1, (r7.2.1.2.1, r7.2.1.2.2))).bind fun r8 =>
 some (((r2.1.1.1, r2.1.1.2), r8.1.1, r7.1.1, ()), (r8.2.1, ())))))
 (((Zq87 N (r6.2.1.1, (r6.2.1.2.1, r6.2.1.2.2))).bind fun r9 =>
 some (((r2.1.1.1, r2.1.1.2), r9.1.1, r5.1.1, ()), (r9.2.1, ())))))))))))
 (((Zq97 N r.1.1.1 8).bind fun r10 =>
 ((Zq98 N r10.1.1 0).bind fun r11 =>
 ((Zq93 N r1.2.1 (IntKind.i64.wrap (r11.1.1 + 1))).bind fun r12 =>
 ((Zq92 N r12.2.1 24).bind fun r13 =>
 (br r13.1.1
 (((Zq85 N r13.2.1 [(-1), (IntKind.i64.wrap (r.1.1.1 + 1)), 9]).bind fun r14 =>
 ((Zq87 N (r14.2.1.1, (r14.2.1.2.1, r14.2.1.2.2))).bind fun r15 =>
 some (((r.1.1.1, r.1.1.2), r15.1.1, r14.1.1, ()), (r15.2.1, ())))))
 (((Zq87 N (r13.2.1.1, (r13.2.1.2.1, r13.2.1.2.2))).bind fun r16 =>
 some (((r.1.1.1, r.1.1.2), r16.1.1, r12.1.1, ()), (r16.2.1, ())))))))))))))
noncomputable def Zq88_S (N : Nat) : FSum := ⟨Zq88_ps, Zq88_rs, fun x => Zq88 N x.1⟩
theorem Zq88_pc (N : Nat) : PC Tryz.prog 52 (Zq88_S N) := pcQ (L := []) (Zq88_gok N) Tryz.call52 Tryz.func52 (fun x => by kernel_rfl) trivial (by kernel_rfl)

abbrev Zq79_ps : List (PV.Mode × Ty) := [(.ro, LU8)]
abbrev Zq79_rs : List (Bool × Ty) := [(false, QILQII), (false, I), (false, I)]
noncomputable def Zq79_G (N : Nat) : GTab := gOf [(52, Zq88_S N)]
theorem Zq79_gok (N : Nat) : GOk Tryz.prog (Zq79_G N) := gOf_ok ⟨Zq88_pc N, trivial⟩
noncomputable def Zq79_code : Code := (Tryz.f16.body).getD .skip
noncomputable def Zq79 (N : Nat) (code : (List Int)) : Option (((Int × (List (Int × Int))) × Int × Int × Unit) × (Unit)) :=
 ((Zq88 N (code, (0, 0))).bind fun r =>
 some (((r.1.1.1, r.1.1.2), r.1.2.1, r.1.2.2.1, ()), ()))
noncomputable def Zq79_S (N : Nat) : FSum := ⟨Zq79_ps, Zq79_rs, fun x => Zq79 N x.1⟩
theorem Zq79_pc (N : Nat) : PC Tryz.prog 16 (Zq79_S N) := pcQ (L := []) (Zq79_gok N) Tryz.call16 Tryz.func16 (fun x => by kernel_rfl) trivial (by kernel_rfl)

abbrev Zq77_ps : List (PV.Mode × Ty) := [(.ro, LU8)]
abbrev Zq77_rs : List (Bool × Ty) := [(false, QILQII), (false, I), (false, I)]
noncomputable def Zq77_G (N : Nat) : GTab := gOf [(16, Zq79_S N)]
theorem Zq77_gok (N : Nat) : GOk Tryz.prog (Zq77_G N) := gOf_ok ⟨Zq79_pc N, trivial⟩
noncomputable def Zq77_code : Code := (Tryz.f9.body).getD .skip
noncomputable def Zq77 (N : Nat) (code : (List Int)) : Option (((Int × (List (Int × Int))) × Int × Int × Unit) × (Unit)) :=
 ((Zq79 N code).bind fun r =>
 some (((r.1.1.1, r.1.1.2), r.1.2.1, r.1.2.2.1, ()), ()))
noncomputable def Zq77_S (N : Nat) : FSum := ⟨Zq77_ps, Zq77_rs, fun x => Zq77 N x.1⟩
theorem Zq77_pc (N : Nat) : PC Tryz.prog 9 (Zq77_S N) := pcQ (L := []) (Zq77_gok N) Tryz.call9 Tryz.func9 (fun x => by kernel_rfl) trivial (by kernel_rfl)

abbrev Zq121_ps : List (PV.Mode × Ty) := [(.ro, QILQII), (.ro, I), (.ro, I)]
abbrev Zq121_rs : List (Bool × Ty) := [(true, .bool)]
noncomputable def Zq121_G (N : Nat) : GTab := gOf [(64, Zq119_S N), (83, Zq96_S N)]
theorem Zq121_gok (N : Nat) : GOk Tryz.prog (Zq121_G N) := gOf_ok ⟨Zq119_pc N, Zq96_pc N, trivial⟩
noncomputable def Zq121_code : Code := (Tryz.f38.body).getD .skip
noncomputable def Zq121 (N : Nat) (g : (Int × (List (Int × Int)))) (kind : Int) (kv : Int) : Option ((Bool × Unit) × (Unit)) :=
 ((Zq119 N (g.1, g.2) kind).bind fun r =>
 (br r.1.1
 (((Zq96 N kv 0 g.1).bind fun r1 =>
 some ((r1.1.1, ()), ())))
 (some ((false, ()), ()))))
noncomputable def Zq121_S (N : Nat) : FSum := ⟨Zq121_ps, Zq121_rs, fun x => Zq121 N x.1 x.2.1 x.2.2.1⟩
theorem Zq121_pc (N : Nat) : PC Tryz.prog 38 (Zq121_S N) := pcQ (L := []) (Zq121_gok N) Tryz.call38 Tryz.func38 (fun x => by kernel_rfl) trivial (by kernel_rfl)

abbrev Zq80_ps : List (PV.Mode × Ty) := [(.ro, QILQII), (.ro, I), (.ro, I)]
abbrev Zq80_rs : List (Bool × Ty) := [(false, QLLILQII), (true, .bool)]
noncomputable def Zq80_G (N : Nat) : GTab := gOf [(38, Zq121_S N), (30, Zq117_S N)]
theorem Zq80_gok (N : Nat) : GOk Tryz.prog (Zq80_G N) := gOf_ok ⟨Zq121_pc N, Zq117_pc N, trivial⟩
noncomputable def Zq80_code : Code := (Tryz.f11.body).getD .skip
noncomputable def Zq80 (N : Nat) (g : (Int × (List (Int × Int)))) (kind : Int) (kv : Int) : Option ((((List (List Int)) × (List (Int × Int))) × Bool × Unit) × (Unit)) :=
 ((Zq121 N (g.1, g.2) kind kv).bind fun r =>
 (br (!r.1.1)
 (some ((([], []), false, ()), ()))
 (((Zq117 N (g.1, g.2) kind kv false).bind fun r1 =>
 some (((r1.1.1.1, r1.1.1.2), true, ()), ())))))
noncomputable def Zq80_S (N : Nat) : FSum := ⟨Zq80_ps, Zq80_rs, fun x => Zq80 N x.1 x.2.1 x.2.2.1⟩
theorem Zq80_pc (N : Nat) : PC Tryz.prog 11 (Zq80_S N) := pcQ (L := []) (Zq80_gok N) Tryz.call11 Tryz.func11 (fun x => by kernel_rfl) trivial (by kernel_rfl)
end Go.Proofs.YtahehkidnfmfnaaGreat
