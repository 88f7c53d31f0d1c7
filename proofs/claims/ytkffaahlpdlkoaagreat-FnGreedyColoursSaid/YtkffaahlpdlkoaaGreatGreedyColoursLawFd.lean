/- Functions of the program as functions on data. -/
import Derived.Test.YtkffaahlpdlkoaaGreatGreedyColoursLawFc
set_option linter.all false
namespace Go.Proofs.YtkffaahlpdlkoaaGreat
open Go Go.PV
/-! ### Zq75 -/
abbrev Zq75_ps : List (PV.Mode × Ty) := [(.ro, QLLILQII)]
abbrev Zq75_rs : List (Bool × Ty) := [(true, LLI)]
noncomputable def Zq75_G (N : Nat) : GTab := gOf []
theorem Zq75_gok (N : Nat) : GOk Tryz.prog (Zq75_G N) := gOf_ok trivial
noncomputable def Zq75_code : Code := (Tryz.f118.body).getD .skip
noncomputable def Zq75_l0_sh : Sh := ⟨[(1, .one (.adr 0 0)), (3, .one (.ref 1)), (4, .one (.ro I))], [.box [.ro LLI, .ro LQII], .sl 27 LI .deep]⟩
noncomputable def Zq75_l0_ex : List (Ex × Sh) := [(.exit 0, ⟨[(1, .one (.adr 0 0)), (3, .one (.ref 1))], [.box [.ro LLI, .ro LQII], .sl 27 LI .deep]⟩)]
noncomputable def Zq75_l0 {R : Type} (N : Nat) (k0 : (List (List Int)) → (List (Int × Int)) → (List (List Int)) → Option R) : Nat → Int → (List (List Int)) → (List (Int × Int)) → (List (List Int)) → Option R
 | 0, _, _, _, _ => none
 | K + 1, x, o, o1, o2 =>
 (br (ilt x (tLen o1))
 ((chk (inb o1 x)
 (chk (inb o1 x)
 (chk (inb o2 ((rdP o1 x).2))
 (chk (room (rdL o2 ((rdP o1 x).2)) [(rdP o1 x).1])
 (chk (inb o2 ((rdP o1 x).2))
 (chk (ieq ((rdP o1 x).2) ((rdP o1 x).2))
 (Zq75_l0 N k0 K (IntKind.i64.wrap (x + 1)) o o1 (tSet o2 ((rdP o1 x).2) (tApp (rdL o2 ((rdP o1 x).2)) [(rdP o1 x).1]))))))))))
 (k0 o o1 o2))
noncomputable def Zq75_l0_again {R : Type} (N : Nat) (ks : KS Zq75_l0_ex R) (k : Nat) (x : Zq75_l0_sh.T) : Option R :=
 Zq75_l0 N (fun y0 y1 y2 => ks 0 (((), (), ()), ((y0, y1, ()), y2, ()))) k x.1.2.2.1 x.2.1.1 x.2.1.2.1 x.2.2.1
noncomputable def Zq75_l0_s (N : Nat) : LSum := ⟨Zq75_l0_sh, Zq75_l0_ex, fun x ks => Zq75_l0_again N ks N x⟩
theorem Zq75_l0_ok (N : Nat) : LoopOk Tryz.prog Tryz.f118.ntmps (Zq75_l0_s N) (loopAt Zq75_code 0) := loopQ (sh := Zq75_l0_sh) (ex := Zq75_l0_ex) (N := N) (L := []) (fun R k x ks => Zq75_l0_again N ks k x) (Zq75_gok N) (fun _ _ _ => rfl) (fun R k x ks => by kernel_rfl) trivial (by kernel_rfl)
noncomputable def Zq75_l1_sh : Sh := ⟨[(1, .one (.adr 0 0)), (3, .one (.ref 1)), (7, .one (.ro I))], [.box [.ro LLI, .ro LQII], .sl 27 LI .deep]⟩
noncomputable def Zq75_l1_ex : List (Ex × Sh) := [(.exit 2, ⟨[(3, .one (.ref 0))], [.sl 27 LI .deep]⟩)]
noncomputable def Zq75_l1 {R : Type} (N : Nat) (k0 : (List (List Int)) → Option R) : Nat → Int → (List (List Int)) → (List (Int × Int)) → (List (List Int)) → Option R
 | 0, _, _, _, _ => none
 | K + 1, x, o3, o4, o5 =>
 (br (ilt x (tLen o4))
 ((chk (inb o4 x)
 (chk (inb o4 x)
 (chk (inb o5 ((rdP o4 x).1))
 (chk (room (rdL o5 ((rdP o4 x).1)) [(rdP o4 x).2])
 (chk (inb o5 ((rdP o4 x).1))
 (chk (ieq ((rdP o4 x).1) ((rdP o4 x).1))
 (Zq75_l1 N k0 K (IntKind.i64.wrap (x + 1)) o3 o4 (tSet o5 ((rdP o4 x).1) (tApp (rdL o5 ((rdP o4 x).1)) [(rdP o4 x).2]))))))))))
 (k0 o5))
noncomputable def Zq75_l1_again {R : Type} (N : Nat) (ks : KS Zq75_l1_ex R) (k : Nat) (x : Zq75_l1_sh.T) : Option R :=
 Zq75_l1 N (fun y0 => ks 0 (((), ()), (y0, ()))) k x.1.2.2.1 x.2.1.1 x.2.1.2.1 x.2.2.1
noncomputable def Zq75_l1_s (N : Nat) : LSum := ⟨Zq75_l1_sh, Zq75_l1_ex, fun x ks => Zq75_l1_again N ks N x⟩
theorem Zq75_l1_ok (N : Nat) : LoopOk Tryz.prog Tryz.f118.ntmps (Zq75_l1_s N) (loopAt Zq75_code 1) := loopQ (sh := Zq75_l1_sh) (ex := Zq75_l1_ex) (N := N) (L := []) (fun R k x ks => Zq75_l1_again N ks k x) (Zq75_gok N) (fun _ _ _ => rfl) (fun R k x ks => by kernel_rfl) trivial (by kernel_rfl)
noncomputable def Zq75 (N : Nat) (c : ((List (List Int)) × (List (Int × Int)))) : Option (((List (List Int)) × Unit) × (Unit)) :=
 (chk (ile 0 (tLen c.1) && ile (tLen c.1) (tLen c.1) && fits (tLen c.1))
 (Zq75_l0 N (fun o o1 o2 => Zq75_l1 N (fun o3 => some ((o3, ()), ())) N 0 o o1 o2) N 0 c.1 c.2 (tRep (tLen c.1) [])))
noncomputable def Zq75_S (N : Nat) : FSum := ⟨Zq75_ps, Zq75_rs, fun x => Zq75 N x.1⟩
theorem Zq75_pc (N : Nat) : PC Tryz.prog 118 (Zq75_S N) := pcQ (L := [Zq75_l0_s N, Zq75_l1_s N]) (Zq75_gok N) Tryz.call118 Tryz.func118 (fun x => by kernel_rfl) ⟨Zq75_l0_ok N, Zq75_l1_ok N, trivial⟩ (by kernel_rfl)

/-! ### Zq82 -/
abbrev Zq82_ps : List (PV.Mode × Ty) := [(.ro, LLI), (.ro, I)]
abbrev Zq82_rs : List (Bool × Ty) := [(true, LI)]
noncomputable def Zq82_G (N : Nat) : GTab := gOf []
theorem Zq82_gok (N : Nat) : GOk Tryz.prog (Zq82_G N) := gOf_ok trivial
noncomputable def Zq82_code : Code := (Tryz.f119.body).getD .skip
noncomputable def Zq82_l0_sh : Sh := ⟨[(0, .one (.ro LLI)), (1, .one (.ro I)), (5, .one (.ref 0)), (6, .one (.ro I))], [.sl 3 I .own]⟩
noncomputable def Zq82_l0_ex : List (Ex × Sh) := [(.exit 0, ⟨[(0, .one (.ro LLI)), (1, .one (.ro I)), (5, .one (.ref 0))], [.sl 3 I .own]⟩)]
noncomputable def Zq82_l0 {R : Type} (N : Nat) (k0 : (List (List Int)) → Int → (List Int) → Option R) : Nat → (List (List Int)) → Int → Int → (List Int) → Option R
 | 0, _, _, _, _ => none
 | K + 1, x, x1, x2, o =>
 (br (ilt x2 (tLen o))
 ((chk (inb o x2)
 (Zq82_l0 N k0 K x x1 (IntKind.i64.wrap (x2 + 1)) (tSet o x2 (-1)))))
 (k0 x x1 o))
noncomputable def Zq82_l0_again {R : Type} (N : Nat) (ks : KS Zq82_l0_ex R) (k : Nat) (x : Zq82_l0_sh.T) : Option R :=
 Zq82_l0 N (fun y0 y1 y2 => ks 0 ((y0, y1, (), ()), (y2, ()))) k x.1.1 x.1.2.1 x.1.2.2.2.1 x.2.1
noncomputable def Zq82_l0_s (N : Nat) : LSum := ⟨Zq82_l0_sh, Zq82_l0_ex, fun x ks => Zq82_l0_again N ks N x⟩
theorem Zq82_l0_ok (N : Nat) : LoopOk Tryz.prog Tryz.f119.ntmps (Zq82_l0_s N) (loopAt Zq82_code 0) := loopQ (sh := Zq82_l0_sh) (ex := Zq82_l0_ex) (N := N) (L := []) (fun R k x ks => Zq82_l0_again N ks k x) (Zq82_gok N) (fun _ _ _ => rfl) (fun R k x ks => by kernel_rfl) trivial (by kernel_rfl)
noncomputable def Zq82_l1_0_sh : Sh := ⟨[(0, .one (.ro LLI)), (5, .one (.ref 0)), (7, .one (.ref 1)), (8, .one (.ro I)), (9, .one (.ro LI)), (10, .one (.ro I))], [.sl 3 I .own, .sl 3 I .own]⟩
noncomputable def Zq82_l1_0_ex : List (Ex × Sh) := [(.exit 4, ⟨[(0, .one (.ro LLI)), (5, .one (.ref 0)), (7, .one (.ref 1)), (8, .one (.ro I))], [.sl 3 I .own, .sl 3 I .own]⟩)]
noncomputable def Zq82_l1_0 {R : Type} (N : Nat) (k0 : (List (List Int)) → Int → (List Int) → (List Int) → Option R) : Nat → (List (List Int)) → Int → (List Int) → Int → (List Int) → (List Int) → Option R
 | 0, _, _, _, _, _, _ => none
 | K + 1, x4, x5, x6, x7, o3, o4 =>
 (br (ilt x7 (tLen x6))
 ((chk (inb x6 x7)
 (chk (inb o3 (rdI x6 x7))
 (br (ilt (rdI o3 (rdI x6 x7)) 0)
 ((chk (inb x6 x7)
 (chk (inb o4 x5)
 (chk (inb o3 (rdI o4 x5))
 (chk (inb o3 (rdI x6 x7))
 (chk (inb x6 x7)
 (chk (room o4 [(rdI x6 x7)])
 (Zq82_l1_0 N k0 K x4 x5 x6 (IntKind.i64.wrap (x7 + 1)) (tSet o3 (rdI x6 x7) (IntKind.i64.wrap ((rdI o3 (rdI o4 x5)) + 1))) (tApp o4 [(rdI x6 x7)])))))))))
 (Zq82_l1_0 N k0 K x4 x5 x6 (IntKind.i64.wrap (x7 + 1)) o3 o4)))))
 (k0 x4 x5 o3 o4))
noncomputable def Zq82_l1_0_again {R : Type} (N : Nat) (ks : KS Zq82_l1_0_ex R) (k : Nat) (x : Zq82_l1_0_sh.T) : Option R :=
 Zq82_l1_0 N (fun y0 y1 y2 y3 => ks 0 ((y0, (), (), y1, ()), (y2, y3, ()))) k x.1.1 x.1.2.2.2.1 x.1.2.2.2.2.1 x.1.2.2.2.2.2.1 x.2.1 x.2.2.1
noncomputable def Zq82_l1_0_s (N : Nat) : LSum := ⟨Zq82_l1_0_sh, Zq82_l1_0_ex, fun x ks => Zq82_l1_0_again N ks N x⟩
theorem Zq82_l1_0_ok (N : Nat) : LoopOk Tryz.prog Tryz.f119.ntmps (Zq82_l1_0_s N) (loopAt (loopAt Zq82_code 1) 0) := loopQ (sh := Zq82_l1_0_sh) (ex := Zq82_l1_0_ex) (N := N) (L := []) (fun R k x ks => Zq82_l1_0_again N ks k x) (Zq82_gok N) (fun _ _ _ => rfl) (fun R k x ks => by kernel_rfl) trivial (by kernel_rfl)
noncomputable def Zq82_l1_sh : Sh := ⟨[(0, .one (.ro LLI)), (5, .one (.ref 0)), (7, .one (.ref 1)), (8, .one (.ro I))], [.sl 3 I .own, .sl 3 I .own]⟩
noncomputable def Zq82_l1_ex : List (Ex × Sh) := [(.exit 2, ⟨[(5, .one (.ref 0))], [.sl 3 I .own]⟩)]
noncomputable def Zq82_l1 {R : Type} (N : Nat) (k0 : (List Int) → Option R) : Nat → (List (List Int)) → Int → (List Int) → (List Int) → Option R
 | 0, _, _, _, _ => none
 | K + 1, x2, x3, o1, o2 =>
 (br (ilt x3 (tLen o2))
 ((chk (inb o2 x3)
 (chk (inb x2 (rdI o2 x3))
 (Zq82_l1_0 N (fun x4 x5 o3 o4 => Zq82_l1 N k0 K x4 (IntKind.i64.wrap (x5 + 1)) o3 o4) N x2 x3 (rdL x2 (rdI o2 x3)) 0 o1 o2))))
 (k0 o1))
noncomputable def Zq82_l1_again {R : Type} (N : Nat) (ks : KS Zq82_l1_ex R) (k : Nat) (x : Zq82_l1_sh.T) : Option R :=
 Zq82_l1 N (fun y0 => ks 0 (((), ()), (y0, ()))) k x.1.1 x.1.2.2.2.1 x.2.1 x.2.2.1
noncomputable def Zq82_l1_s (N : Nat) : LSum := ⟨Zq82_l1_sh, Zq82_l1_ex, fun x ks => Zq82_l1_again N ks N x⟩
theorem Zq82_l1_ok (N : Nat) : LoopOk Tryz.prog Tryz.f119.ntmps (Zq82_l1_s N) (loopAt Zq82_code 1) := loopQ (sh := Zq82_l1_sh) (ex := Zq82_l1_ex) (N := N) (L := [Zq82_l1_0_s N]) (fun R k x ks => Zq82_l1_again N ks k x) (Zq82_gok N) (fun _ _ _ => rfl) (fun R k x ks => by kernel_rfl) ⟨Zq82_l1_0_ok N, trivial⟩ (by kernel_rfl)
noncomputable def Zq82 (N : Nat) (c : (List (List Int))) (c1 : Int) : Option (((List Int) × Unit) × (Unit)) :=
 (chk (ile 0 (tLen c) && ile (tLen c) (tLen c) && fits (tLen c))
 (Zq82_l0 N (fun x x1 o => (chk (inb o x1)
 (Zq82_l1 N (fun o1 => some ((o1, ()), ())) N x 0 (tSet o x1 0) [x1]))) N c c1 0 (tRep (tLen c) (0 : Int))))
noncomputable def Zq82_S (N : Nat) : FSum := ⟨Zq82_ps, Zq82_rs, fun x => Zq82 N x.1 x.2.1⟩
theorem Zq82_pc (N : Nat) : PC Tryz.prog 119 (Zq82_S N) := pcQ (L := [Zq82_l0_s N, Zq82_l1_s N]) (Zq82_gok N) Tryz.call119 Tryz.func119 (fun x => by kernel_rfl) ⟨Zq82_l0_ok N, Zq82_l1_ok N, trivial⟩ (by kernel_rfl)

/-! ### Zq79 -/
abbrev Zq79_ps : List (PV.Mode × Ty) := [(.ro, QLLILQII)]
abbrev Zq79_rs : List (Bool × Ty) := [(true, LLI)]
noncomputable def Zq79_G (N : Nat) : GTab := gOf [(118, Zq75_S N), (119, Zq82_S N)]
theorem Zq79_gok (N : Nat) : GOk Tryz.prog (Zq79_G N) := gOf_ok ⟨Zq75_pc N, Zq82_pc N, trivial⟩
noncomputable def Zq79_code : Code := (Tryz.f73.body).getD .skip
noncomputable def Zq79_l0_0_sh : Sh := ⟨[(3, .one (.ref 0)), (4, .one (.ref 1)), (5, .one (.ref 2)), (6, .one (.ro I)), (7, .one (.ref 3)), (8, .one (.ref 4)), (9, .one (.ro I))], [.sl 27 LI .deep, .sl 27 LI .deep, .sl 4 .bool .own, .sl 3 I .own, .sl 3 I .own]⟩
noncomputable def Zq79_l0_0_ex : List (Ex × Sh) := [(.exit 2, ⟨[(3, .one (.ref 0)), (4, .one (.ref 1)), (5, .one (.ref 2)), (6, .one (.ro I)), (7, .one (.ref 3))], [.sl 27 LI .deep, .sl 27 LI .deep, .sl 4 .bool .own, .sl 3 I .own]⟩)]
noncomputable def Zq79_l0_0 {R : Type} (N : Nat) (k0 : Int → (List (List Int)) → (List (List Int)) → (List Bool) → (List Int) → Option R) : Nat → Int → Int → (List (List Int)) → (List (List Int)) → (List Bool) → (List Int) → (List Int) → Option R
 | 0, _, _, _, _, _, _, _ => none
 | K + 1, i1, kv, o3, o4, o5, o6, o7 =>
 (br (ilt kv (tLen o7))
 ((chk (inb o7 kv)
 (br (ile 0 (rdI o7 kv))
 ((chk (room o6 [kv])
 (chk (inb o5 kv)
 (Zq79_l0_0 N k0 K i1 (IntKind.i64.wrap (kv + 1)) o3 o4 (tSet o5 kv true) (tApp o6 [kv]) o7))))
 (Zq79_l0_0 N k0 K i1 (IntKind.i64.wrap (kv + 1)) o3 o4 o5 o6 o7))))
 (k0 i1 o3 o4 o5 o6))
noncomputable def Zq79_l0_0_again {R : Type} (N : Nat) (ks : KS Zq79_l0_0_ex R) (k : Nat) (x : Zq79_l0_0_sh.T) : Option R :=
 Zq79_l0_0 N (fun y0 y1 y2 y3 y4 => ks 0 (((), (), (), y0, (), ()), (y1, y2, y3, y4, ()))) k x.1.2.2.2.1 x.1.2.2.2.2.2.2.1 x.2.1 x.2.2.1 x.2.2.2.1 x.2.2.2.2.1 x.2.2.2.2.2.1
noncomputable def Zq79_l0_0_s (N : Nat) : LSum := ⟨Zq79_l0_0_sh, Zq79_l0_0_ex, fun x ks => Zq79_l0_0_again N ks N x⟩
theorem Zq79_l0_0_ok (N : Nat) : LoopOk Tryz.prog Tryz.f73.ntmps (Zq79_l0_0_s N) (loopAt (loopAt Zq79_code 0) 0) := loopQ (sh := Zq79_l0_0_sh) (ex := Zq79_l0_0_ex) (N := N) (L := []) (fun R k x ks => Zq79_l0_0_again N ks k x) (Zq79_gok N) (fun _ _ _ => rfl) (fun R k x ks => by kernel_rfl) trivial (by kernel_rfl)
noncomputable def Zq79_l0_sh : Sh := ⟨[(3, .one (.ref 0)), (4, .one (.ref 1)), (5, .one (.ref 2)), (6, .one (.ro I))], [.sl 27 LI .deep, .sl 27 LI .deep, .sl 4 .bool .own]⟩
noncomputable def Zq79_l0_ex : List (Ex × Sh) := [(.exit 0, ⟨[(3, .one (.ref 0))], [.sl 27 LI .deep]⟩)]
noncomputable def Zq79_l0 {R : Type} (N : Nat) (k0 : (List (List Int)) → Option R) : Nat → Int → (List (List Int)) → (List (List Int)) → (List Bool) → Option R
 | 0, _, _, _, _ => none
 | K + 1, i, o, o1, o2 =>
 (br (ilt i (tLen o1))
 ((chk (inb o2 i)
 (br (rdB o2 i)
 (Zq79_l0 N k0 K (IntKind.i64.wrap (i + 1)) o o1 o2)
 (((Zq82 N o1 i).bind fun r1 =>
 Zq79_l0_0 N (fun i1 o3 o4 o5 o6 => (chk (room o3 [o6])
 (Zq79_l0 N k0 K (IntKind.i64.wrap (i1 + 1)) (tApp o3 [o6]) o4 o5))) N i 0 o o1 o2 [] r1.1.1)))))
 (k0 o))
noncomputable def Zq79_l0_again {R : Type} (N : Nat) (ks : KS Zq79_l0_ex R) (k : Nat) (x : Zq79_l0_sh.T) : Option R :=
 Zq79_l0 N (fun y0 => ks 0 (((), ()), (y0, ()))) k x.1.2.2.2.1 x.2.1 x.2.2.1 x.2.2.2.1
noncomputable def Zq79_l0_s (N : Nat) : LSum := ⟨Zq79_l0_sh, Zq79_l0_ex, fun x ks => Zq79_l0_again N ks N x⟩
theorem Zq79_l0_ok (N : Nat) : LoopOk Tryz.prog Tryz.f73.ntmps (Zq79_l0_s N) (loopAt Zq79_code 0) := loopQ (sh := Zq79_l0_sh) (ex := Zq79_l0_ex) (N := N) (L := [Zq79_l0_0_s N]) (fun R k x ks => Zq79_l0_again N ks k x) (Zq79_gok N) (fun _ _ _ => rfl) (fun R k x ks => by kernel_rfl) ⟨Zq79_l0_0_ok N, trivial⟩ (by kernel_rfl)
noncomputable def Zq79 (N : Nat) (x : ((List (List Int)) × (List (Int × Int)))) : Option (((List (List Int)) × Unit) × (Unit)) :=
 ((Zq75 N (x.1, x.2)).bind fun r =>
 (chk (ile 0 (tLen r.1.1) && ile (tLen r.1.1) (tLen r.1.1) && fits (tLen r.1.1))
 (Zq79_l0 N (fun o => some ((o, ()), ())) N 0 [] r.1.1 (tRep (tLen r.1.1) false))))
noncomputable def Zq79_S (N : Nat) : FSum := ⟨Zq79_ps, Zq79_rs, fun x => Zq79 N x.1⟩
theorem Zq79_pc (N : Nat) : PC Tryz.prog 73 (Zq79_S N) := pcQ (L := [Zq79_l0_s N]) (Zq79_gok N) Tryz.call73 Tryz.func73 (fun x => by kernel_rfl) ⟨Zq79_l0_ok N, trivial⟩ (by kernel_rfl)

/-! ### Zq58 -/
abbrev Zq58_ps : List (PV.Mode × Ty) := [(.ro, QILQII)]
abbrev Zq58_rs : List (Bool × Ty) := [(true, I), (true, .bool)]
noncomputable def Zq58_G (N : Nat) : GTab := gOf [(72, Zq90_S N), (73, Zq79_S N)]
theorem Zq58_gok (N : Nat) : GOk Tryz.prog (Zq58_G N) := gOf_ok ⟨Zq90_pc N, Zq79_pc N, trivial⟩
noncomputable def Zq58_code : Code := (Tryz.f20.body).getD .skip
noncomputable def Zq58_l0_sh : Sh := ⟨[(1, .one (.adr 0 0)), (4, .one (.ro I))], [.box [.ro I, .ro LQII]]⟩
noncomputable def Zq58_l0_ex : List (Ex × Sh) := [(.ret, ⟨[(2, .one (.ro I)), (3, .one (.ro .bool))], []⟩), (.exit 0, ⟨[], []⟩)]
noncomputable def Zq58_l0 {R : Type} (N : Nat) (k0 : Int → Bool → Option R) (k1 : Unit → Option R) : Nat → Int → Int → (List (Int × Int)) → Option R
 | 0, _, _, _ => none
 | K + 1, kv, o, o1 =>
 (br (ile kv 5)
 (((Zq90 N (o, o1) kv false).bind fun r =>
 (br (!r.1.2.1)
 (k0 0 false)
 ((br (ilt 0 (tLen r.1.1.1))
 (((Zq79 N (r.1.1.1, r.1.1.2)).bind fun r1 =>
 (br (ieq (tLen r1.1.1) 1)
 (k0 kv true)
 (Zq58_l0 N k0 k1 K (IntKind.i64.wrap (kv + 1)) o o1))))
 (Zq58_l0 N k0 k1 K (IntKind.i64.wrap (kv + 1)) o o1))))))
 (k1 ()))
noncomputable def Zq58_l0_again {R : Type} (N : Nat) (ks : KS Zq58_l0_ex R) (k : Nat) (x : Zq58_l0_sh.T) : Option R :=
 Zq58_l0 N (fun y0 y1 => ks 0 ((y0, y1, ()), ())) (fun (_ : Unit) => ks 1 ((), ())) k x.1.2.1 x.2.1.1 x.2.1.2.1
noncomputable def Zq58_l0_s (N : Nat) : LSum := ⟨Zq58_l0_sh, Zq58_l0_ex, fun x ks => Zq58_l0_again N ks N x⟩
theorem Zq58_l0_ok (N : Nat) : LoopOk Tryz.prog Tryz.f20.ntmps (Zq58_l0_s N) (loopAt Zq58_code 0) := loopQ (sh := Zq58_l0_sh) (ex := Zq58_l0_ex) (N := N) (L := []) (fun R k x ks => Zq58_l0_again N ks k x) (Zq58_gok N) (fun _ _ _ => rfl) (fun R k x ks => by kernel_rfl) trivial (by kernel_rfl)
noncomputable def Zq58 (N : Nat) (g : (Int × (List (Int × Int)))) : Option ((Int × Bool × Unit) × (Unit)) :=
 Zq58_l0 N (fun x x1 => some ((x, x1, ()), ())) (fun (_ : Unit) => some ((0, false, ()), ())) N 1 g.1 g.2
noncomputable def Zq58_S (N : Nat) : FSum := ⟨Zq58_ps, Zq58_rs, fun x => Zq58 N x.1⟩
theorem Zq58_pc (N : Nat) : PC Tryz.prog 20 (Zq58_S N) := pcQ (L := [Zq58_l0_s N]) (Zq58_gok N) Tryz.call20 Tryz.func20 (fun x => by kernel_rfl) ⟨Zq58_l0_ok N, trivial⟩ (by kernel_rfl)

/-! ### Zq39 -/
abbrev Zq39_ps : List (PV.Mode × Ty) := [(.ro, LI), (.ro, LI)]
abbrev Zq39_rs : List (Bool × Ty) := [(true, .bool)]
noncomputable def Zq39_G (N : Nat) : GTab := gOf []
theorem Zq39_gok (N : Nat) : GOk Tryz.prog (Zq39_G N) := gOf_ok trivial
noncomputable def Zq39_code : Code := (Tryz.f21.body).getD .skip
noncomputable def Zq39_l0_sh : Sh := ⟨[(0, .one (.ro LI)), (1, .one (.ro LI)), (5, .one (.ro I))], []⟩
noncomputable def Zq39_l0_ex : List (Ex × Sh) := [(.ret, ⟨[(4, .one (.ro .bool))], []⟩), (.exit 0, ⟨[], []⟩)]
noncomputable def Zq39_l0 {R : Type} (N : Nat) (k0 : Bool → Option R) (k1 : Unit → Option R) : Nat → (List Int) → (List Int) → Int → Option R
 | 0, _, _, _ => none
 | K + 1, a1, b1, i =>
 (br (ilt i (tLen a1))
 ((chk (inb a1 i)
 (chk (inb b1 i)
 (br (ine (rdI a1 i) (rdI b1 i))
 (k0 false)
 (Zq39_l0 N k0 k1 K a1 b1 (IntKind.i64.wrap (i + 1)))))))
 (k1 ()))
noncomputable def Zq39_l0_again {R : Type} (N : Nat) (ks : KS Zq39_l0_ex R) (k : Nat) (x : Zq39_l0_sh.T) : Option R :=
 Zq39_l0 N (fun y0 => ks 0 ((y0, ()), ())) (fun (_ : Unit) => ks 1 ((), ())) k x.1.1 x.1.2.1 x.1.2.2.1
noncomputable def Zq39_l0_s (N : Nat) : LSum := ⟨Zq39_l0_sh, Zq39_l0_ex, fun x ks => Zq39_l0_again N ks N x⟩
theorem Zq39_l0_ok (N : Nat) : LoopOk Tryz.prog Tryz.f21.ntmps (Zq39_l0_s N) (loopAt Zq39_code 0) := loopQ (sh := Zq39_l0_sh) (ex := Zq39_l0_ex) (N := N) (L := []) (fun R k x ks => Zq39_l0_again N ks k x) (Zq39_gok N) (fun _ _ _ => rfl) (fun R k x ks => by kernel_rfl) trivial (by kernel_rfl)
noncomputable def Zq39 (N : Nat) (a : (List Int)) (b : (List Int)) : Option ((Bool × Unit) × (Unit)) :=
 (br (ine (tLen a) (tLen b))
 (some ((false, ()), ()))
 (Zq39_l0 N (fun x => some ((x, ()), ())) (fun (_ : Unit) => some ((true, ()), ())) N a b 0))
noncomputable def Zq39_S (N : Nat) : FSum := ⟨Zq39_ps, Zq39_rs, fun x => Zq39 N x.1 x.2.1⟩
theorem Zq39_pc (N : Nat) : PC Tryz.prog 21 (Zq39_S N) := pcQ (L := [Zq39_l0_s N]) (Zq39_gok N) Tryz.call21 Tryz.func21 (fun x => by kernel_rfl) ⟨Zq39_l0_ok N, trivial⟩ (by kernel_rfl)

/-! ### Zq30 -/
abbrev Zq30_ps : List (PV.Mode × Ty) := [(.ro, I)]
abbrev Zq30_rs : List (Bool × Ty) := [(true, .bool)]
noncomputable def Zq30_G (N : Nat) : GTab := gOf [(97, Zq22_S N)]
theorem Zq30_gok (N : Nat) : GOk Tryz.prog (Zq30_G N) := gOf_ok ⟨Zq22_pc N, trivial⟩
noncomputable def Zq30_code : Code := (Tryz.f141.body).getD .skip
noncomputable def Zq30 (N : Nat) (n : Int) : Option ((Bool × Unit) × (Unit)) :=
 ((Zq22 N n (-99) 99).bind fun r =>
 some (((!r.1.1), ()), ()))
noncomputable def Zq30_S (N : Nat) : FSum := ⟨Zq30_ps, Zq30_rs, fun x => Zq30 N x.1⟩
theorem Zq30_pc (N : Nat) : PC Tryz.prog 141 (Zq30_S N) := pcQ (L := []) (Zq30_gok N) Tryz.call141 Tryz.func141 (fun x => by kernel_rfl) trivial (by kernel_rfl)

/-! ### Zq29 -/
abbrev Zq29_ps : List (PV.Mode × Ty) := [(.ro, LI)]
abbrev Zq29_rs : List (Bool × Ty) := [(true, .bool)]
noncomputable def Zq29_G (N : Nat) : GTab := gOf [(65, Zq46_S N), (141, Zq30_S N)]
theorem Zq29_gok (N : Nat) : GOk Tryz.prog (Zq29_G N) := gOf_ok ⟨Zq46_pc N, Zq30_pc N, trivial⟩
noncomputable def Zq29_code : Code := (Tryz.f103.body).getD .skip
noncomputable def Zq29 (N : Nat) (state : (List Int)) : Option ((Bool × Unit) × (Unit)) :=
 (br (ile (tLen state) 24)
 (((Zq46 N state (fun y0 => (Zq30 N y0).bind fun z => some z.1.1)).bind fun r =>
 some (((!r.1.1), ()), ())))
 (some ((false, ()), ())))
noncomputable def Zq29_S (N : Nat) : FSum := ⟨Zq29_ps, Zq29_rs, fun x => Zq29 N x.1⟩
theorem Zq29_pc (N : Nat) : PC Tryz.prog 103 (Zq29_S N) := pcQ (L := []) (Zq29_gok N) Tryz.call103 Tryz.func103 (fun x => by kernel_rfl) trivial (by kernel_rfl)

/-! ### Zq14 -/
abbrev Zq14_ps : List (PV.Mode × Ty) := [(.ro, QLLILQII)]
abbrev Zq14_rs : List (Bool × Ty) := [(true, .bool)]
noncomputable def Zq14_G (N : Nat) : GTab := gOf [(103, Zq29_S N), (102, Zq45_S N), (104, Zq27_S N)]
theorem Zq14_gok (N : Nat) : GOk Tryz.prog (Zq14_G N) := gOf_ok ⟨Zq29_pc N, Zq45_pc N, Zq27_pc N, trivial⟩
noncomputable def Zq14_code : Code := (Tryz.f52.body).getD .skip
noncomputable def Zq14_l0_sh : Sh := ⟨[(1, .one (.adr 0 0)), (16, .one (.ro LLI)), (17, .one (.ro I)), (18, .one (.ro I))], [.box [.ro LLI, .ro LQII]]⟩
noncomputable def Zq14_l0_ex : List (Ex × Sh) := [(.ret, ⟨[(2, .one (.ro .bool))], []⟩), (.exit 0, ⟨[(1, .one (.adr 0 0))], [.box [.ro LLI, .ro LQII]]⟩)]
noncomputable def Zq14_l0 {R : Type} (N : Nat) (k0 : Bool → Option R) (k1 : (List (List Int)) → (List (Int × Int)) → Option R) : Nat → (List (List Int)) → Int → Int → (List (List Int)) → (List (Int × Int)) → Option R
 | 0, _, _, _, _, _ => none
 | K + 1, x1, x2, x3, o, o1 =>
 (br (ilt x3 x2)
 ((chk (inb x1 x3)
 ((Zq29 N (rdL x1 x3)).bind fun r =>
 (br (!r.1.1)
 (k0 false)
 ((br (ilt 0 x3)
 ((chk (inb o (IntKind.i64.wrap (x3 - 1)))
 ((Zq45 N (rdL o (IntKind.i64.wrap (x3 - 1))) (rdL x1 x3)).bind fun r1 =>
 (br (ile 0 r1.1.1)
 (k0 false)
 (Zq14_l0 N k0 k1 K x1 x2 (IntKind.i64.wrap (x3 + 1)) o o1)))))
 (Zq14_l0 N k0 k1 K x1 x2 (IntKind.i64.wrap (x3 + 1)) o o1)))))))
 (k1 o o1))
noncomputable def Zq14_l0_again {R : Type} (N : Nat) (ks : KS Zq14_l0_ex R) (k : Nat) (x : Zq14_l0_sh.T) : Option R :=
 Zq14_l0 N (fun y0 => ks 0 ((y0, ()), ())) (fun y0 y1 => ks 1 (((), ()), ((y0, y1, ()), ()))) k x.1.2.1 x.1.2.2.1 x.1.2.2.2.1 x.2.1.1 x.2.1.2.1
noncomputable def Zq14_l0_s (N : Nat) : LSum := ⟨Zq14_l0_sh, Zq14_l0_ex, fun x ks => Zq14_l0_again N ks N x⟩
theorem Zq14_l0_ok (N : Nat) : LoopOk Tryz.prog Tryz.f52.ntmps (Zq14_l0_s N) (loopAt Zq14_code 0) := loopQ (sh := Zq14_l0_sh) (ex := Zq14_l0_ex) (N := N) (L := []) (fun R k x ks => Zq14_l0_again N ks k x) (Zq14_gok N) (fun _ _ _ => rfl) (fun R k x ks => by kernel_rfl) trivial (by kernel_rfl)
noncomputable def Zq14 (N : Nat) (x : ((List (List Int)) × (List (Int × Int)))) : Option ((Bool × Unit) × (Unit)) :=
 (br (ilt 300 (tLen x.1))
 (some ((false, ()), ()))
 ((br (ilt 6000 (tLen x.2))
 (some ((false, ()), ()))
 (Zq14_l0 N (fun x1 => some ((x1, ()), ())) (fun o o1 => ((Zq27 N o1 (tLen o)).bind fun r =>
 some ((r.1.1, ()), ()))) N x.1 (tLen x.1) 0 x.1 x.2))))
noncomputable def Zq14_S (N : Nat) : FSum := ⟨Zq14_ps, Zq14_rs, fun x => Zq14 N x.1⟩
theorem Zq14_pc (N : Nat) : PC Tryz.prog 52 (Zq14_S N) := pcQ (L := [Zq14_l0_s N]) (Zq14_gok N) Tryz.call52 Tryz.func52 (fun x => by kernel_rfl) ⟨Zq14_l0_ok N, trivial⟩ (by kernel_rfl)

/-! ### Zq16 -/
abbrev Zq16_ps : List (PV.Mode × Ty) := [(.ro, QLLILQII)]
abbrev Zq16_rs : List (Bool × Ty) := [(true, LLI), (true, .bool)]
noncomputable def Zq16_G (N : Nat) : GTab := gOf [(52, Zq14_S N), (56, Zq18_S N), (71, Zq33_S N)]
theorem Zq16_gok (N : Nat) : GOk Tryz.prog (Zq16_G N) := gOf_ok ⟨Zq14_pc N, Zq18_pc N, Zq33_pc N, trivial⟩
noncomputable def Zq16_code : Code := (Tryz.f22.body).getD .skip
noncomputable def Zq16 (N : Nat) (x : ((List (List Int)) × (List (Int × Int)))) : Option (((List (List Int)) × Bool × Unit) × (Unit)) :=
 ((Zq14 N (x.1, x.2)).bind fun r =>
 (br (!r.1.1)
 (some (([], false, ()), ()))
 (((Zq18 N (x.1, x.2)).bind fun r1 =>
 ((Zq33 N r1.1.1 (-1)).bind fun r2 =>
 some ((r2.1.1, true, ()), ()))))))
noncomputable def Zq16_S (N : Nat) : FSum := ⟨Zq16_ps, Zq16_rs, fun x => Zq16 N x.1⟩
theorem Zq16_pc (N : Nat) : PC Tryz.prog 22 (Zq16_S N) := pcQ (L := []) (Zq16_gok N) Tryz.call22 Tryz.func22 (fun x => by kernel_rfl) trivial (by kernel_rfl)

/-! ### Zq5 -/
abbrev Zq5_ps : List (PV.Mode × Ty) := [(.ro, QILQII)]
abbrev Zq5_rs : List (Bool × Ty) := [(true, U64)]
noncomputable def Zq5_G (N : Nat) : GTab := gOf []
theorem Zq5_gok (N : Nat) : GOk Tryz.prog (Zq5_G N) := gOf_ok trivial
noncomputable def Zq5_code : Code := (Tryz.f74.body).getD .skip
noncomputable def Zq5 (N : Nat) (g : (Int × (List (Int × Int)))) : Option ((Int × Unit) × (Unit)) :=
 (chk (ile 0 g.1)
 (some (((IntKind.u64.wrap ((shlI .u64 1 g.1) - 1)), ()), ())))
noncomputable def Zq5_S (N : Nat) : FSum := ⟨Zq5_ps, Zq5_rs, fun x => Zq5 N x.1⟩
theorem Zq5_pc (N : Nat) : PC Tryz.prog 74 (Zq5_S N) := pcQ (L := []) (Zq5_gok N) Tryz.call74 Tryz.func74 (fun x => by kernel_rfl) trivial (by kernel_rfl)

/-! ### Zq20 -/
abbrev Zq20_ps : List (PV.Mode × Ty) := [(.ro, U64)]
abbrev Zq20_rs : List (Bool × Ty) := [(true, LI)]
noncomputable def Zq20_G (N : Nat) : GTab := gOf []
theorem Zq20_gok (N : Nat) : GOk Tryz.prog (Zq20_G N) := gOf_ok trivial
noncomputable def Zq20_code : Code := (Tryz.f75.body).getD .skip
noncomputable def Zq20_l0_sh : Sh := ⟨[(0, .one (.ro U64)), (3, .one (.ref 0)), (6, .one (.ro I))], [.sl 3 I .own]⟩
noncomputable def Zq20_l0_ex : List (Ex × Sh) := [(.exit 0, ⟨[(3, .one (.ref 0))], [.sl 3 I .own]⟩)]
noncomputable def Zq20_l0 {R : Type} (N : Nat) (k0 : (List Int) → Option R) : Nat → Int → Int → (List Int) → Option R
 | 0, _, _, _ => none
 | K + 1, b1, x, o =>
 (br (ilt x 8)
 ((chk (ile 0 x)
 (br (ieq (bitop .and .u64 (shrI .u64 b1 x) 1) 1)
 ((chk (room o [x])
 (Zq20_l0 N k0 K b1 (IntKind.i64.wrap (x + 1)) (tApp o [x]))))
 (Zq20_l0 N k0 K b1 (IntKind.i64.wrap (x + 1)) o))))
 (k0 o))
noncomputable def Zq20_l0_again {R : Type} (N : Nat) (ks : KS Zq20_l0_ex R) (k : Nat) (x : Zq20_l0_sh.T) : Option R :=
 Zq20_l0 N (fun y0 => ks 0 (((), ()), (y0, ()))) k x.1.1 x.1.2.2.1 x.2.1
noncomputable def Zq20_l0_s (N : Nat) : LSum := ⟨Zq20_l0_sh, Zq20_l0_ex, fun x ks => Zq20_l0_again N ks N x⟩
theorem Zq20_l0_ok (N : Nat) : LoopOk Tryz.prog Tryz.f75.ntmps (Zq20_l0_s N) (loopAt Zq20_code 0) := loopQ (sh := Zq20_l0_sh) (ex := Zq20_l0_ex) (N := N) (L := []) (fun R k x ks => Zq20_l0_again N ks k x) (Zq20_gok N) (fun _ _ _ => rfl) (fun R k x ks => by kernel_rfl) trivial (by kernel_rfl)
noncomputable def Zq20 (N : Nat) (b : Int) : Option (((List Int) × Unit) × (Unit)) :=
 Zq20_l0 N (fun o => some ((o, ()), ())) N b 0 []
noncomputable def Zq20_S (N : Nat) : FSum := ⟨Zq20_ps, Zq20_rs, fun x => Zq20 N x.1⟩
theorem Zq20_pc (N : Nat) : PC Tryz.prog 75 (Zq20_S N) := pcQ (L := [Zq20_l0_s N]) (Zq20_gok N) Tryz.call75 Tryz.func75 (fun x => by kernel_rfl) ⟨Zq20_l0_ok N, trivial⟩ (by kernel_rfl)

/-! ### Zq19 -/
abbrev Zq19_ps : List (PV.Mode × Ty) := [(.ro, LI)]
abbrev Zq19_rs : List (Bool × Ty) := [(true, U64)]
noncomputable def Zq19_G (N : Nat) : GTab := gOf []
theorem Zq19_gok (N : Nat) : GOk Tryz.prog (Zq19_G N) := gOf_ok trivial
noncomputable def Zq19_code : Code := (Tryz.f76.body).getD .skip
noncomputable def Zq19_l0_sh : Sh := ⟨[(3, .one (.ro U64)), (6, .one (.ro LI)), (7, .one (.ro I)), (8, .one (.ro I))], []⟩
noncomputable def Zq19_l0_ex : List (Ex × Sh) := [(.exit 0, ⟨[(3, .one (.ro U64))], []⟩)]
noncomputable def Zq19_l0 {R : Type} (N : Nat) (k0 : Int → Option R) : Nat → Int → (List Int) → Int → Int → Option R
 | 0, _, _, _, _ => none
 | K + 1, out, x, x1, x2 =>
 (br (ilt x2 x1)
 ((chk (inb x x2)
 (chk (ile 0 (rdI x x2))
 (Zq19_l0 N k0 K (bitop .or .u64 out (shlI .u64 1 (rdI x x2))) x x1 (IntKind.i64.wrap (x2 + 1))))))
 (k0 out))
noncomputable def Zq19_l0_again {R : Type} (N : Nat) (ks : KS Zq19_l0_ex R) (k : Nat) (x : Zq19_l0_sh.T) : Option R :=
 Zq19_l0 N (fun y0 => ks 0 ((y0, ()), ())) k x.1.1 x.1.2.1 x.1.2.2.1 x.1.2.2.2.1
noncomputable def Zq19_l0_s (N : Nat) : LSum := ⟨Zq19_l0_sh, Zq19_l0_ex, fun x ks => Zq19_l0_again N ks N x⟩
theorem Zq19_l0_ok (N : Nat) : LoopOk Tryz.prog Tryz.f76.ntmps (Zq19_l0_s N) (loopAt Zq19_code 0) := loopQ (sh := Zq19_l0_sh) (ex := Zq19_l0_ex) (N := N) (L := []) (fun R k x ks => Zq19_l0_again N ks k x) (Zq19_gok N) (fun _ _ _ => rfl) (fun R k x ks => by kernel_rfl) trivial (by kernel_rfl)
noncomputable def Zq19 (N : Nat) (list : (List Int)) : Option ((Int × Unit) × (Unit)) :=
 Zq19_l0 N (fun out => some ((out, ()), ())) N 0 list (tLen list) 0
noncomputable def Zq19_S (N : Nat) : FSum := ⟨Zq19_ps, Zq19_rs, fun x => Zq19 N x.1⟩
theorem Zq19_pc (N : Nat) : PC Tryz.prog 76 (Zq19_S N) := pcQ (L := [Zq19_l0_s N]) (Zq19_gok N) Tryz.call76 Tryz.func76 (fun x => by kernel_rfl) ⟨Zq19_l0_ok N, trivial⟩ (by kernel_rfl)

/-! ### Zq43 -/
abbrev Zq43_ps : List (PV.Mode × Ty) := [(.ro, U64)]
abbrev Zq43_rs : List (Bool × Ty) := [(true, I)]
noncomputable def Zq43_G (N : Nat) : GTab := gOf []
theorem Zq43_gok (N : Nat) : GOk Tryz.prog (Zq43_G N) := gOf_ok trivial
noncomputable def Zq43_code : Code := (Tryz.f153.body).getD .skip
noncomputable def Zq43 (N : Nat) (x : Int) : Option ((Int × Unit) × (Unit)) :=
 some (((bitop .and .i64 (IntKind.i64.wrap ((IntKind.u64.wrap ((IntKind.u64.wrap ((IntKind.u64.wrap ((bitop .and .u64 (IntKind.u64.wrap ((shrI .u64 (IntKind.u64.wrap ((bitop .and .u64 (shrI .u64 (IntKind.u64.wrap ((bitop .and .u64 (shrI .u64 x 1) 6148914691236517205) + (bitop .and .u64 x 6148914691236517205))) 2) 3689348814741910323) + (bitop .and .u64 (IntKind.u64.wrap ((bitop .and .u64 (shrI .u64 x 1) 6148914691236517205) + (bitop .and .u64 x 6148914691236517205))) 3689348814741910323))) 4) + (IntKind.u64.wrap ((bitop .and .u64 (shrI .u64 (IntKind.u64.wrap ((bitop .and .u64 (shrI .u64 x 1) 6148914691236517205) + (bitop .and .u64 x 6148914691236517205))) 2) 3689348814741910323) + (bitop .and .u64 (IntKind.u64.wrap ((bitop .and .u64 (shrI .u64 x 1) 6148914691236517205) + (bitop .and .u64 x 6148914691236517205))) 3689348814741910323))))) 1085102592571150095) + (shrI .u64 (bitop .and .u64 (IntKind.u64.wrap ((shrI .u64 (IntKind.u64.wrap ((bitop .and .u64 (shrI .u64 (IntKind.u64.wrap ((bitop .and .u64 (shrI .u64 x 1) 6148914691236517205) + (bitop .and .u64 x 6148914691236517205))) 2) 3689348814741910323) + (bitop .and .u64 (IntKind.u64.wrap ((bitop .and .u64 (shrI .u64 x 1) 6148914691236517205) + (bitop .and .u64 x 6148914691236517205))) 3689348814741910323))) 4) + (IntKind.u64.wrap ((bitop .and .u64 (shrI .u64 (IntKind.u64.wrap ((bitop .and .u64 (shrI .u64 x 1) 6148914691236517205) + (bitop .and .u64 x 6148914691236517205))) 2) 3689348814741910323) + (bitop .and .u64 (IntKind.u64.wrap ((bitop .and .u64 (shrI .u64 x 1) 6148914691236517205) + (bitop .and .u64 x 6148914691236517205))) 3689348814741910323))))) 1085102592571150095) 8))) + (shrI .u64 (IntKind.u64.wrap ((bitop .and .u64 (IntKind.u64.wrap ((shrI .u64 (IntKind.u64.wrap ((bitop .and .u64 (shrI .u64 (IntKind.u64.wrap ((bitop .and .u64 (shrI .u64 x 1) 6148914691236517205) + (bitop .and .u64 x 6148914691236517205))) 2) 3689348814741910323) + (bitop .and .u64 (IntKind.u64.wrap ((bitop .and .u64 (shrI .u64 x 1) 6148914691236517205) + (bitop .and .u64 x 6148914691236517205))) 3689348814741910323))) 4) + (IntKind.u64.wrap ((bitop .and .u64 (shrI .u64 (IntKind.u64.wrap ((bitop .and .u64 (shrI .u64 x 1) 6148914691236517205) + (bitop .and .u64 x 6148914691236517205))) 2) 3689348814741910323) + (bitop .and .u64 (IntKind.u64.wrap ((bitop .and .u64 (shrI .u64 x 1) 6148914691236517205) + (bitop .and .u64 x 6148914691236517205))) 3689348814741910323))))) 1085102592571150095) + (shrI .u64 (bitop .and .u64 (IntKind.u64.wrap ((shrI .u64 (IntKind.u64.wrap ((bitop .and .u64 (shrI .u64 (IntKind.u64.wrap ((bitop .and .u64 (shrI .u64 x 1) 6148914691236517205) + (bitop .and .u64 x 6148914691236517205))) 2) 3689348814741910323) + (bitop .and .u64 (IntKind.u64.wrap ((bitop .and .u64 (shrI .u64 x 1) 6148914691236517205) + (bitop .and .u64 x 6148914691236517205))) 3689348814741910323))) 4) + (IntKind.u64.wrap ((bitop .and .u64 (shrI .u64 (IntKind.u64.wrap ((bitop .and .u64 (shrI .u64 x 1) 6148914691236517205) + (bitop .and .u64 x 6148914691236517205))) 2) 3689348814741910323) + (bitop .and .u64 (IntKind.u64.wrap ((bitop .and .u64 (shrI .u64 x 1) 6148914691236517205) + (bitop .and .u64 x 6148914691236517205))) 3689348814741910323))))) 1085102592571150095) 8))) 16))) + (shrI .u64 (IntKind.u64.wrap ((IntKind.u64.wrap ((bitop .and .u64 (IntKind.u64.wrap ((shrI .u64 (IntKind.u64.wrap ((bitop .and .u64 (shrI .u64 (IntKind.u64.wrap ((bitop .and .u64 (shrI .u64 x 1) 6148914691236517205) + (bitop .and .u64 x 6148914691236517205))) 2) 3689348814741910323) + (bitop .and .u64 (IntKind.u64.wrap ((bitop .and .u64 (shrI .u64 x 1) 6148914691236517205) + (bitop .and .u64 x 6148914691236517205))) 3689348814741910323))) 4) + (IntKind.u64.wrap ((bitop .and .u64 (shrI .u64 (IntKind.u64.wrap ((bitop .and .u64 (shrI .u64 x 1) 6148914691236517205) + (bitop .and .u64 x 6148914691236517205))) 2) 3689348814741910323) + (bitop .and .u64 (IntKind.u64.wrap ((bitop .and .u64 (shrI .u64 x 1) 6148914691236517205) + (bitop .and .u64 x 6148914691236517205))) 3689348814741910323))))) 1085102592571150095) + (shrI .u64 (bitop .and .u64 (IntKind.u64.wrap ((shrI .u64 (IntKind.u64.wrap ((bitop .and .u64 (shrI .u64 (IntKind.u64.wrap ((bitop .and .u64 (shrI .u64 x 1) 6148914691236517205) + (bitop .and .u64 x 6148914691236517205))) 2) 3689348814741910323) + (bitop .and .u64 (IntKind.u64.wrap ((bitop .and .u64 (shrI .u64 x 1) 6148914691236517205) + (bitop .and .u64 x 6148914691236517205))) 3689348814741910323))) 4) + (IntKind.u64.wrap ((bitop .and .u64 (shrI .u64 (IntKind.u64.wrap ((bitop .and .u64 (shrI .u64 x 1) 6148914691236517205) + (bitop .and .u64 x 6148914691236517205))) 2) 3689348814741910323) + (bitop .and .u64 (IntKind.u64.wrap ((bitop .and .u64 (shrI .u64 x 1) 6148914691236517205) + (bitop .and .u64 x 6148914691236517205))) 3689348814741910323))))) 1085102592571150095) 8))) + (shrI .u64 (IntKind.u64.wrap ((bitop .and .u64 (IntKind.u64.wrap ((shrI .u64 (IntKind.u64.wrap ((bitop .and .u64 (shrI .u64 (IntKind.u64.wrap ((bitop .and .u64 (shrI .u64 x 1) 6148914691236517205) + (bitop .and .u64 x 6148914691236517205))) 2) 3689348814741910323) + (bitop .and .u64 (IntKind.u64.wrap ((bitop .and .u64 (shrI .u64 x 1) 6148914691236517205) + (bitop .and .u64 x 6148914691236517205))) 3689348814741910323))) 4) + (IntKind.u64.wrap ((bitop .and .u64 (shrI .u64 (IntKind.u64.wrap ((bitop .and .u64 (shrI .u64 x 1) 6148914691236517205) + (bitop .and .u64 x 6148914691236517205))) 2) 3689348814741910323) + (bitop .and .u64 (IntKind.u64.wrap ((bitop .and .u64 (shrI .u64 x 1) 6148914691236517205) + (bitop .and .u64 x 6148914691236517205))) 3689348814741910323))))) 1085102592571150095) + (shrI .u64 (bitop .and .u64 (IntKind.u64.wrap ((shrI .u64 (IntKind.u64.wrap ((bitop .and .u64 (shrI .u64 (IntKind.u64.wrap ((bitop .and .u64 (shrI .u64 x 1) 6148914691236517205) + (bitop .and .u64 x 6148914691236517205))) 2) 3689348814741910323) + (bitop .and .u64 (IntKind.u64.wrap ((bitop .and .u64 (shrI .u64 x 1) 6148914691236517205) + (bitop .and .u64 x 6148914691236517205))) 3689348814741910323))) 4) + (IntKind.u64.wrap ((bitop .and .u64 (shrI .u64 (IntKind.u64.wrap ((bitop .and .u64 (shrI .u64 x 1) 6148914691236517205) + (bitop .and .u64 x 6148914691236517205))) 2) 3689348814741910323) + (bitop .and .u64 (IntKind.u64.wrap ((bitop .and .u64 (shrI .u64 x 1) 6148914691236517205) + (bitop .and .u64 x 6148914691236517205))) 3689348814741910323))))) 1085102592571150095) 8))) 16))) 32))))) 127), ()), ())
noncomputable def Zq43_S (N : Nat) : FSum := ⟨Zq43_ps, Zq43_rs, fun x => Zq43 N x.1⟩
theorem Zq43_pc (N : Nat) : PC Tryz.prog 153 (Zq43_S N) := pcQ (L := []) (Zq43_gok N) Tryz.call153 Tryz.func153 (fun x => by kernel_rfl) trivial (by kernel_rfl)

/-! ### Zq42 -/
abbrev Zq42_ps : List (PV.Mode × Ty) := [(.ro, U64)]
abbrev Zq42_rs : List (Bool × Ty) := [(true, I)]
noncomputable def Zq42_G (N : Nat) : GTab := gOf [(153, Zq43_S N)]
theorem Zq42_gok (N : Nat) : GOk Tryz.prog (Zq42_G N) := gOf_ok ⟨Zq43_pc N, trivial⟩
noncomputable def Zq42_code : Code := (Tryz.f120.body).getD .skip
noncomputable def Zq42 (N : Nat) (x : Int) : Option ((Int × Unit) × (Unit)) :=
 ((Zq43 N x).bind fun r =>
 some ((r.1.1, ()), ()))
noncomputable def Zq42_S (N : Nat) : FSum := ⟨Zq42_ps, Zq42_rs, fun x => Zq42 N x.1⟩
theorem Zq42_pc (N : Nat) : PC Tryz.prog 120 (Zq42_S N) := pcQ (L := []) (Zq42_gok N) Tryz.call120 Tryz.func120 (fun x => by kernel_rfl) trivial (by kernel_rfl)

/-! ### Zq21 -/
abbrev Zq21_ps : List (PV.Mode × Ty) := [(.ro, U64)]
abbrev Zq21_rs : List (Bool × Ty) := [(true, I)]
noncomputable def Zq21_G (N : Nat) : GTab := gOf [(120, Zq42_S N)]
theorem Zq21_gok (N : Nat) : GOk Tryz.prog (Zq21_G N) := gOf_ok ⟨Zq42_pc N, trivial⟩
noncomputable def Zq21_code : Code := (Tryz.f77.body).getD .skip
noncomputable def Zq21 (N : Nat) (b : Int) : Option ((Int × Unit) × (Unit)) :=
 ((Zq42 N b).bind fun r =>
 some ((r.1.1, ()), ()))
noncomputable def Zq21_S (N : Nat) : FSum := ⟨Zq21_ps, Zq21_rs, fun x => Zq21 N x.1⟩
theorem Zq21_pc (N : Nat) : PC Tryz.prog 77 (Zq21_S N) := pcQ (L := []) (Zq21_gok N) Tryz.call77 Tryz.func77 (fun x => by kernel_rfl) trivial (by kernel_rfl)

/-! ### Zq17 -/
abbrev Zq17_ps : List (PV.Mode × Ty) := [(.ro, QILQII)]
abbrev Zq17_rs : List (Bool × Ty) := [(true, LI), (true, I), (true, .bool)]
noncomputable def Zq17_G (N : Nat) : GTab := gOf [(62, Zq13_S N), (74, Zq5_S N), (75, Zq20_S N), (66, Zq10_S N), (76, Zq19_S N), (77, Zq21_S N)]
theorem Zq17_gok (N : Nat) : GOk Tryz.prog (Zq17_G N) := gOf_ok ⟨Zq13_pc N, Zq5_pc N, Zq20_pc N, Zq10_pc N, Zq19_pc N, Zq21_pc N, trivial⟩
noncomputable def Zq17_code : Code := (Tryz.f23.body).getD .skip
noncomputable def Zq17_l0_0_sh : Sh := ⟨[(1, .one (.adr 0 0)), (5, .one (.ref 1)), (6, .one (.ro I)), (7, .one (.ro U64)), (8, .one (.ro I)), (9, .one (.ro I)), (22, .one (.ref 2)), (23, .one (.ro I)), (24, .one (.ro I))], [.box [.ro I, .ro LQII], .sl 3 I .own, .sl 3 I .own]⟩
noncomputable def Zq17_l0_0_ex : List (Ex × Sh) := [(.exit 2, ⟨[(1, .one (.adr 0 0)), (5, .one (.ref 1)), (6, .one (.ro I)), (7, .one (.ro U64)), (8, .one (.ro I)), (9, .one (.ro I))], [.box [.ro I, .ro LQII], .sl 3 I .own]⟩)]
noncomputable def Zq17_l0_0 {R : Type} (N : Nat) (k0 : Int → Int → Int → Int → Int → (List (Int × Int)) → (List Int) → Option R) : Nat → Int → Int → Int → Int → Int → Int → Int → (List (Int × Int)) → (List Int) → (List Int) → Option R
 | 0, _, _, _, _, _, _, _, _, _, _ => none
 | K + 1, most1, left1, best, least, x, x1, o3, o4, o5, o6 =>
 (br (ilt x1 x)
 ((chk (inb o6 x1)
 ((Zq10 N (o3, o4) (rdI o6 x1)).bind fun r3 =>
 ((Zq19 N r3.1.1).bind fun r4 =>
 ((Zq21 N (bitop .and .u64 r4.1.1 left1)).bind fun r5 =>
 (br (ilt r5.1.1 least)
 (Zq17_l0_0 N k0 K most1 left1 (rdI o6 x1) r5.1.1 x (IntKind.i64.wrap (x1 + 1)) o3 o4 o5 o6)
 (Zq17_l0_0 N k0 K most1 left1 best least x (IntKind.i64.wrap (x1 + 1)) o3 o4 o5 o6)))))))
 (k0 most1 left1 best least o3 o4 o5))
noncomputable def Zq17_l0_0_again {R : Type} (N : Nat) (ks : KS Zq17_l0_0_ex R) (k : Nat) (x : Zq17_l0_0_sh.T) : Option R :=
 Zq17_l0_0 N (fun y0 y1 y2 y3 y4 y5 y6 => ks 0 (((), (), y0, y1, y2, y3, ()), ((y4, y5, ()), y6, ()))) k x.1.2.2.1 x.1.2.2.2.1 x.1.2.2.2.2.1 x.1.2.2.2.2.2.1 x.1.2.2.2.2.2.2.2.1 x.1.2.2.2.2.2.2.2.2.1 x.2.1.1 x.2.1.2.1 x.2.2.1 x.2.2.2.1
noncomputable def Zq17_l0_0_s (N : Nat) : LSum := ⟨Zq17_l0_0_sh, Zq17_l0_0_ex, fun x ks => Zq17_l0_0_again N ks N x⟩
theorem Zq17_l0_0_ok (N : Nat) : LoopOk Tryz.prog Tryz.f23.ntmps (Zq17_l0_0_s N) (loopAt (loopAt Zq17_code 0) 0) := loopQ (sh := Zq17_l0_0_sh) (ex := Zq17_l0_0_ex) (N := N) (L := []) (fun R k x ks => Zq17_l0_0_again N ks k x) (Zq17_gok N) (fun _ _ _ => rfl) (fun R k x ks => by kernel_rfl) trivial (by kernel_rfl)
noncomputable def Zq17_l0_sh : Sh := ⟨[(1, .one (.adr 0 0)), (5, .one (.ref 1)), (6, .one (.ro I)), (7, .one (.ro U64))], [.box [.ro I, .ro LQII], .sl 3 I .own]⟩
noncomputable def Zq17_l0_ex : List (Ex × Sh) := [(.exit 0, ⟨[(5, .one (.ref 0)), (6, .one (.ro I))], [.sl 3 I .own]⟩)]
noncomputable def Zq17_l0 {R : Type} (N : Nat) (k0 : Int → (List Int) → Option R) : Nat → Int → Int → Int → (List (Int × Int)) → (List Int) → Option R
 | 0, _, _, _, _, _ => none
 | K + 1, most, left, o, o1, o2 =>
 (br (ine left 0)
 (((Zq20 N left).bind fun r2 =>
 Zq17_l0_0 N (fun most1 left1 best least o3 o4 o5 => (chk (room o5 [best])
 (chk (ile 0 best)
 (Zq17_l0 N k0 K (if least > most1 then least else most1) (bitop .andNot .u64 left1 (shlI .u64 1 best)) o3 o4 (tApp o5 [best]))))) N most left (-1) 8 (tLen r2.1.1) 0 o o1 o2 r2.1.1))
 (k0 most o2))
noncomputable def Zq17_l0_again {R : Type} (N : Nat) (ks : KS Zq17_l0_ex R) (k : Nat) (x : Zq17_l0_sh.T) : Option R :=
 Zq17_l0 N (fun y0 y1 => ks 0 (((), y0, ()), (y1, ()))) k x.1.2.2.1 x.1.2.2.2.1 x.2.1.1 x.2.1.2.1 x.2.2.1
noncomputable def Zq17_l0_s (N : Nat) : LSum := ⟨Zq17_l0_sh, Zq17_l0_ex, fun x ks => Zq17_l0_again N ks N x⟩
theorem Zq17_l0_ok (N : Nat) : LoopOk Tryz.prog Tryz.f23.ntmps (Zq17_l0_s N) (loopAt Zq17_code 0) := loopQ (sh := Zq17_l0_sh) (ex := Zq17_l0_ex) (N := N) (L := [Zq17_l0_0_s N]) (fun R k x ks => Zq17_l0_again N ks k x) (Zq17_gok N) (fun _ _ _ => rfl) (fun R k x ks => by kernel_rfl) ⟨Zq17_l0_0_ok N, trivial⟩ (by kernel_rfl)
noncomputable def Zq17 (N : Nat) (g : (Int × (List (Int × Int)))) : Option (((List Int) × Int × Bool × Unit) × (Unit)) :=
 ((Zq13 N (g.1, g.2)).bind fun r =>
 (br (!r.1.1)
 (some (([], 0, false, ()), ()))
 (((Zq5 N (g.1, g.2)).bind fun r1 =>
 Zq17_l0 N (fun most o => some ((o, most, true, ()), ())) N (-1) r1.1.1 g.1 g.2 []))))
noncomputable def Zq17_S (N : Nat) : FSum := ⟨Zq17_ps, Zq17_rs, fun x => Zq17 N x.1⟩
theorem Zq17_pc (N : Nat) : PC Tryz.prog 23 (Zq17_S N) := pcQ (L := [Zq17_l0_s N]) (Zq17_gok N) Tryz.call23 Tryz.func23 (fun x => by kernel_rfl) ⟨Zq17_l0_ok N, trivial⟩ (by kernel_rfl)

/-! ### Zq36 -/
abbrev Zq36_ps : List (PV.Mode × Ty) := [(.ro, LU8)]
abbrev Zq36_rs : List (Bool × Ty) := [(true, .bool)]
noncomputable def Zq36_G (N : Nat) : GTab := gOf [(6, Zq37_S N), (14, Zq55_S N), (15, Zq11_S N), (16, Zq57_S N), (18, Zq38_S N), (17, Zq56_S N), (19, Zq15_S N), (20, Zq58_S N), (21, Zq39_S N), (10, Zq3_S N), (22, Zq16_S N), (23, Zq17_S N)]
theorem Zq36_gok (N : Nat) : GOk Tryz.prog (Zq36_G N) := gOf_ok ⟨Zq37_pc N, Zq55_pc N, Zq11_pc N, Zq57_pc N, Zq38_pc N, Zq56_pc N, Zq15_pc N, Zq58_pc N, Zq39_pc N, Zq3_pc N, Zq16_pc N, Zq17_pc N, trivial⟩
noncomputable def Zq36_code : Code := (Tryz.f4.body).getD .skip
noncomputable def Zq36_l0_sh : Sh := ⟨[(3, .one (.adr 0 0)), (5, .one (.ref 1)), (6, .one (.ro .bool)), (9, .one (.adr 2 0)), (10, .one (.ro I)), (11, .one (.ro .bool)), (14, .one (.ro I))], [.box [.ro I, .ro LQII], .sl 3 I .own, .box [.ro I, .ro LQII]]⟩
noncomputable def Zq36_l0_ex : List (Ex × Sh) := [(.ret, ⟨[(2, .one (.ro .bool))], []⟩), (.exit 0, ⟨[(3, .one (.adr 0 0)), (9, .one (.adr 1 0)), (10, .one (.ro I)), (11, .one (.ro .bool))], [.box [.ro I, .ro LQII], .box [.ro I, .ro LQII]]⟩)]
noncomputable def Zq36_l0 {R : Type} (N : Nat) (k0 : Bool → Option R) (k1 : Int → Bool → Int → (List (Int × Int)) → Int → (List (Int × Int)) → Option R) : Nat → Bool → Int → Bool → Int → Int → (List (Int × Int)) → (List Int) → Int → (List (Int × Int)) → Option R
 | 0, _, _, _, _, _, _, _, _, _ => none
 | K + 1, x, x1, x2, x3, o, o1, o2, o3, o4 =>
 (br x
 ((br (ilt x3 (tLen o1))
 ((chk (inb o1 x3)
 (chk (inb o2 ((rdP o1 x3).1))
 (chk (inb o1 x3)
 (chk (inb o2 ((rdP o1 x3).2))
 (br (ieq (rdI o2 ((rdP o1 x3).1)) (rdI o2 ((rdP o1 x3).2)))
 (k0 false)
 (Zq36_l0 N k0 k1 K x x1 x2 (IntKind.i64.wrap (x3 + 1)) o o1 o2 o3 o4)))))))
 (k1 x1 x2 o o1 o3 o4)))
 (k1 x1 x2 o o1 o3 o4))
noncomputable def Zq36_l0_again {R : Type} (N : Nat) (ks : KS Zq36_l0_ex R) (k : Nat) (x : Zq36_l0_sh.T) : Option R :=
 Zq36_l0 N (fun y0 => ks 0 ((y0, ()), ())) (fun y0 y1 y2 y3 y4 y5 => ks 1 (((), (), y0, y1, ()), ((y2, y3, ()), (y4, y5, ()), ()))) k x.1.2.2.1 x.1.2.2.2.2.1 x.1.2.2.2.2.2.1 x.1.2.2.2.2.2.2.1 x.2.1.1 x.2.1.2.1 x.2.2.1 x.2.2.2.1.1 x.2.2.2.1.2.1
noncomputable def Zq36_l0_s (N : Nat) : LSum := ⟨Zq36_l0_sh, Zq36_l0_ex, fun x ks => Zq36_l0_again N ks N x⟩
theorem Zq36_l0_ok (N : Nat) : LoopOk Tryz.prog Tryz.f4.ntmps (Zq36_l0_s N) (loopAt Zq36_code 0) := loopQ (sh := Zq36_l0_sh) (ex := Zq36_l0_ex) (N := N) (L := []) (fun R k x ks => Zq36_l0_again N ks k x) (Zq36_gok N) (fun _ _ _ => rfl) (fun R k x ks => by kernel_rfl) trivial (by kernel_rfl)
noncomputable def Zq36_l1_sh : Sh := ⟨[(3, .one (.adr 0 0)), (22, .one (.ref 1)), (23, .one (.ro I)), (25, .one (.ref 2)), (26, .one (.ro I))], [.box [.ro I, .ro LQII], .sl 3 I .own, .sl 3 I .own]⟩
noncomputable def Zq36_l1_ex : List (Ex × Sh) := [(.exit 2, ⟨[(3, .one (.adr 0 0)), (23, .one (.ro I)), (25, .one (.ref 1))], [.box [.ro I, .ro LQII], .sl 3 I .own]⟩)]
noncomputable def Zq36_l1 {R : Type} (N : Nat) (k0 : Int → Int → (List (Int × Int)) → (List Int) → Option R) : Nat → Int → Int → Int → (List (Int × Int)) → (List Int) → (List Int) → Option R
 | 0, _, _, _, _, _, _ => none
 | K + 1, x3, x4, o4, o5, o6, o7 =>
 (br (ile 0 x4)
 ((chk (inb o6 x4)
 (chk (room o7 [(rdI o6 x4)])
 (Zq36_l1 N k0 K x3 (IntKind.i64.wrap (x4 - 1)) o4 o5 o6 (tApp o7 [(rdI o6 x4)])))))
 (k0 x3 o4 o5 o7))
noncomputable def Zq36_l1_again {R : Type} (N : Nat) (ks : KS Zq36_l1_ex R) (k : Nat) (x : Zq36_l1_sh.T) : Option R :=
 Zq36_l1 N (fun y0 y1 y2 y3 => ks 0 (((), y0, (), ()), ((y1, y2, ()), y3, ()))) k x.1.2.2.1 x.1.2.2.2.2.1 x.2.1.1 x.2.1.2.1 x.2.2.1 x.2.2.2.1
noncomputable def Zq36_l1_s (N : Nat) : LSum := ⟨Zq36_l1_sh, Zq36_l1_ex, fun x ks => Zq36_l1_again N ks N x⟩
theorem Zq36_l1_ok (N : Nat) : LoopOk Tryz.prog Tryz.f4.ntmps (Zq36_l1_s N) (loopAt Zq36_code 1) := loopQ (sh := Zq36_l1_sh) (ex := Zq36_l1_ex) (N := N) (L := []) (fun R k x ks => Zq36_l1_again N ks k x) (Zq36_gok N) (fun _ _ _ => rfl) (fun R k x ks => by kernel_rfl) trivial (by kernel_rfl)
noncomputable def Zq36_l2_sh : Sh := ⟨[(23, .one (.ro I)), (27, .one (.ref 0)), (28, .one (.ro .bool)), (29, .one (.ro I))], [.sl 3 I .own]⟩
noncomputable def Zq36_l2_ex : List (Ex × Sh) := [(.ret, ⟨[(2, .one (.ro .bool))], []⟩), (.exit 4, ⟨[(28, .one (.ro .bool))], []⟩)]
noncomputable def Zq36_l2 {R : Type} (N : Nat) (k0 : Bool → Option R) (k1 : Bool → Option R) : Nat → Int → Bool → Int → (List Int) → Option R
 | 0, _, _, _, _ => none
 | K + 1, x4, x5, x6, o7 =>
 (br (ilt x6 (tLen o7))
 ((chk (inb o7 x6)
 (br (ilt x4 (rdI o7 x6))
 (k0 false)
 (Zq36_l2 N k0 k1 K x4 x5 (IntKind.i64.wrap (x6 + 1)) o7))))
 (k1 x5))
noncomputable def Zq36_l2_again {R : Type} (N : Nat) (ks : KS Zq36_l2_ex R) (k : Nat) (x : Zq36_l2_sh.T) : Option R :=
 Zq36_l2 N (fun y0 => ks 0 ((y0, ()), ())) (fun y0 => ks 1 ((y0, ()), ())) k x.1.1 x.1.2.2.1 x.1.2.2.2.1 x.2.1
noncomputable def Zq36_l2_s (N : Nat) : LSum := ⟨Zq36_l2_sh, Zq36_l2_ex, fun x ks => Zq36_l2_again N ks N x⟩
theorem Zq36_l2_ok (N : Nat) : LoopOk Tryz.prog Tryz.f4.ntmps (Zq36_l2_s N) (loopAt Zq36_code 2) := loopQ (sh := Zq36_l2_sh) (ex := Zq36_l2_ex) (N := N) (L := []) (fun R k x ks => Zq36_l2_again N ks k x) (Zq36_gok N) (fun _ _ _ => rfl) (fun R k x ks => by kernel_rfl) trivial (by kernel_rfl)
noncomputable def Zq36 (N : Nat) (c : (List Int)) : Option ((Bool × Unit) × (Unit)) :=
 ((Zq37 N c).bind fun r =>
 (br r.1.1
 (some ((true, ()), ()))
 (((Zq55 N c).bind fun r1 =>
 ((Zq11 N (r1.1.1.1, r1.1.1.2) r1.1.2.1).bind fun r2 =>
 ((Zq57 N (r1.1.1.1, r1.1.1.2) r1.1.2.1).bind fun r3 =>
 ((Zq38 N c 1).bind fun r4 =>
 ((Zq56 N r4.1.1).bind fun r5 =>
 ((Zq15 N (r5.1.1.1, r5.1.1.2)).bind fun r6 =>
 ((Zq58 N (r5.1.1.1, r5.1.1.2)).bind fun r7 =>
 (br (!(r2.1.2.1 == r3.1.2.1))
 (some ((false, ()), ()))
 (((Zq39 N r2.1.1 r3.1.1).bind fun r8 =>
 (br (!r8.1.1)
 (some ((false, ()), ()))
 ((br (ine r6.1.1 r7.1.1)
 (some ((false, ()), ()))
 ((br (!(r6.1.2.1 == r7.1.2.1))
 (some ((false, ()), ()))
 (Zq36_l0 N (fun x => some ((x, ()), ())) (fun x1 x2 o o1 o2 o3 => (br x2
 (((Zq3 N (o2, o3) x1).bind fun r9 =>
 ((Zq16 N (r9.1.1.1, r9.1.1.2)).bind fun r10 =>
 (br (!r9.1.2.1)
 (some ((false, ()), ()))
 ((br (ine (tLen r10.1.1) 1)
 (some ((false, ()), ()))
 (((Zq17 N (o2, o3)).bind fun r11 =>
 (br (ile 1 (IntKind.i64.wrap (r11.1.2.1 + 2)))
 ((br (ilt (IntKind.i64.wrap (r11.1.2.1 + 2)) x1)
 ((br (ile (IntKind.i64.wrap (r11.1.2.1 + 2)) 5)
 ((br (ilt 1 x1)
 (some ((false, ()), ()))
 (((Zq17 N (o, o1)).bind fun r12 =>
 (br (!r12.1.2.2.1)
 (some ((true, ()), ()))
 (Zq36_l1 N (fun x3 o4 o5 o6 => ((Zq11 N (o4, o5) o6).bind fun r13 =>
 Zq36_l2 N (fun x4 => some ((x4, ()), ())) (fun x5 => some ((x5, ()), ())) N x3 r13.1.2.1 0 r13.1.1)) N r12.1.2.1 (IntKind.i64.wrap ((tLen r12.1.1) - 1)) o o1 r12.1.1 []))))))
 (((Zq17 N (o, o1)).bind fun r14 =>
 (br (!r14.1.2.2.1)
 (some ((true, ()), ()))
 (Zq36_l1 N (fun x6 o7 o8 o9 => ((Zq11 N (o7, o8) o9).bind fun r15 =>
 Zq36_l2 N (fun x7 => some ((x7, ()), ())) (fun x8 => some ((x8, ()), ())) N x6 r15.1.2.1 0 r15.1.1)) N r14.1.2.1 (IntKind.i64.wrap ((tLen r14.1.1) - 1)) o o1 r14.1.1 []))))))
 (((Zq17 N (o, o1)).bind fun r16 =>
 (br (!r16.1.2.2.1)
 (some ((true, ()), ()))
 (Zq36_l1 N (fun x9 o10 o11 o12 => ((Zq11 N (o10, o11) o12).bind fun r17 =>
 Zq36_l2 N (fun x10 => some ((x10, ()), ())) (fun x11 => some ((x11, ()), ())) N x9 r17.1.2.1 0 r17.1.1)) N r16.1.2.1 (IntKind.i64.wrap ((tLen r16.1.1) - 1)) o o1 r16.1.1 []))))))
 (((Zq17 N (o, o1)).bind fun r18 =>
 (br (!r18.1.2.2.1)
 (some ((true, ()), ()))
 (Zq36_l1 N (fun x12 o13 o14 o15 => ((Zq11 N (o13, o14) o15).bind fun r19 =>
 Zq36_l2 N (fun x13 => some ((x13, ()), ())) (fun x14 => some ((x14, ()), ())) N x12 r19.1.2.1 0 r19.1.1)) N r18.1.2.1 (IntKind.i64.wrap ((tLen r18.1.1) - 1)) o o1 r18.1.1 [])))))))))))))
 (((Zq17 N (o, o1)).bind fun r20 =>
 (br (!r20.1.2.2.1)
 (some ((true, ()), ()))
 (Zq36_l1 N (fun x15 o16 o17 o18 => ((Zq11 N (o16, o17) o18).bind fun r21 =>
 Zq36_l2 N (fun x16 => some ((x16, ()), ())) (fun x17 => some ((x17, ()), ())) N x15 r21.1.2.1 0 r21.1.1)) N r20.1.2.1 (IntKind.i64.wrap ((tLen r20.1.1) - 1)) o o1 r20.1.1 [])))))) N r2.1.2.1 r6.1.1 r6.1.2.1 0 r1.1.1.1 r1.1.1.2 r2.1.1 r5.1.1.1 r5.1.1.2)))))))))))))))))))
noncomputable def Zq36_S (N : Nat) : FSum := ⟨Zq36_ps, Zq36_rs, fun x => Zq36 N x.1⟩
theorem Zq36_pc (N : Nat) : PC Tryz.prog 4 (Zq36_S N) := pcQ (L := [Zq36_l0_s N, Zq36_l1_s N, Zq36_l2_s N]) (Zq36_gok N) Tryz.call4 Tryz.func4 (fun x => by kernel_rfl) ⟨Zq36_l0_ok N, Zq36_l1_ok N, Zq36_l2_ok N, trivial⟩ (by kernel_rfl)
end Go.Proofs.YtkffaahlpdlkoaaGreat
