/- Functions of the program as functions on data. -/
import Derived.Test.YtffeokcchabclaaTightSetsSa
set_option linter.all false
namespace Go.Proofs.Ytffeokcchabclaa
open Go Go.PV
abbrev Zq39_ps : List (PV.Mode × Ty) := [(.ro, LQII), (.ro, I)]
abbrev Zq39_rs : List (Bool × Ty) := [(true, I)]
noncomputable def Zq39_G (N : Nat) : GTab := gOf []
theorem Zq39_gok (N : Nat) : GOk Try.prog (Zq39_G N) := gOf_ok trivial
noncomputable def Zq39_code : Code := (Try.f13.body).getD .skip
noncomputable def Zq39 (N : Nat) (a : (List (Int × Int))) (left : Int) : Option ((Int × Unit) × (Unit)) :=
 (br (ilt (IntKind.i64.wrap (left - (tLen a))) 0)
 (some (((-1), ()), ()))
 (some (((IntKind.i64.wrap (left - (tLen a))), ()), ())))
noncomputable def Zq39_S (N : Nat) : FSum := ⟨Zq39_ps, Zq39_rs, fun x => Zq39 N x.1 x.2.1⟩
theorem Zq39_pc (N : Nat) : PC Try.prog 13 (Zq39_S N) := pcQ (L := []) (Zq39_gok N) Try.call13 Try.func13 (fun x => by kernel_rfl) trivial (by kernel_rfl)

abbrev Zq38_ps : List (PV.Mode × Ty) := [(.ro, QILQII), (.ro, I)]
abbrev Zq38_rs : List (Bool × Ty) := [(true, I)]
noncomputable def Zq38_G (N : Nat) : GTab := gOf [(13, Zq39_S N)]
theorem Zq38_gok (N : Nat) : GOk Try.prog (Zq38_G N) := gOf_ok ⟨Zq39_pc N, trivial⟩
noncomputable def Zq38_code : Code := (Try.f4.body).getD .skip
noncomputable def Zq38 (N : Nat) (a : (Int × (List (Int × Int)))) (left : Int) : Option ((Int × Unit) × (Unit)) :=
 ((Zq39 N a.2 left).bind fun r =>
 (br (ilt r.1.1 0)
 (some (((-1), ()), ()))
 (some ((r.1.1, ()), ()))))
noncomputable def Zq38_S (N : Nat) : FSum := ⟨Zq38_ps, Zq38_rs, fun x => Zq38 N x.1 x.2.1⟩
theorem Zq38_pc (N : Nat) : PC Try.prog 4 (Zq38_S N) := pcQ (L := []) (Zq38_gok N) Try.call4 Try.func4 (fun x => by kernel_rfl) trivial (by kernel_rfl)

abbrev Zq41_ps : List (PV.Mode × Ty) := [(.ro, QII)]
abbrev Zq41_rs : List (Bool × Ty) := [(true, QII)]
noncomputable def Zq41_G (N : Nat) : GTab := gOf []
theorem Zq41_gok (N : Nat) : GOk Try.prog (Zq41_G N) := gOf_ok trivial
noncomputable def Zq41_code : Code := (Try.f33.body).getD .skip
noncomputable def Zq41_l0_sh : Sh := ⟨[(1, .one (.adr 0 0)), (2, .one (.adr 1 0)), (3, .one (.adr 2 0)), (4, .one (.num .i64 0))], [.box [.ro I, .ro I], .box [.ro I, .ro I], .box [.ro I, .ro I]]⟩
noncomputable def Zq41_l0_ex : List (Ex × Sh) := [(.exit 0, ⟨[(2, .one (.adr 0 0)), (3, .one (.adr 1 0))], [.box [.ro I, .ro I], .box [.ro I, .ro I]]⟩)]
noncomputable def Zq41_l0 {R : Type} (N : Nat) (k0 : Int → Int → Int → Int → Option R) (_ : Nat) (o6 : Int) (o7 : Int) (o8 : Int) (o9 : Int) (o10 : Int) (o11 : Int) : Option R :=
 k0 o8 o9 o6 o7
noncomputable def Zq41_l0_again {R : Type} (N : Nat) (ks : KS Zq41_l0_ex R) (x : Zq41_l0_sh.T) : Option R :=
 Zq41_l0 N (fun y0 y1 y2 y3 => ks 0 (((), (), ()), ((y0, y1, ()), (y2, y3, ()), ()))) N x.2.1.1 x.2.1.2.1 x.2.2.1.1 x.2.2.1.2.1 x.2.2.2.1.1 x.2.2.2.1.2.1
noncomputable def Zq41_l0_s (N : Nat) : LSum := ⟨Zq41_l0_sh, Zq41_l0_ex, fun x ks => Zq41_l0_again N ks x⟩
theorem Zq41_l0_unr (N : Nat) (R : Type) (x : Zq41_l0_sh.T) (ks : KS Zq41_l0_ex R) : Zq41_l0_again N ks x = unrF (Zq41_G N) tab (loopAt Zq41_code 0) Zq41_l0_ex ks 3 (fill Zq41_l0_sh x) := by kernel_rfl
theorem Zq41_l0_ok (N : Nat) : LoopOk Try.prog Try.f33.ntmps (Zq41_l0_s N) (loopAt Zq41_code 0) :=
  unroll_ok (l := Zq41_l0_s N) progOk (Zq41_gok N) (draw_ok progOk (Zq41_gok N)) (fun R x ks r h => ⟨3, (Zq41_l0_unr N R x ks).symm.trans h⟩) (by kernel_rfl) (by kernel_rfl)
noncomputable def Zq41 (N : Nat) (a : (Int × Int)) : Option (((Int × Int) × Unit) × (Unit)) :=
 Zq41_l0 N (fun o6 o7 o8 o9 => some (((o8, o9), ()), ())) N a.1 a.2 0 0 0 0
noncomputable def Zq41_S (N : Nat) : FSum := ⟨Zq41_ps, Zq41_rs, fun x => Zq41 N x.1⟩
theorem Zq41_pc (N : Nat) : PC Try.prog 33 (Zq41_S N) := pcQ (L := [Zq41_l0_s N]) (Zq41_gok N) Try.call33 Try.func33 (fun x => by kernel_rfl) ⟨Zq41_l0_ok N, trivial⟩ (by kernel_rfl)

abbrev Zq42_ps : List (PV.Mode × Ty) := [(.ro, LQII)]
abbrev Zq42_rs : List (Bool × Ty) := [(true, LQII)]
noncomputable def Zq42_G (N : Nat) : GTab := gOf [(33, Zq41_S N)]
theorem Zq42_gok (N : Nat) : GOk Try.prog (Zq42_G N) := gOf_ok ⟨Zq41_pc N, trivial⟩
noncomputable def Zq42_code : Code := (Try.f17.body).getD .skip
noncomputable def Zq42_l0_sh : Sh := ⟨[(0, .one (.ro LQII)), (3, .one (.ref 0)), (4, .one (.ro I))], [.sl 52 QII .own]⟩
noncomputable def Zq42_l0_ex : List (Ex × Sh) := [(.exit 0, ⟨[(3, .one (.ref 0))], [.sl 52 QII .own]⟩)]
noncomputable def Zq42_l0 {R : Type} (N : Nat) (k0 : (List (Int × Int)) → Option R) : Nat → (List (Int × Int)) → Int → (List (Int × Int)) → Option R
 | 0, _, _, _ => none
 | K + 1, a1, i, o =>
 (br (ilt i (tLen a1))
 ((chk (inb a1 i)
 ((Zq41 N (rdP a1 i)).bind fun r =>
 (chk (inb o i)
 (Zq42_l0 N k0 K a1 (IntKind.i64.wrap (i + 1)) (tSet o i (r.1.1.1, r.1.1.2)))))))
 (k0 o))
noncomputable def Zq42_l0_again {R : Type} (N : Nat) (ks : KS Zq42_l0_ex R) (k : Nat) (x : Zq42_l0_sh.T) : Option R :=
 Zq42_l0 N (fun y0 => ks 0 (((), ()), (y0, ()))) k x.1.1 x.1.2.2.1 x.2.1
noncomputable def Zq42_l0_s (N : Nat) : LSum := ⟨Zq42_l0_sh, Zq42_l0_ex, fun x ks => Zq42_l0_again N ks N x⟩
theorem Zq42_l0_ok (N : Nat) : LoopOk Try.prog Try.f17.ntmps (Zq42_l0_s N) (loopAt Zq42_code 0) := loopQ (sh := Zq42_l0_sh) (ex := Zq42_l0_ex) (N := N) (L := []) (fun R k x ks => Zq42_l0_again N ks k x) (Zq42_gok N) (fun _ _ _ => rfl) (fun R k x ks => by kernel_rfl) trivial (by kernel_rfl)
noncomputable def Zq42 (N : Nat) (a : (List (Int × Int))) : Option (((List (Int × Int)) × Unit) × (Unit)) :=
 (chk (ile 0 (tLen a) && ile (tLen a) (tLen a) && fits (tLen a))
 (Zq42_l0 N (fun o => some ((o, ()), ())) N a 0 (tRep (tLen a) (0, 0))))
noncomputable def Zq42_S (N : Nat) : FSum := ⟨Zq42_ps, Zq42_rs, fun x => Zq42 N x.1⟩
theorem Zq42_pc (N : Nat) : PC Try.prog 17 (Zq42_S N) := pcQ (L := [Zq42_l0_s N]) (Zq42_gok N) Try.call17 Try.func17 (fun x => by kernel_rfl) ⟨Zq42_l0_ok N, trivial⟩ (by kernel_rfl)

abbrev Zq40_ps : List (PV.Mode × Ty) := [(.ro, QILQII)]
abbrev Zq40_rs : List (Bool × Ty) := [(true, QILQII)]
noncomputable def Zq40_G (N : Nat) : GTab := gOf [(17, Zq42_S N)]
theorem Zq40_gok (N : Nat) : GOk Try.prog (Zq40_G N) := gOf_ok ⟨Zq42_pc N, trivial⟩
noncomputable def Zq40_code : Code := (Try.f6.body).getD .skip
noncomputable def Zq40 (N : Nat) (a : (Int × (List (Int × Int)))) : Option (((Int × (List (Int × Int))) × Unit) × (Unit)) :=
 ((Zq42 N a.2).bind fun r =>
 some (((a.1, r.1.1), ()), ()))
noncomputable def Zq40_S (N : Nat) : FSum := ⟨Zq40_ps, Zq40_rs, fun x => Zq40 N x.1⟩
theorem Zq40_pc (N : Nat) : PC Try.prog 6 (Zq40_S N) := pcQ (L := []) (Zq40_gok N) Try.call6 Try.func6 (fun x => by kernel_rfl) trivial (by kernel_rfl)

abbrev Zq54_ps : List (PV.Mode × Ty) := [(.ro, I), (.ro, I), (.ro, I)]
abbrev Zq54_rs : List (Bool × Ty) := [(true, .bool)]
noncomputable def Zq54_G (N : Nat) : GTab := gOf []
theorem Zq54_gok (N : Nat) : GOk Try.prog (Zq54_G N) := gOf_ok trivial
noncomputable def Zq54_code : Code := (Try.f42.body).getD .skip
noncomputable def Zq54 (N : Nat) (x : Int) (a : Int) (b : Int) : Option ((Bool × Unit) × (Unit)) :=
 (br (ile a x)
 (some (((ile x b), ()), ()))
 (some ((false, ()), ())))
noncomputable def Zq54_S (N : Nat) : FSum := ⟨Zq54_ps, Zq54_rs, fun x => Zq54 N x.1 x.2.1 x.2.2.1⟩
theorem Zq54_pc (N : Nat) : PC Try.prog 42 (Zq54_S N) := pcQ (L := []) (Zq54_gok N) Try.call42 Try.func42 (fun x => by kernel_rfl) trivial (by kernel_rfl)

abbrev Zq60_ps : List (PV.Mode × Ty) := [(.ro, QII), (.ro, QII)]
abbrev Zq60_rs : List (Bool × Ty) := [(true, .bool)]
noncomputable def Zq60_G (N : Nat) : GTab := gOf []
theorem Zq60_gok (N : Nat) : GOk Try.prog (Zq60_G N) := gOf_ok trivial
noncomputable def Zq60_code : Code := (Try.f58.body).getD .skip
noncomputable def Zq60 (N : Nat) (a : (Int × Int)) (b : (Int × Int)) : Option ((Bool × Unit) × (Unit)) :=
 (br (ilt a.1 b.1)
 (some ((true, ()), ()))
 ((br (ieq a.1 b.1)
 (some (((ilt a.2 b.2), ()), ()))
 (some ((false, ()), ())))))
noncomputable def Zq60_S (N : Nat) : FSum := ⟨Zq60_ps, Zq60_rs, fun x => Zq60 N x.1 x.2.1⟩
theorem Zq60_pc (N : Nat) : PC Try.prog 58 (Zq60_S N) := pcQ (L := []) (Zq60_gok N) Try.call58 Try.func58 (fun x => by kernel_rfl) trivial (by kernel_rfl)

abbrev Zq63_ps : List (PV.Mode × Ty) := [(.ro, LQII), (.ro, I)]
abbrev Zq63_rs : List (Bool × Ty) := [(true, .bool)]
noncomputable def Zq63_G (N : Nat) : GTab := gOf [(42, Zq54_S N), (58, Zq60_S N)]
theorem Zq63_gok (N : Nat) : GOk Try.prog (Zq63_G N) := gOf_ok ⟨Zq54_pc N, Zq60_pc N, trivial⟩
noncomputable def Zq63_code : Code := (Try.f43.body).getD .skip
noncomputable def Zq63_l0_sh : Sh := ⟨[(0, .one (.ro LQII)), (1, .one (.ro I)), (5, .one (.ro I))], []⟩
noncomputable def Zq63_l0_ex : List (Ex × Sh) := [(.ret, ⟨[(4, .one (.ro .bool))], []⟩), (.exit 0, ⟨[], []⟩)]
noncomputable def Zq63_l0 {R : Type} (N : Nat) (k0 : Bool → Option R) (k1 : Unit → Option R) : Nat → (List (Int × Int)) → Int → Int → Option R
 | 0, _, _, _ => none
 | K + 1, pairs1, n1, i =>
 (br (ilt i (tLen pairs1))
 ((chk (inb pairs1 i)
 ((Zq54 N ((rdP pairs1 i).1) 0 (IntKind.i64.wrap (n1 - 1))).bind fun r =>
 (br (!r.1.1)
 (k0 false)
 (((Zq54 N ((rdP pairs1 i).2) 0 (IntKind.i64.wrap (n1 - 1))).bind fun r1 =>
 (br (!r1.1.1)
 (k0 false)
 ((br (ile ((rdP pairs1 i).2) ((rdP pairs1 i).1))
 (k0 false)
 ((br (ilt 0 i)
 ((chk (inb pairs1 (IntKind.i64.wrap (i - 1)))
 ((Zq60 N (rdP pairs1 (IntKind.i64.wrap (i - 1))) ((rdP pairs1 i).1, (rdP pairs1 i).2)).bind fun r2 =>
 (br (!r2.1.1)
 (k0 false)
 (Zq63_l0 N k0 k1 K pairs1 n1 (IntKind.i64.wrap (i + 1)))))))
 (Zq63_l0 N k0 k1 K pairs1 n1 (IntKind.i64.wrap (i + 1))))))))))))))
 (k1 ()))
noncomputable def Zq63_l0_again {R : Type} (N : Nat) (ks : KS Zq63_l0_ex R) (k : Nat) (x : Zq63_l0_sh.T) : Option R :=
 Zq63_l0 N (fun y0 => ks 0 ((y0, ()), ())) (fun (_ : Unit) => ks 1 ((), ())) k x.1.1 x.1.2.1 x.1.2.2.1
noncomputable def Zq63_l0_s (N : Nat) : LSum := ⟨Zq63_l0_sh, Zq63_l0_ex, fun x ks => Zq63_l0_again N ks N x⟩
theorem Zq63_l0_ok (N : Nat) : LoopOk Try.prog Try.f43.ntmps (Zq63_l0_s N) (loopAt Zq63_code 0) := loopQ (sh := Zq63_l0_sh) (ex := Zq63_l0_ex) (N := N) (L := []) (fun R k x ks => Zq63_l0_again N ks k x) (Zq63_gok N) (fun _ _ _ => rfl) (fun R k x ks => by kernel_rfl) trivial (by kernel_rfl)
noncomputable def Zq63 (N : Nat) (pairs : (List (Int × Int))) (n : Int) : Option ((Bool × Unit) × (Unit)) :=
 Zq63_l0 N (fun x => some ((x, ()), ())) (fun (_ : Unit) => some ((true, ()), ())) N pairs n 0
noncomputable def Zq63_S (N : Nat) : FSum := ⟨Zq63_ps, Zq63_rs, fun x => Zq63 N x.1 x.2.1⟩
theorem Zq63_pc (N : Nat) : PC Try.prog 43 (Zq63_S N) := pcQ (L := [Zq63_l0_s N]) (Zq63_gok N) Try.call43 Try.func43 (fun x => by kernel_rfl) ⟨Zq63_l0_ok N, trivial⟩ (by kernel_rfl)

abbrev Zq61_ps : List (PV.Mode × Ty) := [(.ro, QILQII)]
abbrev Zq61_rs : List (Bool × Ty) := [(true, .bool)]
noncomputable def Zq61_G (N : Nat) : GTab := gOf [(42, Zq54_S N), (43, Zq63_S N)]
theorem Zq61_gok (N : Nat) : GOk Try.prog (Zq61_G N) := gOf_ok ⟨Zq54_pc N, Zq63_pc N, trivial⟩
noncomputable def Zq61_code : Code := (Try.f26.body).getD .skip
noncomputable def Zq61 (N : Nat) (g : (Int × (List (Int × Int)))) : Option ((Bool × Unit) × (Unit)) :=
 ((Zq54 N g.1 0 8).bind fun r =>
 (br r.1.1
 (((Zq63 N g.2 g.1).bind fun r1 =>
 some ((r1.1.1, ()), ())))
 (some ((false, ()), ()))))
noncomputable def Zq61_S (N : Nat) : FSum := ⟨Zq61_ps, Zq61_rs, fun x => Zq61 N x.1⟩
theorem Zq61_pc (N : Nat) : PC Try.prog 26 (Zq61_S N) := pcQ (L := []) (Zq61_gok N) Try.call26 Try.func26 (fun x => by kernel_rfl) trivial (by kernel_rfl)

abbrev Zq67_ps : List (PV.Mode × Ty) := [(.ro, I)]
abbrev Zq67_rs : List (Bool × Ty) := [(true, .bool)]
noncomputable def Zq67_G (N : Nat) : GTab := gOf [(42, Zq54_S N)]
theorem Zq67_gok (N : Nat) : GOk Try.prog (Zq67_G N) := gOf_ok ⟨Zq54_pc N, trivial⟩
noncomputable def Zq67_code : Code := (Try.f27.body).getD .skip
noncomputable def Zq67 (N : Nat) (kind : Int) : Option ((Bool × Unit) × (Unit)) :=
 ((Zq54 N kind 1 3).bind fun r =>
 some ((r.1.1, ()), ()))
noncomputable def Zq67_S (N : Nat) : FSum := ⟨Zq67_ps, Zq67_rs, fun x => Zq67 N x.1⟩
theorem Zq67_pc (N : Nat) : PC Try.prog 27 (Zq67_S N) := pcQ (L := []) (Zq67_gok N) Try.call27 Try.func27 (fun x => by kernel_rfl) trivial (by kernel_rfl)

abbrev Zq65_ps : List (PV.Mode × Ty) := [(.ro, QILQII), (.ro, I)]
abbrev Zq65_rs : List (Bool × Ty) := [(true, .bool)]
noncomputable def Zq65_G (N : Nat) : GTab := gOf [(26, Zq61_S N), (27, Zq67_S N)]
theorem Zq65_gok (N : Nat) : GOk Try.prog (Zq65_G N) := gOf_ok ⟨Zq61_pc N, Zq67_pc N, trivial⟩
noncomputable def Zq65_code : Code := (Try.f14.body).getD .skip
noncomputable def Zq65 (N : Nat) (g : (Int × (List (Int × Int)))) (kind : Int) : Option ((Bool × Unit) × (Unit)) :=
 ((Zq61 N (g.1, g.2)).bind fun r =>
 (br r.1.1
 (((Zq67 N kind).bind fun r1 =>
 some ((r1.1.1, ()), ())))
 (some ((false, ()), ()))))
noncomputable def Zq65_S (N : Nat) : FSum := ⟨Zq65_ps, Zq65_rs, fun x => Zq65 N x.1 x.2.1⟩
theorem Zq65_pc (N : Nat) : PC Try.prog 14 (Zq65_S N) := pcQ (L := []) (Zq65_gok N) Try.call14 Try.func14 (fun x => by kernel_rfl) trivial (by kernel_rfl)

abbrev Zq59_ps : List (PV.Mode × Ty) := [(.ro, I), (.ro, I)]
abbrev Zq59_rs : List (Bool × Ty) := [(true, LI)]
noncomputable def Zq59_G (N : Nat) : GTab := gOf []
theorem Zq59_gok (N : Nat) : GOk Try.prog (Zq59_G N) := gOf_ok trivial
noncomputable def Zq59_code : Code := (Try.f28.body).getD .skip
noncomputable def Zq59_l0_sh : Sh := ⟨[(0, .one (.ro I)), (1, .one (.ro I)), (5, .one (.ref 0)), (6, .one (.ro I))], [.sl 3 I .own]⟩
noncomputable def Zq59_l0_ex : List (Ex × Sh) := [(.exit 0, ⟨[(5, .one (.ref 0))], [.sl 3 I .own]⟩)]
noncomputable def Zq59_l0 {R : Type} (N : Nat) (k0 : (List Int) → Option R) : Nat → Int → Int → Int → (List Int) → Option R
 | 0, _, _, _, _ => none
 | K + 1, n1, code1, x, o =>
 (br (ilt x n1)
 ((chk (ile 0 x)
 (br (ieq (bitop .and .i64 (shrI .i64 code1 x) 1) 1)
 ((chk (room o [x])
 (Zq59_l0 N k0 K n1 code1 (IntKind.i64.wrap (x + 1)) (tApp o [x]))))
 (Zq59_l0 N k0 K n1 code1 (IntKind.i64.wrap (x + 1)) o))))
 (k0 o))
noncomputable def Zq59_l0_again {R : Type} (N : Nat) (ks : KS Zq59_l0_ex R) (k : Nat) (x : Zq59_l0_sh.T) : Option R :=
 Zq59_l0 N (fun y0 => ks 0 (((), ()), (y0, ()))) k x.1.1 x.1.2.1 x.1.2.2.2.1 x.2.1
noncomputable def Zq59_l0_s (N : Nat) : LSum := ⟨Zq59_l0_sh, Zq59_l0_ex, fun x ks => Zq59_l0_again N ks N x⟩
theorem Zq59_l0_ok (N : Nat) : LoopOk Try.prog Try.f28.ntmps (Zq59_l0_s N) (loopAt Zq59_code 0) := loopQ (sh := Zq59_l0_sh) (ex := Zq59_l0_ex) (N := N) (L := []) (fun R k x ks => Zq59_l0_again N ks k x) (Zq59_gok N) (fun _ _ _ => rfl) (fun R k x ks => by kernel_rfl) trivial (by kernel_rfl)
noncomputable def Zq59 (N : Nat) (n : Int) (code : Int) : Option (((List Int) × Unit) × (Unit)) :=
 Zq59_l0 N (fun o => some ((o, ()), ())) N n code 0 []
noncomputable def Zq59_S (N : Nat) : FSum := ⟨Zq59_ps, Zq59_rs, fun x => Zq59 N x.1 x.2.1⟩
theorem Zq59_pc (N : Nat) : PC Try.prog 28 (Zq59_S N) := pcQ (L := [Zq59_l0_s N]) (Zq59_gok N) Try.call28 Try.func28 (fun x => by kernel_rfl) ⟨Zq59_l0_ok N, trivial⟩ (by kernel_rfl)

abbrev Zq53_ps : List (PV.Mode × Ty) := [(.ro, LI), (.ro, I)]
abbrev Zq53_rs : List (Bool × Ty) := [(true, .bool)]
noncomputable def Zq53_G (N : Nat) : GTab := gOf []
theorem Zq53_gok (N : Nat) : GOk Try.prog (Zq53_G N) := gOf_ok trivial
noncomputable def Zq53_code : Code := (Try.f31.body).getD .skip
noncomputable def Zq53_l0_sh : Sh := ⟨[(0, .one (.ro LI)), (1, .one (.ro I)), (5, .one (.ro I))], []⟩
noncomputable def Zq53_l0_ex : List (Ex × Sh) := [(.ret, ⟨[(4, .one (.ro .bool))], []⟩), (.exit 0, ⟨[], []⟩)]
noncomputable def Zq53_l0 {R : Type} (N : Nat) (k0 : Bool → Option R) (k1 : Unit → Option R) : Nat → (List Int) → Int → Int → Option R
 | 0, _, _, _ => none
 | K + 1, l1, n1, i =>
 (br (ilt i (tLen l1))
 ((chk (inb l1 i)
 (br (ieq (rdI l1 i) n1)
 (k0 true)
 (Zq53_l0 N k0 k1 K l1 n1 (IntKind.i64.wrap (i + 1))))))
 (k1 ()))
noncomputable def Zq53_l0_again {R : Type} (N : Nat) (ks : KS Zq53_l0_ex R) (k : Nat) (x : Zq53_l0_sh.T) : Option R :=
 Zq53_l0 N (fun y0 => ks 0 ((y0, ()), ())) (fun (_ : Unit) => ks 1 ((), ())) k x.1.1 x.1.2.1 x.1.2.2.1
noncomputable def Zq53_l0_s (N : Nat) : LSum := ⟨Zq53_l0_sh, Zq53_l0_ex, fun x ks => Zq53_l0_again N ks N x⟩
theorem Zq53_l0_ok (N : Nat) : LoopOk Try.prog Try.f31.ntmps (Zq53_l0_s N) (loopAt Zq53_code 0) := loopQ (sh := Zq53_l0_sh) (ex := Zq53_l0_ex) (N := N) (L := []) (fun R k x ks => Zq53_l0_again N ks k x) (Zq53_gok N) (fun _ _ _ => rfl) (fun R k x ks => by kernel_rfl) trivial (by kernel_rfl)
noncomputable def Zq53 (N : Nat) (l : (List Int)) (n : Int) : Option ((Bool × Unit) × (Unit)) :=
 Zq53_l0 N (fun x => some ((x, ()), ())) (fun (_ : Unit) => some ((false, ()), ())) N l n 0
noncomputable def Zq53_S (N : Nat) : FSum := ⟨Zq53_ps, Zq53_rs, fun x => Zq53 N x.1 x.2.1⟩
theorem Zq53_pc (N : Nat) : PC Try.prog 31 (Zq53_S N) := pcQ (L := [Zq53_l0_s N]) (Zq53_gok N) Try.call31 Try.func31 (fun x => by kernel_rfl) ⟨Zq53_l0_ok N, trivial⟩ (by kernel_rfl)

abbrev Zq62_ps : List (PV.Mode × Ty) := [(.ro, QILQII), (.ro, I), (.ro, I)]
abbrev Zq62_rs : List (Bool × Ty) := [(true, .bool)]
noncomputable def Zq62_G (N : Nat) : GTab := gOf []
theorem Zq62_gok (N : Nat) : GOk Try.prog (Zq62_G N) := gOf_ok trivial
noncomputable def Zq62_code : Code := (Try.f44.body).getD .skip
noncomputable def Zq62_l0_sh : Sh := ⟨[(1, .one (.ro I)), (2, .one (.ro I)), (3, .one (.adr 0 0)), (7, .one (.ro I))], [.box [.ro I, .ro LQII]]⟩
noncomputable def Zq62_l0_ex : List (Ex × Sh) := [(.ret, ⟨[(6, .one (.ro .bool))], []⟩), (.exit 0, ⟨[], []⟩)]
noncomputable def Zq62_l0 {R : Type} (N : Nat) (k0 : Bool → Option R) (k1 : Unit → Option R) : Nat → Int → Int → Int → Int → (List (Int × Int)) → Option R
 | 0, _, _, _, _, _ => none
 | K + 1, a1, b1, i, o, o1 =>
 (br (ilt i (tLen o1))
 ((chk (inb o1 i)
 (br (ieq ((rdP o1 i).1) a1)
 ((br (ieq ((rdP o1 i).2) b1)
 (k0 true)
 ((br (ieq ((rdP o1 i).1) b1)
 ((br (ieq ((rdP o1 i).2) a1)
 (k0 true)
 (Zq62_l0 N k0 k1 K a1 b1 (IntKind.i64.wrap (i + 1)) o o1)))
 (Zq62_l0 N k0 k1 K a1 b1 (IntKind.i64.wrap (i + 1)) o o1)))))
 ((br (ieq ((rdP o1 i).1) b1)
 ((br (ieq ((rdP o1 i).2) a1)
 (k0 true)
 (Zq62_l0 N k0 k1 K a1 b1 (IntKind.i64.wrap (i + 1)) o o1)))
 (Zq62_l0 N k0 k1 K a1 b1 (IntKind.i64.wrap (i + 1)) o o1))))))
 (k1 ()))
noncomputable def Zq62_l0_again {R : Type} (N : Nat) (ks : KS Zq62_l0_ex R) (k : Nat) (x : Zq62_l0_sh.T) : Option R :=
 Zq62_l0 N (fun y0 => ks 0 ((y0, ()), ())) (fun (_ : Unit) => ks 1 ((), ())) k x.1.1 x.1.2.1 x.1.2.2.2.1 x.2.1.1 x.2.1.2.1
noncomputable def Zq62_l0_s (N : Nat) : LSum := ⟨Zq62_l0_sh, Zq62_l0_ex, fun x ks => Zq62_l0_again N ks N x⟩
theorem Zq62_l0_ok (N : Nat) : LoopOk Try.prog Try.f44.ntmps (Zq62_l0_s N) (loopAt Zq62_code 0) := loopQ (sh := Zq62_l0_sh) (ex := Zq62_l0_ex) (N := N) (L := []) (fun R k x ks => Zq62_l0_again N ks k x) (Zq62_gok N) (fun _ _ _ => rfl) (fun R k x ks => by kernel_rfl) trivial (by kernel_rfl)
noncomputable def Zq62 (N : Nat) (g : (Int × (List (Int × Int)))) (a : Int) (b : Int) : Option ((Bool × Unit) × (Unit)) :=
 Zq62_l0 N (fun x => some ((x, ()), ())) (fun (_ : Unit) => some ((false, ()), ())) N a b 0 g.1 g.2
noncomputable def Zq62_S (N : Nat) : FSum := ⟨Zq62_ps, Zq62_rs, fun x => Zq62 N x.1 x.2.1 x.2.2.1⟩
theorem Zq62_pc (N : Nat) : PC Try.prog 44 (Zq62_S N) := pcQ (L := [Zq62_l0_s N]) (Zq62_gok N) Try.call44 Try.func44 (fun x => by kernel_rfl) ⟨Zq62_l0_ok N, trivial⟩ (by kernel_rfl)

abbrev Zq66_ps : List (PV.Mode × Ty) := [(.ro, QILQII), (.ro, I), (.ro, LI)]
abbrev Zq66_rs : List (Bool × Ty) := [(true, .bool)]
noncomputable def Zq66_G (N : Nat) : GTab := gOf [(31, Zq53_S N), (44, Zq62_S N)]
theorem Zq66_gok (N : Nat) : GOk Try.prog (Zq66_G N) := gOf_ok ⟨Zq53_pc N, Zq62_pc N, trivial⟩
noncomputable def Zq66_code : Code := (Try.f29.body).getD .skip
noncomputable def Zq66_l0_sh : Sh := ⟨[(2, .one (.ro LI)), (3, .one (.adr 0 0)), (7, .one (.ro I))], [.box [.ro I, .ro LQII]]⟩
noncomputable def Zq66_l0_ex : List (Ex × Sh) := [(.ret, ⟨[(6, .one (.ro .bool))], []⟩), (.exit 1, ⟨[], []⟩)]
noncomputable def Zq66_l0 {R : Type} (N : Nat) (k0 : Bool → Option R) (k1 : Unit → Option R) : Nat → (List Int) → Int → Int → (List (Int × Int)) → Option R
 | 0, _, _, _, _ => none
 | K + 1, x, x1, o, o1 =>
 (br (ilt x1 (tLen o1))
 ((chk (inb o1 x1)
 ((Zq53 N x ((rdP o1 x1).1)).bind fun r =>
 (br (!r.1.1)
 ((chk (inb o1 x1)
 ((Zq53 N x ((rdP o1 x1).2)).bind fun r1 =>
 (br (!r1.1.1)
 (k0 false)
 (Zq66_l0 N k0 k1 K x (IntKind.i64.wrap (x1 + 1)) o o1)))))
 (Zq66_l0 N k0 k1 K x (IntKind.i64.wrap (x1 + 1)) o o1)))))
 (k1 ()))
noncomputable def Zq66_l0_again {R : Type} (N : Nat) (ks : KS Zq66_l0_ex R) (k : Nat) (x : Zq66_l0_sh.T) : Option R :=
 Zq66_l0 N (fun y0 => ks 0 ((y0, ()), ())) (fun (_ : Unit) => ks 1 ((), ())) k x.1.1 x.1.2.2.1 x.2.1.1 x.2.1.2.1
noncomputable def Zq66_l0_s (N : Nat) : LSum := ⟨Zq66_l0_sh, Zq66_l0_ex, fun x ks => Zq66_l0_again N ks N x⟩
theorem Zq66_l0_ok (N : Nat) : LoopOk Try.prog Try.f29.ntmps (Zq66_l0_s N) (loopAt Zq66_code 0) := loopQ (sh := Zq66_l0_sh) (ex := Zq66_l0_ex) (N := N) (L := []) (fun R k x ks => Zq66_l0_again N ks k x) (Zq66_gok N) (fun _ _ _ => rfl) (fun R k x ks => by kernel_rfl) trivial (by kernel_rfl)
noncomputable def Zq66_l1_0_sh : Sh := ⟨[(2, .one (.ro LI)), (3, .one (.adr 0 0)), (8, .one (.ro I)), (9, .one (.ro I))], [.box [.ro I, .ro LQII]]⟩
noncomputable def Zq66_l1_0_ex : List (Ex × Sh) := [(.ret, ⟨[(6, .one (.ro .bool))], []⟩), (.exit 5, ⟨[(2, .one (.ro LI)), (3, .one (.adr 0 0)), (8, .one (.ro I))], [.box [.ro I, .ro LQII]]⟩)]
noncomputable def Zq66_l1_0 {R : Type} (N : Nat) (k0 : Bool → Option R) (k1 : (List Int) → Int → Int → (List (Int × Int)) → Option R) : Nat → (List Int) → Int → Int → Int → (List (Int × Int)) → Option R
 | 0, _, _, _, _, _ => none
 | K + 1, x3, x4, x5, o2, o3 =>
 (br (ilt x5 x4)
 ((chk (inb x3 x4)
 (chk (inb x3 x5)
 ((Zq62 N (o2, o3) (rdI x3 x4) (rdI x3 x5)).bind fun r =>
 (br (!r.1.1)
 (k0 false)
 (Zq66_l1_0 N k0 k1 K x3 x4 (IntKind.i64.wrap (x5 + 1)) o2 o3))))))
 (k1 x3 x4 o2 o3))
noncomputable def Zq66_l1_0_again {R : Type} (N : Nat) (ks : KS Zq66_l1_0_ex R) (k : Nat) (x : Zq66_l1_0_sh.T) : Option R :=
 Zq66_l1_0 N (fun y0 => ks 0 ((y0, ()), ())) (fun y0 y1 y2 y3 => ks 1 ((y0, (), y1, ()), ((y2, y3, ()), ()))) k x.1.1 x.1.2.2.1 x.1.2.2.2.1 x.2.1.1 x.2.1.2.1
noncomputable def Zq66_l1_0_s (N : Nat) : LSum := ⟨Zq66_l1_0_sh, Zq66_l1_0_ex, fun x ks => Zq66_l1_0_again N ks N x⟩
theorem Zq66_l1_0_ok (N : Nat) : LoopOk Try.prog Try.f29.ntmps (Zq66_l1_0_s N) (loopAt (loopAt Zq66_code 1) 0) := loopQ (sh := Zq66_l1_0_sh) (ex := Zq66_l1_0_ex) (N := N) (L := []) (fun R k x ks => Zq66_l1_0_again N ks k x) (Zq66_gok N) (fun _ _ _ => rfl) (fun R k x ks => by kernel_rfl) trivial (by kernel_rfl)
noncomputable def Zq66_l1_sh : Sh := ⟨[(2, .one (.ro LI)), (3, .one (.adr 0 0)), (8, .one (.ro I))], [.box [.ro I, .ro LQII]]⟩
noncomputable def Zq66_l1_ex : List (Ex × Sh) := [(.ret, ⟨[(6, .one (.ro .bool))], []⟩), (.exit 3, ⟨[], []⟩)]
noncomputable def Zq66_l1 {R : Type} (N : Nat) (k0 : Bool → Option R) (k1 : Unit → Option R) : Nat → (List Int) → Int → Int → (List (Int × Int)) → Option R
 | 0, _, _, _, _ => none
 | K + 1, x1, x2, o, o1 =>
 (br (ilt x2 (tLen x1))
 (Zq66_l1_0 N (fun x3 => k0 x3) (fun x4 x5 o2 o3 => Zq66_l1 N k0 k1 K x4 (IntKind.i64.wrap (x5 + 1)) o2 o3) N x1 x2 0 o o1)
 (k1 ()))
noncomputable def Zq66_l1_again {R : Type} (N : Nat) (ks : KS Zq66_l1_ex R) (k : Nat) (x : Zq66_l1_sh.T) : Option R :=
 Zq66_l1 N (fun y0 => ks 0 ((y0, ()), ())) (fun (_ : Unit) => ks 1 ((), ())) k x.1.1 x.1.2.2.1 x.2.1.1 x.2.1.2.1
noncomputable def Zq66_l1_s (N : Nat) : LSum := ⟨Zq66_l1_sh, Zq66_l1_ex, fun x ks => Zq66_l1_again N ks N x⟩
theorem Zq66_l1_ok (N : Nat) : LoopOk Try.prog Try.f29.ntmps (Zq66_l1_s N) (loopAt Zq66_code 1) := loopQ (sh := Zq66_l1_sh) (ex := Zq66_l1_ex) (N := N) (L := [Zq66_l1_0_s N]) (fun R k x ks => Zq66_l1_again N ks k x) (Zq66_gok N) (fun _ _ _ => rfl) (fun R k x ks => by kernel_rfl) ⟨Zq66_l1_0_ok N, trivial⟩ (by kernel_rfl)
noncomputable def Zq66_l2_0_sh : Sh := ⟨[(2, .one (.ro LI)), (3, .one (.adr 0 0)), (10, .one (.ro I)), (11, .one (.ro .bool)), (12, .one (.ro I))], [.box [.ro I, .ro LQII]]⟩
noncomputable def Zq66_l2_0_ex : List (Ex × Sh) := [(.exit 9, ⟨[(2, .one (.ro LI)), (3, .one (.adr 0 0)), (10, .one (.ro I)), (11, .one (.ro .bool))], [.box [.ro I, .ro LQII]]⟩)]
noncomputable def Zq66_l2_0 {R : Type} (N : Nat) (k0 : (List Int) → Int → Bool → Int → (List (Int × Int)) → Option R) : Nat → (List Int) → Int → Bool → Int → Int → (List (Int × Int)) → Option R
 | 0, _, _, _, _, _, _ => none
 | K + 1, x4, x5, x6, x7, o2, o3 =>
 (br (ilt x7 (tLen x4))
 ((br x6
 (Zq66_l2_0 N k0 K x4 x5 true (IntKind.i64.wrap (x7 + 1)) o2 o3)
 ((chk (inb x4 x7)
 ((Zq62 N (o2, o3) (rdI x4 x7) x5).bind fun r1 =>
 Zq66_l2_0 N k0 K x4 x5 r1.1.1 (IntKind.i64.wrap (x7 + 1)) o2 o3)))))
 (k0 x4 x5 x6 o2 o3))
noncomputable def Zq66_l2_0_again {R : Type} (N : Nat) (ks : KS Zq66_l2_0_ex R) (k : Nat) (x : Zq66_l2_0_sh.T) : Option R :=
 Zq66_l2_0 N (fun y0 y1 y2 y3 y4 => ks 0 ((y0, (), y1, y2, ()), ((y3, y4, ()), ()))) k x.1.1 x.1.2.2.1 x.1.2.2.2.1 x.1.2.2.2.2.1 x.2.1.1 x.2.1.2.1
noncomputable def Zq66_l2_0_s (N : Nat) : LSum := ⟨Zq66_l2_0_sh, Zq66_l2_0_ex, fun x ks => Zq66_l2_0_again N ks N x⟩
theorem Zq66_l2_0_ok (N : Nat) : LoopOk Try.prog Try.f29.ntmps (Zq66_l2_0_s N) (loopAt (loopAt Zq66_code 2) 0) := loopQ (sh := Zq66_l2_0_sh) (ex := Zq66_l2_0_ex) (N := N) (L := []) (fun R k x ks => Zq66_l2_0_again N ks k x) (Zq66_gok N) (fun _ _ _ => rfl) (fun R k x ks => by kernel_rfl) trivial (by kernel_rfl)
noncomputable def Zq66_l2_sh : Sh := ⟨[(2, .one (.ro LI)), (3, .one (.adr 0 0)), (10, .one (.ro I))], [.box [.ro I, .ro LQII]]⟩
noncomputable def Zq66_l2_ex : List (Ex × Sh) := [(.ret, ⟨[(6, .one (.ro .bool))], []⟩), (.exit 7, ⟨[], []⟩)]
noncomputable def Zq66_l2 {R : Type} (N : Nat) (k0 : Bool → Option R) (k1 : Unit → Option R) : Nat → (List Int) → Int → Int → (List (Int × Int)) → Option R
 | 0, _, _, _, _ => none
 | K + 1, x2, x3, o, o1 =>
 (br (ilt x3 o)
 (((Zq53 N x2 x3).bind fun r =>
 Zq66_l2_0 N (fun x4 x5 x6 o2 o3 => (br (!x6)
 (k0 false)
 (Zq66_l2 N k0 k1 K x4 (IntKind.i64.wrap (x5 + 1)) o2 o3))) N x2 x3 r.1.1 0 o o1))
 (k1 ()))
noncomputable def Zq66_l2_again {R : Type} (N : Nat) (ks : KS Zq66_l2_ex R) (k : Nat) (x : Zq66_l2_sh.T) : Option R :=
 Zq66_l2 N (fun y0 => ks 0 ((y0, ()), ())) (fun (_ : Unit) => ks 1 ((), ())) k x.1.1 x.1.2.2.1 x.2.1.1 x.2.1.2.1
noncomputable def Zq66_l2_s (N : Nat) : LSum := ⟨Zq66_l2_sh, Zq66_l2_ex, fun x ks => Zq66_l2_again N ks N x⟩
theorem Zq66_l2_ok (N : Nat) : LoopOk Try.prog Try.f29.ntmps (Zq66_l2_s N) (loopAt Zq66_code 2) := loopQ (sh := Zq66_l2_sh) (ex := Zq66_l2_ex) (N := N) (L := [Zq66_l2_0_s N]) (fun R k x ks => Zq66_l2_again N ks k x) (Zq66_gok N) (fun _ _ _ => rfl) (fun R k x ks => by kernel_rfl) ⟨Zq66_l2_0_ok N, trivial⟩ (by kernel_rfl)
noncomputable def Zq66 (N : Nat) (c : (Int × (List (Int × Int)))) (c1 : Int) (c2 : (List Int)) : Option ((Bool × Unit) × (Unit)) :=
 (br (ieq c1 1)
 (Zq66_l0 N (fun x => some ((x, ()), ())) (fun (_ : Unit) => some ((true, ()), ())) N c2 0 c.1 c.2)
 ((br (ieq c1 2)
 (Zq66_l1 N (fun x1 => some ((x1, ()), ())) (fun (_ : Unit) => some ((true, ()), ())) N c2 0 c.1 c.2)
 (Zq66_l2 N (fun x2 => some ((x2, ()), ())) (fun (_ : Unit) => some ((true, ()), ())) N c2 0 c.1 c.2))))
noncomputable def Zq66_S (N : Nat) : FSum := ⟨Zq66_ps, Zq66_rs, fun x => Zq66 N x.1 x.2.1 x.2.2.1⟩
theorem Zq66_pc (N : Nat) : PC Try.prog 29 (Zq66_S N) := pcQ (L := [Zq66_l0_s N, Zq66_l1_s N, Zq66_l2_s N]) (Zq66_gok N) Try.call29 Try.func29 (fun x => by kernel_rfl) ⟨Zq66_l0_ok N, Zq66_l1_ok N, Zq66_l2_ok N, trivial⟩ (by kernel_rfl)

abbrev Zq58_ps : List (PV.Mode × Ty) := [(.ro, LI), (.ro, LI)]
abbrev Zq58_rs : List (Bool × Ty) := [(true, .bool)]
noncomputable def Zq58_G (N : Nat) : GTab := gOf []
theorem Zq58_gok (N : Nat) : GOk Try.prog (Zq58_G N) := gOf_ok trivial
noncomputable def Zq58_code : Code := (Try.f45.body).getD .skip
noncomputable def Zq58_l0_sh : Sh := ⟨[(0, .one (.ro LI)), (1, .one (.ro LI)), (5, .one (.ro I))], []⟩
noncomputable def Zq58_l0_ex : List (Ex × Sh) := [(.ret, ⟨[(4, .one (.ro .bool))], []⟩), (.exit 0, ⟨[(0, .one (.ro LI)), (1, .one (.ro LI))], []⟩)]
noncomputable def Zq58_l0 {R : Type} (N : Nat) (k0 : Bool → Option R) (k1 : (List Int) → (List Int) → Option R) : Nat → (List Int) → (List Int) → Int → Option R
 | 0, _, _, _ => none
 | K + 1, a1, b1, i =>
 (br (ilt i (tLen a1))
 ((br (ilt i (tLen b1))
 ((chk (inb a1 i)
 (chk (inb b1 i)
 (br (ine (rdI a1 i) (rdI b1 i))
 ((chk (inb a1 i)
 (chk (inb b1 i)
 (k0 (ilt (rdI a1 i) (rdI b1 i))))))
 (Zq58_l0 N k0 k1 K a1 b1 (IntKind.i64.wrap (i + 1)))))))
 (k1 a1 b1)))
 (k1 a1 b1))
noncomputable def Zq58_l0_again {R : Type} (N : Nat) (ks : KS Zq58_l0_ex R) (k : Nat) (x : Zq58_l0_sh.T) : Option R :=
 Zq58_l0 N (fun y0 => ks 0 ((y0, ()), ())) (fun y0 y1 => ks 1 ((y0, y1, ()), ())) k x.1.1 x.1.2.1 x.1.2.2.1
noncomputable def Zq58_l0_s (N : Nat) : LSum := ⟨Zq58_l0_sh, Zq58_l0_ex, fun x ks => Zq58_l0_again N ks N x⟩
theorem Zq58_l0_ok (N : Nat) : LoopOk Try.prog Try.f45.ntmps (Zq58_l0_s N) (loopAt Zq58_code 0) := loopQ (sh := Zq58_l0_sh) (ex := Zq58_l0_ex) (N := N) (L := []) (fun R k x ks => Zq58_l0_again N ks k x) (Zq58_gok N) (fun _ _ _ => rfl) (fun R k x ks => by kernel_rfl) trivial (by kernel_rfl)
noncomputable def Zq58 (N : Nat) (a : (List Int)) (b : (List Int)) : Option ((Bool × Unit) × (Unit)) :=
 Zq58_l0 N (fun x => some ((x, ()), ())) (fun a1 b1 => some (((ilt (tLen a1) (tLen b1)), ()), ())) N a b 0
noncomputable def Zq58_S (N : Nat) : FSum := ⟨Zq58_ps, Zq58_rs, fun x => Zq58 N x.1 x.2.1⟩
theorem Zq58_pc (N : Nat) : PC Try.prog 45 (Zq58_S N) := pcQ (L := [Zq58_l0_s N]) (Zq58_gok N) Try.call45 Try.func45 (fun x => by kernel_rfl) ⟨Zq58_l0_ok N, trivial⟩ (by kernel_rfl)

abbrev Zq55_ps : List (PV.Mode × Ty) := [(.ro, LI)]
abbrev Zq55_rs : List (Bool × Ty) := [(false, LI)]
noncomputable def Zq55_G (N : Nat) : GTab := gOf []
theorem Zq55_gok (N : Nat) : GOk Try.prog (Zq55_G N) := gOf_ok trivial
noncomputable def Zq55_code : Code := (Try.f47.body).getD .skip
noncomputable def Zq55 (N : Nat) (l : (List Int)) : Option (((List Int) × Unit) × (Unit)) :=
 (chk (room (α := Int) (β := Int) [] l)
 (some (((tApp [] l), ()), ())))
noncomputable def Zq55_S (N : Nat) : FSum := ⟨Zq55_ps, Zq55_rs, fun x => Zq55 N x.1⟩
theorem Zq55_pc (N : Nat) : PC Try.prog 47 (Zq55_S N) := pcQ (L := []) (Zq55_gok N) Try.call47 Try.func47 (fun x => by kernel_rfl) trivial (by kernel_rfl)

abbrev Zq57_ps : List (PV.Mode × Ty) := [(.ro, LI), (.ro, LI)]
abbrev Zq57_rs : List (Bool × Ty) := [(true, .bool)]
noncomputable def Zq57_G (N : Nat) : GTab := gOf []
theorem Zq57_gok (N : Nat) : GOk Try.prog (Zq57_G N) := gOf_ok trivial
noncomputable def Zq57_code : Code := (Try.f46.body).getD .skip
noncomputable def Zq57_l0_sh : Sh := ⟨[(0, .one (.ro LI)), (1, .one (.ro LI)), (5, .one (.ro I))], []⟩
noncomputable def Zq57_l0_ex : List (Ex × Sh) := [(.ret, ⟨[(4, .one (.ro .bool))], []⟩), (.exit 0, ⟨[], []⟩)]
noncomputable def Zq57_l0 {R : Type} (N : Nat) (k0 : Bool → Option R) (k1 : Unit → Option R) : Nat → (List Int) → (List Int) → Int → Option R
 | 0, _, _, _ => none
 | K + 1, a1, b1, i =>
 (br (ilt i (tLen a1))
 ((chk (inb a1 i)
 (chk (inb b1 i)
 (br (ine (rdI a1 i) (rdI b1 i))
 (k0 false)
 (Zq57_l0 N k0 k1 K a1 b1 (IntKind.i64.wrap (i + 1)))))))
 (k1 ()))
noncomputable def Zq57_l0_again {R : Type} (N : Nat) (ks : KS Zq57_l0_ex R) (k : Nat) (x : Zq57_l0_sh.T) : Option R :=
 Zq57_l0 N (fun y0 => ks 0 ((y0, ()), ())) (fun (_ : Unit) => ks 1 ((), ())) k x.1.1 x.1.2.1 x.1.2.2.1
noncomputable def Zq57_l0_s (N : Nat) : LSum := ⟨Zq57_l0_sh, Zq57_l0_ex, fun x ks => Zq57_l0_again N ks N x⟩
theorem Zq57_l0_ok (N : Nat) : LoopOk Try.prog Try.f46.ntmps (Zq57_l0_s N) (loopAt Zq57_code 0) := loopQ (sh := Zq57_l0_sh) (ex := Zq57_l0_ex) (N := N) (L := []) (fun R k x ks => Zq57_l0_again N ks k x) (Zq57_gok N) (fun _ _ _ => rfl) (fun R k x ks => by kernel_rfl) trivial (by kernel_rfl)
noncomputable def Zq57 (N : Nat) (a : (List Int)) (b : (List Int)) : Option ((Bool × Unit) × (Unit)) :=
 (br (ine (tLen a) (tLen b))
 (some ((false, ()), ()))
 (Zq57_l0 N (fun x => some ((x, ()), ())) (fun (_ : Unit) => some ((true, ()), ())) N a b 0))
noncomputable def Zq57_S (N : Nat) : FSum := ⟨Zq57_ps, Zq57_rs, fun x => Zq57 N x.1 x.2.1⟩
theorem Zq57_pc (N : Nat) : PC Try.prog 46 (Zq57_S N) := pcQ (L := [Zq57_l0_s N]) (Zq57_gok N) Try.call46 Try.func46 (fun x => by kernel_rfl) ⟨Zq57_l0_ok N, trivial⟩ (by kernel_rfl)

abbrev Zq64_ps : List (PV.Mode × Ty) := [(.ro, LLI)]
abbrev Zq64_rs : List (Bool × Ty) := [(false, LLI)]
noncomputable def Zq64_G (N : Nat) : GTab := gOf [(45, Zq58_S N), (47, Zq55_S N), (46, Zq57_S N)]
theorem Zq64_gok (N : Nat) : GOk Try.prog (Zq64_G N) := gOf_ok ⟨Zq58_pc N, Zq55_pc N, Zq57_pc N, trivial⟩
noncomputable def Zq64_code : Code := (Try.f30.body).getD .skip
noncomputable def Zq64_l0_0_sh : Sh := ⟨[(0, .one (.ro LLI)), (3, .one (.ref 0)), (4, .one (.ro I)), (5, .one (.ro I))], [.sl 40 LI .own]⟩
noncomputable def Zq64_l0_0_ex : List (Ex × Sh) := [(.exit 2, ⟨[(0, .one (.ro LLI)), (3, .one (.ref 0)), (4, .one (.ro I)), (5, .one (.ro I))], [.sl 40 LI .own]⟩)]
noncomputable def Zq64_l0_0 {R : Type} (N : Nat) (k0 : (List (List Int)) → Int → Int → (List (List Int)) → Option R) : Nat → (List (List Int)) → Int → Int → (List (List Int)) → Option R
 | 0, _, _, _, _ => none
 | K + 1, states4, i3, kv1, o3 =>
 (br (ilt 0 kv1)
 ((chk (inb states4 i3)
 (chk (inb o3 (IntKind.i64.wrap (kv1 - 1)))
 ((Zq58 N (rdL states4 i3) (rdL o3 (IntKind.i64.wrap (kv1 - 1)))).bind fun r =>
 (br r.1.1
 (Zq64_l0_0 N k0 K states4 i3 (IntKind.i64.wrap (kv1 - 1)) o3)
 (k0 states4 i3 kv1 o3))))))
 (k0 states4 i3 kv1 o3))
noncomputable def Zq64_l0_0_again {R : Type} (N : Nat) (ks : KS Zq64_l0_0_ex R) (k : Nat) (x : Zq64_l0_0_sh.T) : Option R :=
 Zq64_l0_0 N (fun y0 y1 y2 y3 => ks 0 ((y0, (), y1, y2, ()), (y3, ()))) k x.1.1 x.1.2.2.1 x.1.2.2.2.1 x.2.1
noncomputable def Zq64_l0_0_s (N : Nat) : LSum := ⟨Zq64_l0_0_sh, Zq64_l0_0_ex, fun x ks => Zq64_l0_0_again N ks N x⟩
theorem Zq64_l0_0_ok (N : Nat) : LoopOk Try.prog Try.f30.ntmps (Zq64_l0_0_s N) (loopAt (loopAt Zq64_code 0) 0) := loopQ (sh := Zq64_l0_0_sh) (ex := Zq64_l0_0_ex) (N := N) (L := []) (fun R k x ks => Zq64_l0_0_again N ks k x) (Zq64_gok N) (fun _ _ _ => rfl) (fun R k x ks => by kernel_rfl) trivial (by kernel_rfl)
noncomputable def Zq64_l0_sh : Sh := ⟨[(0, .one (.ro LLI)), (3, .one (.ref 0)), (4, .one (.ro I))], [.sl 40 LI .own]⟩
noncomputable def Zq64_l0_ex : List (Ex × Sh) := [(.exit 0, ⟨[(3, .one (.ref 0))], [.sl 40 LI .own]⟩)]
noncomputable def Zq64_l0 {R : Type} (N : Nat) (k0 : (List (List Int)) → Option R) : Nat → (List (List Int)) → Int → (List (List Int)) → Option R
 | 0, _, _, _ => none
 | K + 1, states3, i2, o2 =>
 (br (ilt i2 (tLen states3))
 (Zq64_l0_0 N (fun states4 i3 kv1 o3 => (br (ieq kv1 0)
 ((chk (ile 0 0 && ile 0 kv1 && ile kv1 (tLen o3))
 (chk (room (α := (List Int)) (β := (List Int)) [] (tCut o3 0 kv1))
 (chk (inb states4 i3)
 ((Zq55 N (rdL states4 i3)).bind fun r =>
 (chk (room (tApp [] (tCut o3 0 kv1)) [r.1.1])
 (chk (ile 0 kv1 && ile kv1 (tLen o3) && ile (tLen o3) (tLen o3))
 (chk (room (tApp (tApp [] (tCut o3 0 kv1)) [r.1.1]) (tCut o3 kv1 (tLen o3)))
 (Zq64_l0 N k0 K states4 (IntKind.i64.wrap (i3 + 1)) (tApp (tApp (tApp [] (tCut o3 0 kv1)) [r.1.1]) (tCut o3 kv1 (tLen o3))))))))))))
 ((chk (inb o3 (IntKind.i64.wrap (kv1 - 1)))
 (chk (inb states4 i3)
 ((Zq57 N (rdL o3 (IntKind.i64.wrap (kv1 - 1))) (rdL states4 i3)).bind fun r1 =>
 (br (!r1.1.1)
 ((chk (ile 0 0 && ile 0 kv1 && ile kv1 (tLen o3))
 (chk (room (α := (List Int)) (β := (List Int)) [] (tCut o3 0 kv1))
 (chk (inb states4 i3)
 ((Zq55 N (rdL states4 i3)).bind fun r2 =>
 (chk (room (tApp [] (tCut o3 0 kv1)) [r2.1.1])
 (chk (ile 0 kv1 && ile kv1 (tLen o3) && ile (tLen o3) (tLen o3))
 (chk (room (tApp (tApp [] (tCut o3 0 kv1)) [r2.1.1]) (tCut o3 kv1 (tLen o3)))
 (Zq64_l0 N k0 K states4 (IntKind.i64.wrap (i3 + 1)) (tApp (tApp (tApp [] (tCut o3 0 kv1)) [r2.1.1]) (tCut o3 kv1 (tLen o3))))))))))))
 (Zq64_l0 N k0 K states4 (IntKind.i64.wrap (i3 + 1)) o3)))))))) N states3 i2 (tLen o2) o2)
 (k0 o2))
noncomputable def Zq64_l0_again {R : Type} (N : Nat) (ks : KS Zq64_l0_ex R) (k : Nat) (x : Zq64_l0_sh.T) : Option R :=
 Zq64_l0 N (fun y0 => ks 0 (((), ()), (y0, ()))) k x.1.1 x.1.2.2.1 x.2.1
noncomputable def Zq64_l0_s (N : Nat) : LSum := ⟨Zq64_l0_sh, Zq64_l0_ex, fun x ks => Zq64_l0_again N ks N x⟩
theorem Zq64_l0_ok (N : Nat) : LoopOk Try.prog Try.f30.ntmps (Zq64_l0_s N) (loopAt Zq64_code 0) := loopQ (sh := Zq64_l0_sh) (ex := Zq64_l0_ex) (N := N) (L := [Zq64_l0_0_s N]) (fun R k x ks => Zq64_l0_again N ks k x) (Zq64_gok N) (fun _ _ _ => rfl) (fun R k x ks => by kernel_rfl) ⟨Zq64_l0_0_ok N, trivial⟩ (by kernel_rfl)
noncomputable def Zq64 (N : Nat) (states : (List (List Int))) : Option (((List (List Int)) × Unit) × (Unit)) :=
 Zq64_l0 N (fun o2 => some ((o2, ()), ())) N states 0 []
noncomputable def Zq64_S (N : Nat) : FSum := ⟨Zq64_ps, Zq64_rs, fun x => Zq64 N x.1⟩
theorem Zq64_pc (N : Nat) : PC Try.prog 30 (Zq64_S N) := pcQ (L := [Zq64_l0_s N]) (Zq64_gok N) Try.call30 Try.func30 (fun x => by kernel_rfl) ⟨Zq64_l0_ok N, trivial⟩ (by kernel_rfl)

abbrev Zq68_ps : List (PV.Mode × Ty) := [(.ro, QILQII), (.ro, I)]
abbrev Zq68_rs : List (Bool × Ty) := [(false, LLI)]
noncomputable def Zq68_G (N : Nat) : GTab := gOf [(28, Zq59_S N), (29, Zq66_S N), (30, Zq64_S N)]
theorem Zq68_gok (N : Nat) : GOk Try.prog (Zq68_G N) := gOf_ok ⟨Zq59_pc N, Zq66_pc N, Zq64_pc N, trivial⟩
noncomputable def Zq68_code : Code := (Try.f15.body).getD .skip
noncomputable def Zq68_l0_0_sh : Sh := ⟨[(1, .one (.ro I)), (2, .one (.adr 0 0)), (5, .one (.ref 1)), (6, .one (.ro I)), (7, .one (.ref 2)), (8, .one (.ro I))], [.box [.ro I, .ro LQII], .sl 40 LI .own, .sl 40 LI .deep]⟩
noncomputable def Zq68_l0_0_ex : List (Ex × Sh) := [(.exit 2, ⟨[(1, .one (.ro I)), (2, .one (.adr 0 0)), (5, .one (.ref 1)), (6, .one (.ro I)), (7, .one (.ref 2))], [.box [.ro I, .ro LQII], .sl 40 LI .own, .sl 40 LI .deep]⟩)]
noncomputable def Zq68_l0_0 {R : Type} (N : Nat) (k0 : Int → Int → Int → (List (Int × Int)) → (List (List Int)) → (List (List Int)) → Option R) : Nat → Int → Int → Int → Int → (List (Int × Int)) → (List (List Int)) → (List (List Int)) → Option R
 | 0, _, _, _, _, _, _, _ => none
 | K + 1, kind4, size3, code, o10, o11, o12, o13 =>
 (chk (ile 0 o10)
 (br (ilt code (shlI .i64 1 o10))
 (((Zq59 N o10 code).bind fun r1 =>
 (br (ieq (tLen r1.1.1) size3)
 (((Zq66 N (o10, o11) kind4 r1.1.1).bind fun r2 =>
 (br r2.1.1
 ((chk (room o13 [r1.1.1])
 (Zq68_l0_0 N k0 K kind4 size3 (IntKind.i64.wrap (code + 1)) o10 o11 o12 (tApp o13 [r1.1.1]))))
 (Zq68_l0_0 N k0 K kind4 size3 (IntKind.i64.wrap (code + 1)) o10 o11 o12 o13))))
 (Zq68_l0_0 N k0 K kind4 size3 (IntKind.i64.wrap (code + 1)) o10 o11 o12 o13))))
 (k0 kind4 size3 o10 o11 o12 o13)))
noncomputable def Zq68_l0_0_again {R : Type} (N : Nat) (ks : KS Zq68_l0_0_ex R) (k : Nat) (x : Zq68_l0_0_sh.T) : Option R :=
 Zq68_l0_0 N (fun y0 y1 y2 y3 y4 y5 => ks 0 ((y0, (), (), y1, (), ()), ((y2, y3, ()), y4, y5, ()))) k x.1.1 x.1.2.2.2.1 x.1.2.2.2.2.2.1 x.2.1.1 x.2.1.2.1 x.2.2.1 x.2.2.2.1
noncomputable def Zq68_l0_0_s (N : Nat) : LSum := ⟨Zq68_l0_0_sh, Zq68_l0_0_ex, fun x ks => Zq68_l0_0_again N ks N x⟩
theorem Zq68_l0_0_ok (N : Nat) : LoopOk Try.prog Try.f15.ntmps (Zq68_l0_0_s N) (loopAt (loopAt Zq68_code 0) 0) := loopQ (sh := Zq68_l0_0_sh) (ex := Zq68_l0_0_ex) (N := N) (L := []) (fun R k x ks => Zq68_l0_0_again N ks k x) (Zq68_gok N) (fun _ _ _ => rfl) (fun R k x ks => by kernel_rfl) trivial (by kernel_rfl)
noncomputable def Zq68_l0_sh : Sh := ⟨[(1, .one (.ro I)), (2, .one (.adr 0 0)), (5, .one (.ref 1)), (6, .one (.ro I))], [.box [.ro I, .ro LQII], .sl 40 LI .own]⟩
noncomputable def Zq68_l0_ex : List (Ex × Sh) := [(.exit 0, ⟨[(5, .one (.ref 0))], [.sl 40 LI .own]⟩)]
noncomputable def Zq68_l0 {R : Type} (N : Nat) (k0 : (List (List Int)) → Option R) : Nat → Int → Int → Int → (List (Int × Int)) → (List (List Int)) → Option R
 | 0, _, _, _, _, _ => none
 | K + 1, kind3, size2, o7, o8, o9 =>
 (br (ile size2 o7)
 (Zq68_l0_0 N (fun kind4 size3 o10 o11 o12 o13 => ((Zq64 N o13).bind fun r1 =>
 (chk (room o12 r1.1.1)
 (Zq68_l0 N k0 K kind4 (IntKind.i64.wrap (size3 + 1)) o10 o11 (tApp o12 r1.1.1))))) N kind3 size2 0 o7 o8 o9 [])
 (k0 o9))
noncomputable def Zq68_l0_again {R : Type} (N : Nat) (ks : KS Zq68_l0_ex R) (k : Nat) (x : Zq68_l0_sh.T) : Option R :=
 Zq68_l0 N (fun y0 => ks 0 (((), ()), (y0, ()))) k x.1.1 x.1.2.2.2.1 x.2.1.1 x.2.1.2.1 x.2.2.1
noncomputable def Zq68_l0_s (N : Nat) : LSum := ⟨Zq68_l0_sh, Zq68_l0_ex, fun x ks => Zq68_l0_again N ks N x⟩
theorem Zq68_l0_ok (N : Nat) : LoopOk Try.prog Try.f15.ntmps (Zq68_l0_s N) (loopAt Zq68_code 0) := loopQ (sh := Zq68_l0_sh) (ex := Zq68_l0_ex) (N := N) (L := [Zq68_l0_0_s N]) (fun R k x ks => Zq68_l0_again N ks k x) (Zq68_gok N) (fun _ _ _ => rfl) (fun R k x ks => by kernel_rfl) ⟨Zq68_l0_0_ok N, trivial⟩ (by kernel_rfl)
noncomputable def Zq68 (N : Nat) (g : (Int × (List (Int × Int)))) (kind : Int) : Option (((List (List Int)) × Unit) × (Unit)) :=
 Zq68_l0 N (fun o7 => some ((o7, ()), ())) N kind 0 g.1 g.2 []
noncomputable def Zq68_S (N : Nat) : FSum := ⟨Zq68_ps, Zq68_rs, fun x => Zq68 N x.1 x.2.1⟩
theorem Zq68_pc (N : Nat) : PC Try.prog 15 (Zq68_S N) := pcQ (L := [Zq68_l0_s N]) (Zq68_gok N) Try.call15 Try.func15 (fun x => by kernel_rfl) ⟨Zq68_l0_ok N, trivial⟩ (by kernel_rfl)

abbrev Zq71_ps : List (PV.Mode × Ty) := [(.ro, LI), (.ro, I)]
abbrev Zq71_rs : List (Bool × Ty) := [(true, LI)]
noncomputable def Zq71_G (N : Nat) : GTab := gOf []
theorem Zq71_gok (N : Nat) : GOk Try.prog (Zq71_G N) := gOf_ok trivial
noncomputable def Zq71_code : Code := (Try.f48.body).getD .skip
noncomputable def Zq71_l0_sh : Sh := ⟨[(0, .one (.ro LI)), (1, .one (.ro I)), (5, .one (.ref 0)), (6, .one (.ro I))], [.sl 3 I .own]⟩
noncomputable def Zq71_l0_ex : List (Ex × Sh) := [(.exit 0, ⟨[(5, .one (.ref 0))], [.sl 3 I .own]⟩)]
noncomputable def Zq71_l0 {R : Type} (N : Nat) (k0 : (List Int) → Option R) : Nat → (List Int) → Int → Int → (List Int) → Option R
 | 0, _, _, _, _ => none
 | K + 1, setv1, x1, i, o =>
 (br (ilt i (tLen setv1))
 ((chk (inb setv1 i)
 (br (ine (rdI setv1 i) x1)
 ((chk (inb setv1 i)
 (chk (room o [(rdI setv1 i)])
 (Zq71_l0 N k0 K setv1 x1 (IntKind.i64.wrap (i + 1)) (tApp o [(rdI setv1 i)])))))
 (Zq71_l0 N k0 K setv1 x1 (IntKind.i64.wrap (i + 1)) o))))
 (k0 o))
noncomputable def Zq71_l0_again {R : Type} (N : Nat) (ks : KS Zq71_l0_ex R) (k : Nat) (x : Zq71_l0_sh.T) : Option R :=
 Zq71_l0 N (fun y0 => ks 0 (((), ()), (y0, ()))) k x.1.1 x.1.2.1 x.1.2.2.2.1 x.2.1
noncomputable def Zq71_l0_s (N : Nat) : LSum := ⟨Zq71_l0_sh, Zq71_l0_ex, fun x ks => Zq71_l0_again N ks N x⟩
theorem Zq71_l0_ok (N : Nat) : LoopOk Try.prog Try.f48.ntmps (Zq71_l0_s N) (loopAt Zq71_code 0) := loopQ (sh := Zq71_l0_sh) (ex := Zq71_l0_ex) (N := N) (L := []) (fun R k x ks => Zq71_l0_again N ks k x) (Zq71_gok N) (fun _ _ _ => rfl) (fun R k x ks => by kernel_rfl) trivial (by kernel_rfl)
noncomputable def Zq71 (N : Nat) (setv : (List Int)) (x : Int) : Option (((List Int) × Unit) × (Unit)) :=
 Zq71_l0 N (fun o => some ((o, ()), ())) N setv x 0 []
noncomputable def Zq71_S (N : Nat) : FSum := ⟨Zq71_ps, Zq71_rs, fun x => Zq71 N x.1 x.2.1⟩
theorem Zq71_pc (N : Nat) : PC Try.prog 48 (Zq71_S N) := pcQ (L := [Zq71_l0_s N]) (Zq71_gok N) Try.call48 Try.func48 (fun x => by kernel_rfl) ⟨Zq71_l0_ok N, trivial⟩ (by kernel_rfl)

abbrev Zq56_ps : List (PV.Mode × Ty) := [(.ro, LI), (.ro, I)]
abbrev Zq56_rs : List (Bool × Ty) := [(false, LI)]
noncomputable def Zq56_G (N : Nat) : GTab := gOf []
theorem Zq56_gok (N : Nat) : GOk Try.prog (Zq56_G N) := gOf_ok trivial
noncomputable def Zq56_code : Code := (Try.f49.body).getD .skip
noncomputable def Zq56_l0_sh : Sh := ⟨[(0, .one (.ro LI)), (1, .one (.ro I)), (5, .one (.ro I))], []⟩
noncomputable def Zq56_l0_ex : List (Ex × Sh) := [(.exit 0, ⟨[(0, .one (.ro LI)), (1, .one (.ro I)), (5, .one (.ro I))], []⟩)]
noncomputable def Zq56_l0 {R : Type} (N : Nat) (k0 : (List Int) → Int → Int → Option R) : Nat → (List Int) → Int → Int → Option R
 | 0, _, _, _ => none
 | K + 1, l1, n1, kv =>
 (br (ilt kv (tLen l1))
 ((chk (inb l1 kv)
 (br (ilt (rdI l1 kv) n1)
 (Zq56_l0 N k0 K l1 n1 (IntKind.i64.wrap (kv + 1)))
 (k0 l1 n1 kv))))
 (k0 l1 n1 kv))
noncomputable def Zq56_l0_again {R : Type} (N : Nat) (ks : KS Zq56_l0_ex R) (k : Nat) (x : Zq56_l0_sh.T) : Option R :=
 Zq56_l0 N (fun y0 y1 y2 => ks 0 ((y0, y1, y2, ()), ())) k x.1.1 x.1.2.1 x.1.2.2.1
noncomputable def Zq56_l0_s (N : Nat) : LSum := ⟨Zq56_l0_sh, Zq56_l0_ex, fun x ks => Zq56_l0_again N ks N x⟩
theorem Zq56_l0_ok (N : Nat) : LoopOk Try.prog Try.f49.ntmps (Zq56_l0_s N) (loopAt Zq56_code 0) := loopQ (sh := Zq56_l0_sh) (ex := Zq56_l0_ex) (N := N) (L := []) (fun R k x ks => Zq56_l0_again N ks k x) (Zq56_gok N) (fun _ _ _ => rfl) (fun R k x ks => by kernel_rfl) trivial (by kernel_rfl)
noncomputable def Zq56 (N : Nat) (l : (List Int)) (n : Int) : Option (((List Int) × Unit) × (Unit)) :=
 Zq56_l0 N (fun l1 n1 kv => (br (ilt kv (tLen l1))
 ((chk (inb l1 kv)
 (br (ieq (rdI l1 kv) n1)
 (some ((l1, ()), ()))
 ((chk (ile 0 0 && ile 0 kv && ile kv (tLen l1))
 (chk (room (α := Int) (β := Int) [] (tCut l1 0 kv))
 (chk (room (tApp [] (tCut l1 0 kv)) [n1])
 (chk (ile 0 kv && ile kv (tLen l1) && ile (tLen l1) (tLen l1))
 (chk (room (tApp (tApp [] (tCut l1 0 kv)) [n1]) (tCut l1 kv (tLen l1)))
 (some (((tApp (tApp (tApp [] (tCut l1 0 kv)) [n1]) (tCut l1 kv (tLen l1))), ()), ())))))))))))
 ((chk (ile 0 0 && ile 0 kv && ile kv (tLen l1))
 (chk (room (α := Int) (β := Int) [] (tCut l1 0 kv))
 (chk (room (tApp [] (tCut l1 0 kv)) [n1])
 (chk (ile 0 kv && ile kv (tLen l1) && ile (tLen l1) (tLen l1))
 (chk (room (tApp (tApp [] (tCut l1 0 kv)) [n1]) (tCut l1 kv (tLen l1)))
 (some (((tApp (tApp (tApp [] (tCut l1 0 kv)) [n1]) (tCut l1 kv (tLen l1))), ()), ())))))))))) N l n 0
noncomputable def Zq56_S (N : Nat) : FSum := ⟨Zq56_ps, Zq56_rs, fun x => Zq56 N x.1 x.2.1⟩
theorem Zq56_pc (N : Nat) : PC Try.prog 49 (Zq56_S N) := pcQ (L := [Zq56_l0_s N]) (Zq56_gok N) Try.call49 Try.func49 (fun x => by kernel_rfl) ⟨Zq56_l0_ok N, trivial⟩ (by kernel_rfl)

abbrev Zq70_ps : List (PV.Mode × Ty) := [(.ro, LI), (.ro, I)]
abbrev Zq70_rs : List (Bool × Ty) := [(false, LI)]
noncomputable def Zq70_G (N : Nat) : GTab := gOf [(31, Zq53_S N), (48, Zq71_S N), (49, Zq56_S N)]
theorem Zq70_gok (N : Nat) : GOk Try.prog (Zq70_G N) := gOf_ok ⟨Zq53_pc N, Zq71_pc N, Zq56_pc N, trivial⟩
noncomputable def Zq70_code : Code := (Try.f32.body).getD .skip
noncomputable def Zq70 (N : Nat) (setv : (List Int)) (x : Int) : Option (((List Int) × Unit) × (Unit)) :=
 ((Zq53 N setv x).bind fun r =>
 (br r.1.1
 (((Zq71 N setv x).bind fun r1 =>
 some ((r1.1.1, ()), ())))
 (((Zq56 N setv x).bind fun r2 =>
 some ((r2.1.1, ()), ())))))
noncomputable def Zq70_S (N : Nat) : FSum := ⟨Zq70_ps, Zq70_rs, fun x => Zq70 N x.1 x.2.1⟩
theorem Zq70_pc (N : Nat) : PC Try.prog 32 (Zq70_S N) := pcQ (L := []) (Zq70_gok N) Try.call32 Try.func32 (fun x => by kernel_rfl) trivial (by kernel_rfl)

abbrev Zq69_ps : List (PV.Mode × Ty) := [(.ro, QILQII), (.ro, I), (.ro, LI)]
abbrev Zq69_rs : List (Bool × Ty) := [(true, .bool)]
noncomputable def Zq69_G (N : Nat) : GTab := gOf [(31, Zq53_S N), (32, Zq70_S N), (29, Zq66_S N)]
theorem Zq69_gok (N : Nat) : GOk Try.prog (Zq69_G N) := gOf_ok ⟨Zq53_pc N, Zq70_pc N, Zq66_pc N, trivial⟩
noncomputable def Zq69_code : Code := (Try.f16.body).getD .skip
noncomputable def Zq69_l0_sh : Sh := ⟨[(1, .one (.ro I)), (2, .one (.ro LI)), (3, .one (.adr 0 0)), (7, .one (.ro I))], [.box [.ro I, .ro LQII]]⟩
noncomputable def Zq69_l0_ex : List (Ex × Sh) := [(.ret, ⟨[(6, .one (.ro .bool))], []⟩), (.exit 0, ⟨[], []⟩)]
noncomputable def Zq69_l0 {R : Type} (N : Nat) (k0 : Bool → Option R) (k1 : Unit → Option R) : Nat → Int → (List Int) → Int → Int → (List (Int × Int)) → Option R
 | 0, _, _, _, _, _ => none
 | K + 1, kind1, setv1, x, o, o1 =>
 (br (ilt x o)
 (((Zq53 N setv1 x).bind fun r =>
 (br (r.1.1 == (ine kind1 2))
 (((Zq70 N setv1 x).bind fun r1 =>
 ((Zq66 N (o, o1) kind1 r1.1.1).bind fun r2 =>
 (br r2.1.1
 (k0 false)
 (Zq69_l0 N k0 k1 K kind1 setv1 (IntKind.i64.wrap (x + 1)) o o1)))))
 (Zq69_l0 N k0 k1 K kind1 setv1 (IntKind.i64.wrap (x + 1)) o o1))))
 (k1 ()))
noncomputable def Zq69_l0_again {R : Type} (N : Nat) (ks : KS Zq69_l0_ex R) (k : Nat) (x : Zq69_l0_sh.T) : Option R :=
 Zq69_l0 N (fun y0 => ks 0 ((y0, ()), ())) (fun (_ : Unit) => ks 1 ((), ())) k x.1.1 x.1.2.1 x.1.2.2.2.1 x.2.1.1 x.2.1.2.1
noncomputable def Zq69_l0_s (N : Nat) : LSum := ⟨Zq69_l0_sh, Zq69_l0_ex, fun x ks => Zq69_l0_again N ks N x⟩
theorem Zq69_l0_ok (N : Nat) : LoopOk Try.prog Try.f16.ntmps (Zq69_l0_s N) (loopAt Zq69_code 0) := loopQ (sh := Zq69_l0_sh) (ex := Zq69_l0_ex) (N := N) (L := []) (fun R k x ks => Zq69_l0_again N ks k x) (Zq69_gok N) (fun _ _ _ => rfl) (fun R k x ks => by kernel_rfl) trivial (by kernel_rfl)
noncomputable def Zq69 (N : Nat) (g : (Int × (List (Int × Int)))) (kind : Int) (setv : (List Int)) : Option ((Bool × Unit) × (Unit)) :=
 Zq69_l0 N (fun x => some ((x, ()), ())) (fun (_ : Unit) => some ((true, ()), ())) N kind setv 0 g.1 g.2
noncomputable def Zq69_S (N : Nat) : FSum := ⟨Zq69_ps, Zq69_rs, fun x => Zq69 N x.1 x.2.1 x.2.2.1⟩
theorem Zq69_pc (N : Nat) : PC Try.prog 16 (Zq69_S N) := pcQ (L := [Zq69_l0_s N]) (Zq69_gok N) Try.call16 Try.func16 (fun x => by kernel_rfl) ⟨Zq69_l0_ok N, trivial⟩ (by kernel_rfl)

abbrev Zq52_ps : List (PV.Mode × Ty) := [(.ro, QILQII), (.ro, I)]
abbrev Zq52_rs : List (Bool × Ty) := [(false, LLI), (true, .bool)]
noncomputable def Zq52_G (N : Nat) : GTab := gOf [(14, Zq65_S N), (15, Zq68_S N), (16, Zq69_S N)]
theorem Zq52_gok (N : Nat) : GOk Try.prog (Zq52_G N) := gOf_ok ⟨Zq65_pc N, Zq68_pc N, Zq69_pc N, trivial⟩
noncomputable def Zq52_code : Code := (Try.f5.body).getD .skip
noncomputable def Zq52_l0_sh : Sh := ⟨[(1, .one (.ro I)), (2, .one (.adr 0 0)), (6, .one (.ref 1)), (7, .one (.ro LLI)), (8, .one (.ro I))], [.box [.ro I, .ro LQII], .sl 40 LI .own]⟩
noncomputable def Zq52_l0_ex : List (Ex × Sh) := [(.exit 0, ⟨[(6, .one (.ref 0))], [.sl 40 LI .own]⟩)]
noncomputable def Zq52_l0 {R : Type} (N : Nat) (k0 : (List (List Int)) → Option R) : Nat → Int → (List (List Int)) → Int → Int → (List (Int × Int)) → (List (List Int)) → Option R
 | 0, _, _, _, _, _, _ => none
 | K + 1, kind2, sets1, i1, o3, o4, o5 =>
 (br (ilt i1 (tLen sets1))
 ((chk (inb sets1 i1)
 ((Zq69 N (o3, o4) kind2 (rdL sets1 i1)).bind fun r3 =>
 (br r3.1.1
 ((chk (inb sets1 i1)
 (chk (room o5 [(rdL sets1 i1)])
 (Zq52_l0 N k0 K kind2 sets1 (IntKind.i64.wrap (i1 + 1)) o3 o4 (tApp o5 [(rdL sets1 i1)])))))
 (Zq52_l0 N k0 K kind2 sets1 (IntKind.i64.wrap (i1 + 1)) o3 o4 o5)))))
 (k0 o5))
noncomputable def Zq52_l0_again {R : Type} (N : Nat) (ks : KS Zq52_l0_ex R) (k : Nat) (x : Zq52_l0_sh.T) : Option R :=
 Zq52_l0 N (fun y0 => ks 0 (((), ()), (y0, ()))) k x.1.1 x.1.2.2.2.1 x.1.2.2.2.2.1 x.2.1.1 x.2.1.2.1 x.2.2.1
noncomputable def Zq52_l0_s (N : Nat) : LSum := ⟨Zq52_l0_sh, Zq52_l0_ex, fun x ks => Zq52_l0_again N ks N x⟩
theorem Zq52_l0_ok (N : Nat) : LoopOk Try.prog Try.f5.ntmps (Zq52_l0_s N) (loopAt Zq52_code 0) := loopQ (sh := Zq52_l0_sh) (ex := Zq52_l0_ex) (N := N) (L := []) (fun R k x ks => Zq52_l0_again N ks k x) (Zq52_gok N) (fun _ _ _ => rfl) (fun R k x ks => by kernel_rfl) trivial (by kernel_rfl)
noncomputable def Zq52 (N : Nat) (g : (Int × (List (Int × Int)))) (kind : Int) : Option (((List (List Int)) × Bool × Unit) × (Unit)) :=
 ((Zq65 N (g.1, g.2) kind).bind fun r =>
 (br (!r.1.1)
 (some (([], false, ()), ()))
 (((Zq68 N (g.1, g.2) kind).bind fun r1 =>
 Zq52_l0 N (fun o3 => some ((o3, true, ()), ())) N kind r1.1.1 0 g.1 g.2 []))))
noncomputable def Zq52_S (N : Nat) : FSum := ⟨Zq52_ps, Zq52_rs, fun x => Zq52 N x.1 x.2.1⟩
theorem Zq52_pc (N : Nat) : PC Try.prog 5 (Zq52_S N) := pcQ (L := [Zq52_l0_s N]) (Zq52_gok N) Try.call5 Try.func5 (fun x => by kernel_rfl) ⟨Zq52_l0_ok N, trivial⟩ (by kernel_rfl)
end Go.Proofs.Ytffeokcchabclaa
