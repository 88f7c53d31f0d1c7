/- Functions of the program as functions on data. -/
import Derived.Test.YtkffaahlpdlkoaaGreatRecolouringFc
set_option linter.all false
namespace Go.Proofs.YtkffaahlpdlkoaaGreat
open Go Go.PV
abbrev Zq106_ps : List (PV.Mode × Ty) := [(.ro, QILQII), (.ro, LI), (.ro, I)]
abbrev Zq106_rs : List (Bool × Ty) := [(true, LI)]
noncomputable def Zq106_G (N : Nat) : GTab := gOf [(70, Zq91_S N), (69, Zq102_S N), (193, Zq95_S N)]
theorem Zq106_gok (N : Nat) : GOk Tryz.prog (Zq106_G N) := gOf_ok ⟨Zq91_pc N, Zq102_pc N, Zq95_pc N, trivial⟩
noncomputable def Zq106_code : Code := (Tryz.f189.body).getD .skip
noncomputable def Zq106_l0_0_0_sh : Sh := ⟨[(1, .one (.ro LI)), (3, .one (.adr 0 0)), (7, .one (.ref 1)), (8, .one (.ro I)), (9, .one (.ro I)), (10, .one (.ro I))], [.box [.ro I, .ro LQII], .sl 3 I .own]⟩
noncomputable def Zq106_l0_0_0_ex : List (Ex × Sh) := [(.exit 4, ⟨[(1, .one (.ro LI)), (3, .one (.adr 0 0)), (7, .one (.ref 1)), (8, .one (.ro I)), (9, .one (.ro I))], [.box [.ro I, .ro LQII], .sl 3 I .own]⟩)]
noncomputable def Zq106_l0_0_0 {R : Type} (N : Nat) (k0 : (List Int) → Int → Int → Int → (List (Int × Int)) → (List Int) → Option R) : Nat → (List Int) → Int → Int → Int → Int → (List (Int × Int)) → (List Int) → Option R
 | 0, _, _, _, _, _, _, _ => none
 | K + 1, setv3, round2, i1, kv, o6, o7, o8 =>
 (br (ilt kv (tLen o8))
 ((chk (inb setv3 i1)
 ((Zq91 N o8 (rdI setv3 i1)).bind fun r =>
 (br (!r.1.1)
 ((chk (inb o8 kv)
 (chk (inb setv3 i1)
 ((Zq102 N (o6, o7) (rdI o8 kv) (rdI setv3 i1)).bind fun r1 =>
 (br r1.1.1
 ((chk (inb setv3 i1)
 ((Zq95 N o8 (rdI setv3 i1)).bind fun r2 =>
 Zq106_l0_0_0 N k0 K setv3 round2 i1 (IntKind.i64.wrap (kv + 1)) o6 o7 r2.1.1)))
 (Zq106_l0_0_0 N k0 K setv3 round2 i1 (IntKind.i64.wrap (kv + 1)) o6 o7 o8))))))
 (k0 setv3 round2 i1 o6 o7 o8)))))
 (k0 setv3 round2 i1 o6 o7 o8))
noncomputable def Zq106_l0_0_0_again {R : Type} (N : Nat) (ks : KS Zq106_l0_0_0_ex R) (k : Nat) (x : Zq106_l0_0_0_sh.T) : Option R :=
 Zq106_l0_0_0 N (fun y0 y1 y2 y3 y4 y5 => ks 0 ((y0, (), (), y1, y2, ()), ((y3, y4, ()), y5, ()))) k x.1.1 x.1.2.2.2.1 x.1.2.2.2.2.1 x.1.2.2.2.2.2.1 x.2.1.1 x.2.1.2.1 x.2.2.1
noncomputable def Zq106_l0_0_0_s (N : Nat) : LSum := ⟨Zq106_l0_0_0_sh, Zq106_l0_0_0_ex, fun x ks => Zq106_l0_0_0_again N ks N x⟩
theorem Zq106_l0_0_0_ok (N : Nat) : LoopOk Tryz.prog Tryz.f189.ntmps (Zq106_l0_0_0_s N) (loopAt (loopAt (loopAt Zq106_code 0) 0) 0) := loopQ (sh := Zq106_l0_0_0_sh) (ex := Zq106_l0_0_0_ex) (N := N) (L := []) (fun R k x ks => Zq106_l0_0_0_again N ks k x) (Zq106_gok N) (fun _ _ _ => rfl) (fun R k x ks => by kernel_rfl) trivial (by kernel_rfl)
noncomputable def Zq106_l0_0_sh : Sh := ⟨[(1, .one (.ro LI)), (3, .one (.adr 0 0)), (7, .one (.ref 1)), (8, .one (.ro I)), (9, .one (.ro I))], [.box [.ro I, .ro LQII], .sl 3 I .own]⟩
noncomputable def Zq106_l0_0_ex : List (Ex × Sh) := [(.exit 2, ⟨[(1, .one (.ro LI)), (3, .one (.adr 0 0)), (7, .one (.ref 1)), (8, .one (.ro I))], [.box [.ro I, .ro LQII], .sl 3 I .own]⟩)]
noncomputable def Zq106_l0_0 {R : Type} (N : Nat) (k0 : (List Int) → Int → Int → (List (Int × Int)) → (List Int) → Option R) : Nat → (List Int) → Int → Int → Int → (List (Int × Int)) → (List Int) → Option R
 | 0, _, _, _, _, _, _ => none
 | K + 1, setv2, round1, i, o3, o4, o5 =>
 (br (ilt i (tLen setv2))
 (Zq106_l0_0_0 N (fun setv3 round2 i1 o6 o7 o8 => Zq106_l0_0 N k0 K setv3 round2 (IntKind.i64.wrap (i1 + 1)) o6 o7 o8) N setv2 round1 i 0 o3 o4 o5)
 (k0 setv2 round1 o3 o4 o5))
noncomputable def Zq106_l0_0_again {R : Type} (N : Nat) (ks : KS Zq106_l0_0_ex R) (k : Nat) (x : Zq106_l0_0_sh.T) : Option R :=
 Zq106_l0_0 N (fun y0 y1 y2 y3 y4 => ks 0 ((y0, (), (), y1, ()), ((y2, y3, ()), y4, ()))) k x.1.1 x.1.2.2.2.1 x.1.2.2.2.2.1 x.2.1.1 x.2.1.2.1 x.2.2.1
noncomputable def Zq106_l0_0_s (N : Nat) : LSum := ⟨Zq106_l0_0_sh, Zq106_l0_0_ex, fun x ks => Zq106_l0_0_again N ks N x⟩
theorem Zq106_l0_0_ok (N : Nat) : LoopOk Tryz.prog Tryz.f189.ntmps (Zq106_l0_0_s N) (loopAt (loopAt Zq106_code 0) 0) := loopQ (sh := Zq106_l0_0_sh) (ex := Zq106_l0_0_ex) (N := N) (L := [Zq106_l0_0_0_s N]) (fun R k x ks => Zq106_l0_0_again N ks k x) (Zq106_gok N) (fun _ _ _ => rfl) (fun R k x ks => by kernel_rfl) ⟨Zq106_l0_0_0_ok N, trivial⟩ (by kernel_rfl)
noncomputable def Zq106_l0_sh : Sh := ⟨[(1, .one (.ro LI)), (3, .one (.adr 0 0)), (7, .one (.ref 1)), (8, .one (.ro I))], [.box [.ro I, .ro LQII], .sl 3 I .own]⟩
noncomputable def Zq106_l0_ex : List (Ex × Sh) := [(.exit 0, ⟨[(7, .one (.ref 0))], [.sl 3 I .own]⟩)]
noncomputable def Zq106_l0 {R : Type} (N : Nat) (k0 : (List Int) → Option R) : Nat → (List Int) → Int → Int → (List (Int × Int)) → (List Int) → Option R
 | 0, _, _, _, _, _ => none
 | K + 1, setv1, round, o, o1, o2 =>
 (br (ilt round (tLen setv1))
 (Zq106_l0_0 N (fun setv2 round1 o3 o4 o5 => Zq106_l0 N k0 K setv2 (IntKind.i64.wrap (round1 + 1)) o3 o4 o5) N setv1 round 0 o o1 o2)
 (k0 o2))
noncomputable def Zq106_l0_again {R : Type} (N : Nat) (ks : KS Zq106_l0_ex R) (k : Nat) (x : Zq106_l0_sh.T) : Option R :=
 Zq106_l0 N (fun y0 => ks 0 (((), ()), (y0, ()))) k x.1.1 x.1.2.2.2.1 x.2.1.1 x.2.1.2.1 x.2.2.1
noncomputable def Zq106_l0_s (N : Nat) : LSum := ⟨Zq106_l0_sh, Zq106_l0_ex, fun x ks => Zq106_l0_again N ks N x⟩
theorem Zq106_l0_ok (N : Nat) : LoopOk Tryz.prog Tryz.f189.ntmps (Zq106_l0_s N) (loopAt Zq106_code 0) := loopQ (sh := Zq106_l0_sh) (ex := Zq106_l0_ex) (N := N) (L := [Zq106_l0_0_s N]) (fun R k x ks => Zq106_l0_again N ks k x) (Zq106_gok N) (fun _ _ _ => rfl) (fun R k x ks => by kernel_rfl) ⟨Zq106_l0_0_ok N, trivial⟩ (by kernel_rfl)
noncomputable def Zq106 (N : Nat) (g : (Int × (List (Int × Int)))) (setv : (List Int)) (x : Int) : Option (((List Int) × Unit) × (Unit)) :=
 Zq106_l0 N (fun o => some ((o, ()), ())) N setv 0 g.1 g.2 [x]
noncomputable def Zq106_S (N : Nat) : FSum := ⟨Zq106_ps, Zq106_rs, fun x => Zq106 N x.1 x.2.1 x.2.2.1⟩
theorem Zq106_pc (N : Nat) : PC Tryz.prog 189 (Zq106_S N) := pcQ (L := [Zq106_l0_s N]) (Zq106_gok N) Tryz.call189 Tryz.func189 (fun x => by kernel_rfl) ⟨Zq106_l0_ok N, trivial⟩ (by kernel_rfl)

abbrev Zq113_ps : List (PV.Mode × Ty) := [(.ro, QILQII), (.ro, LI), (.ro, I), (.ro, I)]
abbrev Zq113_rs : List (Bool × Ty) := [(true, LI)]
noncomputable def Zq113_G (N : Nat) : GTab := gOf [(189, Zq106_S N)]
theorem Zq113_gok (N : Nat) : GOk Tryz.prog (Zq113_G N) := gOf_ok ⟨Zq106_pc N, trivial⟩
noncomputable def Zq113_code : Code := (Tryz.f179.body).getD .skip
noncomputable def Zq113_l0_sh : Sh := ⟨[(1, .one (.ro LI)), (2, .one (.ro I)), (3, .one (.ro I)), (4, .one (.adr 0 0)), (9, .one (.ref 1)), (10, .one (.ro I))], [.box [.ro I, .ro LQII], .sl 3 I .own]⟩
noncomputable def Zq113_l0_ex : List (Ex × Sh) := [(.exit 0, ⟨[(2, .one (.ro I)), (4, .one (.adr 0 0)), (9, .one (.ref 1))], [.box [.ro I, .ro LQII], .sl 3 I .own]⟩)]
noncomputable def Zq113_l0 {R : Type} (N : Nat) (k0 : Int → Int → (List (Int × Int)) → (List Int) → Option R) : Nat → (List Int) → Int → Int → Int → Int → (List (Int × Int)) → (List Int) → Option R
 | 0, _, _, _, _, _, _, _ => none
 | K + 1, colours1, x1, c1, y, o, o1, o2 =>
 (br (ilt y o)
 ((chk (inb colours1 y)
 (br (ieq (rdI colours1 y) c1)
 ((chk (room o2 [y])
 (Zq113_l0 N k0 K colours1 x1 c1 (IntKind.i64.wrap (y + 1)) o o1 (tApp o2 [y]))))
 ((chk (inb colours1 y)
 (chk (inb colours1 x1)
 (br (ieq (rdI colours1 y) (rdI colours1 x1))
 ((chk (room o2 [y])
 (Zq113_l0 N k0 K colours1 x1 c1 (IntKind.i64.wrap (y + 1)) o o1 (tApp o2 [y]))))
 (Zq113_l0 N k0 K colours1 x1 c1 (IntKind.i64.wrap (y + 1)) o o1 o2))))))))
 (k0 x1 o o1 o2))
noncomputable def Zq113_l0_again {R : Type} (N : Nat) (ks : KS Zq113_l0_ex R) (k : Nat) (x : Zq113_l0_sh.T) : Option R :=
 Zq113_l0 N (fun y0 y1 y2 y3 => ks 0 ((y0, (), (), ()), ((y1, y2, ()), y3, ()))) k x.1.1 x.1.2.1 x.1.2.2.1 x.1.2.2.2.2.2.1 x.2.1.1 x.2.1.2.1 x.2.2.1
noncomputable def Zq113_l0_s (N : Nat) : LSum := ⟨Zq113_l0_sh, Zq113_l0_ex, fun x ks => Zq113_l0_again N ks N x⟩
theorem Zq113_l0_ok (N : Nat) : LoopOk Tryz.prog Tryz.f179.ntmps (Zq113_l0_s N) (loopAt Zq113_code 0) := loopQ (sh := Zq113_l0_sh) (ex := Zq113_l0_ex) (N := N) (L := []) (fun R k x ks => Zq113_l0_again N ks k x) (Zq113_gok N) (fun _ _ _ => rfl) (fun R k x ks => by kernel_rfl) trivial (by kernel_rfl)
noncomputable def Zq113 (N : Nat) (g : (Int × (List (Int × Int)))) (colours : (List Int)) (x : Int) (c : Int) : Option (((List Int) × Unit) × (Unit)) :=
 Zq113_l0 N (fun x1 o o1 o2 => ((Zq106 N (o, o1) o2 x1).bind fun r =>
 some ((r.1.1, ()), ()))) N colours x c 0 g.1 g.2 []
noncomputable def Zq113_S (N : Nat) : FSum := ⟨Zq113_ps, Zq113_rs, fun x => Zq113 N x.1 x.2.1 x.2.2.1 x.2.2.2.1⟩
theorem Zq113_pc (N : Nat) : PC Tryz.prog 179 (Zq113_S N) := pcQ (L := [Zq113_l0_s N]) (Zq113_gok N) Tryz.call179 Tryz.func179 (fun x => by kernel_rfl) ⟨Zq113_l0_ok N, trivial⟩ (by kernel_rfl)

abbrev Zq116_ps : List (PV.Mode × Ty) := [(.ro, QILQII), (.ro, LI), (.ro, I), (.ro, I)]
abbrev Zq116_rs : List (Bool × Ty) := [(true, LI)]
noncomputable def Zq116_G (N : Nat) : GTab := gOf [(60, Zq94_S N), (179, Zq113_S N)]
theorem Zq116_gok (N : Nat) : GOk Tryz.prog (Zq116_G N) := gOf_ok ⟨Zq94_pc N, Zq113_pc N, trivial⟩
noncomputable def Zq116_code : Code := (Tryz.f151.body).getD .skip
noncomputable def Zq116_l0_sh : Sh := ⟨[(1, .one (.ro LI)), (2, .one (.ro I)), (3, .one (.ro I)), (9, .one (.ref 0)), (10, .one (.ref 1)), (11, .one (.ro I))], [.sl 3 I .own, .sl 3 I .own]⟩
noncomputable def Zq116_l0_ex : List (Ex × Sh) := [(.exit 0, ⟨[(9, .one (.ref 0))], [.sl 3 I .own]⟩)]
noncomputable def Zq116_l0 {R : Type} (N : Nat) (k0 : (List Int) → Option R) : Nat → (List Int) → Int → Int → Int → (List Int) → (List Int) → Option R
 | 0, _, _, _, _, _, _ => none
 | K + 1, colours1, x1, c1, i, o, o1 =>
 (br (ilt i (tLen o1))
 ((chk (inb o1 i)
 (chk (inb colours1 x1)
 (chk (inb o1 i)
 (chk (inb colours1 (rdI o1 i))
 (chk (inb o (rdI o1 i))
 (Zq116_l0 N k0 K colours1 x1 c1 (IntKind.i64.wrap (i + 1)) (tSet o (rdI o1 i) (IntKind.i64.wrap ((IntKind.i64.wrap ((rdI colours1 x1) + c1)) - (rdI colours1 (rdI o1 i))))) o1)))))))
 (k0 o))
noncomputable def Zq116_l0_again {R : Type} (N : Nat) (ks : KS Zq116_l0_ex R) (k : Nat) (x : Zq116_l0_sh.T) : Option R :=
 Zq116_l0 N (fun y0 => ks 0 (((), ()), (y0, ()))) k x.1.1 x.1.2.1 x.1.2.2.1 x.1.2.2.2.2.2.1 x.2.1 x.2.2.1
noncomputable def Zq116_l0_s (N : Nat) : LSum := ⟨Zq116_l0_sh, Zq116_l0_ex, fun x ks => Zq116_l0_again N ks N x⟩
theorem Zq116_l0_ok (N : Nat) : LoopOk Tryz.prog Tryz.f151.ntmps (Zq116_l0_s N) (loopAt Zq116_code 0) := loopQ (sh := Zq116_l0_sh) (ex := Zq116_l0_ex) (N := N) (L := []) (fun R k x ks => Zq116_l0_again N ks k x) (Zq116_gok N) (fun _ _ _ => rfl) (fun R k x ks => by kernel_rfl) trivial (by kernel_rfl)
noncomputable def Zq116 (N : Nat) (g : (Int × (List (Int × Int)))) (colours : (List Int)) (x : Int) (c : Int) : Option (((List Int) × Unit) × (Unit)) :=
 ((Zq94 N colours).bind fun r =>
 ((Zq113 N (g.1, g.2) colours x c).bind fun r1 =>
 Zq116_l0 N (fun o => some ((o, ()), ())) N colours x c 0 r.1.1 r1.1.1))
noncomputable def Zq116_S (N : Nat) : FSum := ⟨Zq116_ps, Zq116_rs, fun x => Zq116 N x.1 x.2.1 x.2.2.1 x.2.2.2.1⟩
theorem Zq116_pc (N : Nat) : PC Tryz.prog 151 (Zq116_S N) := pcQ (L := [Zq116_l0_s N]) (Zq116_gok N) Tryz.call151 Tryz.func151 (fun x => by kernel_rfl) ⟨Zq116_l0_ok N, trivial⟩ (by kernel_rfl)

abbrev Zq96_ps : List (PV.Mode × Ty) := [(.ro, LI), (.ro, LI)]
abbrev Zq96_rs : List (Bool × Ty) := [(true, .bool)]
noncomputable def Zq96_G (N : Nat) : GTab := gOf []
theorem Zq96_gok (N : Nat) : GOk Tryz.prog (Zq96_G N) := gOf_ok trivial
noncomputable def Zq96_code : Code := (Tryz.f128.body).getD .skip
noncomputable def Zq96_l0_sh : Sh := ⟨[(0, .one (.ro LI)), (1, .one (.ro LI)), (5, .one (.ro I))], []⟩
noncomputable def Zq96_l0_ex : List (Ex × Sh) := [(.ret, ⟨[(4, .one (.ro .bool))], []⟩), (.exit 0, ⟨[], []⟩)]
noncomputable def Zq96_l0 {R : Type} (N : Nat) (k0 : Bool → Option R) (k1 : Unit → Option R) : Nat → (List Int) → (List Int) → Int → Option R
 | 0, _, _, _ => none
 | K + 1, a1, b1, i =>
 (br (ilt i (tLen a1))
 ((chk (inb a1 i)
 (chk (inb b1 i)
 (br (ine (rdI a1 i) (rdI b1 i))
 (k0 false)
 (Zq96_l0 N k0 k1 K a1 b1 (IntKind.i64.wrap (i + 1)))))))
 (k1 ()))
noncomputable def Zq96_l0_again {R : Type} (N : Nat) (ks : KS Zq96_l0_ex R) (k : Nat) (x : Zq96_l0_sh.T) : Option R :=
 Zq96_l0 N (fun y0 => ks 0 ((y0, ()), ())) (fun (_ : Unit) => ks 1 ((), ())) k x.1.1 x.1.2.1 x.1.2.2.1
noncomputable def Zq96_l0_s (N : Nat) : LSum := ⟨Zq96_l0_sh, Zq96_l0_ex, fun x ks => Zq96_l0_again N ks N x⟩
theorem Zq96_l0_ok (N : Nat) : LoopOk Tryz.prog Tryz.f128.ntmps (Zq96_l0_s N) (loopAt Zq96_code 0) := loopQ (sh := Zq96_l0_sh) (ex := Zq96_l0_ex) (N := N) (L := []) (fun R k x ks => Zq96_l0_again N ks k x) (Zq96_gok N) (fun _ _ _ => rfl) (fun R k x ks => by kernel_rfl) trivial (by kernel_rfl)
noncomputable def Zq96 (N : Nat) (a : (List Int)) (b : (List Int)) : Option ((Bool × Unit) × (Unit)) :=
 (br (ine (tLen a) (tLen b))
 (some ((false, ()), ()))
 (Zq96_l0 N (fun x => some ((x, ()), ())) (fun (_ : Unit) => some ((true, ()), ())) N a b 0))
noncomputable def Zq96_S (N : Nat) : FSum := ⟨Zq96_ps, Zq96_rs, fun x => Zq96 N x.1 x.2.1⟩
theorem Zq96_pc (N : Nat) : PC Tryz.prog 128 (Zq96_S N) := pcQ (L := [Zq96_l0_s N]) (Zq96_gok N) Tryz.call128 Tryz.func128 (fun x => by kernel_rfl) ⟨Zq96_l0_ok N, trivial⟩ (by kernel_rfl)

abbrev Zq120_ps : List (PV.Mode × Ty) := [(.ro, QILQII), (.ro, .bool), (.ro, LI), (.ro, LI)]
abbrev Zq120_rs : List (Bool × Ty) := [(true, .bool)]
noncomputable def Zq120_G (N : Nat) : GTab := gOf [(150, Zq114_S N), (151, Zq116_S N), (128, Zq96_S N)]
theorem Zq120_gok (N : Nat) : GOk Tryz.prog (Zq120_G N) := gOf_ok ⟨Zq114_pc N, Zq116_pc N, Zq96_pc N, trivial⟩
noncomputable def Zq120_code : Code := (Tryz.f117.body).getD .skip
noncomputable def Zq120 (N : Nat) (g : (Int × (List (Int × Int)))) (kempe : Bool) (a : (List Int)) (b : (List Int)) : Option ((Bool × Unit) × (Unit)) :=
 ((Zq114 N a b).bind fun r =>
 (br (!kempe)
 (some (((ieq (tLen r.1.1) 1), ()), ()))
 ((br (ieq (tLen r.1.1) 0)
 (some (((ieq (tLen r.1.1) 1), ()), ()))
 ((chk (inb r.1.1 0)
 (chk (inb r.1.1 0)
 (chk (inb b (rdI r.1.1 0))
 ((Zq116 N (g.1, g.2) a (rdI r.1.1 0) (rdI b (rdI r.1.1 0))).bind fun r1 =>
 ((Zq96 N r1.1.1 b).bind fun r2 =>
 some ((r2.1.1, ()), ())))))))))))
noncomputable def Zq120_S (N : Nat) : FSum := ⟨Zq120_ps, Zq120_rs, fun x => Zq120 N x.1 x.2.1 x.2.2.1 x.2.2.2.1⟩
theorem Zq120_pc (N : Nat) : PC Tryz.prog 117 (Zq120_S N) := pcQ (L := []) (Zq120_gok N) Tryz.call117 Tryz.func117 (fun x => by kernel_rfl) trivial (by kernel_rfl)

abbrev Zq119_ps : List (PV.Mode × Ty) := [(.ro, QILQII), (.ro, I), (.ro, .bool)]
abbrev Zq119_rs : List (Bool × Ty) := [(true, QLLILQII), (true, .bool)]
noncomputable def Zq119_G (N : Nat) : GTab := gOf [(90, Zq111_S N), (117, Zq120_S N)]
theorem Zq119_gok (N : Nat) : GOk Tryz.prog (Zq119_G N) := gOf_ok ⟨Zq111_pc N, Zq120_pc N, trivial⟩
noncomputable def Zq119_code : Code := (Tryz.f72.body).getD .skip
noncomputable def Zq119_l0_0_sh : Sh := ⟨[(2, .one (.ro .bool)), (3, .one (.adr 0 0)), (6, .one (.adr 1 0)), (8, .one (.ref 2)), (10, .one (.adr 3 0)), (11, .one (.ro I)), (12, .one (.ro I))], [.box [.ro I, .ro LQII], .box [.nilsl, .nilsl], .sl 27 LI .deep, .box [.ref 2, .ref 4], .sl 49 QII .own]⟩
noncomputable def Zq119_l0_0_ex : List (Ex × Sh) := [(.exit 2, ⟨[(2, .one (.ro .bool)), (3, .one (.adr 0 0)), (6, .one (.adr 1 0)), (8, .one (.ref 2)), (10, .one (.adr 3 0)), (11, .one (.ro I))], [.box [.ro I, .ro LQII], .box [.nilsl, .nilsl], .sl 27 LI .deep, .box [.ref 2, .ref 4], .sl 49 QII .own]⟩)]
noncomputable def Zq119_l0_0 {R : Type} (N : Nat) (k0 : Bool → Int → Int → (List (Int × Int)) → (List (List Int)) → (List (Int × Int)) → Option R) : Nat → Bool → Int → Int → Int → (List (Int × Int)) → (List (List Int)) → (List (Int × Int)) → Option R
 | 0, _, _, _, _, _, _, _ => none
 | K + 1, kempe2, i1, j, o4, o5, o6, o7 =>
 (br (ilt j (tLen o6))
 ((chk (inb o6 i1)
 (chk (inb o6 j)
 ((Zq120 N (o4, o5) kempe2 (rdL o6 i1) (rdL o6 j)).bind fun r1 =>
 (br r1.1.1
 ((chk (room o7 [(i1, j)])
 (Zq119_l0_0 N k0 K kempe2 i1 (IntKind.i64.wrap (j + 1)) o4 o5 o6 (tApp o7 [(i1, j)]))))
 (Zq119_l0_0 N k0 K kempe2 i1 (IntKind.i64.wrap (j + 1)) o4 o5 o6 o7))))))
 (k0 kempe2 i1 o4 o5 o6 o7))
noncomputable def Zq119_l0_0_again {R : Type} (N : Nat) (ks : KS Zq119_l0_0_ex R) (k : Nat) (x : Zq119_l0_0_sh.T) : Option R :=
 Zq119_l0_0 N (fun y0 y1 y2 y3 y4 y5 => ks 0 ((y0, (), (), (), (), y1, ()), ((y2, y3, ()), ((), (), ()), y4, ((), (), ()), y5, ()))) k x.1.1 x.1.2.2.2.2.2.1 x.1.2.2.2.2.2.2.1 x.2.1.1 x.2.1.2.1 x.2.2.2.1 x.2.2.2.2.2.1
noncomputable def Zq119_l0_0_s (N : Nat) : LSum := ⟨Zq119_l0_0_sh, Zq119_l0_0_ex, fun x ks => Zq119_l0_0_again N ks N x⟩
theorem Zq119_l0_0_ok (N : Nat) : LoopOk Tryz.prog Tryz.f72.ntmps (Zq119_l0_0_s N) (loopAt (loopAt Zq119_code 0) 0) := loopQ (sh := Zq119_l0_0_sh) (ex := Zq119_l0_0_ex) (N := N) (L := []) (fun R k x ks => Zq119_l0_0_again N ks k x) (Zq119_gok N) (fun _ _ _ => rfl) (fun R k x ks => by kernel_rfl) trivial (by kernel_rfl)
noncomputable def Zq119_l0_sh : Sh := ⟨[(2, .one (.ro .bool)), (3, .one (.adr 0 0)), (6, .one (.adr 1 0)), (8, .one (.ref 2)), (10, .one (.adr 3 0)), (11, .one (.ro I))], [.box [.ro I, .ro LQII], .box [.nilsl, .nilsl], .sl 27 LI .deep, .box [.ref 2, .ref 4], .sl 49 QII .own]⟩
noncomputable def Zq119_l0_ex : List (Ex × Sh) := [(.exit 0, ⟨[(6, .one (.adr 0 0)), (10, .one (.adr 1 0))], [.box [.nilsl, .nilsl], .box [.ref 2, .ref 3], .sl 27 LI .deep, .sl 49 QII .own]⟩)]
noncomputable def Zq119_l0 {R : Type} (N : Nat) (k0 : (List (List Int)) → (List (Int × Int)) → Option R) : Nat → Bool → Int → Int → (List (Int × Int)) → (List (List Int)) → (List (Int × Int)) → Option R
 | 0, _, _, _, _, _, _ => none
 | K + 1, kempe1, i, o, o1, o2, o3 =>
 (br (ilt i (tLen o2))
 (Zq119_l0_0 N (fun kempe2 i1 o4 o5 o6 o7 => Zq119_l0 N k0 K kempe2 (IntKind.i64.wrap (i1 + 1)) o4 o5 o6 o7) N kempe1 i (IntKind.i64.wrap (i + 1)) o o1 o2 o3)
 (k0 o2 o3))
noncomputable def Zq119_l0_again {R : Type} (N : Nat) (ks : KS Zq119_l0_ex R) (k : Nat) (x : Zq119_l0_sh.T) : Option R :=
 Zq119_l0 N (fun y0 y1 => ks 0 (((), (), ()), (((), (), ()), ((), (), ()), y0, y1, ()))) k x.1.1 x.1.2.2.2.2.2.1 x.2.1.1 x.2.1.2.1 x.2.2.2.1 x.2.2.2.2.2.1
noncomputable def Zq119_l0_s (N : Nat) : LSum := ⟨Zq119_l0_sh, Zq119_l0_ex, fun x ks => Zq119_l0_again N ks N x⟩
theorem Zq119_l0_ok (N : Nat) : LoopOk Tryz.prog Tryz.f72.ntmps (Zq119_l0_s N) (loopAt Zq119_code 0) := loopQ (sh := Zq119_l0_sh) (ex := Zq119_l0_ex) (N := N) (L := [Zq119_l0_0_s N]) (fun R k x ks => Zq119_l0_again N ks k x) (Zq119_gok N) (fun _ _ _ => rfl) (fun R k x ks => by kernel_rfl) ⟨Zq119_l0_0_ok N, trivial⟩ (by kernel_rfl)
noncomputable def Zq119 (N : Nat) (g : (Int × (List (Int × Int)))) (kv : Int) (kempe : Bool) : Option ((((List (List Int)) × (List (Int × Int))) × Bool × Unit) × (Unit)) :=
 ((Zq111 N (g.1, g.2) kv).bind fun r =>
 (br (!r.1.2.1)
 (some ((([], []), false, ()), ()))
 (Zq119_l0 N (fun o o1 => some (((o, o1), true, ()), ())) N kempe 0 g.1 g.2 r.1.1 [])))
noncomputable def Zq119_S (N : Nat) : FSum := ⟨Zq119_ps, Zq119_rs, fun x => Zq119 N x.1 x.2.1 x.2.2.1⟩
theorem Zq119_pc (N : Nat) : PC Tryz.prog 72 (Zq119_S N) := pcQ (L := [Zq119_l0_s N]) (Zq119_gok N) Tryz.call72 Tryz.func72 (fun x => by kernel_rfl) ⟨Zq119_l0_ok N, trivial⟩ (by kernel_rfl)

abbrev Zq100_ps : List (PV.Mode × Ty) := [(.ro, QLLILQII), (.ro, LI)]
abbrev Zq100_rs : List (Bool × Ty) := [(true, I)]
noncomputable def Zq100_G (N : Nat) : GTab := gOf [(128, Zq96_S N)]
theorem Zq100_gok (N : Nat) : GOk Tryz.prog (Zq100_G N) := gOf_ok ⟨Zq96_pc N, trivial⟩
noncomputable def Zq100_code : Code := (Tryz.f84.body).getD .skip
noncomputable def Zq100_l0_sh : Sh := ⟨[(1, .one (.ro LI)), (2, .one (.adr 0 0)), (5, .one (.ro I))], [.box [.ro LLI, .ro LQII]]⟩
noncomputable def Zq100_l0_ex : List (Ex × Sh) := [(.ret, ⟨[(4, .one (.ro I))], []⟩), (.exit 0, ⟨[], []⟩)]
noncomputable def Zq100_l0 {R : Type} (N : Nat) (k0 : Int → Option R) (k1 : Unit → Option R) : Nat → (List Int) → Int → (List (List Int)) → (List (Int × Int)) → Option R
 | 0, _, _, _, _ => none
 | K + 1, state1, i, o, o1 =>
 (br (ilt i (tLen o))
 ((chk (inb o i)
 ((Zq96 N (rdL o i) state1).bind fun r =>
 (br r.1.1
 (k0 i)
 (Zq100_l0 N k0 k1 K state1 (IntKind.i64.wrap (i + 1)) o o1)))))
 (k1 ()))
noncomputable def Zq100_l0_again {R : Type} (N : Nat) (ks : KS Zq100_l0_ex R) (k : Nat) (x : Zq100_l0_sh.T) : Option R :=
 Zq100_l0 N (fun y0 => ks 0 ((y0, ()), ())) (fun (_ : Unit) => ks 1 ((), ())) k x.1.1 x.1.2.2.1 x.2.1.1 x.2.1.2.1
noncomputable def Zq100_l0_s (N : Nat) : LSum := ⟨Zq100_l0_sh, Zq100_l0_ex, fun x ks => Zq100_l0_again N ks N x⟩
theorem Zq100_l0_ok (N : Nat) : LoopOk Tryz.prog Tryz.f84.ntmps (Zq100_l0_s N) (loopAt Zq100_code 0) := loopQ (sh := Zq100_l0_sh) (ex := Zq100_l0_ex) (N := N) (L := []) (fun R k x ks => Zq100_l0_again N ks k x) (Zq100_gok N) (fun _ _ _ => rfl) (fun R k x ks => by kernel_rfl) trivial (by kernel_rfl)
noncomputable def Zq100 (N : Nat) (x : ((List (List Int)) × (List (Int × Int)))) (state : (List Int)) : Option ((Int × Unit) × (Unit)) :=
 Zq100_l0 N (fun x1 => some ((x1, ()), ())) (fun (_ : Unit) => some (((-1), ()), ())) N state 0 x.1 x.2
noncomputable def Zq100_S (N : Nat) : FSum := ⟨Zq100_ps, Zq100_rs, fun x => Zq100 N x.1 x.2.1⟩
theorem Zq100_pc (N : Nat) : PC Tryz.prog 84 (Zq100_S N) := pcQ (L := [Zq100_l0_s N]) (Zq100_gok N) Tryz.call84 Tryz.func84 (fun x => by kernel_rfl) ⟨Zq100_l0_ok N, trivial⟩ (by kernel_rfl)

abbrev Zq101_ps : List (PV.Mode × Ty) := [(.ro, QLLILQII)]
abbrev Zq101_rs : List (Bool × Ty) := [(true, LLI)]
noncomputable def Zq101_G (N : Nat) : GTab := gOf []
theorem Zq101_gok (N : Nat) : GOk Tryz.prog (Zq101_G N) := gOf_ok trivial
noncomputable def Zq101_code : Code := (Tryz.f118.body).getD .skip
noncomputable def Zq101_l0_sh : Sh := ⟨[(1, .one (.adr 0 0)), (3, .one (.ref 1)), (4, .one (.ro I))], [.box [.ro LLI, .ro LQII], .sl 27 LI .deep]⟩
noncomputable def Zq101_l0_ex : List (Ex × Sh) := [(.exit 0, ⟨[(1, .one (.adr 0 0)), (3, .one (.ref 1))], [.box [.ro LLI, .ro LQII], .sl 27 LI .deep]⟩)]
noncomputable def Zq101_l0 {R : Type} (N : Nat) (k0 : (List (List Int)) → (List (Int × Int)) → (List (List Int)) → Option R) : Nat → Int → (List (List Int)) → (List (Int × Int)) → (List (List Int)) → Option R
 | 0, _, _, _, _ => none
 | K + 1, x, o, o1, o2 =>
 (br (ilt x (tLen o1))
 ((chk (inb o1 x)
 (chk (inb o1 x)
 (chk (inb o2 ((rdP o1 x).2))
 (chk (room (rdL o2 ((rdP o1 x).2)) [(rdP o1 x).1])
 (chk (inb o2 ((rdP o1 x).2))
 (chk (ieq ((rdP o1 x).2) ((rdP o1 x).2))
 (Zq101_l0 N k0 K (IntKind.i64.wrap (x + 1)) o o1 (tSet o2 ((rdP o1 x).2) (tApp (rdL o2 ((rdP o1 x).2)) [(rdP o1 x).1]))))))))))
 (k0 o o1 o2))
noncomputable def Zq101_l0_again {R : Type} (N : Nat) (ks : KS Zq101_l0_ex R) (k : Nat) (x : Zq101_l0_sh.T) : Option R :=
 Zq101_l0 N (fun y0 y1 y2 => ks 0 (((), (), ()), ((y0, y1, ()), y2, ()))) k x.1.2.2.1 x.2.1.1 x.2.1.2.1 x.2.2.1
noncomputable def Zq101_l0_s (N : Nat) : LSum := ⟨Zq101_l0_sh, Zq101_l0_ex, fun x ks => Zq101_l0_again N ks N x⟩
theorem Zq101_l0_ok (N : Nat) : LoopOk Tryz.prog Tryz.f118.ntmps (Zq101_l0_s N) (loopAt Zq101_code 0) := loopQ (sh := Zq101_l0_sh) (ex := Zq101_l0_ex) (N := N) (L := []) (fun R k x ks => Zq101_l0_again N ks k x) (Zq101_gok N) (fun _ _ _ => rfl) (fun R k x ks => by kernel_rfl) trivial (by kernel_rfl)
noncomputable def Zq101_l1_sh : Sh := ⟨[(1, .one (.adr 0 0)), (3, .one (.ref 1)), (7, .one (.ro I))], [.box [.ro LLI, .ro LQII], .sl 27 LI .deep]⟩
noncomputable def Zq101_l1_ex : List (Ex × Sh) := [(.exit 2, ⟨[(3, .one (.ref 0))], [.sl 27 LI .deep]⟩)]
noncomputable def Zq101_l1 {R : Type} (N : Nat) (k0 : (List (List Int)) → Option R) : Nat → Int → (List (List Int)) → (List (Int × Int)) → (List (List Int)) → Option R
 | 0, _, _, _, _ => none
 | K + 1, x, o3, o4, o5 =>
 (br (ilt x (tLen o4))
 ((chk (inb o4 x)
 (chk (inb o4 x)
 (chk (inb o5 ((rdP o4 x).1))
 (chk (room (rdL o5 ((rdP o4 x).1)) [(rdP o4 x).2])
 (chk (inb o5 ((rdP o4 x).1))
 (chk (ieq ((rdP o4 x).1) ((rdP o4 x).1))
 (Zq101_l1 N k0 K (IntKind.i64.wrap (x + 1)) o3 o4 (tSet o5 ((rdP o4 x).1) (tApp (rdL o5 ((rdP o4 x).1)) [(rdP o4 x).2]))))))))))
 (k0 o5))
noncomputable def Zq101_l1_again {R : Type} (N : Nat) (ks : KS Zq101_l1_ex R) (k : Nat) (x : Zq101_l1_sh.T) : Option R :=
 Zq101_l1 N (fun y0 => ks 0 (((), ()), (y0, ()))) k x.1.2.2.1 x.2.1.1 x.2.1.2.1 x.2.2.1
noncomputable def Zq101_l1_s (N : Nat) : LSum := ⟨Zq101_l1_sh, Zq101_l1_ex, fun x ks => Zq101_l1_again N ks N x⟩
theorem Zq101_l1_ok (N : Nat) : LoopOk Tryz.prog Tryz.f118.ntmps (Zq101_l1_s N) (loopAt Zq101_code 1) := loopQ (sh := Zq101_l1_sh) (ex := Zq101_l1_ex) (N := N) (L := []) (fun R k x ks => Zq101_l1_again N ks k x) (Zq101_gok N) (fun _ _ _ => rfl) (fun R k x ks => by kernel_rfl) trivial (by kernel_rfl)
noncomputable def Zq101 (N : Nat) (c : ((List (List Int)) × (List (Int × Int)))) : Option (((List (List Int)) × Unit) × (Unit)) :=
 (chk (ile 0 (tLen c.1) && ile (tLen c.1) (tLen c.1) && fits (tLen c.1))
 (Zq101_l0 N (fun o o1 o2 => Zq101_l1 N (fun o3 => some ((o3, ()), ())) N 0 o o1 o2) N 0 c.1 c.2 (tRep (tLen c.1) [])))
noncomputable def Zq101_S (N : Nat) : FSum := ⟨Zq101_ps, Zq101_rs, fun x => Zq101 N x.1⟩
theorem Zq101_pc (N : Nat) : PC Tryz.prog 118 (Zq101_S N) := pcQ (L := [Zq101_l0_s N, Zq101_l1_s N]) (Zq101_gok N) Tryz.call118 Tryz.func118 (fun x => by kernel_rfl) ⟨Zq101_l0_ok N, Zq101_l1_ok N, trivial⟩ (by kernel_rfl)

abbrev Zq107_ps : List (PV.Mode × Ty) := [(.ro, LLI), (.ro, I)]
abbrev Zq107_rs : List (Bool × Ty) := [(true, LI)]
noncomputable def Zq107_G (N : Nat) : GTab := gOf []
theorem Zq107_gok (N : Nat) : GOk Tryz.prog (Zq107_G N) := gOf_ok trivial
noncomputable def Zq107_code : Code := (Tryz.f119.body).getD .skip
noncomputable def Zq107_l0_sh : Sh := ⟨[(0, .one (.ro LLI)), (1, .one (.ro I)), (5, .one (.ref 0)), (6, .one (.ro I))], [.sl 3 I .own]⟩
noncomputable def Zq107_l0_ex : List (Ex × Sh) := [(.exit 0, ⟨[(0, .one (.ro LLI)), (1, .one (.ro I)), (5, .one (.ref 0))], [.sl 3 I .own]⟩)]
noncomputable def Zq107_l0 {R : Type} (N : Nat) (k0 : (List (List Int)) → Int → (List Int) → Option R) : Nat → (List (List Int)) → Int → Int → (List Int) → Option R
 | 0, _, _, _, _ => none
 | K + 1, x, x1, x2, o =>
 (br (ilt x2 (tLen o))
 ((chk (inb o x2)
 (Zq107_l0 N k0 K x x1 (IntKind.i64.wrap (x2 + 1)) (tSet o x2 (-1)))))
 (k0 x x1 o))
noncomputable def Zq107_l0_again {R : Type} (N : Nat) (ks : KS Zq107_l0_ex R) (k : Nat) (x : Zq107_l0_sh.T) : Option R :=
 Zq107_l0 N (fun y0 y1 y2 => ks 0 ((y0, y1, (), ()), (y2, ()))) k x.1.1 x.1.2.1 x.1.2.2.2.1 x.2.1
noncomputable def Zq107_l0_s (N : Nat) : LSum := ⟨Zq107_l0_sh, Zq107_l0_ex, fun x ks => Zq107_l0_again N ks N x⟩
theorem Zq107_l0_ok (N : Nat) : LoopOk Tryz.prog Tryz.f119.ntmps (Zq107_l0_s N) (loopAt Zq107_code 0) := loopQ (sh := Zq107_l0_sh) (ex := Zq107_l0_ex) (N := N) (L := []) (fun R k x ks => Zq107_l0_again N ks k x) (Zq107_gok N) (fun _ _ _ => rfl) (fun R k x ks => by kernel_rfl) trivial (by kernel_rfl)
noncomputable def Zq107_l1_0_sh : Sh := ⟨[(0, .one (.ro LLI)), (5, .one (.ref 0)), (7, .one (.ref 1)), (8, .one (.ro I)), (9, .one (.ro LI)), (10, .one (.ro I))], [.sl 3 I .own, .sl 3 I .own]⟩
noncomputable def Zq107_l1_0_ex : List (Ex × Sh) := [(.exit 4, ⟨[(0, .one (.ro LLI)), (5, .one (.ref 0)), (7, .one (.ref 1)), (8, .one (.ro I))], [.sl 3 I .own, .sl 3 I .own]⟩)]
noncomputable def Zq107_l1_0 {R : Type} (N : Nat) (k0 : (List (List Int)) → Int → (List Int) → (List Int) → Option R) : Nat → (List (List Int)) → Int → (List Int) → Int → (List Int) → (List Int) → Option R
 | 0, _, _, _, _, _, _ => none
 | K + 1, x4, x5, x6, x7, o3, o4 =>
 (br (ilt x7 (tLen x6))
 ((chk (inb x6 x7)
 (chk (inb o3 (rdI x6 x7))
 (br (ilt (rdI o3 (rdI x6 x7)) 0)
 ((chk (inb x6 x7)
 (chk (inb o4 x5)
 (chk (inb o3 (rdI o4 x5))
 (chk (inb o3 (rdI x6 x7))
 (chk (inb x6 x7)
 (chk (room o4 [(rdI x6 x7)])
 (Zq107_l1_0 N k0 K x4 x5 x6 (IntKind.i64.wrap (x7 + 1)) (tSet o3 (rdI x6 x7) (IntKind.i64.wrap ((rdI o3 (rdI o4 x5)) + 1))) (tApp o4 [(rdI x6 x7)])))))))))
 (Zq107_l1_0 N k0 K x4 x5 x6 (IntKind.i64.wrap (x7 + 1)) o3 o4)))))
 (k0 x4 x5 o3 o4))
noncomputable def Zq107_l1_0_again {R : Type} (N : Nat) (ks : KS Zq107_l1_0_ex R) (k : Nat) (x : Zq107_l1_0_sh.T) : Option R :=
 Zq107_l1_0 N (fun y0 y1 y2 y3 => ks 0 ((y0, (), (), y1, ()), (y2, y3, ()))) k x.1.1 x.1.2.2.2.1 x.1.2.2.2.2.1 x.1.2.2.2.2.2.1 x.2.1 x.2.2.1
noncomputable def Zq107_l1_0_s (N : Nat) : LSum := ⟨Zq107_l1_0_sh, Zq107_l1_0_ex, fun x ks => Zq107_l1_0_again N ks N x⟩
theorem Zq107_l1_0_ok (N : Nat) : LoopOk Tryz.prog Tryz.f119.ntmps (Zq107_l1_0_s N) (loopAt (loopAt Zq107_code 1) 0) := loopQ (sh := Zq107_l1_0_sh) (ex := Zq107_l1_0_ex) (N := N) (L := []) (fun R k x ks => Zq107_l1_0_again N ks k x) (Zq107_gok N) (fun _ _ _ => rfl) (fun R k x ks => by kernel_rfl) trivial (by kernel_rfl)
noncomputable def Zq107_l1_sh : Sh := ⟨[(0, .one (.ro LLI)), (5, .one (.ref 0)), (7, .one (.ref 1)), (8, .one (.ro I))], [.sl 3 I .own, .sl 3 I .own]⟩
noncomputable def Zq107_l1_ex : List (Ex × Sh) := [(.exit 2, ⟨[(5, .one (.ref 0))], [.sl 3 I .own]⟩)]
noncomputable def Zq107_l1 {R : Type} (N : Nat) (k0 : (List Int) → Option R) : Nat → (List (List Int)) → Int → (List Int) → (List Int) → Option R
 | 0, _, _, _, _ => none
 | K + 1, x2, x3, o1, o2 =>
 (br (ilt x3 (tLen o2))
 ((chk (inb o2 x3)
 (chk (inb x2 (rdI o2 x3))
 (Zq107_l1_0 N (fun x4 x5 o3 o4 => Zq107_l1 N k0 K x4 (IntKind.i64.wrap (x5 + 1)) o3 o4) N x2 x3 (rdL x2 (rdI o2 x3)) 0 o1 o2))))
 (k0 o1))
noncomputable def Zq107_l1_again {R : Type} (N : Nat) (ks : KS Zq107_l1_ex R) (k : Nat) (x : Zq107_l1_sh.T) : Option R :=
 Zq107_l1 N (fun y0 => ks 0 (((), ()), (y0, ()))) k x.1.1 x.1.2.2.2.1 x.2.1 x.2.2.1
noncomputable def Zq107_l1_s (N : Nat) : LSum := ⟨Zq107_l1_sh, Zq107_l1_ex, fun x ks => Zq107_l1_again N ks N x⟩
theorem Zq107_l1_ok (N : Nat) : LoopOk Tryz.prog Tryz.f119.ntmps (Zq107_l1_s N) (loopAt Zq107_code 1) := loopQ (sh := Zq107_l1_sh) (ex := Zq107_l1_ex) (N := N) (L := [Zq107_l1_0_s N]) (fun R k x ks => Zq107_l1_again N ks k x) (Zq107_gok N) (fun _ _ _ => rfl) (fun R k x ks => by kernel_rfl) ⟨Zq107_l1_0_ok N, trivial⟩ (by kernel_rfl)
noncomputable def Zq107 (N : Nat) (c : (List (List Int))) (c1 : Int) : Option (((List Int) × Unit) × (Unit)) :=
 (chk (ile 0 (tLen c) && ile (tLen c) (tLen c) && fits (tLen c))
 (Zq107_l0 N (fun x x1 o => (chk (inb o x1)
 (Zq107_l1 N (fun o1 => some ((o1, ()), ())) N x 0 (tSet o x1 0) [x1]))) N c c1 0 (tRep (tLen c) (0 : Int))))
noncomputable def Zq107_S (N : Nat) : FSum := ⟨Zq107_ps, Zq107_rs, fun x => Zq107 N x.1 x.2.1⟩
theorem Zq107_pc (N : Nat) : PC Tryz.prog 119 (Zq107_S N) := pcQ (L := [Zq107_l0_s N, Zq107_l1_s N]) (Zq107_gok N) Tryz.call119 Tryz.func119 (fun x => by kernel_rfl) ⟨Zq107_l0_ok N, Zq107_l1_ok N, trivial⟩ (by kernel_rfl)

abbrev Zq108_ps : List (PV.Mode × Ty) := [(.ro, QLLILQII), (.ro, I), (.ro, I)]
abbrev Zq108_rs : List (Bool × Ty) := [(true, LI)]
noncomputable def Zq108_G (N : Nat) : GTab := gOf [(118, Zq101_S N), (119, Zq107_S N)]
theorem Zq108_gok (N : Nat) : GOk Tryz.prog (Zq108_G N) := gOf_ok ⟨Zq101_pc N, Zq107_pc N, trivial⟩
noncomputable def Zq108_code : Code := (Tryz.f154.body).getD .skip
noncomputable def Zq108_l0_0_sh : Sh := ⟨[(1, .one (.ro I)), (2, .one (.ro I)), (7, .one (.ref 0)), (8, .one (.ref 1)), (9, .one (.ref 2)), (10, .one (.ro I))], [.sl 27 LI .deep, .sl 3 I .own, .sl 3 I .own]⟩
noncomputable def Zq108_l0_0_ex : List (Ex × Sh) := [(.exit 2, ⟨[(1, .one (.ro I)), (2, .one (.ro I)), (7, .one (.ref 0)), (8, .one (.ref 1)), (9, .one (.ref 2)), (10, .one (.ro I))], [.sl 27 LI .deep, .sl 3 I .own, .sl 3 I .own]⟩)]
noncomputable def Zq108_l0_0 {R : Type} (N : Nat) (k0 : Int → Int → Int → (List (List Int)) → (List Int) → (List Int) → Option R) : Nat → Int → Int → Int → (List (List Int)) → (List Int) → (List Int) → Option R
 | 0, _, _, _, _, _, _ => none
 | K + 1, i2, j2, kv, o3, o4, o5 =>
 (chk (inb o3 i2)
 (chk (inb (rdL o3 i2) kv)
 (chk (inb o4 (rdI (rdL o3 i2) kv))
 (chk (inb o4 i2)
 (br (ine (rdI o4 (rdI (rdL o3 i2) kv)) (IntKind.i64.wrap ((rdI o4 i2) - 1)))
 (Zq108_l0_0 N k0 K i2 j2 (IntKind.i64.wrap (kv + 1)) o3 o4 o5)
 (k0 i2 j2 kv o3 o4 o5))))))
noncomputable def Zq108_l0_0_again {R : Type} (N : Nat) (ks : KS Zq108_l0_0_ex R) (k : Nat) (x : Zq108_l0_0_sh.T) : Option R :=
 Zq108_l0_0 N (fun y0 y1 y2 y3 y4 y5 => ks 0 ((y0, y1, (), (), (), y2, ()), (y3, y4, y5, ()))) k x.1.1 x.1.2.1 x.1.2.2.2.2.2.1 x.2.1 x.2.2.1 x.2.2.2.1
noncomputable def Zq108_l0_0_s (N : Nat) : LSum := ⟨Zq108_l0_0_sh, Zq108_l0_0_ex, fun x ks => Zq108_l0_0_again N ks N x⟩
theorem Zq108_l0_0_ok (N : Nat) : LoopOk Tryz.prog Tryz.f154.ntmps (Zq108_l0_0_s N) (loopAt (loopAt Zq108_code 0) 0) := loopQ (sh := Zq108_l0_0_sh) (ex := Zq108_l0_0_ex) (N := N) (L := []) (fun R k x ks => Zq108_l0_0_again N ks k x) (Zq108_gok N) (fun _ _ _ => rfl) (fun R k x ks => by kernel_rfl) trivial (by kernel_rfl)
noncomputable def Zq108_l0_sh : Sh := ⟨[(1, .one (.ro I)), (2, .one (.ro I)), (7, .one (.ref 0)), (8, .one (.ref 1)), (9, .one (.ref 2))], [.sl 27 LI .deep, .sl 3 I .own, .sl 3 I .own]⟩
noncomputable def Zq108_l0_ex : List (Ex × Sh) := [(.exit 0, ⟨[(9, .one (.ref 0))], [.sl 3 I .own]⟩)]
noncomputable def Zq108_l0 {R : Type} (N : Nat) (k0 : (List Int) → Option R) : Nat → Int → Int → (List (List Int)) → (List Int) → (List Int) → Option R
 | 0, _, _, _, _, _ => none
 | K + 1, i1, j1, o, o1, o2 =>
 (br (ine i1 j1)
 (Zq108_l0_0 N (fun i2 j2 kv o3 o4 o5 => (chk (inb o3 i2)
 (chk (inb (rdL o3 i2) kv)
 (chk (room o5 [(rdI (rdL o3 i2) kv)])
 (Zq108_l0 N k0 K (rdI (rdL o3 i2) kv) j2 o3 o4 (tApp o5 [(rdI (rdL o3 i2) kv)])))))) N i1 j1 0 o o1 o2)
 (k0 o2))
noncomputable def Zq108_l0_again {R : Type} (N : Nat) (ks : KS Zq108_l0_ex R) (k : Nat) (x : Zq108_l0_sh.T) : Option R :=
 Zq108_l0 N (fun y0 => ks 0 (((), ()), (y0, ()))) k x.1.1 x.1.2.1 x.2.1 x.2.2.1 x.2.2.2.1
noncomputable def Zq108_l0_s (N : Nat) : LSum := ⟨Zq108_l0_sh, Zq108_l0_ex, fun x ks => Zq108_l0_again N ks N x⟩
theorem Zq108_l0_ok (N : Nat) : LoopOk Tryz.prog Tryz.f154.ntmps (Zq108_l0_s N) (loopAt Zq108_code 0) := loopQ (sh := Zq108_l0_sh) (ex := Zq108_l0_ex) (N := N) (L := [Zq108_l0_0_s N]) (fun R k x ks => Zq108_l0_again N ks k x) (Zq108_gok N) (fun _ _ _ => rfl) (fun R k x ks => by kernel_rfl) ⟨Zq108_l0_0_ok N, trivial⟩ (by kernel_rfl)
noncomputable def Zq108 (N : Nat) (x : ((List (List Int)) × (List (Int × Int)))) (i : Int) (j : Int) : Option (((List Int) × Unit) × (Unit)) :=
 ((Zq101 N (x.1, x.2)).bind fun r =>
 ((Zq107 N r.1.1 j).bind fun r1 =>
 (chk (inb r1.1.1 i)
 (br (ilt (rdI r1.1.1 i) 0)
 (some (([], ()), ()))
 (Zq108_l0 N (fun o => some ((o, ()), ())) N i j r.1.1 r1.1.1 [i])))))
noncomputable def Zq108_S (N : Nat) : FSum := ⟨Zq108_ps, Zq108_rs, fun x => Zq108 N x.1 x.2.1 x.2.2.1⟩
theorem Zq108_pc (N : Nat) : PC Tryz.prog 154 (Zq108_S N) := pcQ (L := [Zq108_l0_s N]) (Zq108_gok N) Tryz.call154 Tryz.func154 (fun x => by kernel_rfl) ⟨Zq108_l0_ok N, trivial⟩ (by kernel_rfl)

abbrev Zq110_ps : List (PV.Mode × Ty) := [(.ro, QLLILQII), (.ro, LI), (.ro, LI)]
abbrev Zq110_rs : List (Bool × Ty) := [(true, LLI)]
noncomputable def Zq110_G (N : Nat) : GTab := gOf [(84, Zq100_S N), (154, Zq108_S N), (60, Zq94_S N)]
theorem Zq110_gok (N : Nat) : GOk Tryz.prog (Zq110_G N) := gOf_ok ⟨Zq100_pc N, Zq108_pc N, Zq94_pc N, trivial⟩
noncomputable def Zq110_code : Code := (Tryz.f124.body).getD .skip
noncomputable def Zq110_l0_sh : Sh := ⟨[(3, .one (.adr 0 0)), (9, .one (.ref 1)), (10, .one (.ref 2)), (11, .one (.ro I))], [.box [.ro LLI, .ro LQII], .sl 27 LI .deep, .sl 3 I .own]⟩
noncomputable def Zq110_l0_ex : List (Ex × Sh) := [(.exit 0, ⟨[(9, .one (.ref 0))], [.sl 27 LI .deep]⟩)]
noncomputable def Zq110_l0 {R : Type} (N : Nat) (k0 : (List (List Int)) → Option R) : Nat → Int → (List (List Int)) → (List (Int × Int)) → (List (List Int)) → (List Int) → Option R
 | 0, _, _, _, _, _ => none
 | K + 1, n, o, o1, o2, o3 =>
 (br (ilt n (tLen o3))
 ((chk (inb o3 n)
 (chk (inb o (rdI o3 n))
 ((Zq94 N (rdL o (rdI o3 n))).bind fun r3 =>
 (chk (room o2 [r3.1.1])
 (Zq110_l0 N k0 K (IntKind.i64.wrap (n + 1)) o o1 (tApp o2 [r3.1.1]) o3))))))
 (k0 o2))
noncomputable def Zq110_l0_again {R : Type} (N : Nat) (ks : KS Zq110_l0_ex R) (k : Nat) (x : Zq110_l0_sh.T) : Option R :=
 Zq110_l0 N (fun y0 => ks 0 (((), ()), (y0, ()))) k x.1.2.2.2.1 x.2.1.1 x.2.1.2.1 x.2.2.1 x.2.2.2.1
noncomputable def Zq110_l0_s (N : Nat) : LSum := ⟨Zq110_l0_sh, Zq110_l0_ex, fun x ks => Zq110_l0_again N ks N x⟩
theorem Zq110_l0_ok (N : Nat) : LoopOk Tryz.prog Tryz.f124.ntmps (Zq110_l0_s N) (loopAt Zq110_code 0) := loopQ (sh := Zq110_l0_sh) (ex := Zq110_l0_ex) (N := N) (L := []) (fun R k x ks => Zq110_l0_again N ks k x) (Zq110_gok N) (fun _ _ _ => rfl) (fun R k x ks => by kernel_rfl) trivial (by kernel_rfl)
noncomputable def Zq110 (N : Nat) (x : ((List (List Int)) × (List (Int × Int)))) (a : (List Int)) (b : (List Int)) : Option (((List (List Int)) × Unit) × (Unit)) :=
 ((Zq100 N (x.1, x.2) a).bind fun r =>
 ((Zq100 N (x.1, x.2) b).bind fun r1 =>
 (br (ilt r.1.1 0)
 (some (([], ()), ()))
 ((br (ilt r1.1.1 0)
 (some (([], ()), ()))
 (((Zq108 N (x.1, x.2) r.1.1 r1.1.1).bind fun r2 =>
 Zq110_l0 N (fun o => some ((o, ()), ())) N 0 x.1 x.2 [] r2.1.1)))))))
noncomputable def Zq110_S (N : Nat) : FSum := ⟨Zq110_ps, Zq110_rs, fun x => Zq110 N x.1 x.2.1 x.2.2.1⟩
theorem Zq110_pc (N : Nat) : PC Tryz.prog 124 (Zq110_S N) := pcQ (L := [Zq110_l0_s N]) (Zq110_gok N) Tryz.call124 Tryz.func124 (fun x => by kernel_rfl) ⟨Zq110_l0_ok N, trivial⟩ (by kernel_rfl)

abbrev Zq109_ps : List (PV.Mode × Ty) := [(.own, LLI)]
abbrev Zq109_rs : List (Bool × Ty) := [(true, LLI), (true, .bool)]
noncomputable def Zq109_G (N : Nat) : GTab := gOf []
theorem Zq109_gok (N : Nat) : GOk Tryz.prog (Zq109_G N) := gOf_ok trivial
noncomputable def Zq109_code : Code := (Tryz.f123.body).getD .skip
noncomputable def Zq109 (N : Nat) (walk : (List (List Int))) : Option (((List (List Int)) × Bool × Unit) × (Unit)) :=
 some ((walk, (ilt 0 (tLen walk)), ()), ())
noncomputable def Zq109_S (N : Nat) : FSum := ⟨Zq109_ps, Zq109_rs, fun x => Zq109 N x.1⟩
theorem Zq109_pc (N : Nat) : PC Tryz.prog 123 (Zq109_S N) := pcQ (L := []) (Zq109_gok N) Tryz.call123 Tryz.func123 (fun x => by kernel_rfl) trivial (by kernel_rfl)

abbrev Zq121_ps : List (PV.Mode × Ty) := [(.ro, QILQII), (.ro, I), (.ro, .bool), (.ro, LI), (.ro, LI)]
abbrev Zq121_rs : List (Bool × Ty) := [(true, LLI), (true, .bool)]
noncomputable def Zq121_G (N : Nat) : GTab := gOf [(46, Zq115_S N), (85, Zq118_S N), (72, Zq119_S N), (124, Zq110_S N), (123, Zq109_S N)]
theorem Zq121_gok (N : Nat) : GOk Tryz.prog (Zq121_G N) := gOf_ok ⟨Zq115_pc N, Zq118_pc N, Zq119_pc N, Zq110_pc N, Zq109_pc N, trivial⟩
noncomputable def Zq121_code : Code := (Tryz.f80.body).getD .skip
noncomputable def Zq121 (N : Nat) (g : (Int × (List (Int × Int)))) (kv : Int) (kempe : Bool) (a : (List Int)) (b : (List Int)) : Option (((List (List Int)) × Bool × Unit) × (Unit)) :=
 ((Zq115 N (g.1, g.2) kv a).bind fun r =>
 (br (!r.1.1)
 (some (([], false, ()), ()))
 (((Zq118 N (g.1, g.2) kv b).bind fun r1 =>
 (br (!r1.1.1)
 (some (([], false, ()), ()))
 (((Zq119 N (g.1, g.2) kv kempe).bind fun r2 =>
 (br (!r2.1.2.1)
 (some (([], false, ()), ()))
 (((Zq110 N (r2.1.1.1, r2.1.1.2) a b).bind fun r3 =>
 ((Zq109 N r3.1.1).bind fun r4 =>
 some ((r4.1.1, r4.1.2.1, ()), ()))))))))))))
noncomputable def Zq121_S (N : Nat) : FSum := ⟨Zq121_ps, Zq121_rs, fun x => Zq121 N x.1 x.2.1 x.2.2.1 x.2.2.2.1 x.2.2.2.2.1⟩
theorem Zq121_pc (N : Nat) : PC Tryz.prog 80 (Zq121_S N) := pcQ (L := []) (Zq121_gok N) Tryz.call80 Tryz.func80 (fun x => by kernel_rfl) trivial (by kernel_rfl)

abbrev Zq79_ps : List (PV.Mode × Ty) := [(.ro, QILQII), (.ro, I), (.ro, LI), (.ro, LI)]
abbrev Zq79_rs : List (Bool × Ty) := [(true, LLI), (true, .bool)]
noncomputable def Zq79_G (N : Nat) : GTab := gOf [(80, Zq121_S N)]
theorem Zq79_gok (N : Nat) : GOk Tryz.prog (Zq79_G N) := gOf_ok ⟨Zq121_pc N, trivial⟩
noncomputable def Zq79_code : Code := (Tryz.f26.body).getD .skip
noncomputable def Zq79 (N : Nat) (g : (Int × (List (Int × Int)))) (kv : Int) (a : (List Int)) (b : (List Int)) : Option (((List (List Int)) × Bool × Unit) × (Unit)) :=
 ((Zq121 N (g.1, g.2) kv false a b).bind fun r =>
 some ((r.1.1, r.1.2.1, ()), ()))
noncomputable def Zq79_S (N : Nat) : FSum := ⟨Zq79_ps, Zq79_rs, fun x => Zq79 N x.1 x.2.1 x.2.2.1 x.2.2.2.1⟩
theorem Zq79_pc (N : Nat) : PC Tryz.prog 26 (Zq79_S N) := pcQ (L := []) (Zq79_gok N) Tryz.call26 Tryz.func26 (fun x => by kernel_rfl) trivial (by kernel_rfl)

abbrev Zq68_ps : List (PV.Mode × Ty) := [(.ro, LI), (.ro, I)]
abbrev Zq68_rs : List (Bool × Ty) := [(true, I)]
noncomputable def Zq68_G (N : Nat) : GTab := gOf []
theorem Zq68_gok (N : Nat) : GOk Tryz.prog (Zq68_G N) := gOf_ok trivial
noncomputable def Zq68_code : Code := (Tryz.f190.body).getD .skip
noncomputable def Zq68_l0_sh : Sh := ⟨[(0, .one (.ro LI)), (1, .one (.ro I)), (7, .one (.ro I)), (8, .one (.ro I))], []⟩
noncomputable def Zq68_l0_ex : List (Ex × Sh) := [(.ret, ⟨[(4, .one (.ro I))], []⟩), (.exit 0, ⟨[], []⟩)]
noncomputable def Zq68_l0 {R : Type} (N : Nat) (k0 : Int → Option R) (k1 : Unit → Option R) : Nat → (List Int) → Int → Int → Int → Option R
 | 0, _, _, _, _ => none
 | K + 1, s1, v1, x, x1 =>
 (br (ilt x1 x)
 ((chk (inb s1 x1)
 (br (ieq v1 (rdI s1 x1))
 (k0 x1)
 (Zq68_l0 N k0 k1 K s1 v1 x (IntKind.i64.wrap (x1 + 1))))))
 (k1 ()))
noncomputable def Zq68_l0_again {R : Type} (N : Nat) (ks : KS Zq68_l0_ex R) (k : Nat) (x : Zq68_l0_sh.T) : Option R :=
 Zq68_l0 N (fun y0 => ks 0 ((y0, ()), ())) (fun (_ : Unit) => ks 1 ((), ())) k x.1.1 x.1.2.1 x.1.2.2.1 x.1.2.2.2.1
noncomputable def Zq68_l0_s (N : Nat) : LSum := ⟨Zq68_l0_sh, Zq68_l0_ex, fun x ks => Zq68_l0_again N ks N x⟩
theorem Zq68_l0_ok (N : Nat) : LoopOk Tryz.prog Tryz.f190.ntmps (Zq68_l0_s N) (loopAt Zq68_code 0) := loopQ (sh := Zq68_l0_sh) (ex := Zq68_l0_ex) (N := N) (L := []) (fun R k x ks => Zq68_l0_again N ks k x) (Zq68_gok N) (fun _ _ _ => rfl) (fun R k x ks => by kernel_rfl) trivial (by kernel_rfl)
noncomputable def Zq68 (N : Nat) (s : (List Int)) (v : Int) : Option ((Int × Unit) × (Unit)) :=
 Zq68_l0 N (fun x => some ((x, ()), ())) (fun (_ : Unit) => some (((-1), ()), ())) N s v (tLen s) 0
noncomputable def Zq68_S (N : Nat) : FSum := ⟨Zq68_ps, Zq68_rs, fun x => Zq68 N x.1 x.2.1⟩
theorem Zq68_pc (N : Nat) : PC Tryz.prog 190 (Zq68_S N) := pcQ (L := [Zq68_l0_s N]) (Zq68_gok N) Tryz.call190 Tryz.func190 (fun x => by kernel_rfl) ⟨Zq68_l0_ok N, trivial⟩ (by kernel_rfl)

abbrev Zq62_ps : List (PV.Mode × Ty) := [(.ro, LI), (.ro, I)]
abbrev Zq62_rs : List (Bool × Ty) := [(true, .bool)]
noncomputable def Zq62_G (N : Nat) : GTab := gOf [(190, Zq68_S N)]
theorem Zq62_gok (N : Nat) : GOk Tryz.prog (Zq62_G N) := gOf_ok ⟨Zq68_pc N, trivial⟩
noncomputable def Zq62_code : Code := (Tryz.f180.body).getD .skip
noncomputable def Zq62 (N : Nat) (s : (List Int)) (v : Int) : Option ((Bool × Unit) × (Unit)) :=
 ((Zq68 N s v).bind fun r =>
 some (((ile 0 r.1.1), ()), ()))
noncomputable def Zq62_S (N : Nat) : FSum := ⟨Zq62_ps, Zq62_rs, fun x => Zq62 N x.1 x.2.1⟩
theorem Zq62_pc (N : Nat) : PC Tryz.prog 180 (Zq62_S N) := pcQ (L := []) (Zq62_gok N) Tryz.call180 Tryz.func180 (fun x => by kernel_rfl) trivial (by kernel_rfl)

abbrev Zq7_ps : List (PV.Mode × Ty) := [(.ro, QILQII), (.ro, LI), (.ro, I), (.ro, I)]
abbrev Zq7_rs : List (Bool × Ty) := [(true, LI)]
noncomputable def Zq7_G (N : Nat) : GTab := gOf [(66, Zq16_S N), (180, Zq62_S N), (106, Zq72_S N)]
theorem Zq7_gok (N : Nat) : GOk Tryz.prog (Zq7_G N) := gOf_ok ⟨Zq16_pc N, Zq62_pc N, Zq72_pc N, trivial⟩
noncomputable def Zq7_code : Code := (Tryz.f155.body).getD .skip
noncomputable def Zq7_l0_0_sh : Sh := ⟨[(1, .one (.ro LI)), (3, .one (.ro I)), (4, .one (.adr 0 0)), (9, .one (.ro I)), (10, .one (.ref 1)), (11, .one (.ro I)), (31, .one (.ref 2)), (32, .one (.ro I)), (33, .one (.ro I))], [.box [.ro I, .ro LQII], .sl 3 I .own, .sl 3 I .own]⟩
noncomputable def Zq7_l0_0_ex : List (Ex × Sh) := [(.exit 2, ⟨[(1, .one (.ro LI)), (3, .one (.ro I)), (4, .one (.adr 0 0)), (9, .one (.ro I)), (10, .one (.ref 1)), (11, .one (.ro I))], [.box [.ro I, .ro LQII], .sl 3 I .own]⟩)]
noncomputable def Zq7_l0_0 {R : Type} (N : Nat) (k0 : (List Int) → Int → Int → Int → Int → (List (Int × Int)) → (List Int) → Option R) : Nat → (List Int) → Int → Int → Int → Int → Int → Int → (List (Int × Int)) → (List Int) → (List Int) → Option R
 | 0, _, _, _, _, _, _, _, _, _, _ => none
 | K + 1, x4, x5, x6, x7, x8, x9, o3, o4, o5, o6 =>
 (br (ilt x9 x8)
 ((chk (inb o6 x9)
 (chk (inb x4 (rdI o6 x9))
 (br (ieq (rdI x4 (rdI o6 x9)) x6)
 (((Zq62 N o5 (rdI o6 x9)).bind fun r1 =>
 (br (!r1.1.1)
 ((chk (room o5 [(rdI o6 x9)])
 (Zq7_l0_0 N k0 K x4 x5 x6 x7 x8 (IntKind.i64.wrap (x9 + 1)) o3 o4 (tApp o5 [(rdI o6 x9)]) o6)))
 (Zq7_l0_0 N k0 K x4 x5 x6 x7 x8 (IntKind.i64.wrap (x9 + 1)) o3 o4 o5 o6))))
 ((chk (inb x4 (rdI o6 x9))
 (br (ieq (rdI x4 (rdI o6 x9)) x5)
 (((Zq62 N o5 (rdI o6 x9)).bind fun r2 =>
 (br (!r2.1.1)
 ((chk (room o5 [(rdI o6 x9)])
 (Zq7_l0_0 N k0 K x4 x5 x6 x7 x8 (IntKind.i64.wrap (x9 + 1)) o3 o4 (tApp o5 [(rdI o6 x9)]) o6)))
 (Zq7_l0_0 N k0 K x4 x5 x6 x7 x8 (IntKind.i64.wrap (x9 + 1)) o3 o4 o5 o6))))
 (Zq7_l0_0 N k0 K x4 x5 x6 x7 x8 (IntKind.i64.wrap (x9 + 1)) o3 o4 o5 o6))))))))
 (k0 x4 x5 x6 x7 o3 o4 o5))
noncomputable def Zq7_l0_0_again {R : Type} (N : Nat) (ks : KS Zq7_l0_0_ex R) (k : Nat) (x : Zq7_l0_0_sh.T) : Option R :=
 Zq7_l0_0 N (fun y0 y1 y2 y3 y4 y5 y6 => ks 0 ((y0, y1, (), y2, (), y3, ()), ((y4, y5, ()), y6, ()))) k x.1.1 x.1.2.1 x.1.2.2.2.1 x.1.2.2.2.2.2.1 x.1.2.2.2.2.2.2.2.1 x.1.2.2.2.2.2.2.2.2.1 x.2.1.1 x.2.1.2.1 x.2.2.1 x.2.2.2.1
noncomputable def Zq7_l0_0_s (N : Nat) : LSum := ⟨Zq7_l0_0_sh, Zq7_l0_0_ex, fun x ks => Zq7_l0_0_again N ks N x⟩
theorem Zq7_l0_0_ok (N : Nat) : LoopOk Tryz.prog Tryz.f155.ntmps (Zq7_l0_0_s N) (loopAt (loopAt Zq7_code 0) 0) := loopQ (sh := Zq7_l0_0_sh) (ex := Zq7_l0_0_ex) (N := N) (L := []) (fun R k x ks => Zq7_l0_0_again N ks k x) (Zq7_gok N) (fun _ _ _ => rfl) (fun R k x ks => by kernel_rfl) trivial (by kernel_rfl)
noncomputable def Zq7_l0_sh : Sh := ⟨[(1, .one (.ro LI)), (3, .one (.ro I)), (4, .one (.adr 0 0)), (9, .one (.ro I)), (10, .one (.ref 1)), (11, .one (.ro I))], [.box [.ro I, .ro LQII], .sl 3 I .own]⟩
noncomputable def Zq7_l0_ex : List (Ex × Sh) := [(.exit 0, ⟨[(10, .one (.ref 0))], [.sl 3 I .own]⟩)]
noncomputable def Zq7_l0 {R : Type} (N : Nat) (k0 : (List Int) → Option R) : Nat → (List Int) → Int → Int → Int → Int → (List (Int × Int)) → (List Int) → Option R
 | 0, _, _, _, _, _, _, _ => none
 | K + 1, x, x1, x2, x3, o, o1, o2 =>
 (br (ilt x3 (tLen o2))
 ((chk (inb o2 x3)
 ((Zq16 N (o, o1) (rdI o2 x3)).bind fun r =>
 Zq7_l0_0 N (fun x4 x5 x6 x7 o3 o4 o5 => Zq7_l0 N k0 K x4 x5 x6 (IntKind.i64.wrap (x7 + 1)) o3 o4 o5) N x x1 x2 x3 (tLen r.1.1) 0 o o1 o2 r.1.1)))
 (k0 o2))
noncomputable def Zq7_l0_again {R : Type} (N : Nat) (ks : KS Zq7_l0_ex R) (k : Nat) (x : Zq7_l0_sh.T) : Option R :=
 Zq7_l0 N (fun y0 => ks 0 (((), ()), (y0, ()))) k x.1.1 x.1.2.1 x.1.2.2.2.1 x.1.2.2.2.2.2.1 x.2.1.1 x.2.1.2.1 x.2.2.1
noncomputable def Zq7_l0_s (N : Nat) : LSum := ⟨Zq7_l0_sh, Zq7_l0_ex, fun x ks => Zq7_l0_again N ks N x⟩
theorem Zq7_l0_ok (N : Nat) : LoopOk Tryz.prog Tryz.f155.ntmps (Zq7_l0_s N) (loopAt Zq7_code 0) := loopQ (sh := Zq7_l0_sh) (ex := Zq7_l0_ex) (N := N) (L := [Zq7_l0_0_s N]) (fun R k x ks => Zq7_l0_again N ks k x) (Zq7_gok N) (fun _ _ _ => rfl) (fun R k x ks => by kernel_rfl) ⟨Zq7_l0_0_ok N, trivial⟩ (by kernel_rfl)
noncomputable def Zq7 (N : Nat) (c : (Int × (List (Int × Int)))) (c1 : (List Int)) (c2 : Int) (c3 : Int) : Option (((List Int) × Unit) × (Unit)) :=
 (chk (inb c1 c2)
 (Zq7_l0 N (fun o => ((Zq72 N o).bind fun r =>
 some ((r.2.1, ()), ()))) N c1 c3 (rdI c1 c2) 0 c.1 c.2 [c2]))
noncomputable def Zq7_S (N : Nat) : FSum := ⟨Zq7_ps, Zq7_rs, fun x => Zq7 N x.1 x.2.1 x.2.2.1 x.2.2.2.1⟩
theorem Zq7_pc (N : Nat) : PC Tryz.prog 155 (Zq7_S N) := pcQ (L := [Zq7_l0_s N]) (Zq7_gok N) Tryz.call155 Tryz.func155 (fun x => by kernel_rfl) ⟨Zq7_l0_ok N, trivial⟩ (by kernel_rfl)

abbrev Zq15_ps : List (PV.Mode × Ty) := [(.ro, QILQII), (.ro, LI), (.ro, I), (.ro, I)]
abbrev Zq15_rs : List (Bool × Ty) := [(true, LI)]
noncomputable def Zq15_G (N : Nat) : GTab := gOf [(122, Zq57_S N), (155, Zq7_S N)]
theorem Zq15_gok (N : Nat) : GOk Tryz.prog (Zq15_G N) := gOf_ok ⟨Zq57_pc N, Zq7_pc N, trivial⟩
noncomputable def Zq15_code : Code := (Tryz.f127.body).getD .skip
noncomputable def Zq15_l0_sh : Sh := ⟨[(1, .one (.ro LI)), (3, .one (.ro I)), (9, .one (.ref 0)), (10, .one (.ro I)), (23, .one (.ref 1)), (24, .one (.ro I)), (25, .one (.ro I))], [.sl 3 I .own, .sl 3 I .own]⟩
noncomputable def Zq15_l0_ex : List (Ex × Sh) := [(.exit 0, ⟨[(9, .one (.ref 0))], [.sl 3 I .own]⟩)]
noncomputable def Zq15_l0 {R : Type} (N : Nat) (k0 : (List Int) → Option R) : Nat → (List Int) → Int → Int → Int → Int → (List Int) → (List Int) → Option R
 | 0, _, _, _, _, _, _, _ => none
 | K + 1, colours1, c1, own, x1, x2, o, o1 =>
 (br (ilt x2 x1)
 ((chk (inb o1 x2)
 (chk (inb colours1 (rdI o1 x2))
 (br (ieq (rdI colours1 (rdI o1 x2)) own)
 ((chk (inb o (rdI o1 x2))
 (Zq15_l0 N k0 K colours1 c1 own x1 (IntKind.i64.wrap (x2 + 1)) (tSet o (rdI o1 x2) c1) o1)))
 ((chk (inb o (rdI o1 x2))
 (Zq15_l0 N k0 K colours1 c1 own x1 (IntKind.i64.wrap (x2 + 1)) (tSet o (rdI o1 x2) own) o1)))))))
 (k0 o))
noncomputable def Zq15_l0_again {R : Type} (N : Nat) (ks : KS Zq15_l0_ex R) (k : Nat) (x : Zq15_l0_sh.T) : Option R :=
 Zq15_l0 N (fun y0 => ks 0 (((), ()), (y0, ()))) k x.1.1 x.1.2.1 x.1.2.2.2.1 x.1.2.2.2.2.2.1 x.1.2.2.2.2.2.2.1 x.2.1 x.2.2.1
noncomputable def Zq15_l0_s (N : Nat) : LSum := ⟨Zq15_l0_sh, Zq15_l0_ex, fun x ks => Zq15_l0_again N ks N x⟩
theorem Zq15_l0_ok (N : Nat) : LoopOk Tryz.prog Tryz.f127.ntmps (Zq15_l0_s N) (loopAt Zq15_code 0) := loopQ (sh := Zq15_l0_sh) (ex := Zq15_l0_ex) (N := N) (L := []) (fun R k x ks => Zq15_l0_again N ks k x) (Zq15_gok N) (fun _ _ _ => rfl) (fun R k x ks => by kernel_rfl) trivial (by kernel_rfl)
noncomputable def Zq15 (N : Nat) (g : (Int × (List (Int × Int)))) (colours : (List Int)) (x : Int) (c : Int) : Option (((List Int) × Unit) × (Unit)) :=
 ((Zq57 N colours).bind fun r =>
 (chk (inb colours x)
 ((Zq7 N (g.1, g.2) colours x c).bind fun r1 =>
 Zq15_l0 N (fun o => some ((o, ()), ())) N colours c (rdI colours x) (tLen r1.1.1) 0 r.1.1 r1.1.1)))
noncomputable def Zq15_S (N : Nat) : FSum := ⟨Zq15_ps, Zq15_rs, fun x => Zq15 N x.1 x.2.1 x.2.2.1 x.2.2.2.1⟩
theorem Zq15_pc (N : Nat) : PC Tryz.prog 127 (Zq15_S N) := pcQ (L := [Zq15_l0_s N]) (Zq15_gok N) Tryz.call127 Tryz.func127 (fun x => by kernel_rfl) ⟨Zq15_l0_ok N, trivial⟩ (by kernel_rfl)

abbrev Zq64_ps : List (PV.Mode × Ty) := [(.ro, LI), (.ro, LI)]
abbrev Zq64_rs : List (Bool × Ty) := [(true, .bool)]
noncomputable def Zq64_G (N : Nat) : GTab := gOf []
theorem Zq64_gok (N : Nat) : GOk Tryz.prog (Zq64_G N) := gOf_ok trivial
noncomputable def Zq64_code : Code := (Tryz.f126.body).getD .skip
noncomputable def Zq64_l0_sh : Sh := ⟨[(0, .one (.ro LI)), (1, .one (.ro LI)), (12, .one (.ro I)), (13, .one (.ro I))], []⟩
noncomputable def Zq64_l0_ex : List (Ex × Sh) := [(.ret, ⟨[(4, .one (.ro .bool))], []⟩), (.exit 0, ⟨[], []⟩)]
noncomputable def Zq64_l0 {R : Type} (N : Nat) (k0 : Bool → Option R) (k1 : Unit → Option R) : Nat → (List Int) → (List Int) → Int → Int → Option R
 | 0, _, _, _, _ => none
 | K + 1, s11, s21, x, x1 =>
 (br (ilt x1 x)
 ((chk (inb s11 x1)
 (chk (inb s21 x1)
 (br (ine (rdI s11 x1) (rdI s21 x1))
 (k0 false)
 (Zq64_l0 N k0 k1 K s11 s21 x (IntKind.i64.wrap (x1 + 1)))))))
 (k1 ()))
noncomputable def Zq64_l0_again {R : Type} (N : Nat) (ks : KS Zq64_l0_ex R) (k : Nat) (x : Zq64_l0_sh.T) : Option R :=
 Zq64_l0 N (fun y0 => ks 0 ((y0, ()), ())) (fun (_ : Unit) => ks 1 ((), ())) k x.1.1 x.1.2.1 x.1.2.2.1 x.1.2.2.2.1
noncomputable def Zq64_l0_s (N : Nat) : LSum := ⟨Zq64_l0_sh, Zq64_l0_ex, fun x ks => Zq64_l0_again N ks N x⟩
theorem Zq64_l0_ok (N : Nat) : LoopOk Tryz.prog Tryz.f126.ntmps (Zq64_l0_s N) (loopAt Zq64_code 0) := loopQ (sh := Zq64_l0_sh) (ex := Zq64_l0_ex) (N := N) (L := []) (fun R k x ks => Zq64_l0_again N ks k x) (Zq64_gok N) (fun _ _ _ => rfl) (fun R k x ks => by kernel_rfl) trivial (by kernel_rfl)
noncomputable def Zq64 (N : Nat) (s1 : (List Int)) (s2 : (List Int)) : Option ((Bool × Unit) × (Unit)) :=
 (br (ine (tLen s1) (tLen s2))
 (some ((false, ()), ()))
 (Zq64_l0 N (fun x => some ((x, ()), ())) (fun (_ : Unit) => some ((true, ()), ())) N s1 s2 (tLen s1) 0))
noncomputable def Zq64_S (N : Nat) : FSum := ⟨Zq64_ps, Zq64_rs, fun x => Zq64 N x.1 x.2.1⟩
theorem Zq64_pc (N : Nat) : PC Tryz.prog 126 (Zq64_S N) := pcQ (L := [Zq64_l0_s N]) (Zq64_gok N) Tryz.call126 Tryz.func126 (fun x => by kernel_rfl) ⟨Zq64_l0_ok N, trivial⟩ (by kernel_rfl)

abbrev Zq20_ps : List (PV.Mode × Ty) := [(.ro, LI), (.ro, LI), (.ro, AQILQII)]
abbrev Zq20_rs : List (Bool × Ty) := [(true, .bool)]
noncomputable def Zq20_G (N : Nat) : GTab := gOf [(82, Zq43_S N), (127, Zq15_S N), (126, Zq64_S N)]
theorem Zq20_gok (N : Nat) : GOk Tryz.prog (Zq20_G N) := gOf_ok ⟨Zq43_pc N, Zq15_pc N, Zq64_pc N, trivial⟩
noncomputable def Zq20_code : Code := (Tryz.f125.body).getD .skip
noncomputable def Zq20 (N : Nat) (a : (List Int)) (b : (List Int)) (c : (Int × (List (Int × Int)))) : Option ((Bool × Unit) × (Unit)) :=
 ((Zq43 N a b).bind fun r =>
 (chk (inb r.1.1 0)
 (chk (inb r.1.1 0)
 (chk (inb b (rdI r.1.1 0))
 ((Zq15 N c a (rdI r.1.1 0) (rdI b (rdI r.1.1 0))).bind fun r1 =>
 ((Zq64 N r1.1.1 b).bind fun r2 =>
 some ((r2.1.1, ()), ())))))))
noncomputable def Zq20_S (N : Nat) : FSum := ⟨Zq20_ps, Zq20_rs, fun x => Zq20 N x.1 x.2.1 x.2.2.1⟩
theorem Zq20_pc (N : Nat) : PC Tryz.prog 125 (Zq20_S N) := pcQ (L := []) (Zq20_gok N) Tryz.call125 Tryz.func125 (fun x => by kernel_rfl) trivial (by kernel_rfl)

abbrev Zq19_ps : List (PV.Mode × Ty) := [(.ro, QILQII), (.ro, I)]
abbrev Zq19_rs : List (Bool × Ty) := [(true, QLLILQII), (true, .bool)]
noncomputable def Zq19_G (N : Nat) : GTab := gOf [(48, Zq4_S N), (50, Zq44_S N), (125, Zq20_S N), (49, Zq41_S N)]
theorem Zq19_gok (N : Nat) : GOk Tryz.prog (Zq19_G N) := gOf_ok ⟨Zq4_pc N, Zq44_pc N, Zq20_pc N, Zq41_pc N, trivial⟩
noncomputable def Zq19_code : Code := (Tryz.f81.body).getD .skip
noncomputable def Zq19 (N : Nat) (g : (Int × (List (Int × Int)))) (kv : Int) : Option ((((List (List Int)) × (List (Int × Int))) × Bool × Unit) × (Unit)) :=
 ((Zq4 N (g.1, g.2) kv).bind fun r =>
 (br (!r.1.2.1)
 (some ((([], []), false, ()), ()))
 (((Zq44 N r.1.1 (fun y0 y1 => (Zq20 N y0 y1 (g.1, g.2)).bind fun z => some z.1.1)).bind fun r1 =>
 ((Zq41 N (r1.1.1.1, r1.1.1.2)).bind fun r2 =>
 some (((r2.1.1.1, r2.1.1.2), r2.1.2.1, ()), ()))))))
noncomputable def Zq19_S (N : Nat) : FSum := ⟨Zq19_ps, Zq19_rs, fun x => Zq19 N x.1 x.2.1⟩
theorem Zq19_pc (N : Nat) : PC Tryz.prog 81 (Zq19_S N) := pcQ (L := []) (Zq19_gok N) Tryz.call81 Tryz.func81 (fun x => by kernel_rfl) trivial (by kernel_rfl)

abbrev Zq21_ps : List (PV.Mode × Ty) := [(.ro, QILQII), (.ro, I), (.ro, LI), (.ro, LI)]
abbrev Zq21_rs : List (Bool × Ty) := [(true, LLI), (true, .bool)]
noncomputable def Zq21_G (N : Nat) : GTab := gOf [(81, Zq19_S N), (44, Zq36_S N), (79, Zq27_S N)]
theorem Zq21_gok (N : Nat) : GOk Tryz.prog (Zq21_G N) := gOf_ok ⟨Zq19_pc N, Zq36_pc N, Zq27_pc N, trivial⟩
noncomputable def Zq21_code : Code := (Tryz.f27.body).getD .skip
noncomputable def Zq21 (N : Nat) (g : (Int × (List (Int × Int)))) (kv : Int) (a : (List Int)) (b : (List Int)) : Option (((List (List Int)) × Bool × Unit) × (Unit)) :=
 ((Zq19 N (g.1, g.2) kv).bind fun r =>
 (br (!r.1.2.1)
 (some (([], false, ()), ()))
 (((Zq36 N (g.1, g.2) kv [a, b]).bind fun r1 =>
 (br (!r1.1.1)
 (some (([], false, ()), ()))
 (((Zq27 N (r.1.1.1, r.1.1.2) a b).bind fun r2 =>
 some ((r2.1.1, r2.1.2.1, ()), ()))))))))
noncomputable def Zq21_S (N : Nat) : FSum := ⟨Zq21_ps, Zq21_rs, fun x => Zq21 N x.1 x.2.1 x.2.2.1 x.2.2.2.1⟩
theorem Zq21_pc (N : Nat) : PC Tryz.prog 27 (Zq21_S N) := pcQ (L := []) (Zq21_gok N) Tryz.call27 Tryz.func27 (fun x => by kernel_rfl) trivial (by kernel_rfl)

abbrev Zq78_ps : List (PV.Mode × Ty) := [(.ro, QILQII), (.ro, I), (.ro, LI), (.ro, LI)]
abbrev Zq78_rs : List (Bool × Ty) := [(true, LLI), (true, .bool)]
noncomputable def Zq78_G (N : Nat) : GTab := gOf [(80, Zq121_S N)]
theorem Zq78_gok (N : Nat) : GOk Tryz.prog (Zq78_G N) := gOf_ok ⟨Zq121_pc N, trivial⟩
noncomputable def Zq78_code : Code := (Tryz.f28.body).getD .skip
noncomputable def Zq78 (N : Nat) (g : (Int × (List (Int × Int)))) (kv : Int) (a : (List Int)) (b : (List Int)) : Option (((List (List Int)) × Bool × Unit) × (Unit)) :=
 ((Zq121 N (g.1, g.2) kv true a b).bind fun r =>
 some ((r.1.1, r.1.2.1, ()), ()))
noncomputable def Zq78_S (N : Nat) : FSum := ⟨Zq78_ps, Zq78_rs, fun x => Zq78 N x.1 x.2.1 x.2.2.1 x.2.2.2.1⟩
theorem Zq78_pc (N : Nat) : PC Tryz.prog 28 (Zq78_S N) := pcQ (L := []) (Zq78_gok N) Tryz.call28 Tryz.func28 (fun x => by kernel_rfl) trivial (by kernel_rfl)

abbrev Zq29_ps : List (PV.Mode × Ty) := [(.ro, LI)]
abbrev Zq29_rs : List (Bool × Ty) := [(true, U64)]
noncomputable def Zq29_G (N : Nat) : GTab := gOf []
theorem Zq29_gok (N : Nat) : GOk Tryz.prog (Zq29_G N) := gOf_ok trivial
noncomputable def Zq29_code : Code := (Tryz.f76.body).getD .skip
noncomputable def Zq29_l0_sh : Sh := ⟨[(3, .one (.ro U64)), (6, .one (.ro LI)), (7, .one (.ro I)), (8, .one (.ro I))], []⟩
noncomputable def Zq29_l0_ex : List (Ex × Sh) := [(.exit 0, ⟨[(3, .one (.ro U64))], []⟩)]
noncomputable def Zq29_l0 {R : Type} (N : Nat) (k0 : Int → Option R) : Nat → Int → (List Int) → Int → Int → Option R
 | 0, _, _, _, _ => none
 | K + 1, out, x, x1, x2 =>
 (br (ilt x2 x1)
 ((chk (inb x x2)
 (chk (ile 0 (rdI x x2))
 (Zq29_l0 N k0 K (bitop .or .u64 out (shlI .u64 1 (rdI x x2))) x x1 (IntKind.i64.wrap (x2 + 1))))))
 (k0 out))
noncomputable def Zq29_l0_again {R : Type} (N : Nat) (ks : KS Zq29_l0_ex R) (k : Nat) (x : Zq29_l0_sh.T) : Option R :=
 Zq29_l0 N (fun y0 => ks 0 ((y0, ()), ())) k x.1.1 x.1.2.1 x.1.2.2.1 x.1.2.2.2.1
noncomputable def Zq29_l0_s (N : Nat) : LSum := ⟨Zq29_l0_sh, Zq29_l0_ex, fun x ks => Zq29_l0_again N ks N x⟩
theorem Zq29_l0_ok (N : Nat) : LoopOk Tryz.prog Tryz.f76.ntmps (Zq29_l0_s N) (loopAt Zq29_code 0) := loopQ (sh := Zq29_l0_sh) (ex := Zq29_l0_ex) (N := N) (L := []) (fun R k x ks => Zq29_l0_again N ks k x) (Zq29_gok N) (fun _ _ _ => rfl) (fun R k x ks => by kernel_rfl) trivial (by kernel_rfl)
noncomputable def Zq29 (N : Nat) (list : (List Int)) : Option ((Int × Unit) × (Unit)) :=
 Zq29_l0 N (fun out => some ((out, ()), ())) N 0 list (tLen list) 0
noncomputable def Zq29_S (N : Nat) : FSum := ⟨Zq29_ps, Zq29_rs, fun x => Zq29 N x.1⟩
theorem Zq29_pc (N : Nat) : PC Tryz.prog 76 (Zq29_S N) := pcQ (L := [Zq29_l0_s N]) (Zq29_gok N) Tryz.call76 Tryz.func76 (fun x => by kernel_rfl) ⟨Zq29_l0_ok N, trivial⟩ (by kernel_rfl)

abbrev Zq6_ps : List (PV.Mode × Ty) := [(.ro, QILQII)]
abbrev Zq6_rs : List (Bool × Ty) := [(true, U64)]
noncomputable def Zq6_G (N : Nat) : GTab := gOf []
theorem Zq6_gok (N : Nat) : GOk Tryz.prog (Zq6_G N) := gOf_ok trivial
noncomputable def Zq6_code : Code := (Tryz.f74.body).getD .skip
noncomputable def Zq6 (N : Nat) (g : (Int × (List (Int × Int)))) : Option ((Int × Unit) × (Unit)) :=
 (chk (ile 0 g.1)
 (some (((IntKind.u64.wrap ((shlI .u64 1 g.1) - 1)), ()), ())))
noncomputable def Zq6_S (N : Nat) : FSum := ⟨Zq6_ps, Zq6_rs, fun x => Zq6 N x.1⟩
theorem Zq6_pc (N : Nat) : PC Tryz.prog 74 (Zq6_S N) := pcQ (L := []) (Zq6_gok N) Tryz.call74 Tryz.func74 (fun x => by kernel_rfl) trivial (by kernel_rfl)
end Go.Proofs.YtkffaahlpdlkoaaGreat
