/- Functions of the program as functions on data. -/
import Derived.Test.YtkffaahlpdlkoaaGreatGreedyColoursLawFb
set_option linter.all false
namespace Go.Proofs.YtkffaahlpdlkoaaGreat
open Go Go.PV
/-! ### Zq7 -/
abbrev Zq7_ps : List (PV.Mode × Ty) := [(.ro, I), (.ro, AQILQII), (.mut, BLLI), (.mut, BLI), (.ro, AI), (.ro, S136)]
abbrev Zq7_rs : List (Bool × Ty) := [(true, .bool)]
noncomputable def Zq7_T (slf : (Int → (Int × (List (Int × Int))) → (List (List Int)) → (List Int) → Int → Unit → Option ((Bool × Unit) × ((List (List Int)) × (List Int) × Unit)))) : FSum := ⟨Zq7_ps, Zq7_rs, fun x => slf x.1 x.2.1 x.2.2.1 x.2.2.2.1 x.2.2.2.2.1 x.2.2.2.2.2.1⟩
noncomputable def Zq7_G (N : Nat) (slf : (Int → (Int × (List (Int × Int))) → (List (List Int)) → (List Int) → Int → Unit → Option ((Bool × Unit) × ((List (List Int)) × (List Int) × Unit)))) : GTab := gOf [(136, Zq7_T slf), (122, Zq44_S N), (66, Zq10_S N), (65, Zq46_S N), (137, Zq8_S N)]
theorem Zq7_gok (N : Nat) (slf : (Int → (Int × (List (Int × Int))) → (List (List Int)) → (List Int) → Int → Unit → Option ((Bool × Unit) × ((List (List Int)) × (List Int) × Unit)))) (hslf : PC Tryz.prog 136 (Zq7_T slf)) : GOk Tryz.prog (Zq7_G N slf) := gOf_ok ⟨hslf, Zq44_pc N, Zq10_pc N, Zq46_pc N, Zq8_pc N, trivial⟩
noncomputable def Zq7_code : Code := (Tryz.f136.body).getD .skip
noncomputable def Zq7_l0_sh : Sh := ⟨[(1, .one (.ro AQILQII)), (2, .one (.adr 0 0)), (3, .one (.adr 1 0)), (5, .one (.sadr 136 [.ro QILQII, .id 0, .id 1, .ro I, .me])), (6, .one (.adr 2 0)), (22, .one (.ro I)), (23, .one (.ro I))], [.mbox LLI, .mbox LI, .box [.ro I]]⟩
noncomputable def Zq7_l0_ex : List (Ex × Sh) := [(.ret, ⟨[(2, .one (.adr 0 0)), (3, .one (.adr 1 0)), (7, .one (.ro .bool))], [.mbox LLI, .mbox LI]⟩), (.exit 0, ⟨[(2, .one (.adr 0 0)), (3, .one (.adr 1 0))], [.mbox LLI, .mbox LI]⟩)]
noncomputable def Zq7_l0 {R : Type} (N : Nat) (slf : (Int → (Int × (List (Int × Int))) → (List (List Int)) → (List Int) → Int → Unit → Option ((Bool × Unit) × ((List (List Int)) × (List Int) × Unit)))) (k0 : Bool → (List (List Int)) → (List Int) → Option R) (k1 : (List (List Int)) → (List Int) → Option R) : Nat → (Int × (List (Int × Int))) → (Int × (List (Int × Int))) → Int → Int → Int → (List (List Int)) → (List Int) → Int → Option R
 | 0, _, _, _, _, _, _, _, _ => none
 | K + 1, x1, x2, x3, x4, x5, o, o1, o2 =>
 (br (ilt x5 x4)
 (((Zq10 N x1 o2).bind fun r1 =>
 ((Zq46 N r1.1.1 (fun y0 => (Zq8 N y0 o2 o1 x5).bind fun z => some z.1.1)).bind fun r2 =>
 (chk (inb o1 o2)
 (br (!r2.1.1)
 (((slf (IntKind.i64.wrap (o2 + 1)) x2 o (tSet o1 o2 x5) x3 ()).bind fun r3 =>
 (br (!r3.1.1)
 (k0 false r3.2.1 r3.2.2.1)
 (Zq7_l0 N slf k0 k1 K x1 x2 x3 x4 (IntKind.i64.wrap (x5 + 1)) r3.2.1 r3.2.2.1 o2))))
 (Zq7_l0 N slf k0 k1 K x1 x2 x3 x4 (IntKind.i64.wrap (x5 + 1)) o (tSet o1 o2 x5) o2))))))
 (k1 o o1))
noncomputable def Zq7_l0_again {R : Type} (N : Nat) (slf : (Int → (Int × (List (Int × Int))) → (List (List Int)) → (List Int) → Int → Unit → Option ((Bool × Unit) × ((List (List Int)) × (List Int) × Unit)))) (ks : KS Zq7_l0_ex R) (k : Nat) (x : Zq7_l0_sh.T) : Option R :=
 Zq7_l0 N slf (fun y0 y1 y2 => ks 0 (((), (), y0, ()), (y1, y2, ()))) (fun y0 y1 => ks 1 (((), (), ()), (y0, y1, ()))) k x.1.1 x.1.2.2.2.1.1 x.1.2.2.2.1.2.2.2.1 x.1.2.2.2.2.2.1 x.1.2.2.2.2.2.2.1 x.2.1 x.2.2.1 x.2.2.2.1.1
noncomputable def Zq7_l0_s (N : Nat) (slf : (Int → (Int × (List (Int × Int))) → (List (List Int)) → (List Int) → Int → Unit → Option ((Bool × Unit) × ((List (List Int)) × (List Int) × Unit)))) : LSum := ⟨Zq7_l0_sh, Zq7_l0_ex, fun x ks => Zq7_l0_again N slf ks N x⟩
theorem Zq7_l0_ok (N : Nat) (slf : (Int → (Int × (List (Int × Int))) → (List (List Int)) → (List Int) → Int → Unit → Option ((Bool × Unit) × ((List (List Int)) × (List Int) × Unit)))) (hslf : PC Tryz.prog 136 (Zq7_T slf)) : LoopOk Tryz.prog Tryz.f136.ntmps (Zq7_l0_s N slf) (loopAt Zq7_code 0) := loopQ (sh := Zq7_l0_sh) (ex := Zq7_l0_ex) (N := N) (L := []) (fun R k x ks => Zq7_l0_again N slf ks k x) (Zq7_gok N slf hslf) (fun _ _ _ => rfl) (fun R k x ks => by kernel_rfl) trivial (by kernel_rfl)
noncomputable def Zq7_b (N : Nat) (slf : (Int → (Int × (List (Int × Int))) → (List (List Int)) → (List Int) → Int → Unit → Option ((Bool × Unit) × ((List (List Int)) × (List Int) × Unit)))) (x : Int) (c : (Int × (List (Int × Int)))) (c1 : (List (List Int))) (c2 : (List Int)) (c3 : Int) (c4 : Unit) : Option ((Bool × Unit) × ((List (List Int)) × (List Int) × Unit)) :=
 (br (ieq x c.1)
 (((Zq44 N c2).bind fun r =>
 (chk (room c1 [r.1.1])
 (some (((ile (tLen (tApp c1 [r.1.1])) 300), ()), ((tApp c1 [r.1.1]), c2, ()))))))
 (Zq7_l0 N slf (fun x1 o o1 => some ((x1, ()), (o, o1, ()))) (fun o2 o3 => some ((true, ()), (o2, o3, ()))) N c c c3 c3 0 c1 c2 x))
theorem Zq7_bpc (N : Nat) (slf : (Int → (Int × (List (Int × Int))) → (List (List Int)) → (List Int) → Int → Unit → Option ((Bool × Unit) × ((List (List Int)) × (List Int) × Unit)))) (hslf : PC Tryz.prog 136 (Zq7_T slf)) : PC Tryz.prog 136 (Zq7_T (Zq7_b N slf)) := pcQ (L := [Zq7_l0_s N slf]) (Zq7_gok N slf hslf) Tryz.call136 Tryz.func136 (fun x => by kernel_rfl) ⟨Zq7_l0_ok N slf hslf, trivial⟩ (by kernel_rfl)
noncomputable def Zq7_r (N : Nat) : Nat → (Int → (Int × (List (Int × Int))) → (List (List Int)) → (List Int) → Int → Unit → Option ((Bool × Unit) × ((List (List Int)) × (List Int) × Unit)))
 | 0 => fun _ _ _ _ _ _ => none
 | K + 1 => Zq7_b N (Zq7_r N K)
theorem Zq7_rpc (N : Nat) : ∀ K, PC Tryz.prog 136 (Zq7_T (Zq7_r N K))
  | 0 => pc_none Tryz.call136
  | K + 1 => Zq7_bpc N (Zq7_r N K) (Zq7_rpc N K)
noncomputable def Zq7 (N : Nat) (x : Int) (c : (Int × (List (Int × Int)))) (c1 : (List (List Int))) (c2 : (List Int)) (c3 : Int) (c4 : Unit) : Option ((Bool × Unit) × ((List (List Int)) × (List Int) × Unit)) := Zq7_r N N x c c1 c2 c3 c4
noncomputable def Zq7_S (N : Nat) : FSum := ⟨Zq7_ps, Zq7_rs, fun x => Zq7 N x.1 x.2.1 x.2.2.1 x.2.2.2.1 x.2.2.2.2.1 x.2.2.2.2.2.1⟩
theorem Zq7_pc (N : Nat) : PC Tryz.prog 136 (Zq7_S N) := Zq7_rpc N N

/-! ### Zq6 -/
abbrev Zq6_ps : List (PV.Mode × Ty) := [(.ro, QILQII), (.ro, I)]
abbrev Zq6_rs : List (Bool × Ty) := [(true, LLI), (true, .bool)]
noncomputable def Zq6_G (N : Nat) : GTab := gOf [(136, Zq7_S N)]
theorem Zq6_gok (N : Nat) : GOk Tryz.prog (Zq6_G N) := gOf_ok ⟨Zq7_pc N, trivial⟩
noncomputable def Zq6_code : Code := (Tryz.f100.body).getD .skip
noncomputable def Zq6 (N : Nat) (g : (Int × (List (Int × Int)))) (kv : Int) : Option (((List (List Int)) × Bool × Unit) × (Unit)) :=
 (chk (ile 0 g.1 && ile g.1 g.1 && fits g.1)
 ((Zq7 N 0 (g.1, g.2) [] (tRep g.1 (0 : Int)) kv ()).bind fun r =>
 (br (!r.1.1)
 (some (([], false, ()), ()))
 (some ((r.2.1, true, ()), ())))))
noncomputable def Zq6_S (N : Nat) : FSum := ⟨Zq6_ps, Zq6_rs, fun x => Zq6 N x.1 x.2.1⟩
theorem Zq6_pc (N : Nat) : PC Tryz.prog 100 (Zq6_S N) := pcQ (L := []) (Zq6_gok N) Tryz.call100 Tryz.func100 (fun x => by kernel_rfl) trivial (by kernel_rfl)

/-! ### Zq4 -/
abbrev Zq4_ps : List (PV.Mode × Ty) := [(.ro, QILQII), (.ro, I)]
abbrev Zq4_rs : List (Bool × Ty) := [(true, LLI), (true, .bool)]
noncomputable def Zq4_G (N : Nat) : GTab := gOf [(86, Zq25_S N), (100, Zq6_S N)]
theorem Zq4_gok (N : Nat) : GOk Tryz.prog (Zq4_G N) := gOf_ok ⟨Zq25_pc N, Zq6_pc N, trivial⟩
noncomputable def Zq4_code : Code := (Tryz.f48.body).getD .skip
noncomputable def Zq4 (N : Nat) (g : (Int × (List (Int × Int)))) (kv : Int) : Option (((List (List Int)) × Bool × Unit) × (Unit)) :=
 ((Zq25 N (g.1, g.2) kv).bind fun r =>
 (br (!r.1.1)
 (some (([], false, ()), ()))
 (((Zq6 N (g.1, g.2) kv).bind fun r1 =>
 some ((r1.1.1, r1.1.2.1, ()), ())))))
noncomputable def Zq4_S (N : Nat) : FSum := ⟨Zq4_ps, Zq4_rs, fun x => Zq4 N x.1 x.2.1⟩
theorem Zq4_pc (N : Nat) : PC Tryz.prog 48 (Zq4_S N) := pcQ (L := []) (Zq4_gok N) Tryz.call48 Tryz.func48 (fun x => by kernel_rfl) trivial (by kernel_rfl)

/-! ### Zq45 -/
abbrev Zq45_ps : List (PV.Mode × Ty) := [(.ro, LI), (.ro, LI)]
abbrev Zq45_rs : List (Bool × Ty) := [(true, I)]
noncomputable def Zq45_G (N : Nat) : GTab := gOf [(140, Zq0_S N)]
theorem Zq45_gok (N : Nat) : GOk Tryz.prog (Zq45_G N) := gOf_ok ⟨Zq0_pc N, trivial⟩
noncomputable def Zq45_code : Code := (Tryz.f102.body).getD .skip
noncomputable def Zq45_l0_sh : Sh := ⟨[(0, .one (.ro LI)), (1, .one (.ro LI)), (9, .one (.ro LI)), (10, .one (.ro I)), (11, .one (.ro I))], []⟩
noncomputable def Zq45_l0_ex : List (Ex × Sh) := [(.ret, ⟨[(4, .one (.ro I))], []⟩), (.exit 0, ⟨[(0, .one (.ro LI)), (1, .one (.ro LI))], []⟩)]
noncomputable def Zq45_l0 {R : Type} (N : Nat) (k0 : Int → Option R) (k1 : (List Int) → (List Int) → Option R) : Nat → (List Int) → (List Int) → (List Int) → Int → Int → Option R
 | 0, _, _, _, _, _ => none
 | K + 1, s11, s21, x, x1, x2 =>
 (br (ilt x2 x1)
 ((chk (inb x x2)
 (br (ile (tLen s21) x2)
 (k0 1)
 ((chk (inb s21 x2)
 ((Zq0 N (rdI x x2) (rdI s21 x2)).bind fun r =>
 (br (ine r.1.1 0)
 (k0 r.1.1)
 (Zq45_l0 N k0 k1 K s11 s21 x x1 (IntKind.i64.wrap (x2 + 1))))))))))
 (k1 s11 s21))
noncomputable def Zq45_l0_again {R : Type} (N : Nat) (ks : KS Zq45_l0_ex R) (k : Nat) (x : Zq45_l0_sh.T) : Option R :=
 Zq45_l0 N (fun y0 => ks 0 ((y0, ()), ())) (fun y0 y1 => ks 1 ((y0, y1, ()), ())) k x.1.1 x.1.2.1 x.1.2.2.1 x.1.2.2.2.1 x.1.2.2.2.2.1
noncomputable def Zq45_l0_s (N : Nat) : LSum := ⟨Zq45_l0_sh, Zq45_l0_ex, fun x ks => Zq45_l0_again N ks N x⟩
theorem Zq45_l0_ok (N : Nat) : LoopOk Tryz.prog Tryz.f102.ntmps (Zq45_l0_s N) (loopAt Zq45_code 0) := loopQ (sh := Zq45_l0_sh) (ex := Zq45_l0_ex) (N := N) (L := []) (fun R k x ks => Zq45_l0_again N ks k x) (Zq45_gok N) (fun _ _ _ => rfl) (fun R k x ks => by kernel_rfl) trivial (by kernel_rfl)
noncomputable def Zq45 (N : Nat) (s1 : (List Int)) (s2 : (List Int)) : Option ((Int × Unit) × (Unit)) :=
 Zq45_l0 N (fun x => some ((x, ()), ())) (fun s11 s21 => (br (ilt (tLen s11) (tLen s21))
 (some (((-1), ()), ()))
 (some ((0, ()), ())))) N s1 s2 s1 (tLen s1) 0
noncomputable def Zq45_S (N : Nat) : FSum := ⟨Zq45_ps, Zq45_rs, fun x => Zq45 N x.1 x.2.1⟩
theorem Zq45_pc (N : Nat) : PC Tryz.prog 102 (Zq45_S N) := pcQ (L := [Zq45_l0_s N]) (Zq45_gok N) Tryz.call102 Tryz.func102 (fun x => by kernel_rfl) ⟨Zq45_l0_ok N, trivial⟩ (by kernel_rfl)

/-! ### Zq51 -/
abbrev Zq51_ps : List (PV.Mode × Ty) := [(.mut, LLI), (.own, K102Un)]
abbrev Zq51_rs : List (Bool × Ty) := []
noncomputable def Zq51 (N : Nat) (x : List (List Int)) (_ : Unit) : Option (Unit × (List (List Int) × Unit)) := sortF (fun a b => (Zq45 N a b).map fun z => z.1.1) x
noncomputable def Zq51_S (N : Nat) : FSum := ⟨Zq51_ps, Zq51_rs, fun x => Zq51 N x.1 x.2.1⟩
theorem Zq51_pc (N : Nat) : PC Tryz.prog 101 (Zq51_S N) := sortRows_pc (fc := fun a b => Zq45 N a b) (sortsAt Tryz.sortL) (sortsNone Tryz.sortL) Tryz.call101 (Zq45_pc N)

/-! ### Zq35 -/
abbrev Zq35_ps : List (PV.Mode × Ty) := [(.own, LLI), (.ro, GLILIBo)]
abbrev Zq35_rs : List (Bool × Ty) := [(true, QLLILQII)]
noncomputable def Zq35_G (N : Nat) : GTab := gOf [(101, Zq51_S N)]
theorem Zq35_gok (N : Nat) : GOk Tryz.prog (Zq35_G N) := gOf_ok ⟨Zq51_pc N, trivial⟩
noncomputable def Zq35_code : Code := (Tryz.f50.body).getD .skip
noncomputable def Zq35_l0_0_sh : Sh := ⟨[(1, .one (.ro GLILIBo)), (4, .one (.adr 0 0)), (5, .one (.adr 1 0)), (6, .one (.ro I)), (7, .one (.el 2)), (16, .one (.ref 2)), (17, .one (.ro I)), (18, .one (.ro I)), (27, .one (.sub 2 1)), (28, .one (.ro I)), (29, .one (.ro I))], [.box [.nilsl, .nilsl], .box [.ref 2, .ref 3], .sl 27 LI .deep, .sl 49 QII .own]⟩
noncomputable def Zq35_l0_0_ex : List (Ex × Sh) := [(.exit 2, ⟨[(1, .one (.ro GLILIBo)), (4, .one (.adr 0 0)), (5, .one (.adr 1 0)), (16, .one (.ref 2)), (17, .one (.ro I)), (18, .one (.ro I))], [.box [.nilsl, .nilsl], .box [.ref 2, .ref 3], .sl 27 LI .deep, .sl 49 QII .own]⟩)]
noncomputable def Zq35_l0_0 {R : Type} (N : Nat) (k0 : ((List Int) → (List Int) → Option Bool) → Int → Int → (List (List Int)) → (List (Int × Int)) → Option R) : Nat → ((List Int) → (List Int) → Option Bool) → Int → Int → Int → Int → Int → Int → Int → Int → (List (List Int)) → (List (Int × Int)) → Option R
 | 0, _, _, _, _, _, _, _, _, _, _, _ => none
 | K + 1, isStep2, i, a, x2, x3, x4, x5, x6, x7, o2, o3 =>
 (br (ilt x7 x6)
 ((chk (ile 0 x7 && ilt x7 (x5 - x4))
 ((isStep2 (rdL o2 a) (rdL o2 (x4 + x7))).bind fun v =>
 (br v
 ((chk (room o3 [(i, (IntKind.i64.wrap ((IntKind.i64.wrap (i + 1)) + x7)))])
 (Zq35_l0_0 N k0 K isStep2 i a x2 x3 x4 x5 x6 (IntKind.i64.wrap (x7 + 1)) o2 (tApp o3 [(i, (IntKind.i64.wrap ((IntKind.i64.wrap (i + 1)) + x7)))]))))
 (Zq35_l0_0 N k0 K isStep2 i a x2 x3 x4 x5 x6 (IntKind.i64.wrap (x7 + 1)) o2 o3)))))
 (k0 isStep2 x2 x3 o2 o3))
noncomputable def Zq35_l0_0_again {R : Type} (N : Nat) (ks : KS Zq35_l0_0_ex R) (k : Nat) (x : Zq35_l0_0_sh.T) : Option R :=
 Zq35_l0_0 N (fun y0 y1 y2 y3 y4 => ks 0 ((y0, (), (), (), y1, y2, ()), (((), (), ()), ((), (), ()), y3, y4, ()))) k x.1.1 x.1.2.2.2.1 x.1.2.2.2.2.1 x.1.2.2.2.2.2.2.1 x.1.2.2.2.2.2.2.2.1 x.1.2.2.2.2.2.2.2.2.1.1 x.1.2.2.2.2.2.2.2.2.1.2 x.1.2.2.2.2.2.2.2.2.2.1 x.1.2.2.2.2.2.2.2.2.2.2.1 x.2.2.2.1 x.2.2.2.2.1
noncomputable def Zq35_l0_0_s (N : Nat) : LSum := ⟨Zq35_l0_0_sh, Zq35_l0_0_ex, fun x ks => Zq35_l0_0_again N ks N x⟩
theorem Zq35_l0_0_ok (N : Nat) : LoopOk Tryz.prog Tryz.f50.ntmps (Zq35_l0_0_s N) (loopAt (loopAt Zq35_code 0) 0) := loopQ (sh := Zq35_l0_0_sh) (ex := Zq35_l0_0_ex) (N := N) (L := []) (fun R k x ks => Zq35_l0_0_again N ks k x) (Zq35_gok N) (fun _ _ _ => rfl) (fun R k x ks => by kernel_rfl) trivial (by kernel_rfl)
noncomputable def Zq35_l0_sh : Sh := ⟨[(1, .one (.ro GLILIBo)), (4, .one (.adr 0 0)), (5, .one (.adr 1 0)), (16, .one (.ref 2)), (17, .one (.ro I)), (18, .one (.ro I))], [.box [.nilsl, .nilsl], .box [.ref 2, .ref 3], .sl 27 LI .deep, .sl 49 QII .own]⟩
noncomputable def Zq35_l0_ex : List (Ex × Sh) := [(.exit 0, ⟨[(4, .one (.adr 0 0)), (5, .one (.adr 1 0))], [.box [.nilsl, .nilsl], .box [.ref 2, .ref 3], .sl 27 LI .deep, .sl 49 QII .own]⟩)]
noncomputable def Zq35_l0 {R : Type} (N : Nat) (k0 : (List (List Int)) → (List (Int × Int)) → Option R) : Nat → ((List Int) → (List Int) → Option Bool) → Int → Int → (List (List Int)) → (List (Int × Int)) → Option R
 | 0, _, _, _, _, _ => none
 | K + 1, isStep1, x, x1, o, o1 =>
 (br (ilt x1 x)
 ((chk (inb o x1)
 (chk (ile 0 (IntKind.i64.wrap (x1 + 1)) && ile (IntKind.i64.wrap (x1 + 1)) (tLen o) && ile (tLen o) (tLen o))
 (Zq35_l0_0 N (fun isStep2 x2 x3 o2 o3 => Zq35_l0 N k0 K isStep2 x2 (IntKind.i64.wrap (x3 + 1)) o2 o3) N isStep1 x1 x1 x x1 (IntKind.i64.wrap (x1 + 1)) (tLen o) ((tLen o) - (IntKind.i64.wrap (x1 + 1))) 0 o o1))))
 (k0 o o1))
noncomputable def Zq35_l0_again {R : Type} (N : Nat) (ks : KS Zq35_l0_ex R) (k : Nat) (x : Zq35_l0_sh.T) : Option R :=
 Zq35_l0 N (fun y0 y1 => ks 0 (((), (), ()), (((), (), ()), ((), (), ()), y0, y1, ()))) k x.1.1 x.1.2.2.2.2.1 x.1.2.2.2.2.2.1 x.2.2.2.1 x.2.2.2.2.1
noncomputable def Zq35_l0_s (N : Nat) : LSum := ⟨Zq35_l0_sh, Zq35_l0_ex, fun x ks => Zq35_l0_again N ks N x⟩
theorem Zq35_l0_ok (N : Nat) : LoopOk Tryz.prog Tryz.f50.ntmps (Zq35_l0_s N) (loopAt Zq35_code 0) := loopQ (sh := Zq35_l0_sh) (ex := Zq35_l0_ex) (N := N) (L := [Zq35_l0_0_s N]) (fun R k x ks => Zq35_l0_again N ks k x) (Zq35_gok N) (fun _ _ _ => rfl) (fun R k x ks => by kernel_rfl) ⟨Zq35_l0_0_ok N, trivial⟩ (by kernel_rfl)
noncomputable def Zq35 (N : Nat) (states : (List (List Int))) (isStep : ((List Int) → (List Int) → Option Bool)) : Option ((((List (List Int)) × (List (Int × Int))) × Unit) × (Unit)) :=
 ((Zq51 N states ()).bind fun r =>
 Zq35_l0 N (fun o o1 => some (((o, o1), ()), ())) N isStep (tLen r.2.1) 0 r.2.1 [])
noncomputable def Zq35_S (N : Nat) : FSum := ⟨Zq35_ps, Zq35_rs, fun x => Zq35 N x.1 x.2.1⟩
theorem Zq35_pc (N : Nat) : PC Tryz.prog 50 (Zq35_S N) := pcQ (L := [Zq35_l0_s N]) (Zq35_gok N) Tryz.call50 Tryz.func50 (fun x => by kernel_rfl) ⟨Zq35_l0_ok N, trivial⟩ (by kernel_rfl)

/-! ### Zq34 -/
abbrev Zq34_ps : List (PV.Mode × Ty) := [(.ro, LI), (.ro, LI)]
abbrev Zq34_rs : List (Bool × Ty) := [(true, LI)]
noncomputable def Zq34_G (N : Nat) : GTab := gOf []
theorem Zq34_gok (N : Nat) : GOk Tryz.prog (Zq34_G N) := gOf_ok trivial
noncomputable def Zq34_code : Code := (Tryz.f82.body).getD .skip
noncomputable def Zq34_l0_sh : Sh := ⟨[(1, .one (.ro LI)), (5, .one (.ref 0)), (9, .one (.ro LI)), (10, .one (.ro I)), (11, .one (.ro I))], [.sl 3 I .own]⟩
noncomputable def Zq34_l0_ex : List (Ex × Sh) := [(.exit 0, ⟨[(5, .one (.ref 0))], [.sl 3 I .own]⟩)]
noncomputable def Zq34_l0 {R : Type} (N : Nat) (k0 : (List Int) → Option R) : Nat → (List Int) → (List Int) → Int → Int → (List Int) → Option R
 | 0, _, _, _, _, _ => none
 | K + 1, b1, x, x1, x2, o =>
 (br (ilt x2 x1)
 ((chk (inb x x2)
 (chk (inb b1 x2)
 (br (ine (rdI b1 x2) (rdI x x2))
 ((chk (room o [x2])
 (Zq34_l0 N k0 K b1 x x1 (IntKind.i64.wrap (x2 + 1)) (tApp o [x2]))))
 (Zq34_l0 N k0 K b1 x x1 (IntKind.i64.wrap (x2 + 1)) o)))))
 (k0 o))
noncomputable def Zq34_l0_again {R : Type} (N : Nat) (ks : KS Zq34_l0_ex R) (k : Nat) (x : Zq34_l0_sh.T) : Option R :=
 Zq34_l0 N (fun y0 => ks 0 (((), ()), (y0, ()))) k x.1.1 x.1.2.2.1 x.1.2.2.2.1 x.1.2.2.2.2.1 x.2.1
noncomputable def Zq34_l0_s (N : Nat) : LSum := ⟨Zq34_l0_sh, Zq34_l0_ex, fun x ks => Zq34_l0_again N ks N x⟩
theorem Zq34_l0_ok (N : Nat) : LoopOk Tryz.prog Tryz.f82.ntmps (Zq34_l0_s N) (loopAt Zq34_code 0) := loopQ (sh := Zq34_l0_sh) (ex := Zq34_l0_ex) (N := N) (L := []) (fun R k x ks => Zq34_l0_again N ks k x) (Zq34_gok N) (fun _ _ _ => rfl) (fun R k x ks => by kernel_rfl) trivial (by kernel_rfl)
noncomputable def Zq34 (N : Nat) (a : (List Int)) (b : (List Int)) : Option (((List Int) × Unit) × (Unit)) :=
 Zq34_l0 N (fun o => some ((o, ()), ())) N b a (tLen a) 0 []
noncomputable def Zq34_S (N : Nat) : FSum := ⟨Zq34_ps, Zq34_rs, fun x => Zq34 N x.1 x.2.1⟩
theorem Zq34_pc (N : Nat) : PC Tryz.prog 82 (Zq34_S N) := pcQ (L := [Zq34_l0_s N]) (Zq34_gok N) Tryz.call82 Tryz.func82 (fun x => by kernel_rfl) ⟨Zq34_l0_ok N, trivial⟩ (by kernel_rfl)

/-! ### Zq24 -/
abbrev Zq24_ps : List (PV.Mode × Ty) := [(.ro, LI), (.ro, LI)]
abbrev Zq24_rs : List (Bool × Ty) := [(true, .bool)]
noncomputable def Zq24_G (N : Nat) : GTab := gOf [(82, Zq34_S N)]
theorem Zq24_gok (N : Nat) : GOk Tryz.prog (Zq24_G N) := gOf_ok ⟨Zq34_pc N, trivial⟩
noncomputable def Zq24_code : Code := (Tryz.f51.body).getD .skip
noncomputable def Zq24 (N : Nat) (a : (List Int)) (b : (List Int)) : Option ((Bool × Unit) × (Unit)) :=
 ((Zq34 N a b).bind fun r =>
 some (((ieq (tLen r.1.1) 1), ()), ()))
noncomputable def Zq24_S (N : Nat) : FSum := ⟨Zq24_ps, Zq24_rs, fun x => Zq24 N x.1 x.2.1⟩
theorem Zq24_pc (N : Nat) : PC Tryz.prog 51 (Zq24_S N) := pcQ (L := []) (Zq24_gok N) Tryz.call51 Tryz.func51 (fun x => by kernel_rfl) trivial (by kernel_rfl)

/-! ### Zq31 -/
abbrev Zq31_ps : List (PV.Mode × Ty) := [(.own, QLLILQII)]
abbrev Zq31_rs : List (Bool × Ty) := [(true, QLLILQII), (true, .bool)]
noncomputable def Zq31_G (N : Nat) : GTab := gOf []
theorem Zq31_gok (N : Nat) : GOk Tryz.prog (Zq31_G N) := gOf_ok trivial
noncomputable def Zq31_code : Code := (Tryz.f49.body).getD .skip
noncomputable def Zq31 (N : Nat) (x : ((List (List Int)) × (List (Int × Int)))) : Option ((((List (List Int)) × (List (Int × Int))) × Bool × Unit) × (Unit)) :=
 (br (ilt 300 (tLen x.1))
 (some ((([], []), false, ()), ()))
 ((br (ilt 6000 (tLen x.2))
 (some ((([], []), false, ()), ()))
 (some (((x.1, x.2), true, ()), ())))))
noncomputable def Zq31_S (N : Nat) : FSum := ⟨Zq31_ps, Zq31_rs, fun x => Zq31 N x.1⟩
theorem Zq31_pc (N : Nat) : PC Tryz.prog 49 (Zq31_S N) := pcQ (L := []) (Zq31_gok N) Tryz.call49 Tryz.func49 (fun x => by kernel_rfl) trivial (by kernel_rfl)

/-! ### Zq3 -/
abbrev Zq3_ps : List (PV.Mode × Ty) := [(.ro, QILQII), (.ro, I)]
abbrev Zq3_rs : List (Bool × Ty) := [(true, QLLILQII), (true, .bool)]
noncomputable def Zq3_G (N : Nat) : GTab := gOf [(48, Zq4_S N), (50, Zq35_S N), (51, Zq24_S N), (49, Zq31_S N)]
theorem Zq3_gok (N : Nat) : GOk Tryz.prog (Zq3_G N) := gOf_ok ⟨Zq4_pc N, Zq35_pc N, Zq24_pc N, Zq31_pc N, trivial⟩
noncomputable def Zq3_code : Code := (Tryz.f10.body).getD .skip
noncomputable def Zq3 (N : Nat) (g : (Int × (List (Int × Int)))) (kv : Int) : Option ((((List (List Int)) × (List (Int × Int))) × Bool × Unit) × (Unit)) :=
 ((Zq4 N (g.1, g.2) kv).bind fun r =>
 (br (!r.1.2.1)
 (some ((([], []), false, ()), ()))
 (((Zq35 N r.1.1 (fun y0 y1 => (Zq24 N y0 y1).bind fun z => some z.1.1)).bind fun r1 =>
 ((Zq31 N (r1.1.1.1, r1.1.1.2)).bind fun r2 =>
 some (((r2.1.1.1, r2.1.1.2), r2.1.2.1, ()), ()))))))
noncomputable def Zq3_S (N : Nat) : FSum := ⟨Zq3_ps, Zq3_rs, fun x => Zq3 N x.1 x.2.1⟩
theorem Zq3_pc (N : Nat) : PC Tryz.prog 10 (Zq3_S N) := pcQ (L := []) (Zq3_gok N) Tryz.call10 Tryz.func10 (fun x => by kernel_rfl) trivial (by kernel_rfl)

/-! ### Zq52 -/
abbrev Zq52_ps : List (PV.Mode × Ty) := [(.mut, LI)]
abbrev Zq52_rs : List (Bool × Ty) := []
noncomputable def Zq52 (N : Nat) (x : List Int) : Option (Unit × (List Int × Unit)) := sortIF x
noncomputable def Zq52_S (N : Nat) : FSum := ⟨Zq52_ps, Zq52_rs, fun x => Zq52 N x.1⟩
theorem Zq52_pc (N : Nat) : PC Tryz.prog 106 (Zq52_S N) := sortInts_pc (sortsI Tryz.sortIL) (sortsINone Tryz.sortIL) Tryz.call106

/-! ### Zq18 -/
abbrev Zq18_ps : List (PV.Mode × Ty) := [(.ro, QLLILQII)]
abbrev Zq18_rs : List (Bool × Ty) := [(true, LLI)]
noncomputable def Zq18_G (N : Nat) : GTab := gOf [(106, Zq52_S N)]
theorem Zq18_gok (N : Nat) : GOk Tryz.prog (Zq18_G N) := gOf_ok ⟨Zq52_pc N, trivial⟩
noncomputable def Zq18_code : Code := (Tryz.f56.body).getD .skip
noncomputable def Zq18_l0_sh : Sh := ⟨[(3, .one (.ref 0)), (13, .one (.ro LQII)), (14, .one (.ro I)), (15, .one (.ro I))], [.sl 27 LI .deep]⟩
noncomputable def Zq18_l0_ex : List (Ex × Sh) := [(.exit 0, ⟨[(3, .one (.ref 0))], [.sl 27 LI .deep]⟩)]
noncomputable def Zq18_l0 {R : Type} (N : Nat) (k0 : (List (List Int)) → Option R) : Nat → (List (Int × Int)) → Int → Int → (List (List Int)) → Option R
 | 0, _, _, _, _ => none
 | K + 1, x1, x2, x3, o =>
 (br (ilt x3 x2)
 ((chk (inb x1 x3)
 (chk (inb o ((rdP x1 x3).1))
 (chk (room (rdL o ((rdP x1 x3).1)) [(rdP x1 x3).2])
 (chk (inb o ((rdP x1 x3).1))
 (chk (ieq ((rdP x1 x3).1) ((rdP x1 x3).1))
 (chk (inb (tSet o ((rdP x1 x3).1) (tApp (rdL o ((rdP x1 x3).1)) [(rdP x1 x3).2])) ((rdP x1 x3).2))
 (chk (room (rdL (tSet o ((rdP x1 x3).1) (tApp (rdL o ((rdP x1 x3).1)) [(rdP x1 x3).2])) ((rdP x1 x3).2)) [(rdP x1 x3).1])
 (chk (inb (tSet o ((rdP x1 x3).1) (tApp (rdL o ((rdP x1 x3).1)) [(rdP x1 x3).2])) ((rdP x1 x3).2))
 (chk (ieq ((rdP x1 x3).2) ((rdP x1 x3).2))
 (Zq18_l0 N k0 K x1 x2 (IntKind.i64.wrap (x3 + 1)) (tSet (tSet o ((rdP x1 x3).1) (tApp (rdL o ((rdP x1 x3).1)) [(rdP x1 x3).2])) ((rdP x1 x3).2) (tApp (rdL (tSet o ((rdP x1 x3).1) (tApp (rdL o ((rdP x1 x3).1)) [(rdP x1 x3).2])) ((rdP x1 x3).2)) [(rdP x1 x3).1])))))))))))))
 (k0 o))
noncomputable def Zq18_l0_again {R : Type} (N : Nat) (ks : KS Zq18_l0_ex R) (k : Nat) (x : Zq18_l0_sh.T) : Option R :=
 Zq18_l0 N (fun y0 => ks 0 (((), ()), (y0, ()))) k x.1.2.1 x.1.2.2.1 x.1.2.2.2.1 x.2.1
noncomputable def Zq18_l0_s (N : Nat) : LSum := ⟨Zq18_l0_sh, Zq18_l0_ex, fun x ks => Zq18_l0_again N ks N x⟩
theorem Zq18_l0_ok (N : Nat) : LoopOk Tryz.prog Tryz.f56.ntmps (Zq18_l0_s N) (loopAt Zq18_code 0) := loopQ (sh := Zq18_l0_sh) (ex := Zq18_l0_ex) (N := N) (L := []) (fun R k x ks => Zq18_l0_again N ks k x) (Zq18_gok N) (fun _ _ _ => rfl) (fun R k x ks => by kernel_rfl) trivial (by kernel_rfl)
noncomputable def Zq18_l1_sh : Sh := ⟨[(3, .one (.ref 0)), (46, .one (.ref 0)), (47, .one (.ro I)), (48, .one (.ro I))], [.sl 27 LI .deep]⟩
noncomputable def Zq18_l1_ex : List (Ex × Sh) := [(.exit 2, ⟨[(3, .one (.ref 0))], [.sl 27 LI .deep]⟩)]
noncomputable def Zq18_l1 {R : Type} (N : Nat) (k0 : (List (List Int)) → Option R) : Nat → Int → Int → (List (List Int)) → Option R
 | 0, _, _, _ => none
 | K + 1, x1, x2, o1 =>
 (br (ilt x2 x1)
 ((chk (inb o1 x2)
 ((Zq52 N (rdL o1 x2)).bind fun r =>
 Zq18_l1 N k0 K x1 (IntKind.i64.wrap (x2 + 1)) (tSet o1 x2 r.2.1))))
 (k0 o1))
noncomputable def Zq18_l1_again {R : Type} (N : Nat) (ks : KS Zq18_l1_ex R) (k : Nat) (x : Zq18_l1_sh.T) : Option R :=
 Zq18_l1 N (fun y0 => ks 0 (((), ()), (y0, ()))) k x.1.2.2.1 x.1.2.2.2.1 x.2.1
noncomputable def Zq18_l1_s (N : Nat) : LSum := ⟨Zq18_l1_sh, Zq18_l1_ex, fun x ks => Zq18_l1_again N ks N x⟩
theorem Zq18_l1_ok (N : Nat) : LoopOk Tryz.prog Tryz.f56.ntmps (Zq18_l1_s N) (loopAt Zq18_code 1) := loopQ (sh := Zq18_l1_sh) (ex := Zq18_l1_ex) (N := N) (L := []) (fun R k x ks => Zq18_l1_again N ks k x) (Zq18_gok N) (fun _ _ _ => rfl) (fun R k x ks => by kernel_rfl) trivial (by kernel_rfl)
noncomputable def Zq18 (N : Nat) (x : ((List (List Int)) × (List (Int × Int)))) : Option (((List (List Int)) × Unit) × (Unit)) :=
 (chk (ile 0 (tLen x.1) && ile (tLen x.1) (tLen x.1) && fits (tLen x.1))
 (Zq18_l0 N (fun o => Zq18_l1 N (fun o1 => some ((o1, ()), ())) N (tLen o) 0 o) N x.2 (tLen x.2) 0 (tRep (tLen x.1) [])))
noncomputable def Zq18_S (N : Nat) : FSum := ⟨Zq18_ps, Zq18_rs, fun x => Zq18 N x.1⟩
theorem Zq18_pc (N : Nat) : PC Tryz.prog 56 (Zq18_S N) := pcQ (L := [Zq18_l0_s N, Zq18_l1_s N]) (Zq18_gok N) Tryz.call56 Tryz.func56 (fun x => by kernel_rfl) ⟨Zq18_l0_ok N, Zq18_l1_ok N, trivial⟩ (by kernel_rfl)

/-! ### Zq33 -/
abbrev Zq33_ps : List (PV.Mode × Ty) := [(.ro, LLI), (.ro, I)]
abbrev Zq33_rs : List (Bool × Ty) := [(true, LLI)]
noncomputable def Zq33_G (N : Nat) : GTab := gOf [(106, Zq52_S N)]
theorem Zq33_gok (N : Nat) : GOk Tryz.prog (Zq33_G N) := gOf_ok ⟨Zq52_pc N, trivial⟩
noncomputable def Zq33_code : Code := (Tryz.f71.body).getD .skip
noncomputable def Zq33_l0_0_0_sh : Sh := ⟨[(0, .one (.ro LLI)), (5, .one (.ref 0)), (6, .one (.ref 1)), (8, .one (.ref 2)), (9, .one (.ro I)), (22, .one (.ro I)), (23, .one (.ro I)), (47, .one (.ro LI)), (48, .one (.ro I)), (49, .one (.ro I))], [.sl 27 LI .deep, .sl 4 .bool .own, .sl 3 I .own]⟩
noncomputable def Zq33_l0_0_0_ex : List (Ex × Sh) := [(.exit 4, ⟨[(0, .one (.ro LLI)), (5, .one (.ref 0)), (6, .one (.ref 1)), (8, .one (.ref 2)), (9, .one (.ro I)), (22, .one (.ro I)), (23, .one (.ro I))], [.sl 27 LI .deep, .sl 4 .bool .own, .sl 3 I .own]⟩)]
noncomputable def Zq33_l0_0_0 {R : Type} (N : Nat) (k0 : (List (List Int)) → Int → Int → Int → (List (List Int)) → (List Bool) → (List Int) → Option R) : Nat → (List (List Int)) → Int → Int → Int → (List Int) → Int → Int → (List (List Int)) → (List Bool) → (List Int) → Option R
 | 0, _, _, _, _, _, _, _, _, _, _ => none
 | K + 1, x7, x8, x9, x10, x11, x12, x13, o5, o6, o7 =>
 (br (ilt x13 x12)
 ((chk (inb x11 x13)
 (chk (inb o6 (rdI x11 x13))
 (br (!(rdB o6 (rdI x11 x13)))
 ((chk (inb o6 (rdI x11 x13))
 (chk (room o7 [(rdI x11 x13)])
 (Zq33_l0_0_0 N k0 K x7 x8 x9 x10 x11 x12 (IntKind.i64.wrap (x13 + 1)) o5 (tSet o6 (rdI x11 x13) true) (tApp o7 [(rdI x11 x13)])))))
 (Zq33_l0_0_0 N k0 K x7 x8 x9 x10 x11 x12 (IntKind.i64.wrap (x13 + 1)) o5 o6 o7)))))
 (k0 x7 x8 x9 x10 o5 o6 o7))
noncomputable def Zq33_l0_0_0_again {R : Type} (N : Nat) (ks : KS Zq33_l0_0_0_ex R) (k : Nat) (x : Zq33_l0_0_0_sh.T) : Option R :=
 Zq33_l0_0_0 N (fun y0 y1 y2 y3 y4 y5 y6 => ks 0 ((y0, (), (), (), y1, y2, y3, ()), (y4, y5, y6, ()))) k x.1.1 x.1.2.2.2.2.1 x.1.2.2.2.2.2.1 x.1.2.2.2.2.2.2.1 x.1.2.2.2.2.2.2.2.1 x.1.2.2.2.2.2.2.2.2.1 x.1.2.2.2.2.2.2.2.2.2.1 x.2.1 x.2.2.1 x.2.2.2.1
noncomputable def Zq33_l0_0_0_s (N : Nat) : LSum := ⟨Zq33_l0_0_0_sh, Zq33_l0_0_0_ex, fun x ks => Zq33_l0_0_0_again N ks N x⟩
theorem Zq33_l0_0_0_ok (N : Nat) : LoopOk Tryz.prog Tryz.f71.ntmps (Zq33_l0_0_0_s N) (loopAt (loopAt (loopAt Zq33_code 0) 0) 0) := loopQ (sh := Zq33_l0_0_0_sh) (ex := Zq33_l0_0_0_ex) (N := N) (L := []) (fun R k x ks => Zq33_l0_0_0_again N ks k x) (Zq33_gok N) (fun _ _ _ => rfl) (fun R k x ks => by kernel_rfl) trivial (by kernel_rfl)
noncomputable def Zq33_l0_0_sh : Sh := ⟨[(0, .one (.ro LLI)), (5, .one (.ref 0)), (6, .one (.ref 1)), (8, .one (.ref 2)), (9, .one (.ro I)), (22, .one (.ro I)), (23, .one (.ro I))], [.sl 27 LI .deep, .sl 4 .bool .own, .sl 3 I .own]⟩
noncomputable def Zq33_l0_0_ex : List (Ex × Sh) := [(.exit 2, ⟨[(0, .one (.ro LLI)), (5, .one (.ref 0)), (6, .one (.ref 1)), (8, .one (.ref 2)), (22, .one (.ro I)), (23, .one (.ro I))], [.sl 27 LI .deep, .sl 4 .bool .own, .sl 3 I .own]⟩)]
noncomputable def Zq33_l0_0 {R : Type} (N : Nat) (k0 : (List (List Int)) → Int → Int → (List (List Int)) → (List Bool) → (List Int) → Option R) : Nat → (List (List Int)) → Int → Int → Int → (List (List Int)) → (List Bool) → (List Int) → Option R
 | 0, _, _, _, _, _, _, _ => none
 | K + 1, x3, x4, x5, x6, o2, o3, o4 =>
 (br (ilt x4 (tLen o4))
 ((chk (inb o4 x4)
 (chk (inb x3 (rdI o4 x4))
 (Zq33_l0_0_0 N (fun x7 x8 x9 x10 o5 o6 o7 => Zq33_l0_0 N k0 K x7 (IntKind.i64.wrap (x8 + 1)) x9 x10 o5 o6 o7) N x3 x4 x5 x6 (rdL x3 (rdI o4 x4)) (tLen (rdL x3 (rdI o4 x4))) 0 o2 o3 o4))))
 (k0 x3 x5 x6 o2 o3 o4))
noncomputable def Zq33_l0_0_again {R : Type} (N : Nat) (ks : KS Zq33_l0_0_ex R) (k : Nat) (x : Zq33_l0_0_sh.T) : Option R :=
 Zq33_l0_0 N (fun y0 y1 y2 y3 y4 y5 => ks 0 ((y0, (), (), (), y1, y2, ()), (y3, y4, y5, ()))) k x.1.1 x.1.2.2.2.2.1 x.1.2.2.2.2.2.1 x.1.2.2.2.2.2.2.1 x.2.1 x.2.2.1 x.2.2.2.1
noncomputable def Zq33_l0_0_s (N : Nat) : LSum := ⟨Zq33_l0_0_sh, Zq33_l0_0_ex, fun x ks => Zq33_l0_0_again N ks N x⟩
theorem Zq33_l0_0_ok (N : Nat) : LoopOk Tryz.prog Tryz.f71.ntmps (Zq33_l0_0_s N) (loopAt (loopAt Zq33_code 0) 0) := loopQ (sh := Zq33_l0_0_sh) (ex := Zq33_l0_0_ex) (N := N) (L := [Zq33_l0_0_0_s N]) (fun R k x ks => Zq33_l0_0_again N ks k x) (Zq33_gok N) (fun _ _ _ => rfl) (fun R k x ks => by kernel_rfl) ⟨Zq33_l0_0_0_ok N, trivial⟩ (by kernel_rfl)
noncomputable def Zq33_l0_sh : Sh := ⟨[(0, .one (.ro LLI)), (5, .one (.ref 0)), (6, .one (.ref 1)), (22, .one (.ro I)), (23, .one (.ro I))], [.sl 27 LI .deep, .sl 4 .bool .own]⟩
noncomputable def Zq33_l0_ex : List (Ex × Sh) := [(.exit 0, ⟨[(5, .one (.ref 0))], [.sl 27 LI .deep]⟩)]
noncomputable def Zq33_l0 {R : Type} (N : Nat) (k0 : (List (List Int)) → Option R) : Nat → (List (List Int)) → Int → Int → (List (List Int)) → (List Bool) → Option R
 | 0, _, _, _, _, _ => none
 | K + 1, x, x1, x2, o, o1 =>
 (br (ilt x2 x1)
 ((chk (inb o1 x2)
 (br (rdB o1 x2)
 (Zq33_l0 N k0 K x x1 (IntKind.i64.wrap (x2 + 1)) o o1)
 ((chk (inb o1 x2)
 (Zq33_l0_0 N (fun x3 x4 x5 o2 o3 o4 => ((Zq52 N o4).bind fun r =>
 (chk (room o2 [r.2.1])
 (Zq33_l0 N k0 K x3 x4 (IntKind.i64.wrap (x5 + 1)) (tApp o2 [r.2.1]) o3)))) N x 0 x1 x2 o (tSet o1 x2 true) [x2]))))))
 (k0 o))
noncomputable def Zq33_l0_again {R : Type} (N : Nat) (ks : KS Zq33_l0_ex R) (k : Nat) (x : Zq33_l0_sh.T) : Option R :=
 Zq33_l0 N (fun y0 => ks 0 (((), ()), (y0, ()))) k x.1.1 x.1.2.2.2.1 x.1.2.2.2.2.1 x.2.1 x.2.2.1
noncomputable def Zq33_l0_s (N : Nat) : LSum := ⟨Zq33_l0_sh, Zq33_l0_ex, fun x ks => Zq33_l0_again N ks N x⟩
theorem Zq33_l0_ok (N : Nat) : LoopOk Tryz.prog Tryz.f71.ntmps (Zq33_l0_s N) (loopAt Zq33_code 0) := loopQ (sh := Zq33_l0_sh) (ex := Zq33_l0_ex) (N := N) (L := [Zq33_l0_0_s N]) (fun R k x ks => Zq33_l0_again N ks k x) (Zq33_gok N) (fun _ _ _ => rfl) (fun R k x ks => by kernel_rfl) ⟨Zq33_l0_0_ok N, trivial⟩ (by kernel_rfl)
noncomputable def Zq33 (N : Nat) (c : (List (List Int))) (c1 : Int) : Option (((List (List Int)) × Unit) × (Unit)) :=
 (chk (ile 0 (tLen c) && ile (tLen c) (tLen c) && fits (tLen c))
 (br (ile 0 c1)
 ((chk (inb (tRep (tLen c) false) c1)
 (Zq33_l0 N (fun o => some ((o, ()), ())) N c (tLen c) 0 [] (tSet (tRep (tLen c) false) c1 true))))
 (Zq33_l0 N (fun o1 => some ((o1, ()), ())) N c (tLen c) 0 [] (tRep (tLen c) false))))
noncomputable def Zq33_S (N : Nat) : FSum := ⟨Zq33_ps, Zq33_rs, fun x => Zq33 N x.1 x.2.1⟩
theorem Zq33_pc (N : Nat) : PC Tryz.prog 71 (Zq33_S N) := pcQ (L := [Zq33_l0_s N]) (Zq33_gok N) Tryz.call71 Tryz.func71 (fun x => by kernel_rfl) ⟨Zq33_l0_ok N, trivial⟩ (by kernel_rfl)

/-! ### Zq15 -/
abbrev Zq15_ps : List (PV.Mode × Ty) := [(.ro, QILQII)]
abbrev Zq15_rs : List (Bool × Ty) := [(true, I), (true, .bool)]
noncomputable def Zq15_G (N : Nat) : GTab := gOf [(10, Zq3_S N), (56, Zq18_S N), (71, Zq33_S N)]
theorem Zq15_gok (N : Nat) : GOk Tryz.prog (Zq15_G N) := gOf_ok ⟨Zq3_pc N, Zq18_pc N, Zq33_pc N, trivial⟩
noncomputable def Zq15_code : Code := (Tryz.f19.body).getD .skip
noncomputable def Zq15_l0_sh : Sh := ⟨[(1, .one (.adr 0 0)), (4, .one (.ro I))], [.box [.ro I, .ro LQII]]⟩
noncomputable def Zq15_l0_ex : List (Ex × Sh) := [(.ret, ⟨[(2, .one (.ro I)), (3, .one (.ro .bool))], []⟩), (.exit 0, ⟨[], []⟩)]
noncomputable def Zq15_l0 {R : Type} (N : Nat) (k0 : Int → Bool → Option R) (k1 : Unit → Option R) : Nat → Int → Int → (List (Int × Int)) → Option R
 | 0, _, _, _ => none
 | K + 1, kv, o, o1 =>
 (br (ile kv 5)
 (((Zq3 N (o, o1) kv).bind fun r =>
 (br (!r.1.2.1)
 (k0 0 false)
 (((Zq18 N (r.1.1.1, r.1.1.2)).bind fun r1 =>
 ((Zq33 N r1.1.1 (-1)).bind fun r2 =>
 (br (ieq (tLen r2.1.1) 1)
 (k0 kv true)
 (Zq15_l0 N k0 k1 K (IntKind.i64.wrap (kv + 1)) o o1))))))))
 (k1 ()))
noncomputable def Zq15_l0_again {R : Type} (N : Nat) (ks : KS Zq15_l0_ex R) (k : Nat) (x : Zq15_l0_sh.T) : Option R :=
 Zq15_l0 N (fun y0 y1 => ks 0 ((y0, y1, ()), ())) (fun (_ : Unit) => ks 1 ((), ())) k x.1.2.1 x.2.1.1 x.2.1.2.1
noncomputable def Zq15_l0_s (N : Nat) : LSum := ⟨Zq15_l0_sh, Zq15_l0_ex, fun x ks => Zq15_l0_again N ks N x⟩
theorem Zq15_l0_ok (N : Nat) : LoopOk Tryz.prog Tryz.f19.ntmps (Zq15_l0_s N) (loopAt Zq15_code 0) := loopQ (sh := Zq15_l0_sh) (ex := Zq15_l0_ex) (N := N) (L := []) (fun R k x ks => Zq15_l0_again N ks k x) (Zq15_gok N) (fun _ _ _ => rfl) (fun R k x ks => by kernel_rfl) trivial (by kernel_rfl)
noncomputable def Zq15 (N : Nat) (g : (Int × (List (Int × Int)))) : Option ((Int × Bool × Unit) × (Unit)) :=
 Zq15_l0 N (fun x x1 => some ((x, x1, ()), ())) (fun (_ : Unit) => some ((0, false, ()), ())) N 1 g.1 g.2
noncomputable def Zq15_S (N : Nat) : FSum := ⟨Zq15_ps, Zq15_rs, fun x => Zq15 N x.1⟩
theorem Zq15_pc (N : Nat) : PC Tryz.prog 19 (Zq15_S N) := pcQ (L := [Zq15_l0_s N]) (Zq15_gok N) Tryz.call19 Tryz.func19 (fun x => by kernel_rfl) ⟨Zq15_l0_ok N, trivial⟩ (by kernel_rfl)

/-! ### Zq84 -/
abbrev Zq84_ps : List (PV.Mode × Ty) := [(.ro, QILQII), (.ro, I)]
abbrev Zq84_rs : List (Bool × Ty) := [(true, .bool)]
noncomputable def Zq84_G (N : Nat) : GTab := gOf [(41, Zq74_S N), (92, Zq68_S N)]
theorem Zq84_gok (N : Nat) : GOk Tryz.prog (Zq84_G N) := gOf_ok ⟨Zq74_pc N, Zq68_pc N, trivial⟩
noncomputable def Zq84_code : Code := (Tryz.f99.body).getD .skip
noncomputable def Zq84 (N : Nat) (g : (Int × (List (Int × Int)))) (kv : Int) : Option ((Bool × Unit) × (Unit)) :=
 ((Zq74 N (g.1, g.2)).bind fun r =>
 (br r.1.1
 (((Zq68 N kv 1 5).bind fun r1 =>
 some ((r1.1.1, ()), ())))
 (some ((false, ()), ()))))
noncomputable def Zq84_S (N : Nat) : FSum := ⟨Zq84_ps, Zq84_rs, fun x => Zq84 N x.1 x.2.1⟩
theorem Zq84_pc (N : Nat) : PC Tryz.prog 99 (Zq84_S N) := pcQ (L := []) (Zq84_gok N) Tryz.call99 Tryz.func99 (fun x => by kernel_rfl) trivial (by kernel_rfl)

/-! ### Zq88 -/
abbrev Zq88_ps : List (PV.Mode × Ty) := [(.ro, QILQII), (.ro, I), (.ro, LI), (.own, LLI)]
abbrev Zq88_rs : List (Bool × Ty) := [(true, LLI)]
noncomputable def Zq88_T (slf : ((Int × (List (Int × Int))) → Int → (List Int) → (List (List Int)) → Option (((List (List Int)) × Unit) × (Unit)))) : FSum := ⟨Zq88_ps, Zq88_rs, fun x => slf x.1 x.2.1 x.2.2.1 x.2.2.2.1⟩
noncomputable def Zq88_G (N : Nat) (slf : ((Int × (List (Int × Int))) → Int → (List Int) → (List (List Int)) → Option (((List (List Int)) × Unit) × (Unit)))) : GTab := gOf [(132, Zq88_T slf), (60, Zq70_S N), (69, Zq76_S N)]
theorem Zq88_gok (N : Nat) (slf : ((Int × (List (Int × Int))) → Int → (List Int) → (List (List Int)) → Option (((List (List Int)) × Unit) × (Unit)))) (hslf : PC Tryz.prog 132 (Zq88_T slf)) : GOk Tryz.prog (Zq88_G N slf) := gOf_ok ⟨hslf, Zq70_pc N, Zq76_pc N, trivial⟩
noncomputable def Zq88_code : Code := (Tryz.f132.body).getD .skip
noncomputable def Zq88_l0_0_sh : Sh := ⟨[(1, .one (.ro I)), (2, .one (.ro LI)), (3, .one (.ref 0)), (4, .one (.adr 1 0)), (9, .one (.ro I)), (10, .one (.ro .bool)), (11, .one (.ro I)), (26, .one (.ref 0)), (27, .one (.ro I)), (28, .one (.ro .bool))], [.sl 27 LI .deep, .box [.ro I, .ro LQII]]⟩
noncomputable def Zq88_l0_0_ex : List (Ex × Sh) := [(.exit 2, ⟨[(1, .one (.ro I)), (2, .one (.ro LI)), (3, .one (.ref 0)), (4, .one (.adr 1 0)), (9, .one (.ro I)), (10, .one (.ro .bool)), (26, .one (.ref 0)), (27, .one (.ro I)), (28, .one (.ro .bool))], [.sl 27 LI .deep, .box [.ro I, .ro LQII]]⟩)]
noncomputable def Zq88_l0_0 {R : Type} (N : Nat) (slf : ((Int × (List (Int × Int))) → Int → (List Int) → (List (List Int)) → Option (((List (List Int)) × Unit) × (Unit)))) (k0 : Int → (List Int) → Int → Bool → Int → Bool → (List (List Int)) → Int → (List (Int × Int)) → Option R) : Nat → Int → (List Int) → Int → Bool → Int → Int → Bool → (List (List Int)) → Int → (List (Int × Int)) → Option R
 | 0, _, _, _, _, _, _, _, _, _, _ => none
 | K + 1, x3, x4, x5, x6, x7, x8, x9, o3, o4, o5 =>
 (br (ilt x7 (tLen x4))
 ((br x6
 ((chk (inb x4 x7)
 (br (ine (rdI x4 x7) x5)
 (Zq88_l0_0 N slf k0 K x3 x4 x5 true (IntKind.i64.wrap (x7 + 1)) x8 x9 o3 o4 o5)
 (((Zq76 N (o4, o5) x7 (tLen x4)).bind fun r1 =>
 Zq88_l0_0 N slf k0 K x3 x4 x5 (!r1.1.1) (IntKind.i64.wrap (x7 + 1)) x8 x9 o3 o4 o5)))))
 (Zq88_l0_0 N slf k0 K x3 x4 x5 false (IntKind.i64.wrap (x7 + 1)) x8 x9 o3 o4 o5)))
 (k0 x3 x4 x5 x6 x8 x9 o3 o4 o5))
noncomputable def Zq88_l0_0_again {R : Type} (N : Nat) (slf : ((Int × (List (Int × Int))) → Int → (List Int) → (List (List Int)) → Option (((List (List Int)) × Unit) × (Unit)))) (ks : KS Zq88_l0_0_ex R) (k : Nat) (x : Zq88_l0_0_sh.T) : Option R :=
 Zq88_l0_0 N slf (fun y0 y1 y2 y3 y4 y5 y6 y7 y8 => ks 0 ((y0, y1, (), (), y2, y3, (), y4, y5, ()), (y6, (y7, y8, ()), ()))) k x.1.1 x.1.2.1 x.1.2.2.2.2.1 x.1.2.2.2.2.2.1 x.1.2.2.2.2.2.2.1 x.1.2.2.2.2.2.2.2.2.1 x.1.2.2.2.2.2.2.2.2.2.1 x.2.1 x.2.2.1.1 x.2.2.1.2.1
noncomputable def Zq88_l0_0_s (N : Nat) (slf : ((Int × (List (Int × Int))) → Int → (List Int) → (List (List Int)) → Option (((List (List Int)) × Unit) × (Unit)))) : LSum := ⟨Zq88_l0_0_sh, Zq88_l0_0_ex, fun x ks => Zq88_l0_0_again N slf ks N x⟩
theorem Zq88_l0_0_ok (N : Nat) (slf : ((Int × (List (Int × Int))) → Int → (List Int) → (List (List Int)) → Option (((List (List Int)) × Unit) × (Unit)))) (hslf : PC Tryz.prog 132 (Zq88_T slf)) : LoopOk Tryz.prog Tryz.f132.ntmps (Zq88_l0_0_s N slf) (loopAt (loopAt Zq88_code 0) 0) := loopQ (sh := Zq88_l0_0_sh) (ex := Zq88_l0_0_ex) (N := N) (L := []) (fun R k x ks => Zq88_l0_0_again N slf ks k x) (Zq88_gok N slf hslf) (fun _ _ _ => rfl) (fun R k x ks => by kernel_rfl) trivial (by kernel_rfl)
noncomputable def Zq88_l0_sh : Sh := ⟨[(1, .one (.ro I)), (2, .one (.ro LI)), (3, .one (.ref 0)), (4, .one (.adr 1 0)), (9, .one (.ro I))], [.sl 27 LI .deep, .box [.ro I, .ro LQII]]⟩
noncomputable def Zq88_l0_ex : List (Ex × Sh) := [(.exit 0, ⟨[(3, .one (.ref 0))], [.sl 27 LI .deep]⟩)]
noncomputable def Zq88_l0 {R : Type} (N : Nat) (slf : ((Int × (List (Int × Int))) → Int → (List Int) → (List (List Int)) → Option (((List (List Int)) × Unit) × (Unit)))) (k0 : (List (List Int)) → Option R) : Nat → Int → (List Int) → Int → (List (List Int)) → Int → (List (Int × Int)) → Option R
 | 0, _, _, _, _, _, _ => none
 | K + 1, x, x1, x2, o, o1, o2 =>
 (br (ilt x2 x)
 ((br (ile (tLen o) 300)
 (Zq88_l0_0 N slf (fun x3 x4 x5 x6 x7 x8 o3 o4 o5 => (br x6
 (((Zq70 N x4).bind fun r1 =>
 (chk (room r1.1.1 [x5])
 ((slf (o4, o5) x3 (tApp r1.1.1 [x5]) o3).bind fun r2 =>
 Zq88_l0 N slf k0 K x3 x4 (IntKind.i64.wrap (x5 + 1)) r2.1.1 o4 o5))))
 (Zq88_l0 N slf k0 K x3 x4 (IntKind.i64.wrap (x5 + 1)) o3 o4 o5))) N x x1 x2 true 0 (tLen o) (ile (tLen o) 300) o o1 o2)
 (k0 o)))
 (k0 o))
noncomputable def Zq88_l0_again {R : Type} (N : Nat) (slf : ((Int × (List (Int × Int))) → Int → (List Int) → (List (List Int)) → Option (((List (List Int)) × Unit) × (Unit)))) (ks : KS Zq88_l0_ex R) (k : Nat) (x : Zq88_l0_sh.T) : Option R :=
 Zq88_l0 N slf (fun y0 => ks 0 (((), ()), (y0, ()))) k x.1.1 x.1.2.1 x.1.2.2.2.2.1 x.2.1 x.2.2.1.1 x.2.2.1.2.1
noncomputable def Zq88_l0_s (N : Nat) (slf : ((Int × (List (Int × Int))) → Int → (List Int) → (List (List Int)) → Option (((List (List Int)) × Unit) × (Unit)))) : LSum := ⟨Zq88_l0_sh, Zq88_l0_ex, fun x ks => Zq88_l0_again N slf ks N x⟩
theorem Zq88_l0_ok (N : Nat) (slf : ((Int × (List (Int × Int))) → Int → (List Int) → (List (List Int)) → Option (((List (List Int)) × Unit) × (Unit)))) (hslf : PC Tryz.prog 132 (Zq88_T slf)) : LoopOk Tryz.prog Tryz.f132.ntmps (Zq88_l0_s N slf) (loopAt Zq88_code 0) := loopQ (sh := Zq88_l0_sh) (ex := Zq88_l0_ex) (N := N) (L := [Zq88_l0_0_s N slf]) (fun R k x ks => Zq88_l0_again N slf ks k x) (Zq88_gok N slf hslf) (fun _ _ _ => rfl) (fun R k x ks => by kernel_rfl) ⟨Zq88_l0_0_ok N slf hslf, trivial⟩ (by kernel_rfl)
noncomputable def Zq88_b (N : Nat) (slf : ((Int × (List (Int × Int))) → Int → (List Int) → (List (List Int)) → Option (((List (List Int)) × Unit) × (Unit)))) (c : (Int × (List (Int × Int)))) (c1 : Int) (c2 : (List Int)) (c3 : (List (List Int))) : Option (((List (List Int)) × Unit) × (Unit)) :=
 (br (ieq (tLen c2) c.1)
 (((Zq70 N c2).bind fun r =>
 (chk (room c3 [r.1.1])
 (some (((tApp c3 [r.1.1]), ()), ())))))
 (Zq88_l0 N slf (fun o => some ((o, ()), ())) N c1 c2 0 c3 c.1 c.2))
theorem Zq88_bpc (N : Nat) (slf : ((Int × (List (Int × Int))) → Int → (List Int) → (List (List Int)) → Option (((List (List Int)) × Unit) × (Unit)))) (hslf : PC Tryz.prog 132 (Zq88_T slf)) : PC Tryz.prog 132 (Zq88_T (Zq88_b N slf)) := pcQ (L := [Zq88_l0_s N slf]) (Zq88_gok N slf hslf) Tryz.call132 Tryz.func132 (fun x => by kernel_rfl) ⟨Zq88_l0_ok N slf hslf, trivial⟩ (by kernel_rfl)
noncomputable def Zq88_r (N : Nat) : Nat → ((Int × (List (Int × Int))) → Int → (List Int) → (List (List Int)) → Option (((List (List Int)) × Unit) × (Unit)))
 | 0 => fun _ _ _ _ => none
 | K + 1 => Zq88_b N (Zq88_r N K)
theorem Zq88_rpc (N : Nat) : ∀ K, PC Tryz.prog 132 (Zq88_T (Zq88_r N K))
  | 0 => pc_none Tryz.call132
  | K + 1 => Zq88_bpc N (Zq88_r N K) (Zq88_rpc N K)
noncomputable def Zq88 (N : Nat) (c : (Int × (List (Int × Int)))) (c1 : Int) (c2 : (List Int)) (c3 : (List (List Int))) : Option (((List (List Int)) × Unit) × (Unit)) := Zq88_r N N c c1 c2 c3
noncomputable def Zq88_S (N : Nat) : FSum := ⟨Zq88_ps, Zq88_rs, fun x => Zq88 N x.1 x.2.1 x.2.2.1 x.2.2.2.1⟩
theorem Zq88_pc (N : Nat) : PC Tryz.prog 132 (Zq88_S N) := Zq88_rpc N N

/-! ### Zq83 -/
abbrev Zq83_ps : List (PV.Mode × Ty) := [(.ro, QILQII), (.ro, I)]
abbrev Zq83_rs : List (Bool × Ty) := [(true, LLI), (true, .bool)]
noncomputable def Zq83_G (N : Nat) : GTab := gOf [(99, Zq84_S N), (132, Zq88_S N)]
theorem Zq83_gok (N : Nat) : GOk Tryz.prog (Zq83_G N) := gOf_ok ⟨Zq84_pc N, Zq88_pc N, trivial⟩
noncomputable def Zq83_code : Code := (Tryz.f90.body).getD .skip
noncomputable def Zq83 (N : Nat) (g : (Int × (List (Int × Int)))) (kv : Int) : Option (((List (List Int)) × Bool × Unit) × (Unit)) :=
 ((Zq84 N (g.1, g.2) kv).bind fun r =>
 (br (!r.1.1)
 (some (([], false, ()), ()))
 (((Zq88 N (g.1, g.2) kv [] []).bind fun r1 =>
 (br (ilt 300 (tLen r1.1.1))
 (some (([], false, ()), ()))
 (some ((r1.1.1, true, ()), ())))))))
noncomputable def Zq83_S (N : Nat) : FSum := ⟨Zq83_ps, Zq83_rs, fun x => Zq83 N x.1 x.2.1⟩
theorem Zq83_pc (N : Nat) : PC Tryz.prog 90 (Zq83_S N) := pcQ (L := []) (Zq83_gok N) Tryz.call90 Tryz.func90 (fun x => by kernel_rfl) trivial (by kernel_rfl)

/-! ### Zq86 -/
abbrev Zq86_ps : List (PV.Mode × Ty) := [(.ro, LI), (.ro, LI)]
abbrev Zq86_rs : List (Bool × Ty) := [(true, LI)]
noncomputable def Zq86_G (N : Nat) : GTab := gOf []
theorem Zq86_gok (N : Nat) : GOk Tryz.prog (Zq86_G N) := gOf_ok trivial
noncomputable def Zq86_code : Code := (Tryz.f150.body).getD .skip
noncomputable def Zq86_l0_sh : Sh := ⟨[(0, .one (.ro LI)), (1, .one (.ro LI)), (5, .one (.ref 0)), (6, .one (.ro I))], [.sl 3 I .own]⟩
noncomputable def Zq86_l0_ex : List (Ex × Sh) := [(.exit 0, ⟨[(5, .one (.ref 0))], [.sl 3 I .own]⟩)]
noncomputable def Zq86_l0 {R : Type} (N : Nat) (k0 : (List Int) → Option R) : Nat → (List Int) → (List Int) → Int → (List Int) → Option R
 | 0, _, _, _, _ => none
 | K + 1, a1, b1, x, o =>
 (br (ilt x (tLen a1))
 ((chk (inb a1 x)
 (chk (inb b1 x)
 (br (ine (rdI a1 x) (rdI b1 x))
 ((chk (room o [x])
 (Zq86_l0 N k0 K a1 b1 (IntKind.i64.wrap (x + 1)) (tApp o [x]))))
 (Zq86_l0 N k0 K a1 b1 (IntKind.i64.wrap (x + 1)) o)))))
 (k0 o))
noncomputable def Zq86_l0_again {R : Type} (N : Nat) (ks : KS Zq86_l0_ex R) (k : Nat) (x : Zq86_l0_sh.T) : Option R :=
 Zq86_l0 N (fun y0 => ks 0 (((), ()), (y0, ()))) k x.1.1 x.1.2.1 x.1.2.2.2.1 x.2.1
noncomputable def Zq86_l0_s (N : Nat) : LSum := ⟨Zq86_l0_sh, Zq86_l0_ex, fun x ks => Zq86_l0_again N ks N x⟩
theorem Zq86_l0_ok (N : Nat) : LoopOk Tryz.prog Tryz.f150.ntmps (Zq86_l0_s N) (loopAt Zq86_code 0) := loopQ (sh := Zq86_l0_sh) (ex := Zq86_l0_ex) (N := N) (L := []) (fun R k x ks => Zq86_l0_again N ks k x) (Zq86_gok N) (fun _ _ _ => rfl) (fun R k x ks => by kernel_rfl) trivial (by kernel_rfl)
noncomputable def Zq86 (N : Nat) (a : (List Int)) (b : (List Int)) : Option (((List Int) × Unit) × (Unit)) :=
 Zq86_l0 N (fun o => some ((o, ()), ())) N a b 0 []
noncomputable def Zq86_S (N : Nat) : FSum := ⟨Zq86_ps, Zq86_rs, fun x => Zq86 N x.1 x.2.1⟩
theorem Zq86_pc (N : Nat) : PC Tryz.prog 150 (Zq86_S N) := pcQ (L := [Zq86_l0_s N]) (Zq86_gok N) Tryz.call150 Tryz.func150 (fun x => by kernel_rfl) ⟨Zq86_l0_ok N, trivial⟩ (by kernel_rfl)

/-! ### Zq71 -/
abbrev Zq71_ps : List (PV.Mode × Ty) := [(.own, LI), (.ro, I)]
abbrev Zq71_rs : List (Bool × Ty) := [(true, LI)]
noncomputable def Zq71_G (N : Nat) : GTab := gOf []
theorem Zq71_gok (N : Nat) : GOk Tryz.prog (Zq71_G N) := gOf_ok trivial
noncomputable def Zq71_code : Code := (Tryz.f193.body).getD .skip
noncomputable def Zq71_l0_sh : Sh := ⟨[(0, .one (.ref 0)), (1, .one (.ro I)), (5, .one (.ro I))], [.sl 3 I .own]⟩
noncomputable def Zq71_l0_ex : List (Ex × Sh) := [(.exit 0, ⟨[(0, .one (.ref 0)), (1, .one (.ro I)), (5, .one (.ro I))], [.sl 3 I .own]⟩)]
noncomputable def Zq71_l0 {R : Type} (N : Nat) (k0 : Int → Int → (List Int) → Option R) : Nat → Int → Int → (List Int) → Option R
 | 0, _, _, _ => none
 | K + 1, n1, kv, o =>
 (br (ilt kv (tLen o))
 ((chk (inb o kv)
 (br (ilt (rdI o kv) n1)
 (Zq71_l0 N k0 K n1 (IntKind.i64.wrap (kv + 1)) o)
 (k0 n1 kv o))))
 (k0 n1 kv o))
noncomputable def Zq71_l0_again {R : Type} (N : Nat) (ks : KS Zq71_l0_ex R) (k : Nat) (x : Zq71_l0_sh.T) : Option R :=
 Zq71_l0 N (fun y0 y1 y2 => ks 0 (((), y0, y1, ()), (y2, ()))) k x.1.2.1 x.1.2.2.1 x.2.1
noncomputable def Zq71_l0_s (N : Nat) : LSum := ⟨Zq71_l0_sh, Zq71_l0_ex, fun x ks => Zq71_l0_again N ks N x⟩
theorem Zq71_l0_ok (N : Nat) : LoopOk Tryz.prog Tryz.f193.ntmps (Zq71_l0_s N) (loopAt Zq71_code 0) := loopQ (sh := Zq71_l0_sh) (ex := Zq71_l0_ex) (N := N) (L := []) (fun R k x ks => Zq71_l0_again N ks k x) (Zq71_gok N) (fun _ _ _ => rfl) (fun R k x ks => by kernel_rfl) trivial (by kernel_rfl)
noncomputable def Zq71 (N : Nat) (l : (List Int)) (n : Int) : Option (((List Int) × Unit) × (Unit)) :=
 Zq71_l0 N (fun n1 kv o => (br (ilt kv (tLen o))
 ((chk (inb o kv)
 (br (ieq (rdI o kv) n1)
 (some ((o, ()), ()))
 ((chk (ile 0 0 && ile 0 kv && ile kv (tLen o))
 (chk (room (α := Int) (β := Int) [] (tCut o 0 kv))
 (chk (room (tApp [] (tCut o 0 kv)) [n1])
 (chk (ile 0 kv && ile kv (tLen o) && ile (tLen o) (tLen o))
 (chk (room (tApp (tApp [] (tCut o 0 kv)) [n1]) (tCut o kv (tLen o)))
 (some (((tApp (tApp (tApp [] (tCut o 0 kv)) [n1]) (tCut o kv (tLen o))), ()), ())))))))))))
 ((chk (ile 0 0 && ile 0 kv && ile kv (tLen o))
 (chk (room (α := Int) (β := Int) [] (tCut o 0 kv))
 (chk (room (tApp [] (tCut o 0 kv)) [n1])
 (chk (ile 0 kv && ile kv (tLen o) && ile (tLen o) (tLen o))
 (chk (room (tApp (tApp [] (tCut o 0 kv)) [n1]) (tCut o kv (tLen o)))
 (some (((tApp (tApp (tApp [] (tCut o 0 kv)) [n1]) (tCut o kv (tLen o))), ()), ())))))))))) N n 0 l
noncomputable def Zq71_S (N : Nat) : FSum := ⟨Zq71_ps, Zq71_rs, fun x => Zq71 N x.1 x.2.1⟩
theorem Zq71_pc (N : Nat) : PC Tryz.prog 193 (Zq71_S N) := pcQ (L := [Zq71_l0_s N]) (Zq71_gok N) Tryz.call193 Tryz.func193 (fun x => by kernel_rfl) ⟨Zq71_l0_ok N, trivial⟩ (by kernel_rfl)

/-! ### Zq81 -/
abbrev Zq81_ps : List (PV.Mode × Ty) := [(.ro, QILQII), (.ro, LI), (.ro, I)]
abbrev Zq81_rs : List (Bool × Ty) := [(true, LI)]
noncomputable def Zq81_G (N : Nat) : GTab := gOf [(70, Zq67_S N), (69, Zq76_S N), (193, Zq71_S N)]
theorem Zq81_gok (N : Nat) : GOk Tryz.prog (Zq81_G N) := gOf_ok ⟨Zq67_pc N, Zq76_pc N, Zq71_pc N, trivial⟩
noncomputable def Zq81_code : Code := (Tryz.f189.body).getD .skip
noncomputable def Zq81_l0_0_0_sh : Sh := ⟨[(1, .one (.ro LI)), (3, .one (.adr 0 0)), (7, .one (.ref 1)), (8, .one (.ro I)), (9, .one (.ro I)), (10, .one (.ro I))], [.box [.ro I, .ro LQII], .sl 3 I .own]⟩
noncomputable def Zq81_l0_0_0_ex : List (Ex × Sh) := [(.exit 4, ⟨[(1, .one (.ro LI)), (3, .one (.adr 0 0)), (7, .one (.ref 1)), (8, .one (.ro I)), (9, .one (.ro I))], [.box [.ro I, .ro LQII], .sl 3 I .own]⟩)]
noncomputable def Zq81_l0_0_0 {R : Type} (N : Nat) (k0 : (List Int) → Int → Int → Int → (List (Int × Int)) → (List Int) → Option R) : Nat → (List Int) → Int → Int → Int → Int → (List (Int × Int)) → (List Int) → Option R
 | 0, _, _, _, _, _, _, _ => none
 | K + 1, setv3, round2, i1, kv, o6, o7, o8 =>
 (br (ilt kv (tLen o8))
 ((chk (inb setv3 i1)
 ((Zq67 N o8 (rdI setv3 i1)).bind fun r =>
 (br (!r.1.1)
 ((chk (inb o8 kv)
 (chk (inb setv3 i1)
 ((Zq76 N (o6, o7) (rdI o8 kv) (rdI setv3 i1)).bind fun r1 =>
 (br r1.1.1
 ((chk (inb setv3 i1)
 ((Zq71 N o8 (rdI setv3 i1)).bind fun r2 =>
 Zq81_l0_0_0 N k0 K setv3 round2 i1 (IntKind.i64.wrap (kv + 1)) o6 o7 r2.1.1)))
 (Zq81_l0_0_0 N k0 K setv3 round2 i1 (IntKind.i64.wrap (kv + 1)) o6 o7 o8))))))
 (k0 setv3 round2 i1 o6 o7 o8)))))
 (k0 setv3 round2 i1 o6 o7 o8))
noncomputable def Zq81_l0_0_0_again {R : Type} (N : Nat) (ks : KS Zq81_l0_0_0_ex R) (k : Nat) (x : Zq81_l0_0_0_sh.T) : Option R :=
 Zq81_l0_0_0 N (fun y0 y1 y2 y3 y4 y5 => ks 0 ((y0, (), (), y1, y2, ()), ((y3, y4, ()), y5, ()))) k x.1.1 x.1.2.2.2.1 x.1.2.2.2.2.1 x.1.2.2.2.2.2.1 x.2.1.1 x.2.1.2.1 x.2.2.1
noncomputable def Zq81_l0_0_0_s (N : Nat) : LSum := ⟨Zq81_l0_0_0_sh, Zq81_l0_0_0_ex, fun x ks => Zq81_l0_0_0_again N ks N x⟩
theorem Zq81_l0_0_0_ok (N : Nat) : LoopOk Tryz.prog Tryz.f189.ntmps (Zq81_l0_0_0_s N) (loopAt (loopAt (loopAt Zq81_code 0) 0) 0) := loopQ (sh := Zq81_l0_0_0_sh) (ex := Zq81_l0_0_0_ex) (N := N) (L := []) (fun R k x ks => Zq81_l0_0_0_again N ks k x) (Zq81_gok N) (fun _ _ _ => rfl) (fun R k x ks => by kernel_rfl) trivial (by kernel_rfl)
noncomputable def Zq81_l0_0_sh : Sh := ⟨[(1, .one (.ro LI)), (3, .one (.adr 0 0)), (7, .one (.ref 1)), (8, .one (.ro I)), (9, .one (.ro I))], [.box [.ro I, .ro LQII], .sl 3 I .own]⟩
noncomputable def Zq81_l0_0_ex : List (Ex × Sh) := [(.exit 2, ⟨[(1, .one (.ro LI)), (3, .one (.adr 0 0)), (7, .one (.ref 1)), (8, .one (.ro I))], [.box [.ro I, .ro LQII], .sl 3 I .own]⟩)]
noncomputable def Zq81_l0_0 {R : Type} (N : Nat) (k0 : (List Int) → Int → Int → (List (Int × Int)) → (List Int) → Option R) : Nat → (List Int) → Int → Int → Int → (List (Int × Int)) → (List Int) → Option R
 | 0, _, _, _, _, _, _ => none
 | K + 1, setv2, round1, i, o3, o4, o5 =>
 (br (ilt i (tLen setv2))
 (Zq81_l0_0_0 N (fun setv3 round2 i1 o6 o7 o8 => Zq81_l0_0 N k0 K setv3 round2 (IntKind.i64.wrap (i1 + 1)) o6 o7 o8) N setv2 round1 i 0 o3 o4 o5)
 (k0 setv2 round1 o3 o4 o5))
noncomputable def Zq81_l0_0_again {R : Type} (N : Nat) (ks : KS Zq81_l0_0_ex R) (k : Nat) (x : Zq81_l0_0_sh.T) : Option R :=
 Zq81_l0_0 N (fun y0 y1 y2 y3 y4 => ks 0 ((y0, (), (), y1, ()), ((y2, y3, ()), y4, ()))) k x.1.1 x.1.2.2.2.1 x.1.2.2.2.2.1 x.2.1.1 x.2.1.2.1 x.2.2.1
noncomputable def Zq81_l0_0_s (N : Nat) : LSum := ⟨Zq81_l0_0_sh, Zq81_l0_0_ex, fun x ks => Zq81_l0_0_again N ks N x⟩
theorem Zq81_l0_0_ok (N : Nat) : LoopOk Tryz.prog Tryz.f189.ntmps (Zq81_l0_0_s N) (loopAt (loopAt Zq81_code 0) 0) := loopQ (sh := Zq81_l0_0_sh) (ex := Zq81_l0_0_ex) (N := N) (L := [Zq81_l0_0_0_s N]) (fun R k x ks => Zq81_l0_0_again N ks k x) (Zq81_gok N) (fun _ _ _ => rfl) (fun R k x ks => by kernel_rfl) ⟨Zq81_l0_0_0_ok N, trivial⟩ (by kernel_rfl)
noncomputable def Zq81_l0_sh : Sh := ⟨[(1, .one (.ro LI)), (3, .one (.adr 0 0)), (7, .one (.ref 1)), (8, .one (.ro I))], [.box [.ro I, .ro LQII], .sl 3 I .own]⟩
noncomputable def Zq81_l0_ex : List (Ex × Sh) := [(.exit 0, ⟨[(7, .one (.ref 0))], [.sl 3 I .own]⟩)]
noncomputable def Zq81_l0 {R : Type} (N : Nat) (k0 : (List Int) → Option R) : Nat → (List Int) → Int → Int → (List (Int × Int)) → (List Int) → Option R
 | 0, _, _, _, _, _ => none
 | K + 1, setv1, round, o, o1, o2 =>
 (br (ilt round (tLen setv1))
 (Zq81_l0_0 N (fun setv2 round1 o3 o4 o5 => Zq81_l0 N k0 K setv2 (IntKind.i64.wrap (round1 + 1)) o3 o4 o5) N setv1 round 0 o o1 o2)
 (k0 o2))
noncomputable def Zq81_l0_again {R : Type} (N : Nat) (ks : KS Zq81_l0_ex R) (k : Nat) (x : Zq81_l0_sh.T) : Option R :=
 Zq81_l0 N (fun y0 => ks 0 (((), ()), (y0, ()))) k x.1.1 x.1.2.2.2.1 x.2.1.1 x.2.1.2.1 x.2.2.1
noncomputable def Zq81_l0_s (N : Nat) : LSum := ⟨Zq81_l0_sh, Zq81_l0_ex, fun x ks => Zq81_l0_again N ks N x⟩
theorem Zq81_l0_ok (N : Nat) : LoopOk Tryz.prog Tryz.f189.ntmps (Zq81_l0_s N) (loopAt Zq81_code 0) := loopQ (sh := Zq81_l0_sh) (ex := Zq81_l0_ex) (N := N) (L := [Zq81_l0_0_s N]) (fun R k x ks => Zq81_l0_again N ks k x) (Zq81_gok N) (fun _ _ _ => rfl) (fun R k x ks => by kernel_rfl) ⟨Zq81_l0_0_ok N, trivial⟩ (by kernel_rfl)
noncomputable def Zq81 (N : Nat) (g : (Int × (List (Int × Int)))) (setv : (List Int)) (x : Int) : Option (((List Int) × Unit) × (Unit)) :=
 Zq81_l0 N (fun o => some ((o, ()), ())) N setv 0 g.1 g.2 [x]
noncomputable def Zq81_S (N : Nat) : FSum := ⟨Zq81_ps, Zq81_rs, fun x => Zq81 N x.1 x.2.1 x.2.2.1⟩
theorem Zq81_pc (N : Nat) : PC Tryz.prog 189 (Zq81_S N) := pcQ (L := [Zq81_l0_s N]) (Zq81_gok N) Tryz.call189 Tryz.func189 (fun x => by kernel_rfl) ⟨Zq81_l0_ok N, trivial⟩ (by kernel_rfl)

/-! ### Zq85 -/
abbrev Zq85_ps : List (PV.Mode × Ty) := [(.ro, QILQII), (.ro, LI), (.ro, I), (.ro, I)]
abbrev Zq85_rs : List (Bool × Ty) := [(true, LI)]
noncomputable def Zq85_G (N : Nat) : GTab := gOf [(189, Zq81_S N)]
theorem Zq85_gok (N : Nat) : GOk Tryz.prog (Zq85_G N) := gOf_ok ⟨Zq81_pc N, trivial⟩
noncomputable def Zq85_code : Code := (Tryz.f179.body).getD .skip
noncomputable def Zq85_l0_sh : Sh := ⟨[(1, .one (.ro LI)), (2, .one (.ro I)), (3, .one (.ro I)), (4, .one (.adr 0 0)), (9, .one (.ref 1)), (10, .one (.ro I))], [.box [.ro I, .ro LQII], .sl 3 I .own]⟩
noncomputable def Zq85_l0_ex : List (Ex × Sh) := [(.exit 0, ⟨[(2, .one (.ro I)), (4, .one (.adr 0 0)), (9, .one (.ref 1))], [.box [.ro I, .ro LQII], .sl 3 I .own]⟩)]
noncomputable def Zq85_l0 {R : Type} (N : Nat) (k0 : Int → Int → (List (Int × Int)) → (List Int) → Option R) : Nat → (List Int) → Int → Int → Int → Int → (List (Int × Int)) → (List Int) → Option R
 | 0, _, _, _, _, _, _, _ => none
 | K + 1, colours1, x1, c1, y, o, o1, o2 =>
 (br (ilt y o)
 ((chk (inb colours1 y)
 (br (ieq (rdI colours1 y) c1)
 ((chk (room o2 [y])
 (Zq85_l0 N k0 K colours1 x1 c1 (IntKind.i64.wrap (y + 1)) o o1 (tApp o2 [y]))))
 ((chk (inb colours1 y)
 (chk (inb colours1 x1)
 (br (ieq (rdI colours1 y) (rdI colours1 x1))
 ((chk (room o2 [y])
 (Zq85_l0 N k0 K colours1 x1 c1 (IntKind.i64.wrap (y + 1)) o o1 (tApp o2 [y]))))
 (Zq85_l0 N k0 K colours1 x1 c1 (IntKind.i64.wrap (y + 1)) o o1 o2))))))))
 (k0 x1 o o1 o2))
noncomputable def Zq85_l0_again {R : Type} (N : Nat) (ks : KS Zq85_l0_ex R) (k : Nat) (x : Zq85_l0_sh.T) : Option R :=
 Zq85_l0 N (fun y0 y1 y2 y3 => ks 0 ((y0, (), (), ()), ((y1, y2, ()), y3, ()))) k x.1.1 x.1.2.1 x.1.2.2.1 x.1.2.2.2.2.2.1 x.2.1.1 x.2.1.2.1 x.2.2.1
noncomputable def Zq85_l0_s (N : Nat) : LSum := ⟨Zq85_l0_sh, Zq85_l0_ex, fun x ks => Zq85_l0_again N ks N x⟩
theorem Zq85_l0_ok (N : Nat) : LoopOk Tryz.prog Tryz.f179.ntmps (Zq85_l0_s N) (loopAt Zq85_code 0) := loopQ (sh := Zq85_l0_sh) (ex := Zq85_l0_ex) (N := N) (L := []) (fun R k x ks => Zq85_l0_again N ks k x) (Zq85_gok N) (fun _ _ _ => rfl) (fun R k x ks => by kernel_rfl) trivial (by kernel_rfl)
noncomputable def Zq85 (N : Nat) (g : (Int × (List (Int × Int)))) (colours : (List Int)) (x : Int) (c : Int) : Option (((List Int) × Unit) × (Unit)) :=
 Zq85_l0 N (fun x1 o o1 o2 => ((Zq81 N (o, o1) o2 x1).bind fun r =>
 some ((r.1.1, ()), ()))) N colours x c 0 g.1 g.2 []
noncomputable def Zq85_S (N : Nat) : FSum := ⟨Zq85_ps, Zq85_rs, fun x => Zq85 N x.1 x.2.1 x.2.2.1 x.2.2.2.1⟩
theorem Zq85_pc (N : Nat) : PC Tryz.prog 179 (Zq85_S N) := pcQ (L := [Zq85_l0_s N]) (Zq85_gok N) Tryz.call179 Tryz.func179 (fun x => by kernel_rfl) ⟨Zq85_l0_ok N, trivial⟩ (by kernel_rfl)

/-! ### Zq87 -/
abbrev Zq87_ps : List (PV.Mode × Ty) := [(.ro, QILQII), (.ro, LI), (.ro, I), (.ro, I)]
abbrev Zq87_rs : List (Bool × Ty) := [(true, LI)]
noncomputable def Zq87_G (N : Nat) : GTab := gOf [(60, Zq70_S N), (179, Zq85_S N)]
theorem Zq87_gok (N : Nat) : GOk Tryz.prog (Zq87_G N) := gOf_ok ⟨Zq70_pc N, Zq85_pc N, trivial⟩
noncomputable def Zq87_code : Code := (Tryz.f151.body).getD .skip
noncomputable def Zq87_l0_sh : Sh := ⟨[(1, .one (.ro LI)), (2, .one (.ro I)), (3, .one (.ro I)), (9, .one (.ref 0)), (10, .one (.ref 1)), (11, .one (.ro I))], [.sl 3 I .own, .sl 3 I .own]⟩
noncomputable def Zq87_l0_ex : List (Ex × Sh) := [(.exit 0, ⟨[(9, .one (.ref 0))], [.sl 3 I .own]⟩)]
noncomputable def Zq87_l0 {R : Type} (N : Nat) (k0 : (List Int) → Option R) : Nat → (List Int) → Int → Int → Int → (List Int) → (List Int) → Option R
 | 0, _, _, _, _, _, _ => none
 | K + 1, colours1, x1, c1, i, o, o1 =>
 (br (ilt i (tLen o1))
 ((chk (inb o1 i)
 (chk (inb colours1 x1)
 (chk (inb o1 i)
 (chk (inb colours1 (rdI o1 i))
 (chk (inb o (rdI o1 i))
 (Zq87_l0 N k0 K colours1 x1 c1 (IntKind.i64.wrap (i + 1)) (tSet o (rdI o1 i) (IntKind.i64.wrap ((IntKind.i64.wrap ((rdI colours1 x1) + c1)) - (rdI colours1 (rdI o1 i))))) o1)))))))
 (k0 o))
noncomputable def Zq87_l0_again {R : Type} (N : Nat) (ks : KS Zq87_l0_ex R) (k : Nat) (x : Zq87_l0_sh.T) : Option R :=
 Zq87_l0 N (fun y0 => ks 0 (((), ()), (y0, ()))) k x.1.1 x.1.2.1 x.1.2.2.1 x.1.2.2.2.2.2.1 x.2.1 x.2.2.1
noncomputable def Zq87_l0_s (N : Nat) : LSum := ⟨Zq87_l0_sh, Zq87_l0_ex, fun x ks => Zq87_l0_again N ks N x⟩
theorem Zq87_l0_ok (N : Nat) : LoopOk Tryz.prog Tryz.f151.ntmps (Zq87_l0_s N) (loopAt Zq87_code 0) := loopQ (sh := Zq87_l0_sh) (ex := Zq87_l0_ex) (N := N) (L := []) (fun R k x ks => Zq87_l0_again N ks k x) (Zq87_gok N) (fun _ _ _ => rfl) (fun R k x ks => by kernel_rfl) trivial (by kernel_rfl)
noncomputable def Zq87 (N : Nat) (g : (Int × (List (Int × Int)))) (colours : (List Int)) (x : Int) (c : Int) : Option (((List Int) × Unit) × (Unit)) :=
 ((Zq70 N colours).bind fun r =>
 ((Zq85 N (g.1, g.2) colours x c).bind fun r1 =>
 Zq87_l0 N (fun o => some ((o, ()), ())) N colours x c 0 r.1.1 r1.1.1))
noncomputable def Zq87_S (N : Nat) : FSum := ⟨Zq87_ps, Zq87_rs, fun x => Zq87 N x.1 x.2.1 x.2.2.1 x.2.2.2.1⟩
theorem Zq87_pc (N : Nat) : PC Tryz.prog 151 (Zq87_S N) := pcQ (L := [Zq87_l0_s N]) (Zq87_gok N) Tryz.call151 Tryz.func151 (fun x => by kernel_rfl) ⟨Zq87_l0_ok N, trivial⟩ (by kernel_rfl)

/-! ### Zq72 -/
abbrev Zq72_ps : List (PV.Mode × Ty) := [(.ro, LI), (.ro, LI)]
abbrev Zq72_rs : List (Bool × Ty) := [(true, .bool)]
noncomputable def Zq72_G (N : Nat) : GTab := gOf []
theorem Zq72_gok (N : Nat) : GOk Tryz.prog (Zq72_G N) := gOf_ok trivial
noncomputable def Zq72_code : Code := (Tryz.f128.body).getD .skip
noncomputable def Zq72_l0_sh : Sh := ⟨[(0, .one (.ro LI)), (1, .one (.ro LI)), (5, .one (.ro I))], []⟩
noncomputable def Zq72_l0_ex : List (Ex × Sh) := [(.ret, ⟨[(4, .one (.ro .bool))], []⟩), (.exit 0, ⟨[], []⟩)]
noncomputable def Zq72_l0 {R : Type} (N : Nat) (k0 : Bool → Option R) (k1 : Unit → Option R) : Nat → (List Int) → (List Int) → Int → Option R
 | 0, _, _, _ => none
 | K + 1, a1, b1, i =>
 (br (ilt i (tLen a1))
 ((chk (inb a1 i)
 (chk (inb b1 i)
 (br (ine (rdI a1 i) (rdI b1 i))
 (k0 false)
 (Zq72_l0 N k0 k1 K a1 b1 (IntKind.i64.wrap (i + 1)))))))
 (k1 ()))
noncomputable def Zq72_l0_again {R : Type} (N : Nat) (ks : KS Zq72_l0_ex R) (k : Nat) (x : Zq72_l0_sh.T) : Option R :=
 Zq72_l0 N (fun y0 => ks 0 ((y0, ()), ())) (fun (_ : Unit) => ks 1 ((), ())) k x.1.1 x.1.2.1 x.1.2.2.1
noncomputable def Zq72_l0_s (N : Nat) : LSum := ⟨Zq72_l0_sh, Zq72_l0_ex, fun x ks => Zq72_l0_again N ks N x⟩
theorem Zq72_l0_ok (N : Nat) : LoopOk Tryz.prog Tryz.f128.ntmps (Zq72_l0_s N) (loopAt Zq72_code 0) := loopQ (sh := Zq72_l0_sh) (ex := Zq72_l0_ex) (N := N) (L := []) (fun R k x ks => Zq72_l0_again N ks k x) (Zq72_gok N) (fun _ _ _ => rfl) (fun R k x ks => by kernel_rfl) trivial (by kernel_rfl)
noncomputable def Zq72 (N : Nat) (a : (List Int)) (b : (List Int)) : Option ((Bool × Unit) × (Unit)) :=
 (br (ine (tLen a) (tLen b))
 (some ((false, ()), ()))
 (Zq72_l0 N (fun x => some ((x, ()), ())) (fun (_ : Unit) => some ((true, ()), ())) N a b 0))
noncomputable def Zq72_S (N : Nat) : FSum := ⟨Zq72_ps, Zq72_rs, fun x => Zq72 N x.1 x.2.1⟩
theorem Zq72_pc (N : Nat) : PC Tryz.prog 128 (Zq72_S N) := pcQ (L := [Zq72_l0_s N]) (Zq72_gok N) Tryz.call128 Tryz.func128 (fun x => by kernel_rfl) ⟨Zq72_l0_ok N, trivial⟩ (by kernel_rfl)

/-! ### Zq91 -/
abbrev Zq91_ps : List (PV.Mode × Ty) := [(.ro, QILQII), (.ro, .bool), (.ro, LI), (.ro, LI)]
abbrev Zq91_rs : List (Bool × Ty) := [(true, .bool)]
noncomputable def Zq91_G (N : Nat) : GTab := gOf [(150, Zq86_S N), (151, Zq87_S N), (128, Zq72_S N)]
theorem Zq91_gok (N : Nat) : GOk Tryz.prog (Zq91_G N) := gOf_ok ⟨Zq86_pc N, Zq87_pc N, Zq72_pc N, trivial⟩
noncomputable def Zq91_code : Code := (Tryz.f117.body).getD .skip
noncomputable def Zq91 (N : Nat) (g : (Int × (List (Int × Int)))) (kempe : Bool) (a : (List Int)) (b : (List Int)) : Option ((Bool × Unit) × (Unit)) :=
 ((Zq86 N a b).bind fun r =>
 (br (!kempe)
 (some (((ieq (tLen r.1.1) 1), ()), ()))
 ((br (ieq (tLen r.1.1) 0)
 (some (((ieq (tLen r.1.1) 1), ()), ()))
 ((chk (inb r.1.1 0)
 (chk (inb r.1.1 0)
 (chk (inb b (rdI r.1.1 0))
 ((Zq87 N (g.1, g.2) a (rdI r.1.1 0) (rdI b (rdI r.1.1 0))).bind fun r1 =>
 ((Zq72 N r1.1.1 b).bind fun r2 =>
 some ((r2.1.1, ()), ())))))))))))
noncomputable def Zq91_S (N : Nat) : FSum := ⟨Zq91_ps, Zq91_rs, fun x => Zq91 N x.1 x.2.1 x.2.2.1 x.2.2.2.1⟩
theorem Zq91_pc (N : Nat) : PC Tryz.prog 117 (Zq91_S N) := pcQ (L := []) (Zq91_gok N) Tryz.call117 Tryz.func117 (fun x => by kernel_rfl) trivial (by kernel_rfl)

/-! ### Zq90 -/
abbrev Zq90_ps : List (PV.Mode × Ty) := [(.ro, QILQII), (.ro, I), (.ro, .bool)]
abbrev Zq90_rs : List (Bool × Ty) := [(true, QLLILQII), (true, .bool)]
noncomputable def Zq90_G (N : Nat) : GTab := gOf [(90, Zq83_S N), (117, Zq91_S N)]
theorem Zq90_gok (N : Nat) : GOk Tryz.prog (Zq90_G N) := gOf_ok ⟨Zq83_pc N, Zq91_pc N, trivial⟩
noncomputable def Zq90_code : Code := (Tryz.f72.body).getD .skip
noncomputable def Zq90_l0_0_sh : Sh := ⟨[(2, .one (.ro .bool)), (3, .one (.adr 0 0)), (6, .one (.adr 1 0)), (8, .one (.ref 2)), (10, .one (.adr 3 0)), (11, .one (.ro I)), (12, .one (.ro I))], [.box [.ro I, .ro LQII], .box [.nilsl, .nilsl], .sl 27 LI .deep, .box [.ref 2, .ref 4], .sl 49 QII .own]⟩
noncomputable def Zq90_l0_0_ex : List (Ex × Sh) := [(.exit 2, ⟨[(2, .one (.ro .bool)), (3, .one (.adr 0 0)), (6, .one (.adr 1 0)), (8, .one (.ref 2)), (10, .one (.adr 3 0)), (11, .one (.ro I))], [.box [.ro I, .ro LQII], .box [.nilsl, .nilsl], .sl 27 LI .deep, .box [.ref 2, .ref 4], .sl 49 QII .own]⟩)]
noncomputable def Zq90_l0_0 {R : Type} (N : Nat) (k0 : Bool → Int → Int → (List (Int × Int)) → (List (List Int)) → (List (Int × Int)) → Option R) : Nat → Bool → Int → Int → Int → (List (Int × Int)) → (List (List Int)) → (List (Int × Int)) → Option R
 | 0, _, _, _, _, _, _, _ => none
 | K + 1, kempe2, i1, j, o4, o5, o6, o7 =>
 (br (ilt j (tLen o6))
 ((chk (inb o6 i1)
 (chk (inb o6 j)
 ((Zq91 N (o4, o5) kempe2 (rdL o6 i1) (rdL o6 j)).bind fun r1 =>
 (br r1.1.1
 ((chk (room o7 [(i1, j)])
 (Zq90_l0_0 N k0 K kempe2 i1 (IntKind.i64.wrap (j + 1)) o4 o5 o6 (tApp o7 [(i1, j)]))))
 (Zq90_l0_0 N k0 K kempe2 i1 (IntKind.i64.wrap (j + 1)) o4 o5 o6 o7))))))
 (k0 kempe2 i1 o4 o5 o6 o7))
noncomputable def Zq90_l0_0_again {R : Type} (N : Nat) (ks : KS Zq90_l0_0_ex R) (k : Nat) (x : Zq90_l0_0_sh.T) : Option R :=
 Zq90_l0_0 N (fun y0 y1 y2 y3 y4 y5 => ks 0 ((y0, (), (), (), (), y1, ()), ((y2, y3, ()), ((), (), ()), y4, ((), (), ()), y5, ()))) k x.1.1 x.1.2.2.2.2.2.1 x.1.2.2.2.2.2.2.1 x.2.1.1 x.2.1.2.1 x.2.2.2.1 x.2.2.2.2.2.1
noncomputable def Zq90_l0_0_s (N : Nat) : LSum := ⟨Zq90_l0_0_sh, Zq90_l0_0_ex, fun x ks => Zq90_l0_0_again N ks N x⟩
theorem Zq90_l0_0_ok (N : Nat) : LoopOk Tryz.prog Tryz.f72.ntmps (Zq90_l0_0_s N) (loopAt (loopAt Zq90_code 0) 0) := loopQ (sh := Zq90_l0_0_sh) (ex := Zq90_l0_0_ex) (N := N) (L := []) (fun R k x ks => Zq90_l0_0_again N ks k x) (Zq90_gok N) (fun _ _ _ => rfl) (fun R k x ks => by kernel_rfl) trivial (by kernel_rfl)
noncomputable def Zq90_l0_sh : Sh := ⟨[(2, .one (.ro .bool)), (3, .one (.adr 0 0)), (6, .one (.adr 1 0)), (8, .one (.ref 2)), (10, .one (.adr 3 0)), (11, .one (.ro I))], [.box [.ro I, .ro LQII], .box [.nilsl, .nilsl], .sl 27 LI .deep, .box [.ref 2, .ref 4], .sl 49 QII .own]⟩
noncomputable def Zq90_l0_ex : List (Ex × Sh) := [(.exit 0, ⟨[(6, .one (.adr 0 0)), (10, .one (.adr 1 0))], [.box [.nilsl, .nilsl], .box [.ref 2, .ref 3], .sl 27 LI .deep, .sl 49 QII .own]⟩)]
noncomputable def Zq90_l0 {R : Type} (N : Nat) (k0 : (List (List Int)) → (List (Int × Int)) → Option R) : Nat → Bool → Int → Int → (List (Int × Int)) → (List (List Int)) → (List (Int × Int)) → Option R
 | 0, _, _, _, _, _, _ => none
 | K + 1, kempe1, i, o, o1, o2, o3 =>
 (br (ilt i (tLen o2))
 (Zq90_l0_0 N (fun kempe2 i1 o4 o5 o6 o7 => Zq90_l0 N k0 K kempe2 (IntKind.i64.wrap (i1 + 1)) o4 o5 o6 o7) N kempe1 i (IntKind.i64.wrap (i + 1)) o o1 o2 o3)
 (k0 o2 o3))
noncomputable def Zq90_l0_again {R : Type} (N : Nat) (ks : KS Zq90_l0_ex R) (k : Nat) (x : Zq90_l0_sh.T) : Option R :=
 Zq90_l0 N (fun y0 y1 => ks 0 (((), (), ()), (((), (), ()), ((), (), ()), y0, y1, ()))) k x.1.1 x.1.2.2.2.2.2.1 x.2.1.1 x.2.1.2.1 x.2.2.2.1 x.2.2.2.2.2.1
noncomputable def Zq90_l0_s (N : Nat) : LSum := ⟨Zq90_l0_sh, Zq90_l0_ex, fun x ks => Zq90_l0_again N ks N x⟩
theorem Zq90_l0_ok (N : Nat) : LoopOk Tryz.prog Tryz.f72.ntmps (Zq90_l0_s N) (loopAt Zq90_code 0) := loopQ (sh := Zq90_l0_sh) (ex := Zq90_l0_ex) (N := N) (L := [Zq90_l0_0_s N]) (fun R k x ks => Zq90_l0_again N ks k x) (Zq90_gok N) (fun _ _ _ => rfl) (fun R k x ks => by kernel_rfl) ⟨Zq90_l0_0_ok N, trivial⟩ (by kernel_rfl)
noncomputable def Zq90 (N : Nat) (g : (Int × (List (Int × Int)))) (kv : Int) (kempe : Bool) : Option ((((List (List Int)) × (List (Int × Int))) × Bool × Unit) × (Unit)) :=
 ((Zq83 N (g.1, g.2) kv).bind fun r =>
 (br (!r.1.2.1)
 (some ((([], []), false, ()), ()))
 (Zq90_l0 N (fun o o1 => some (((o, o1), true, ()), ())) N kempe 0 g.1 g.2 r.1.1 [])))
noncomputable def Zq90_S (N : Nat) : FSum := ⟨Zq90_ps, Zq90_rs, fun x => Zq90 N x.1 x.2.1 x.2.2.1⟩
theorem Zq90_pc (N : Nat) : PC Tryz.prog 72 (Zq90_S N) := pcQ (L := [Zq90_l0_s N]) (Zq90_gok N) Tryz.call72 Tryz.func72 (fun x => by kernel_rfl) ⟨Zq90_l0_ok N, trivial⟩ (by kernel_rfl)
end Go.Proofs.YtkffaahlpdlkoaaGreat
