/- Functions of the program as functions on data. -/
import Derived.Test.YtkffaahlpdlkoaaGreatRecolouringFb
set_option linter.all false
namespace Go.Proofs.YtkffaahlpdlkoaaGreat
open Go Go.PV
abbrev Zq66_ps : List (PV.Mode × Ty) := [(.ro, LLI), (.ro, FLIBo)]
abbrev Zq66_rs : List (Bool × Ty) := [(true, I)]
noncomputable def Zq66_G (N : Nat) : GTab := gOf []
theorem Zq66_gok (N : Nat) : GOk Tryz.prog (Zq66_G N) := gOf_ok trivial
noncomputable def Zq66_code : Code := (Tryz.f133.body).getD .skip
noncomputable def Zq66_l0_sh : Sh := ⟨[(0, .one (.ro LLI)), (1, .one (.ro FLIBo)), (7, .one (.ro I)), (8, .one (.ro I))], []⟩
noncomputable def Zq66_l0_ex : List (Ex × Sh) := [(.ret, ⟨[(4, .one (.ro I))], []⟩), (.exit 0, ⟨[], []⟩)]
noncomputable def Zq66_l0 {R : Type} (N : Nat) (k0 : Int → Option R) (k1 : Unit → Option R) : Nat → (List (List Int)) → ((List Int) → Option Bool) → Int → Int → Option R
 | 0, _, _, _, _ => none
 | K + 1, s1, f1, x, x1 =>
 (br (ilt x1 x)
 ((chk (inb s1 x1)
 ((f1 (rdL s1 x1)).bind fun v =>
 (br v
 (k0 x1)
 (Zq66_l0 N k0 k1 K s1 f1 x (IntKind.i64.wrap (x1 + 1)))))))
 (k1 ()))
noncomputable def Zq66_l0_again {R : Type} (N : Nat) (ks : KS Zq66_l0_ex R) (k : Nat) (x : Zq66_l0_sh.T) : Option R :=
 Zq66_l0 N (fun y0 => ks 0 ((y0, ()), ())) (fun (_ : Unit) => ks 1 ((), ())) k x.1.1 x.1.2.1 x.1.2.2.1 x.1.2.2.2.1
noncomputable def Zq66_l0_s (N : Nat) : LSum := ⟨Zq66_l0_sh, Zq66_l0_ex, fun x ks => Zq66_l0_again N ks N x⟩
theorem Zq66_l0_ok (N : Nat) : LoopOk Tryz.prog Tryz.f133.ntmps (Zq66_l0_s N) (loopAt Zq66_code 0) := loopQ (sh := Zq66_l0_sh) (ex := Zq66_l0_ex) (N := N) (L := []) (fun R k x ks => Zq66_l0_again N ks k x) (Zq66_gok N) (fun _ _ _ => rfl) (fun R k x ks => by kernel_rfl) trivial (by kernel_rfl)
noncomputable def Zq66 (N : Nat) (s : (List (List Int))) (f : ((List Int) → Option Bool)) : Option ((Int × Unit) × (Unit)) :=
 Zq66_l0 N (fun x => some ((x, ()), ())) (fun (_ : Unit) => some (((-1), ()), ())) N s f (tLen s) 0
noncomputable def Zq66_S (N : Nat) : FSum := ⟨Zq66_ps, Zq66_rs, fun x => Zq66 N x.1 x.2.1⟩
theorem Zq66_pc (N : Nat) : PC Tryz.prog 133 (Zq66_S N) := pcQ (L := [Zq66_l0_s N]) (Zq66_gok N) Tryz.call133 Tryz.func133 (fun x => by kernel_rfl) ⟨Zq66_l0_ok N, trivial⟩ (by kernel_rfl)

abbrev Zq60_ps : List (PV.Mode × Ty) := [(.ro, LLI), (.ro, FLIBo)]
abbrev Zq60_rs : List (Bool × Ty) := [(true, .bool)]
noncomputable def Zq60_G (N : Nat) : GTab := gOf [(133, Zq66_S N)]
theorem Zq60_gok (N : Nat) : GOk Tryz.prog (Zq60_G N) := gOf_ok ⟨Zq66_pc N, trivial⟩
noncomputable def Zq60_code : Code := (Tryz.f95.body).getD .skip
noncomputable def Zq60 (N : Nat) (s : (List (List Int))) (f : ((List Int) → Option Bool)) : Option ((Bool × Unit) × (Unit)) :=
 ((Zq66 N s f).bind fun r =>
 some (((ile 0 r.1.1), ()), ()))
noncomputable def Zq60_S (N : Nat) : FSum := ⟨Zq60_ps, Zq60_rs, fun x => Zq60 N x.1 x.2.1⟩
theorem Zq60_pc (N : Nat) : PC Tryz.prog 95 (Zq60_S N) := pcQ (L := []) (Zq60_gok N) Tryz.call95 Tryz.func95 (fun x => by kernel_rfl) trivial (by kernel_rfl)

abbrev Zq13_ps : List (PV.Mode × Ty) := [(.ro, I), (.ro, AI)]
abbrev Zq13_rs : List (Bool × Ty) := [(true, .bool)]
noncomputable def Zq13_G (N : Nat) : GTab := gOf [(97, Zq32_S N)]
theorem Zq13_gok (N : Nat) : GOk Tryz.prog (Zq13_G N) := gOf_ok ⟨Zq32_pc N, trivial⟩
noncomputable def Zq13_code : Code := (Tryz.f129.body).getD .skip
noncomputable def Zq13 (N : Nat) (c : Int) (c1 : Int) : Option ((Bool × Unit) × (Unit)) :=
 ((Zq32 N c 0 (IntKind.i64.wrap (c1 - 1))).bind fun r =>
 some (((!r.1.1), ()), ()))
noncomputable def Zq13_S (N : Nat) : FSum := ⟨Zq13_ps, Zq13_rs, fun x => Zq13 N x.1 x.2.1⟩
theorem Zq13_pc (N : Nat) : PC Tryz.prog 129 (Zq13_S N) := pcQ (L := []) (Zq13_gok N) Tryz.call129 Tryz.func129 (fun x => by kernel_rfl) trivial (by kernel_rfl)

abbrev Zq67_ps : List (PV.Mode × Ty) := [(.ro, LQII), (.ro, FQIIBo)]
abbrev Zq67_rs : List (Bool × Ty) := [(true, I)]
noncomputable def Zq67_G (N : Nat) : GTab := gOf []
theorem Zq67_gok (N : Nat) : GOk Tryz.prog (Zq67_G N) := gOf_ok trivial
noncomputable def Zq67_code : Code := (Tryz.f144.body).getD .skip
noncomputable def Zq67_l0_sh : Sh := ⟨[(0, .one (.ro LQII)), (1, .one (.ro FQIIBo)), (7, .one (.ro I)), (8, .one (.ro I))], []⟩
noncomputable def Zq67_l0_ex : List (Ex × Sh) := [(.ret, ⟨[(4, .one (.ro I))], []⟩), (.exit 0, ⟨[], []⟩)]
noncomputable def Zq67_l0 {R : Type} (N : Nat) (k0 : Int → Option R) (k1 : Unit → Option R) : Nat → (List (Int × Int)) → ((Int × Int) → Option Bool) → Int → Int → Option R
 | 0, _, _, _, _ => none
 | K + 1, s1, f1, x, x1 =>
 (br (ilt x1 x)
 ((chk (inb s1 x1)
 ((f1 (rdP s1 x1)).bind fun v =>
 (br v
 (k0 x1)
 (Zq67_l0 N k0 k1 K s1 f1 x (IntKind.i64.wrap (x1 + 1)))))))
 (k1 ()))
noncomputable def Zq67_l0_again {R : Type} (N : Nat) (ks : KS Zq67_l0_ex R) (k : Nat) (x : Zq67_l0_sh.T) : Option R :=
 Zq67_l0 N (fun y0 => ks 0 ((y0, ()), ())) (fun (_ : Unit) => ks 1 ((), ())) k x.1.1 x.1.2.1 x.1.2.2.1 x.1.2.2.2.1
noncomputable def Zq67_l0_s (N : Nat) : LSum := ⟨Zq67_l0_sh, Zq67_l0_ex, fun x ks => Zq67_l0_again N ks N x⟩
theorem Zq67_l0_ok (N : Nat) : LoopOk Tryz.prog Tryz.f144.ntmps (Zq67_l0_s N) (loopAt Zq67_code 0) := loopQ (sh := Zq67_l0_sh) (ex := Zq67_l0_ex) (N := N) (L := []) (fun R k x ks => Zq67_l0_again N ks k x) (Zq67_gok N) (fun _ _ _ => rfl) (fun R k x ks => by kernel_rfl) trivial (by kernel_rfl)
noncomputable def Zq67 (N : Nat) (s : (List (Int × Int))) (f : ((Int × Int) → Option Bool)) : Option ((Int × Unit) × (Unit)) :=
 Zq67_l0 N (fun x => some ((x, ()), ())) (fun (_ : Unit) => some (((-1), ()), ())) N s f (tLen s) 0
noncomputable def Zq67_S (N : Nat) : FSum := ⟨Zq67_ps, Zq67_rs, fun x => Zq67 N x.1 x.2.1⟩
theorem Zq67_pc (N : Nat) : PC Tryz.prog 144 (Zq67_S N) := pcQ (L := [Zq67_l0_s N]) (Zq67_gok N) Tryz.call144 Tryz.func144 (fun x => by kernel_rfl) ⟨Zq67_l0_ok N, trivial⟩ (by kernel_rfl)

abbrev Zq61_ps : List (PV.Mode × Ty) := [(.ro, LQII), (.ro, FQIIBo)]
abbrev Zq61_rs : List (Bool × Ty) := [(true, .bool)]
noncomputable def Zq61_G (N : Nat) : GTab := gOf [(144, Zq67_S N)]
theorem Zq61_gok (N : Nat) : GOk Tryz.prog (Zq61_G N) := gOf_ok ⟨Zq67_pc N, trivial⟩
noncomputable def Zq61_code : Code := (Tryz.f108.body).getD .skip
noncomputable def Zq61 (N : Nat) (s : (List (Int × Int))) (f : ((Int × Int) → Option Bool)) : Option ((Bool × Unit) × (Unit)) :=
 ((Zq67 N s f).bind fun r =>
 some (((ile 0 r.1.1), ()), ()))
noncomputable def Zq61_S (N : Nat) : FSum := ⟨Zq61_ps, Zq61_rs, fun x => Zq61 N x.1 x.2.1⟩
theorem Zq61_pc (N : Nat) : PC Tryz.prog 108 (Zq61_S N) := pcQ (L := []) (Zq61_gok N) Tryz.call108 Tryz.func108 (fun x => by kernel_rfl) trivial (by kernel_rfl)

abbrev Zq14_ps : List (PV.Mode × Ty) := [(.ro, QII), (.ro, ALI)]
abbrev Zq14_rs : List (Bool × Ty) := [(true, .bool)]
noncomputable def Zq14_G (N : Nat) : GTab := gOf []
theorem Zq14_gok (N : Nat) : GOk Tryz.prog (Zq14_G N) := gOf_ok trivial
noncomputable def Zq14_code : Code := (Tryz.f130.body).getD .skip
noncomputable def Zq14 (N : Nat) (e : (Int × Int)) (c : (List Int)) : Option ((Bool × Unit) × (Unit)) :=
 (chk (inb c e.1)
 (chk (inb c e.2)
 (some (((ieq (rdI c e.1) (rdI c e.2)), ()), ()))))
noncomputable def Zq14_S (N : Nat) : FSum := ⟨Zq14_ps, Zq14_rs, fun x => Zq14 N x.1 x.2.1⟩
theorem Zq14_pc (N : Nat) : PC Tryz.prog 130 (Zq14_S N) := pcQ (L := []) (Zq14_gok N) Tryz.call130 Tryz.func130 (fun x => by kernel_rfl) trivial (by kernel_rfl)

abbrev Zq12_ps : List (PV.Mode × Ty) := [(.ro, QILQII), (.ro, I), (.ro, LI)]
abbrev Zq12_rs : List (Bool × Ty) := [(true, .bool)]
noncomputable def Zq12_G (N : Nat) : GTab := gOf [(65, Zq59_S N), (129, Zq13_S N), (108, Zq61_S N), (130, Zq14_S N)]
theorem Zq12_gok (N : Nat) : GOk Tryz.prog (Zq12_G N) := gOf_ok ⟨Zq59_pc N, Zq13_pc N, Zq61_pc N, Zq14_pc N, trivial⟩
noncomputable def Zq12_code : Code := (Tryz.f87.body).getD .skip
noncomputable def Zq12 (N : Nat) (g : (Int × (List (Int × Int)))) (kv : Int) (colours : (List Int)) : Option ((Bool × Unit) × (Unit)) :=
 (br (ine (tLen colours) g.1)
 (some ((false, ()), ()))
 (((Zq59 N colours (fun y0 => (Zq13 N y0 kv).bind fun z => some z.1.1)).bind fun r =>
 (br r.1.1
 (some ((false, ()), ()))
 (((Zq61 N g.2 (fun y0 => (Zq14 N y0 colours).bind fun z => some z.1.1)).bind fun r1 =>
 some (((!r1.1.1), ()), ())))))))
noncomputable def Zq12_S (N : Nat) : FSum := ⟨Zq12_ps, Zq12_rs, fun x => Zq12 N x.1 x.2.1 x.2.2.1⟩
theorem Zq12_pc (N : Nat) : PC Tryz.prog 87 (Zq12_S N) := pcQ (L := []) (Zq12_gok N) Tryz.call87 Tryz.func87 (fun x => by kernel_rfl) trivial (by kernel_rfl)

abbrev Zq37_ps : List (PV.Mode × Ty) := [(.ro, LI), (.ro, AQILQII), (.ro, AI)]
abbrev Zq37_rs : List (Bool × Ty) := [(true, .bool)]
noncomputable def Zq37_G (N : Nat) : GTab := gOf [(87, Zq12_S N)]
theorem Zq37_gok (N : Nat) : GOk Tryz.prog (Zq37_G N) := gOf_ok ⟨Zq12_pc N, trivial⟩
noncomputable def Zq37_code : Code := (Tryz.f96.body).getD .skip
noncomputable def Zq37 (N : Nat) (colours : (List Int)) (c : (Int × (List (Int × Int)))) (c1 : Int) : Option ((Bool × Unit) × (Unit)) :=
 ((Zq12 N c c1 colours).bind fun r =>
 some (((!r.1.1), ()), ()))
noncomputable def Zq37_S (N : Nat) : FSum := ⟨Zq37_ps, Zq37_rs, fun x => Zq37 N x.1 x.2.1 x.2.2.1⟩
theorem Zq37_pc (N : Nat) : PC Tryz.prog 96 (Zq37_S N) := pcQ (L := []) (Zq37_gok N) Tryz.call96 Tryz.func96 (fun x => by kernel_rfl) trivial (by kernel_rfl)

abbrev Zq36_ps : List (PV.Mode × Ty) := [(.ro, QILQII), (.ro, I), (.ro, LLI)]
abbrev Zq36_rs : List (Bool × Ty) := [(true, .bool)]
noncomputable def Zq36_G (N : Nat) : GTab := gOf [(86, Zq35_S N), (95, Zq60_S N), (96, Zq37_S N)]
theorem Zq36_gok (N : Nat) : GOk Tryz.prog (Zq36_G N) := gOf_ok ⟨Zq35_pc N, Zq60_pc N, Zq37_pc N, trivial⟩
noncomputable def Zq36_code : Code := (Tryz.f44.body).getD .skip
noncomputable def Zq36 (N : Nat) (g : (Int × (List (Int × Int)))) (kv : Int) (lists : (List (List Int))) : Option ((Bool × Unit) × (Unit)) :=
 ((Zq35 N (g.1, g.2) kv).bind fun r =>
 (br r.1.1
 (((Zq60 N lists (fun y0 => (Zq37 N y0 (g.1, g.2) kv).bind fun z => some z.1.1)).bind fun r1 =>
 some (((!r1.1.1), ()), ())))
 (some ((false, ()), ()))))
noncomputable def Zq36_S (N : Nat) : FSum := ⟨Zq36_ps, Zq36_rs, fun x => Zq36 N x.1 x.2.1 x.2.2.1⟩
theorem Zq36_pc (N : Nat) : PC Tryz.prog 44 (Zq36_S N) := pcQ (L := []) (Zq36_gok N) Tryz.call44 Tryz.func44 (fun x => by kernel_rfl) trivial (by kernel_rfl)

abbrev Zq56_ps : List (PV.Mode × Ty) := [(.ro, LLI), (.ro, LI), (.ro, GLILII)]
abbrev Zq56_rs : List (Bool × Ty) := [(true, I), (true, .bool)]
noncomputable def Zq56_G (N : Nat) : GTab := gOf []
theorem Zq56_gok (N : Nat) : GOk Tryz.prog (Zq56_G N) := gOf_ok trivial
noncomputable def Zq56_code : Code := (Tryz.f105.body).getD .skip
noncomputable def Zq56_l0_sh : Sh := ⟨[(0, .one (.ro LLI)), (1, .one (.ro LI)), (2, .one (.ro GLILII)), (8, .one (.ro I)), (9, .one (.ro I)), (10, .one (.ro I))], []⟩
noncomputable def Zq56_l0_ex : List (Ex × Sh) := [(.exit 0, ⟨[(0, .one (.ro LLI)), (1, .one (.ro LI)), (2, .one (.ro GLILII)), (8, .one (.ro I)), (9, .one (.ro I))], []⟩)]
noncomputable def Zq56_l0 {R : Type} (N : Nat) (k0 : (List (List Int)) → (List Int) → ((List Int) → (List Int) → Option Int) → Int → Int → Option R) : Nat → (List (List Int)) → (List Int) → ((List Int) → (List Int) → Option Int) → Int → Int → Int → Option R
 | 0, _, _, _, _, _, _ => none
 | K + 1, x1, target1, cmp1, n, i, j =>
 (br (ilt i j)
 ((chk (inb x1 (IntKind.i64.wrap ((shrI .u64 (IntKind.u64.wrap ((IntKind.i64.wrap (i + j)))) 1))))
 ((cmp1 (rdL x1 (IntKind.i64.wrap ((shrI .u64 (IntKind.u64.wrap ((IntKind.i64.wrap (i + j)))) 1)))) target1).bind fun v =>
 (br (ilt v 0)
 (Zq56_l0 N k0 K x1 target1 cmp1 n (IntKind.i64.wrap ((IntKind.i64.wrap ((shrI .u64 (IntKind.u64.wrap ((IntKind.i64.wrap (i + j)))) 1))) + 1)) j)
 (Zq56_l0 N k0 K x1 target1 cmp1 n i (IntKind.i64.wrap ((shrI .u64 (IntKind.u64.wrap ((IntKind.i64.wrap (i + j)))) 1))))))))
 (k0 x1 target1 cmp1 n i))
noncomputable def Zq56_l0_again {R : Type} (N : Nat) (ks : KS Zq56_l0_ex R) (k : Nat) (x : Zq56_l0_sh.T) : Option R :=
 Zq56_l0 N (fun y0 y1 y2 y3 y4 => ks 0 ((y0, y1, y2, y3, y4, ()), ())) k x.1.1 x.1.2.1 x.1.2.2.1 x.1.2.2.2.1 x.1.2.2.2.2.1 x.1.2.2.2.2.2.1
noncomputable def Zq56_l0_s (N : Nat) : LSum := ⟨Zq56_l0_sh, Zq56_l0_ex, fun x ks => Zq56_l0_again N ks N x⟩
theorem Zq56_l0_ok (N : Nat) : LoopOk Tryz.prog Tryz.f105.ntmps (Zq56_l0_s N) (loopAt Zq56_code 0) := loopQ (sh := Zq56_l0_sh) (ex := Zq56_l0_ex) (N := N) (L := []) (fun R k x ks => Zq56_l0_again N ks k x) (Zq56_gok N) (fun _ _ _ => rfl) (fun R k x ks => by kernel_rfl) trivial (by kernel_rfl)
noncomputable def Zq56 (N : Nat) (x : (List (List Int))) (target : (List Int)) (cmp : ((List Int) → (List Int) → Option Int)) : Option ((Int × Bool × Unit) × (Unit)) :=
 Zq56_l0 N (fun x1 target1 cmp1 n i => (br (ilt i n)
 ((chk (inb x1 i)
 ((cmp1 (rdL x1 i) target1).bind fun v =>
 some ((i, (ieq v 0), ()), ()))))
 (some ((i, false, ()), ())))) N x target cmp (tLen x) 0 (tLen x)
noncomputable def Zq56_S (N : Nat) : FSum := ⟨Zq56_ps, Zq56_rs, fun x => Zq56 N x.1 x.2.1 x.2.2.1⟩
theorem Zq56_pc (N : Nat) : PC Tryz.prog 105 (Zq56_S N) := pcQ (L := [Zq56_l0_s N]) (Zq56_gok N) Tryz.call105 Tryz.func105 (fun x => by kernel_rfl) ⟨Zq56_l0_ok N, trivial⟩ (by kernel_rfl)

abbrev Zq25_ps : List (PV.Mode × Ty) := [(.ro, QLLILQII), (.ro, LI)]
abbrev Zq25_rs : List (Bool × Ty) := [(true, I), (true, .bool)]
noncomputable def Zq25_G (N : Nat) : GTab := gOf [(105, Zq56_S N), (102, Zq58_S N)]
theorem Zq25_gok (N : Nat) : GOk Tryz.prog (Zq25_G N) := gOf_ok ⟨Zq56_pc N, Zq58_pc N, trivial⟩
noncomputable def Zq25_code : Code := (Tryz.f53.body).getD .skip
noncomputable def Zq25 (N : Nat) (x : ((List (List Int)) × (List (Int × Int)))) (state : (List Int)) : Option ((Int × Bool × Unit) × (Unit)) :=
 ((Zq56 N x.1 state (fun y0 y1 => (Zq58 N y0 y1).bind fun z => some z.1.1)).bind fun r =>
 some ((r.1.1, r.1.2.1, ()), ()))
noncomputable def Zq25_S (N : Nat) : FSum := ⟨Zq25_ps, Zq25_rs, fun x => Zq25 N x.1 x.2.1⟩
theorem Zq25_pc (N : Nat) : PC Tryz.prog 53 (Zq25_S N) := pcQ (L := []) (Zq25_gok N) Tryz.call53 Tryz.func53 (fun x => by kernel_rfl) trivial (by kernel_rfl)

abbrev Zq72_ps : List (PV.Mode × Ty) := [(.mut, LI)]
abbrev Zq72_rs : List (Bool × Ty) := []
noncomputable def Zq72 (N : Nat) (x : List Int) : Option (Unit × (List Int × Unit)) := sortIF x
noncomputable def Zq72_S (N : Nat) : FSum := ⟨Zq72_ps, Zq72_rs, fun x => Zq72 N x.1⟩
theorem Zq72_pc (N : Nat) : PC Tryz.prog 106 (Zq72_S N) := sortInts_pc (sortsI Tryz.sortIL) (sortsINone Tryz.sortIL) Tryz.call106

abbrev Zq26_ps : List (PV.Mode × Ty) := [(.ro, QLLILQII)]
abbrev Zq26_rs : List (Bool × Ty) := [(true, LLI)]
noncomputable def Zq26_G (N : Nat) : GTab := gOf [(106, Zq72_S N)]
theorem Zq26_gok (N : Nat) : GOk Tryz.prog (Zq26_G N) := gOf_ok ⟨Zq72_pc N, trivial⟩
noncomputable def Zq26_code : Code := (Tryz.f56.body).getD .skip
noncomputable def Zq26_l0_sh : Sh := ⟨[(3, .one (.ref 0)), (13, .one (.ro LQII)), (14, .one (.ro I)), (15, .one (.ro I))], [.sl 27 LI .deep]⟩
noncomputable def Zq26_l0_ex : List (Ex × Sh) := [(.exit 0, ⟨[(3, .one (.ref 0))], [.sl 27 LI .deep]⟩)]
noncomputable def Zq26_l0 {R : Type} (N : Nat) (k0 : (List (List Int)) → Option R) : Nat → (List (Int × Int)) → Int → Int → (List (List Int)) → Option R
 | 0, _, _, _, _ => none
 | K + 1, x1, x2, x3, o =>
 (br (ilt x3 x2)
 ((chk (inb x1 x3)
 (chk (inb o ((rdP x1 x3).1))
 (chk (room (rdL o ((rdP x1 x3).1)) [(rdP x1 x3).2])
 (chk (inb o ((rdP x1 x3).1))
 (chk (ieq ((rdP x1 x3).1) ((rdP x1 x3).1))
 (chk (inb (tSet o ((rdP x1 x3).1) (tApp (rdL o ((rdP x1 x3).1)) [(rdP x1 x3).2])) ((rdP x1 x3).2))
 (chk (room (rdL (tSet o ((rdP x1 x3).1) (tApp (rdL o ((rdP x1 x3).1)) [(rdP x1 x3).2])) ((rdP x1 x3).2)) [(rdP x1 x3).1])
 (chk (inb (tSet o ((rdP x1 x3).1) (tApp (rdL o ((rdP x1 x3).1)) [(rdP x1 x3).2])) ((rdP x1 x3).2))
 (chk (ieq ((rdP x1 x3).2) ((rdP x1 x3).2))
 (Zq26_l0 N k0 K x1 x2 (IntKind.i64.wrap (x3 + 1)) (tSet (tSet o ((rdP x1 x3).1) (tApp (rdL o ((rdP x1 x3).1)) [(rdP x1 x3).2])) ((rdP x1 x3).2) (tApp (rdL (tSet o ((rdP x1 x3).1) (tApp (rdL o ((rdP x1 x3).1)) [(rdP x1 x3).2])) ((rdP x1 x3).2)) [(rdP x1 x3).1])))))))))))))
 (k0 o))
noncomputable def Zq26_l0_again {R : Type} (N : Nat) (ks : KS Zq26_l0_ex R) (k : Nat) (x : Zq26_l0_sh.T) : Option R :=
 Zq26_l0 N (fun y0 => ks 0 (((), ()), (y0, ()))) k x.1.2.1 x.1.2.2.1 x.1.2.2.2.1 x.2.1
noncomputable def Zq26_l0_s (N : Nat) : LSum := ⟨Zq26_l0_sh, Zq26_l0_ex, fun x ks => Zq26_l0_again N ks N x⟩
theorem Zq26_l0_ok (N : Nat) : LoopOk Tryz.prog Tryz.f56.ntmps (Zq26_l0_s N) (loopAt Zq26_code 0) := loopQ (sh := Zq26_l0_sh) (ex := Zq26_l0_ex) (N := N) (L := []) (fun R k x ks => Zq26_l0_again N ks k x) (Zq26_gok N) (fun _ _ _ => rfl) (fun R k x ks => by kernel_rfl) trivial (by kernel_rfl)
noncomputable def Zq26_l1_sh : Sh := ⟨[(3, .one (.ref 0)), (46, .one (.ref 0)), (47, .one (.ro I)), (48, .one (.ro I))], [.sl 27 LI .deep]⟩
noncomputable def Zq26_l1_ex : List (Ex × Sh) := [(.exit 2, ⟨[(3, .one (.ref 0))], [.sl 27 LI .deep]⟩)]
noncomputable def Zq26_l1 {R : Type} (N : Nat) (k0 : (List (List Int)) → Option R) : Nat → Int → Int → (List (List Int)) → Option R
 | 0, _, _, _ => none
 | K + 1, x1, x2, o1 =>
 (br (ilt x2 x1)
 ((chk (inb o1 x2)
 ((Zq72 N (rdL o1 x2)).bind fun r =>
 Zq26_l1 N k0 K x1 (IntKind.i64.wrap (x2 + 1)) (tSet o1 x2 r.2.1))))
 (k0 o1))
noncomputable def Zq26_l1_again {R : Type} (N : Nat) (ks : KS Zq26_l1_ex R) (k : Nat) (x : Zq26_l1_sh.T) : Option R :=
 Zq26_l1 N (fun y0 => ks 0 (((), ()), (y0, ()))) k x.1.2.2.1 x.1.2.2.2.1 x.2.1
noncomputable def Zq26_l1_s (N : Nat) : LSum := ⟨Zq26_l1_sh, Zq26_l1_ex, fun x ks => Zq26_l1_again N ks N x⟩
theorem Zq26_l1_ok (N : Nat) : LoopOk Tryz.prog Tryz.f56.ntmps (Zq26_l1_s N) (loopAt Zq26_code 1) := loopQ (sh := Zq26_l1_sh) (ex := Zq26_l1_ex) (N := N) (L := []) (fun R k x ks => Zq26_l1_again N ks k x) (Zq26_gok N) (fun _ _ _ => rfl) (fun R k x ks => by kernel_rfl) trivial (by kernel_rfl)
noncomputable def Zq26 (N : Nat) (x : ((List (List Int)) × (List (Int × Int)))) : Option (((List (List Int)) × Unit) × (Unit)) :=
 (chk (ile 0 (tLen x.1) && ile (tLen x.1) (tLen x.1) && fits (tLen x.1))
 (Zq26_l0 N (fun o => Zq26_l1 N (fun o1 => some ((o1, ()), ())) N (tLen o) 0 o) N x.2 (tLen x.2) 0 (tRep (tLen x.1) [])))
noncomputable def Zq26_S (N : Nat) : FSum := ⟨Zq26_ps, Zq26_rs, fun x => Zq26 N x.1⟩
theorem Zq26_pc (N : Nat) : PC Tryz.prog 56 (Zq26_S N) := pcQ (L := [Zq26_l0_s N, Zq26_l1_s N]) (Zq26_gok N) Tryz.call56 Tryz.func56 (fun x => by kernel_rfl) ⟨Zq26_l0_ok N, Zq26_l1_ok N, trivial⟩ (by kernel_rfl)

abbrev Zq53_ps : List (PV.Mode × Ty) := [(.ro, U64), (.ro, U64)]
abbrev Zq53_rs : List (Bool × Ty) := [(true, U64), (true, U64)]
noncomputable def Zq53_G (N : Nat) : GTab := gOf []
theorem Zq53_gok (N : Nat) : GOk Tryz.prog (Zq53_G N) := gOf_ok trivial
noncomputable def Zq53_code : Code := (Tryz.f149.body).getD .skip
noncomputable def Zq53 (N : Nat) (x : Int) (y : Int) : Option ((Int × Int × Unit) × (Unit)) :=
 some (((IntKind.u64.wrap ((IntKind.u64.wrap ((IntKind.u64.wrap ((shrI .u64 x 32) * (shrI .u64 y 32))) + (shrI .u64 (IntKind.u64.wrap ((IntKind.u64.wrap ((shrI .u64 x 32) * (bitop .and .u64 y 4294967295))) + (shrI .u64 (IntKind.u64.wrap ((bitop .and .u64 x 4294967295) * (bitop .and .u64 y 4294967295))) 32))) 32))) + (shrI .u64 (IntKind.u64.wrap ((bitop .and .u64 (IntKind.u64.wrap ((IntKind.u64.wrap ((shrI .u64 x 32) * (bitop .and .u64 y 4294967295))) + (shrI .u64 (IntKind.u64.wrap ((bitop .and .u64 x 4294967295) * (bitop .and .u64 y 4294967295))) 32))) 4294967295) + (IntKind.u64.wrap ((bitop .and .u64 x 4294967295) * (shrI .u64 y 32))))) 32))), (IntKind.u64.wrap (x * y)), ()), ())
noncomputable def Zq53_S (N : Nat) : FSum := ⟨Zq53_ps, Zq53_rs, fun x => Zq53 N x.1 x.2.1⟩
theorem Zq53_pc (N : Nat) : PC Tryz.prog 149 (Zq53_S N) := pcQ (L := []) (Zq53_gok N) Tryz.call149 Tryz.func149 (fun x => by kernel_rfl) trivial (by kernel_rfl)

abbrev Zq52_ps : List (PV.Mode × Ty) := [(.ro, U64), (.ro, U64)]
abbrev Zq52_rs : List (Bool × Ty) := [(true, U64), (true, U64)]
noncomputable def Zq52_G (N : Nat) : GTab := gOf [(149, Zq53_S N)]
theorem Zq52_gok (N : Nat) : GOk Tryz.prog (Zq52_G N) := gOf_ok ⟨Zq53_pc N, trivial⟩
noncomputable def Zq52_code : Code := (Tryz.f115.body).getD .skip
noncomputable def Zq52 (N : Nat) (x : Int) (y : Int) : Option ((Int × Int × Unit) × (Unit)) :=
 ((Zq53 N x y).bind fun r =>
 some ((r.1.1, r.1.2.1, ()), ()))
noncomputable def Zq52_S (N : Nat) : FSum := ⟨Zq52_ps, Zq52_rs, fun x => Zq52 N x.1 x.2.1⟩
theorem Zq52_pc (N : Nat) : PC Tryz.prog 115 (Zq52_S N) := pcQ (L := []) (Zq52_gok N) Tryz.call115 Tryz.func115 (fun x => by kernel_rfl) trivial (by kernel_rfl)

abbrev Zq70_ps : List (PV.Mode × Ty) := [(.ro, LI), (.ro, I)]
abbrev Zq70_rs : List (Bool × Ty) := [(true, LI)]
noncomputable def Zq70_G (N : Nat) : GTab := gOf [(115, Zq52_S N)]
theorem Zq70_gok (N : Nat) : GOk Tryz.prog (Zq70_G N) := gOf_ok ⟨Zq52_pc N, trivial⟩
noncomputable def Zq70_code : Code := (Tryz.f64.body).getD .skip
noncomputable def Zq70_l0_sh : Sh := ⟨[(7, .one (.ref 0)), (8, .one (.ro I))], [.sl 3 I .own]⟩
noncomputable def Zq70_l0_ex : List (Ex × Sh) := [(.exit 0, ⟨[(7, .one (.ref 0))], [.sl 3 I .own]⟩)]
noncomputable def Zq70_l0 {R : Type} (N : Nat) (k0 : (List Int) → Option R) : Nat → Int → (List Int) → Option R
 | 0, _, _ => none
 | K + 1, n, o =>
 (br (ilt n (tLen o))
 ((chk (ile 0 n && ile n (tLen o) && ile (tLen o) (tLen o))
 (chk (ile 0 0 && ile 0 n && ile n (tLen o))
 (Zq70_l0 N k0 K (IntKind.i64.wrap (n + (tMin ((tLen o) - n) (tLen (tCut o 0 n))))) (tPut o n (tCut (tCut o 0 n) 0 (tMin ((tLen o) - n) (tLen (tCut o 0 n)))))))))
 (k0 o))
noncomputable def Zq70_l0_again {R : Type} (N : Nat) (ks : KS Zq70_l0_ex R) (k : Nat) (x : Zq70_l0_sh.T) : Option R :=
 Zq70_l0 N (fun y0 => ks 0 (((), ()), (y0, ()))) k x.1.2.1 x.2.1
noncomputable def Zq70_l0_s (N : Nat) : LSum := ⟨Zq70_l0_sh, Zq70_l0_ex, fun x ks => Zq70_l0_again N ks N x⟩
theorem Zq70_l0_ok (N : Nat) : LoopOk Tryz.prog Tryz.f64.ntmps (Zq70_l0_s N) (loopAt Zq70_code 0) := loopQ (sh := Zq70_l0_sh) (ex := Zq70_l0_ex) (N := N) (L := []) (fun R k x ks => Zq70_l0_again N ks k x) (Zq70_gok N) (fun _ _ _ => rfl) (fun R k x ks => by kernel_rfl) trivial (by kernel_rfl)
noncomputable def Zq70 (N : Nat) (x : (List Int)) (count : Int) : Option (((List Int) × Unit) × (Unit)) :=
 (br (ilt count 0)
 (none)
 (((Zq52 N (IntKind.u64.wrap ((tLen x))) (IntKind.u64.wrap (count))).bind fun r =>
 (br (ilt 0 r.1.1)
 (none)
 ((br (ilt 9223372036854775807 r.1.2.1)
 (none)
 ((chk (ile 0 (IntKind.i64.wrap (r.1.2.1)) && ile (IntKind.i64.wrap (r.1.2.1)) (IntKind.i64.wrap (r.1.2.1)) && fits (IntKind.i64.wrap (r.1.2.1)))
 (Zq70_l0 N (fun o => some ((o, ()), ())) N (tMin (tLen (tRep (IntKind.i64.wrap (r.1.2.1)) (0 : Int))) (tLen x)) (tPut (tRep (IntKind.i64.wrap (r.1.2.1)) (0 : Int)) 0 (tCut x 0 (tMin (tLen (tRep (IntKind.i64.wrap (r.1.2.1)) (0 : Int))) (tLen x)))))))))))))
noncomputable def Zq70_S (N : Nat) : FSum := ⟨Zq70_ps, Zq70_rs, fun x => Zq70 N x.1 x.2.1⟩
theorem Zq70_pc (N : Nat) : PC Tryz.prog 64 (Zq70_S N) := pcQ (L := [Zq70_l0_s N]) (Zq70_gok N) Tryz.call64 Tryz.func64 (fun x => by kernel_rfl) ⟨Zq70_l0_ok N, trivial⟩ (by kernel_rfl)

abbrev Zq45_ps : List (PV.Mode × Ty) := [(.ro, LLI), (.ro, I)]
abbrev Zq45_rs : List (Bool × Ty) := [(true, LI)]
noncomputable def Zq45_G (N : Nat) : GTab := gOf [(64, Zq70_S N)]
theorem Zq45_gok (N : Nat) : GOk Tryz.prog (Zq45_G N) := gOf_ok ⟨Zq70_pc N, trivial⟩
noncomputable def Zq45_code : Code := (Tryz.f55.body).getD .skip
noncomputable def Zq45_l0_0_sh : Sh := ⟨[(0, .one (.ro LLI)), (5, .one (.ref 0)), (6, .one (.sub 1 1)), (7, .one (.ro I)), (30, .one (.ro LI)), (31, .one (.ro I)), (32, .one (.ro I))], [.sl 3 I .own, .sl 3 I .own]⟩
noncomputable def Zq45_l0_0_ex : List (Ex × Sh) := [(.exit 2, ⟨[(0, .one (.ro LLI)), (5, .one (.ref 0)), (6, .one (.sub 1 1))], [.sl 3 I .own, .sl 3 I .own]⟩)]
noncomputable def Zq45_l0_0 {R : Type} (N : Nat) (k0 : (List (List Int)) → Int → Int → (List Int) → (List Int) → Option R) : Nat → (List (List Int)) → Int → Int → Int → (List Int) → Int → Int → (List Int) → (List Int) → Option R
 | 0, _, _, _, _, _, _, _, _, _ => none
 | K + 1, roads2, queue2, queue3, i, x, x1, x2, o2, o3 =>
 (br (ilt x2 x1)
 ((chk (inb x x2)
 (chk (inb o2 (rdI x x2))
 (br (ilt (rdI o2 (rdI x x2)) 0)
 ((chk (inb o2 i)
 (chk (inb o2 (rdI x x2))
 (chk (room (tCut o3 queue2 queue3) [(rdI x x2)])
 (Zq45_l0_0 N k0 K roads2 0 (tLen (tApp (tCut o3 queue2 queue3) [(rdI x x2)])) i x x1 (IntKind.i64.wrap (x2 + 1)) (tSet o2 (rdI x x2) (IntKind.i64.wrap ((rdI o2 i) + 1))) (tApp (tCut o3 queue2 queue3) [(rdI x x2)]))))))
 (Zq45_l0_0 N k0 K roads2 queue2 queue3 i x x1 (IntKind.i64.wrap (x2 + 1)) o2 o3)))))
 (k0 roads2 queue2 queue3 o2 o3))
noncomputable def Zq45_l0_0_again {R : Type} (N : Nat) (ks : KS Zq45_l0_0_ex R) (k : Nat) (x : Zq45_l0_0_sh.T) : Option R :=
 Zq45_l0_0 N (fun y0 y1 y2 y3 y4 => ks 0 ((y0, (), (y1, y2), ()), (y3, y4, ()))) k x.1.1 x.1.2.2.1.1 x.1.2.2.1.2 x.1.2.2.2.1 x.1.2.2.2.2.1 x.1.2.2.2.2.2.1 x.1.2.2.2.2.2.2.1 x.2.1 x.2.2.1
noncomputable def Zq45_l0_0_s (N : Nat) : LSum := ⟨Zq45_l0_0_sh, Zq45_l0_0_ex, fun x ks => Zq45_l0_0_again N ks N x⟩
theorem Zq45_l0_0_ok (N : Nat) : LoopOk Tryz.prog Tryz.f55.ntmps (Zq45_l0_0_s N) (loopAt (loopAt Zq45_code 0) 0) := loopQ (sh := Zq45_l0_0_sh) (ex := Zq45_l0_0_ex) (N := N) (L := []) (fun R k x ks => Zq45_l0_0_again N ks k x) (Zq45_gok N) (fun _ _ _ => rfl) (fun R k x ks => by kernel_rfl) trivial (by kernel_rfl)
noncomputable def Zq45_l0_sh : Sh := ⟨[(0, .one (.ro LLI)), (5, .one (.ref 0)), (6, .one (.sub 1 1))], [.sl 3 I .own, .sl 3 I .own]⟩
noncomputable def Zq45_l0_ex : List (Ex × Sh) := [(.exit 0, ⟨[(5, .one (.ref 0))], [.sl 3 I .own]⟩)]
noncomputable def Zq45_l0 {R : Type} (N : Nat) (k0 : (List Int) → Option R) : Nat → (List (List Int)) → Int → Int → (List Int) → (List Int) → Option R
 | 0, _, _, _, _, _ => none
 | K + 1, roads1, queue, queue1, o, o1 =>
 (br (ilt 0 (queue1 - queue))
 ((chk (ile 0 0 && ilt 0 (queue1 - queue))
 (chk (ile 0 1 && ile 1 (queue1 - queue) && ile (queue1 - queue) (queue1 - queue))
 (chk (inb roads1 (rdI o1 (queue + 0)))
 (Zq45_l0_0 N (fun roads2 queue2 queue3 o2 o3 => Zq45_l0 N k0 K roads2 queue2 queue3 o2 o3) N roads1 (queue + 1) (queue + (queue1 - queue)) (rdI o1 (queue + 0)) (rdL roads1 (rdI o1 (queue + 0))) (tLen (rdL roads1 (rdI o1 (queue + 0)))) 0 o o1)))))
 (k0 o))
noncomputable def Zq45_l0_again {R : Type} (N : Nat) (ks : KS Zq45_l0_ex R) (k : Nat) (x : Zq45_l0_sh.T) : Option R :=
 Zq45_l0 N (fun y0 => ks 0 (((), ()), (y0, ()))) k x.1.1 x.1.2.2.1.1 x.1.2.2.1.2 x.2.1 x.2.2.1
noncomputable def Zq45_l0_s (N : Nat) : LSum := ⟨Zq45_l0_sh, Zq45_l0_ex, fun x ks => Zq45_l0_again N ks N x⟩
theorem Zq45_l0_ok (N : Nat) : LoopOk Tryz.prog Tryz.f55.ntmps (Zq45_l0_s N) (loopAt Zq45_code 0) := loopQ (sh := Zq45_l0_sh) (ex := Zq45_l0_ex) (N := N) (L := [Zq45_l0_0_s N]) (fun R k x ks => Zq45_l0_again N ks k x) (Zq45_gok N) (fun _ _ _ => rfl) (fun R k x ks => by kernel_rfl) ⟨Zq45_l0_0_ok N, trivial⟩ (by kernel_rfl)
noncomputable def Zq45 (N : Nat) (roads : (List (List Int))) (fromv : Int) : Option (((List Int) × Unit) × (Unit)) :=
 ((Zq70 N [(-1)] (tLen roads)).bind fun r =>
 (chk (inb r.1.1 fromv)
 (Zq45_l0 N (fun o => some ((o, ()), ())) N roads 0 (tLen [fromv]) (tSet r.1.1 fromv 0) [fromv])))
noncomputable def Zq45_S (N : Nat) : FSum := ⟨Zq45_ps, Zq45_rs, fun x => Zq45 N x.1 x.2.1⟩
theorem Zq45_pc (N : Nat) : PC Tryz.prog 55 (Zq45_S N) := pcQ (L := [Zq45_l0_s N]) (Zq45_gok N) Tryz.call55 Tryz.func55 (fun x => by kernel_rfl) ⟨Zq45_l0_ok N, trivial⟩ (by kernel_rfl)

abbrev Zq24_ps : List (PV.Mode × Ty) := [(.ro, QLLILQII), (.ro, I), (.ro, I)]
abbrev Zq24_rs : List (Bool × Ty) := [(true, LI), (true, .bool)]
noncomputable def Zq24_G (N : Nat) : GTab := gOf [(56, Zq26_S N), (55, Zq45_S N)]
theorem Zq24_gok (N : Nat) : GOk Tryz.prog (Zq24_G N) := gOf_ok ⟨Zq26_pc N, Zq45_pc N, trivial⟩
noncomputable def Zq24_code : Code := (Tryz.f121.body).getD .skip
noncomputable def Zq24_l0_0_sh : Sh := ⟨[(1, .one (.ro I)), (2, .one (.ro I)), (8, .one (.ref 0)), (9, .one (.ref 1)), (10, .one (.ref 2)), (31, .one (.el 0)), (32, .one (.ro I)), (33, .one (.ro I))], [.sl 27 LI .deep, .sl 3 I .own, .sl 3 I .own]⟩
noncomputable def Zq24_l0_0_ex : List (Ex × Sh) := [(.exit 2, ⟨[(1, .one (.ro I)), (2, .one (.ro I)), (8, .one (.ref 0)), (9, .one (.ref 1)), (10, .one (.ref 2))], [.sl 27 LI .deep, .sl 3 I .own, .sl 3 I .own]⟩)]
noncomputable def Zq24_l0_0 {R : Type} (N : Nat) (k0 : Int → Int → (List (List Int)) → (List Int) → (List Int) → Option R) : Nat → Int → Int → Int → Int → Int → (List (List Int)) → (List Int) → (List Int) → Option R
 | 0, _, _, _, _, _, _, _, _ => none
 | K + 1, i2, j2, x1, x2, x3, o3, o4, o5 =>
 (br (ilt x3 x2)
 ((chk (inb (rdL o3 x1) x3)
 (chk (inb o4 (rdI (rdL o3 x1) x3))
 (chk (inb o4 i2)
 (br (ieq (rdI o4 (rdI (rdL o3 x1) x3)) (IntKind.i64.wrap ((rdI o4 i2) - 1)))
 (k0 (rdI (rdL o3 x1) x3) j2 o3 o4 o5)
 (Zq24_l0_0 N k0 K i2 j2 x1 x2 (IntKind.i64.wrap (x3 + 1)) o3 o4 o5))))))
 (k0 i2 j2 o3 o4 o5))
noncomputable def Zq24_l0_0_again {R : Type} (N : Nat) (ks : KS Zq24_l0_0_ex R) (k : Nat) (x : Zq24_l0_0_sh.T) : Option R :=
 Zq24_l0_0 N (fun y0 y1 y2 y3 y4 => ks 0 ((y0, y1, (), (), (), ()), (y2, y3, y4, ()))) k x.1.1 x.1.2.1 x.1.2.2.2.2.2.1 x.1.2.2.2.2.2.2.1 x.1.2.2.2.2.2.2.2.1 x.2.1 x.2.2.1 x.2.2.2.1
noncomputable def Zq24_l0_0_s (N : Nat) : LSum := ⟨Zq24_l0_0_sh, Zq24_l0_0_ex, fun x ks => Zq24_l0_0_again N ks N x⟩
theorem Zq24_l0_0_ok (N : Nat) : LoopOk Tryz.prog Tryz.f121.ntmps (Zq24_l0_0_s N) (loopAt (loopAt Zq24_code 0) 0) := loopQ (sh := Zq24_l0_0_sh) (ex := Zq24_l0_0_ex) (N := N) (L := []) (fun R k x ks => Zq24_l0_0_again N ks k x) (Zq24_gok N) (fun _ _ _ => rfl) (fun R k x ks => by kernel_rfl) trivial (by kernel_rfl)
noncomputable def Zq24_l0_sh : Sh := ⟨[(1, .one (.ro I)), (2, .one (.ro I)), (8, .one (.ref 0)), (9, .one (.ref 1)), (10, .one (.ref 2))], [.sl 27 LI .deep, .sl 3 I .own, .sl 3 I .own]⟩
noncomputable def Zq24_l0_ex : List (Ex × Sh) := [(.exit 0, ⟨[(10, .one (.ref 0))], [.sl 3 I .own]⟩)]
noncomputable def Zq24_l0 {R : Type} (N : Nat) (k0 : (List Int) → Option R) : Nat → Int → Int → (List (List Int)) → (List Int) → (List Int) → Option R
 | 0, _, _, _, _, _ => none
 | K + 1, i1, j1, o, o1, o2 =>
 (br (ine i1 j1)
 ((chk (inb o i1)
 (Zq24_l0_0 N (fun i2 j2 o3 o4 o5 => (chk (room o5 [i2])
 (Zq24_l0 N k0 K i2 j2 o3 o4 (tApp o5 [i2])))) N i1 j1 i1 (tLen (rdL o i1)) 0 o o1 o2)))
 (k0 o2))
noncomputable def Zq24_l0_again {R : Type} (N : Nat) (ks : KS Zq24_l0_ex R) (k : Nat) (x : Zq24_l0_sh.T) : Option R :=
 Zq24_l0 N (fun y0 => ks 0 (((), ()), (y0, ()))) k x.1.1 x.1.2.1 x.2.1 x.2.2.1 x.2.2.2.1
noncomputable def Zq24_l0_s (N : Nat) : LSum := ⟨Zq24_l0_sh, Zq24_l0_ex, fun x ks => Zq24_l0_again N ks N x⟩
theorem Zq24_l0_ok (N : Nat) : LoopOk Tryz.prog Tryz.f121.ntmps (Zq24_l0_s N) (loopAt Zq24_code 0) := loopQ (sh := Zq24_l0_sh) (ex := Zq24_l0_ex) (N := N) (L := [Zq24_l0_0_s N]) (fun R k x ks => Zq24_l0_again N ks k x) (Zq24_gok N) (fun _ _ _ => rfl) (fun R k x ks => by kernel_rfl) ⟨Zq24_l0_0_ok N, trivial⟩ (by kernel_rfl)
noncomputable def Zq24 (N : Nat) (x : ((List (List Int)) × (List (Int × Int)))) (i : Int) (j : Int) : Option (((List Int) × Bool × Unit) × (Unit)) :=
 ((Zq26 N (x.1, x.2)).bind fun r =>
 ((Zq45 N r.1.1 j).bind fun r1 =>
 (chk (inb r1.1.1 i)
 (br (ilt (rdI r1.1.1 i) 0)
 (some (([], false, ()), ()))
 (Zq24_l0 N (fun o => some ((o, true, ()), ())) N i j r.1.1 r1.1.1 [i])))))
noncomputable def Zq24_S (N : Nat) : FSum := ⟨Zq24_ps, Zq24_rs, fun x => Zq24 N x.1 x.2.1 x.2.2.1⟩
theorem Zq24_pc (N : Nat) : PC Tryz.prog 121 (Zq24_S N) := pcQ (L := [Zq24_l0_s N]) (Zq24_gok N) Tryz.call121 Tryz.func121 (fun x => by kernel_rfl) ⟨Zq24_l0_ok N, trivial⟩ (by kernel_rfl)

abbrev Zq27_ps : List (PV.Mode × Ty) := [(.ro, QLLILQII), (.ro, LI), (.ro, LI)]
abbrev Zq27_rs : List (Bool × Ty) := [(true, LLI), (true, .bool)]
noncomputable def Zq27_G (N : Nat) : GTab := gOf [(53, Zq25_S N), (121, Zq24_S N), (122, Zq57_S N)]
theorem Zq27_gok (N : Nat) : GOk Tryz.prog (Zq27_G N) := gOf_ok ⟨Zq25_pc N, Zq24_pc N, Zq57_pc N, trivial⟩
noncomputable def Zq27_code : Code := (Tryz.f79.body).getD .skip
noncomputable def Zq27_l0_sh : Sh := ⟨[(3, .one (.adr 0 0)), (13, .one (.ro .bool)), (14, .one (.ref 1)), (43, .one (.ref 2)), (44, .one (.ro I)), (45, .one (.ro I))], [.box [.ro LLI, .ro LQII], .sl 27 LI .deep, .sl 3 I .own]⟩
noncomputable def Zq27_l0_ex : List (Ex × Sh) := [(.exit 0, ⟨[(13, .one (.ro .bool)), (14, .one (.ref 0))], [.sl 27 LI .deep]⟩)]
noncomputable def Zq27_l0 {R : Type} (N : Nat) (k0 : Bool → (List (List Int)) → Option R) : Nat → Bool → Int → Int → (List (List Int)) → (List (Int × Int)) → (List (List Int)) → (List Int) → Option R
 | 0, _, _, _, _, _, _, _ => none
 | K + 1, ok, x1, x2, o, o1, o2, o3 =>
 (br (ilt x2 x1)
 ((chk (inb o3 x2)
 (chk (inb o (rdI o3 x2))
 ((Zq57 N (rdL o (rdI o3 x2))).bind fun r3 =>
 (chk (room o2 [r3.1.1])
 (Zq27_l0 N k0 K ok x1 (IntKind.i64.wrap (x2 + 1)) o o1 (tApp o2 [r3.1.1]) o3))))))
 (k0 ok o2))
noncomputable def Zq27_l0_again {R : Type} (N : Nat) (ks : KS Zq27_l0_ex R) (k : Nat) (x : Zq27_l0_sh.T) : Option R :=
 Zq27_l0 N (fun y0 y1 => ks 0 ((y0, (), ()), (y1, ()))) k x.1.2.1 x.1.2.2.2.2.1 x.1.2.2.2.2.2.1 x.2.1.1 x.2.1.2.1 x.2.2.1 x.2.2.2.1
noncomputable def Zq27_l0_s (N : Nat) : LSum := ⟨Zq27_l0_sh, Zq27_l0_ex, fun x ks => Zq27_l0_again N ks N x⟩
theorem Zq27_l0_ok (N : Nat) : LoopOk Tryz.prog Tryz.f79.ntmps (Zq27_l0_s N) (loopAt Zq27_code 0) := loopQ (sh := Zq27_l0_sh) (ex := Zq27_l0_ex) (N := N) (L := []) (fun R k x ks => Zq27_l0_again N ks k x) (Zq27_gok N) (fun _ _ _ => rfl) (fun R k x ks => by kernel_rfl) trivial (by kernel_rfl)
noncomputable def Zq27 (N : Nat) (x : ((List (List Int)) × (List (Int × Int)))) (a : (List Int)) (b : (List Int)) : Option (((List (List Int)) × Bool × Unit) × (Unit)) :=
 ((Zq25 N (x.1, x.2) a).bind fun r =>
 ((Zq25 N (x.1, x.2) b).bind fun r1 =>
 (br (!r.1.2.1)
 (some (([], false, ()), ()))
 ((br (!r1.1.2.1)
 (some (([], false, ()), ()))
 (((Zq24 N (x.1, x.2) r.1.1 r1.1.1).bind fun r2 =>
 Zq27_l0 N (fun ok o => some ((o, ok, ()), ())) N r2.1.2.1 (tLen r2.1.1) 0 x.1 x.2 [] r2.1.1)))))))
noncomputable def Zq27_S (N : Nat) : FSum := ⟨Zq27_ps, Zq27_rs, fun x => Zq27 N x.1 x.2.1 x.2.2.1⟩
theorem Zq27_pc (N : Nat) : PC Tryz.prog 79 (Zq27_S N) := pcQ (L := [Zq27_l0_s N]) (Zq27_gok N) Tryz.call79 Tryz.func79 (fun x => by kernel_rfl) ⟨Zq27_l0_ok N, trivial⟩ (by kernel_rfl)

abbrev Zq22_ps : List (PV.Mode × Ty) := [(.ro, QILQII), (.ro, I), (.ro, LI), (.ro, LI)]
abbrev Zq22_rs : List (Bool × Ty) := [(true, LLI), (true, .bool)]
noncomputable def Zq22_G (N : Nat) : GTab := gOf [(10, Zq3_S N), (44, Zq36_S N), (79, Zq27_S N)]
theorem Zq22_gok (N : Nat) : GOk Tryz.prog (Zq22_G N) := gOf_ok ⟨Zq3_pc N, Zq36_pc N, Zq27_pc N, trivial⟩
noncomputable def Zq22_code : Code := (Tryz.f25.body).getD .skip
noncomputable def Zq22 (N : Nat) (g : (Int × (List (Int × Int)))) (kv : Int) (a : (List Int)) (b : (List Int)) : Option (((List (List Int)) × Bool × Unit) × (Unit)) :=
 ((Zq3 N (g.1, g.2) kv).bind fun r =>
 (br (!r.1.2.1)
 (some (([], false, ()), ()))
 (((Zq36 N (g.1, g.2) kv [a, b]).bind fun r1 =>
 (br (!r1.1.1)
 (some (([], false, ()), ()))
 (((Zq27 N (r.1.1.1, r.1.1.2) a b).bind fun r2 =>
 some ((r2.1.1, r2.1.2.1, ()), ()))))))))
noncomputable def Zq22_S (N : Nat) : FSum := ⟨Zq22_ps, Zq22_rs, fun x => Zq22 N x.1 x.2.1 x.2.2.1 x.2.2.2.1⟩
theorem Zq22_pc (N : Nat) : PC Tryz.prog 25 (Zq22_S N) := pcQ (L := []) (Zq22_gok N) Tryz.call25 Tryz.func25 (fun x => by kernel_rfl) trivial (by kernel_rfl)

abbrev Zq118_ps : List (PV.Mode × Ty) := [(.ro, QILQII), (.ro, I), (.ro, LI)]
abbrev Zq118_rs : List (Bool × Ty) := [(true, .bool)]
noncomputable def Zq118_G (N : Nat) : GTab := gOf [(92, Zq92_S N)]
theorem Zq118_gok (N : Nat) : GOk Tryz.prog (Zq118_G N) := gOf_ok ⟨Zq92_pc N, trivial⟩
noncomputable def Zq118_code : Code := (Tryz.f85.body).getD .skip
noncomputable def Zq118_l0_sh : Sh := ⟨[(1, .one (.ro I)), (2, .one (.ro LI)), (3, .one (.adr 0 0)), (7, .one (.ro I))], [.box [.ro I, .ro LQII]]⟩
noncomputable def Zq118_l0_ex : List (Ex × Sh) := [(.ret, ⟨[(6, .one (.ro .bool))], []⟩), (.exit 0, ⟨[(2, .one (.ro LI)), (3, .one (.adr 0 0))], [.box [.ro I, .ro LQII]]⟩)]
noncomputable def Zq118_l0 {R : Type} (N : Nat) (k0 : Bool → Option R) (k1 : (List Int) → Int → (List (Int × Int)) → Option R) : Nat → Int → (List Int) → Int → Int → (List (Int × Int)) → Option R
 | 0, _, _, _, _, _ => none
 | K + 1, kv1, colours1, x, o, o1 =>
 (br (ilt x o)
 ((chk (inb colours1 x)
 ((Zq92 N (rdI colours1 x) 0 (IntKind.i64.wrap (kv1 - 1))).bind fun r =>
 (br (!r.1.1)
 (k0 false)
 (Zq118_l0 N k0 k1 K kv1 colours1 (IntKind.i64.wrap (x + 1)) o o1)))))
 (k1 colours1 o o1))
noncomputable def Zq118_l0_again {R : Type} (N : Nat) (ks : KS Zq118_l0_ex R) (k : Nat) (x : Zq118_l0_sh.T) : Option R :=
 Zq118_l0 N (fun y0 => ks 0 ((y0, ()), ())) (fun y0 y1 y2 => ks 1 ((y0, (), ()), ((y1, y2, ()), ()))) k x.1.1 x.1.2.1 x.1.2.2.2.1 x.2.1.1 x.2.1.2.1
noncomputable def Zq118_l0_s (N : Nat) : LSum := ⟨Zq118_l0_sh, Zq118_l0_ex, fun x ks => Zq118_l0_again N ks N x⟩
theorem Zq118_l0_ok (N : Nat) : LoopOk Tryz.prog Tryz.f85.ntmps (Zq118_l0_s N) (loopAt Zq118_code 0) := loopQ (sh := Zq118_l0_sh) (ex := Zq118_l0_ex) (N := N) (L := []) (fun R k x ks => Zq118_l0_again N ks k x) (Zq118_gok N) (fun _ _ _ => rfl) (fun R k x ks => by kernel_rfl) trivial (by kernel_rfl)
noncomputable def Zq118_l1_sh : Sh := ⟨[(2, .one (.ro LI)), (3, .one (.adr 0 0)), (8, .one (.ro I))], [.box [.ro I, .ro LQII]]⟩
noncomputable def Zq118_l1_ex : List (Ex × Sh) := [(.ret, ⟨[(6, .one (.ro .bool))], []⟩), (.exit 2, ⟨[], []⟩)]
noncomputable def Zq118_l1 {R : Type} (N : Nat) (k0 : Bool → Option R) (k1 : Unit → Option R) : Nat → (List Int) → Int → Int → (List (Int × Int)) → Option R
 | 0, _, _, _, _ => none
 | K + 1, colours2, i, o2, o3 =>
 (br (ilt i (tLen o3))
 ((chk (inb o3 i)
 (chk (inb colours2 ((rdP o3 i).1))
 (chk (inb o3 i)
 (chk (inb colours2 ((rdP o3 i).2))
 (br (ieq (rdI colours2 ((rdP o3 i).1)) (rdI colours2 ((rdP o3 i).2)))
 (k0 false)
 (Zq118_l1 N k0 k1 K colours2 (IntKind.i64.wrap (i + 1)) o2 o3)))))))
 (k1 ()))
noncomputable def Zq118_l1_again {R : Type} (N : Nat) (ks : KS Zq118_l1_ex R) (k : Nat) (x : Zq118_l1_sh.T) : Option R :=
 Zq118_l1 N (fun y0 => ks 0 ((y0, ()), ())) (fun (_ : Unit) => ks 1 ((), ())) k x.1.1 x.1.2.2.1 x.2.1.1 x.2.1.2.1
noncomputable def Zq118_l1_s (N : Nat) : LSum := ⟨Zq118_l1_sh, Zq118_l1_ex, fun x ks => Zq118_l1_again N ks N x⟩
theorem Zq118_l1_ok (N : Nat) : LoopOk Tryz.prog Tryz.f85.ntmps (Zq118_l1_s N) (loopAt Zq118_code 1) := loopQ (sh := Zq118_l1_sh) (ex := Zq118_l1_ex) (N := N) (L := []) (fun R k x ks => Zq118_l1_again N ks k x) (Zq118_gok N) (fun _ _ _ => rfl) (fun R k x ks => by kernel_rfl) trivial (by kernel_rfl)
noncomputable def Zq118 (N : Nat) (g : (Int × (List (Int × Int)))) (kv : Int) (colours : (List Int)) : Option ((Bool × Unit) × (Unit)) :=
 (br (ine (tLen colours) g.1)
 (some ((false, ()), ()))
 (Zq118_l0 N (fun x => some ((x, ()), ())) (fun colours1 o o1 => Zq118_l1 N (fun x1 => some ((x1, ()), ())) (fun (_ : Unit) => some ((true, ()), ())) N colours1 0 o o1) N kv colours 0 g.1 g.2))
noncomputable def Zq118_S (N : Nat) : FSum := ⟨Zq118_ps, Zq118_rs, fun x => Zq118 N x.1 x.2.1 x.2.2.1⟩
theorem Zq118_pc (N : Nat) : PC Tryz.prog 85 (Zq118_S N) := pcQ (L := [Zq118_l0_s N, Zq118_l1_s N]) (Zq118_gok N) Tryz.call85 Tryz.func85 (fun x => by kernel_rfl) ⟨Zq118_l0_ok N, Zq118_l1_ok N, trivial⟩ (by kernel_rfl)

abbrev Zq115_ps : List (PV.Mode × Ty) := [(.ro, QILQII), (.ro, I), (.ro, LI)]
abbrev Zq115_rs : List (Bool × Ty) := [(true, .bool)]
noncomputable def Zq115_G (N : Nat) : GTab := gOf [(99, Zq112_S N), (85, Zq118_S N)]
theorem Zq115_gok (N : Nat) : GOk Tryz.prog (Zq115_G N) := gOf_ok ⟨Zq112_pc N, Zq118_pc N, trivial⟩
noncomputable def Zq115_code : Code := (Tryz.f46.body).getD .skip
noncomputable def Zq115 (N : Nat) (g : (Int × (List (Int × Int)))) (kv : Int) (colours : (List Int)) : Option ((Bool × Unit) × (Unit)) :=
 ((Zq112 N (g.1, g.2) kv).bind fun r =>
 (br r.1.1
 (((Zq118 N (g.1, g.2) kv colours).bind fun r1 =>
 some ((r1.1.1, ()), ())))
 (some ((false, ()), ()))))
noncomputable def Zq115_S (N : Nat) : FSum := ⟨Zq115_ps, Zq115_rs, fun x => Zq115 N x.1 x.2.1 x.2.2.1⟩
theorem Zq115_pc (N : Nat) : PC Tryz.prog 46 (Zq115_S N) := pcQ (L := []) (Zq115_gok N) Tryz.call46 Tryz.func46 (fun x => by kernel_rfl) trivial (by kernel_rfl)

abbrev Zq114_ps : List (PV.Mode × Ty) := [(.ro, LI), (.ro, LI)]
abbrev Zq114_rs : List (Bool × Ty) := [(true, LI)]
noncomputable def Zq114_G (N : Nat) : GTab := gOf []
theorem Zq114_gok (N : Nat) : GOk Tryz.prog (Zq114_G N) := gOf_ok trivial
noncomputable def Zq114_code : Code := (Tryz.f150.body).getD .skip
noncomputable def Zq114_l0_sh : Sh := ⟨[(0, .one (.ro LI)), (1, .one (.ro LI)), (5, .one (.ref 0)), (6, .one (.ro I))], [.sl 3 I .own]⟩
noncomputable def Zq114_l0_ex : List (Ex × Sh) := [(.exit 0, ⟨[(5, .one (.ref 0))], [.sl 3 I .own]⟩)]
noncomputable def Zq114_l0 {R : Type} (N : Nat) (k0 : (List Int) → Option R) : Nat → (List Int) → (List Int) → Int → (List Int) → Option R
 | 0, _, _, _, _ => none
 | K + 1, a1, b1, x, o =>
 (br (ilt x (tLen a1))
 ((chk (inb a1 x)
 (chk (inb b1 x)
 (br (ine (rdI a1 x) (rdI b1 x))
 ((chk (room o [x])
 (Zq114_l0 N k0 K a1 b1 (IntKind.i64.wrap (x + 1)) (tApp o [x]))))
 (Zq114_l0 N k0 K a1 b1 (IntKind.i64.wrap (x + 1)) o)))))
 (k0 o))
noncomputable def Zq114_l0_again {R : Type} (N : Nat) (ks : KS Zq114_l0_ex R) (k : Nat) (x : Zq114_l0_sh.T) : Option R :=
 Zq114_l0 N (fun y0 => ks 0 (((), ()), (y0, ()))) k x.1.1 x.1.2.1 x.1.2.2.2.1 x.2.1
noncomputable def Zq114_l0_s (N : Nat) : LSum := ⟨Zq114_l0_sh, Zq114_l0_ex, fun x ks => Zq114_l0_again N ks N x⟩
theorem Zq114_l0_ok (N : Nat) : LoopOk Tryz.prog Tryz.f150.ntmps (Zq114_l0_s N) (loopAt Zq114_code 0) := loopQ (sh := Zq114_l0_sh) (ex := Zq114_l0_ex) (N := N) (L := []) (fun R k x ks => Zq114_l0_again N ks k x) (Zq114_gok N) (fun _ _ _ => rfl) (fun R k x ks => by kernel_rfl) trivial (by kernel_rfl)
noncomputable def Zq114 (N : Nat) (a : (List Int)) (b : (List Int)) : Option (((List Int) × Unit) × (Unit)) :=
 Zq114_l0 N (fun o => some ((o, ()), ())) N a b 0 []
noncomputable def Zq114_S (N : Nat) : FSum := ⟨Zq114_ps, Zq114_rs, fun x => Zq114 N x.1 x.2.1⟩
theorem Zq114_pc (N : Nat) : PC Tryz.prog 150 (Zq114_S N) := pcQ (L := [Zq114_l0_s N]) (Zq114_gok N) Tryz.call150 Tryz.func150 (fun x => by kernel_rfl) ⟨Zq114_l0_ok N, trivial⟩ (by kernel_rfl)

abbrev Zq91_ps : List (PV.Mode × Ty) := [(.ro, LI), (.ro, I)]
abbrev Zq91_rs : List (Bool × Ty) := [(true, .bool)]
noncomputable def Zq91_G (N : Nat) : GTab := gOf []
theorem Zq91_gok (N : Nat) : GOk Tryz.prog (Zq91_G N) := gOf_ok trivial
noncomputable def Zq91_code : Code := (Tryz.f70.body).getD .skip
noncomputable def Zq91_l0_sh : Sh := ⟨[(0, .one (.ro LI)), (1, .one (.ro I)), (5, .one (.ro I))], []⟩
noncomputable def Zq91_l0_ex : List (Ex × Sh) := [(.ret, ⟨[(4, .one (.ro .bool))], []⟩), (.exit 0, ⟨[], []⟩)]
noncomputable def Zq91_l0 {R : Type} (N : Nat) (k0 : Bool → Option R) (k1 : Unit → Option R) : Nat → (List Int) → Int → Int → Option R
 | 0, _, _, _ => none
 | K + 1, l1, n1, i =>
 (br (ilt i (tLen l1))
 ((chk (inb l1 i)
 (br (ieq (rdI l1 i) n1)
 (k0 true)
 (Zq91_l0 N k0 k1 K l1 n1 (IntKind.i64.wrap (i + 1))))))
 (k1 ()))
noncomputable def Zq91_l0_again {R : Type} (N : Nat) (ks : KS Zq91_l0_ex R) (k : Nat) (x : Zq91_l0_sh.T) : Option R :=
 Zq91_l0 N (fun y0 => ks 0 ((y0, ()), ())) (fun (_ : Unit) => ks 1 ((), ())) k x.1.1 x.1.2.1 x.1.2.2.1
noncomputable def Zq91_l0_s (N : Nat) : LSum := ⟨Zq91_l0_sh, Zq91_l0_ex, fun x ks => Zq91_l0_again N ks N x⟩
theorem Zq91_l0_ok (N : Nat) : LoopOk Tryz.prog Tryz.f70.ntmps (Zq91_l0_s N) (loopAt Zq91_code 0) := loopQ (sh := Zq91_l0_sh) (ex := Zq91_l0_ex) (N := N) (L := []) (fun R k x ks => Zq91_l0_again N ks k x) (Zq91_gok N) (fun _ _ _ => rfl) (fun R k x ks => by kernel_rfl) trivial (by kernel_rfl)
noncomputable def Zq91 (N : Nat) (l : (List Int)) (n : Int) : Option ((Bool × Unit) × (Unit)) :=
 Zq91_l0 N (fun x => some ((x, ()), ())) (fun (_ : Unit) => some ((false, ()), ())) N l n 0
noncomputable def Zq91_S (N : Nat) : FSum := ⟨Zq91_ps, Zq91_rs, fun x => Zq91 N x.1 x.2.1⟩
theorem Zq91_pc (N : Nat) : PC Tryz.prog 70 (Zq91_S N) := pcQ (L := [Zq91_l0_s N]) (Zq91_gok N) Tryz.call70 Tryz.func70 (fun x => by kernel_rfl) ⟨Zq91_l0_ok N, trivial⟩ (by kernel_rfl)

abbrev Zq95_ps : List (PV.Mode × Ty) := [(.own, LI), (.ro, I)]
abbrev Zq95_rs : List (Bool × Ty) := [(true, LI)]
noncomputable def Zq95_G (N : Nat) : GTab := gOf []
theorem Zq95_gok (N : Nat) : GOk Tryz.prog (Zq95_G N) := gOf_ok trivial
noncomputable def Zq95_code : Code := (Tryz.f193.body).getD .skip
noncomputable def Zq95_l0_sh : Sh := ⟨[(0, .one (.ref 0)), (1, .one (.ro I)), (5, .one (.ro I))], [.sl 3 I .own]⟩
noncomputable def Zq95_l0_ex : List (Ex × Sh) := [(.exit 0, ⟨[(0, .one (.ref 0)), (1, .one (.ro I)), (5, .one (.ro I))], [.sl 3 I .own]⟩)]
noncomputable def Zq95_l0 {R : Type} (N : Nat) (k0 : Int → Int → (List Int) → Option R) : Nat → Int → Int → (List Int) → Option R
 | 0, _, _, _ => none
 | K + 1, n1, kv, o =>
 (br (ilt kv (tLen o))
 ((chk (inb o kv)
 (br (ilt (rdI o kv) n1)
 (Zq95_l0 N k0 K n1 (IntKind.i64.wrap (kv + 1)) o)
 (k0 n1 kv o))))
 (k0 n1 kv o))
noncomputable def Zq95_l0_again {R : Type} (N : Nat) (ks : KS Zq95_l0_ex R) (k : Nat) (x : Zq95_l0_sh.T) : Option R :=
 Zq95_l0 N (fun y0 y1 y2 => ks 0 (((), y0, y1, ()), (y2, ()))) k x.1.2.1 x.1.2.2.1 x.2.1
noncomputable def Zq95_l0_s (N : Nat) : LSum := ⟨Zq95_l0_sh, Zq95_l0_ex, fun x ks => Zq95_l0_again N ks N x⟩
theorem Zq95_l0_ok (N : Nat) : LoopOk Tryz.prog Tryz.f193.ntmps (Zq95_l0_s N) (loopAt Zq95_code 0) := loopQ (sh := Zq95_l0_sh) (ex := Zq95_l0_ex) (N := N) (L := []) (fun R k x ks => Zq95_l0_again N ks k x) (Zq95_gok N) (fun _ _ _ => rfl) (fun R k x ks => by kernel_rfl) trivial (by kernel_rfl)
noncomputable def Zq95 (N : Nat) (l : (List Int)) (n : Int) : Option (((List Int) × Unit) × (Unit)) :=
 Zq95_l0 N (fun n1 kv o => (br (ilt kv (tLen o))
 ((chk (inb o kv)
 (br (ieq (rdI o kv) n1)
 (some ((o, ()), ()))
 ((chk (ile 0 0 && ile 0 kv && ile kv (tLen o))
 (chk (room (α := Int) (β := Int) [] (tCut o 0 kv))
 (chk (room (tApp [] (tCut o 0 kv)) [n1])
 (chk (ile 0 kv && ile kv (tLen o) && ile (tLen o) (tLen o))
 (chk (room (tApp (tApp [] (tCut o 0 kv)) [n1]) (tCut o kv (tLen o)))
 (some (((tApp (tApp (tApp [] (tCut o 0 kv)) [n1]) (tCut o kv (tLen o))), ()), ())))))))))))
 ((chk (ile 0 0 && ile 0 kv && ile kv (tLen o))
 (chk (room (α := Int) (β := Int) [] (tCut o 0 kv))
 (chk (room (tApp [] (tCut o 0 kv)) [n1])
 (chk (ile 0 kv && ile kv (tLen o) && ile (tLen o) (tLen o))
 (chk (room (tApp (tApp [] (tCut o 0 kv)) [n1]) (tCut o kv (tLen o)))
 (some (((tApp (tApp (tApp [] (tCut o 0 kv)) [n1]) (tCut o kv (tLen o))), ()), ())))))))))) N n 0 l
noncomputable def Zq95_S (N : Nat) : FSum := ⟨Zq95_ps, Zq95_rs, fun x => Zq95 N x.1 x.2.1⟩
theorem Zq95_pc (N : Nat) : PC Tryz.prog 193 (Zq95_S N) := pcQ (L := [Zq95_l0_s N]) (Zq95_gok N) Tryz.call193 Tryz.func193 (fun x => by kernel_rfl) ⟨Zq95_l0_ok N, trivial⟩ (by kernel_rfl)
end Go.Proofs.YtkffaahlpdlkoaaGreat
