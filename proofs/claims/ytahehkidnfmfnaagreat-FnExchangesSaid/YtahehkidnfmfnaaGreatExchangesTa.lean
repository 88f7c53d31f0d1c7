/- The types that the functions use, and the program. -/
import Derived.Test.YtahehkidnfmfnaaGreatProg
import Derived.Test.YtahehkidnfmfnaaGreatPvLaw
set_option linter.all false
namespace Go.Proofs.YtahehkidnfmfnaaGreat
open Go Go.PV
abbrev I : Ty := .int .i64
abbrev U8 : Ty := .int .u8
abbrev LI : Ty := .list 3 I
abbrev LLI : Ty := .list 27 LI
abbrev QII : Ty := .pair I I
abbrev LQII : Ty := .list 73 QII
abbrev QLLILQII : Ty := .pair LLI LQII
abbrev LU8 : Ty := .list 5 U8
abbrev QILQII : Ty := .pair I LQII
abbrev GLILIBo : Ty := .fn2 LI LI .bool
abbrev U64 : Ty := .int .u64
abbrev QIU64 : Ty := .pair I U64
abbrev QLU8QIU64 : Ty := .pair LU8 QIU64
abbrev AQLU8QIU64 : Ty := .ptr QLU8QIU64
abbrev FIBo : Ty := .fn1 I .bool
abbrev GLILII : Ty := .fn2 LI LI I
abbrev LQLLILQII : Ty := .list 37 QLLILQII
abbrev GQIIQIII : Ty := .fn2 QII QII I
abbrev FU64Bo : Ty := .fn1 U64 .bool
abbrev FQIIBo : Ty := .fn1 QII .bool
abbrev OU8 : Ty := .rol 5 U8
abbrev QOU8QIU64 : Ty := .pair OU8 QIU64
abbrev BQOU8QIU64 : Ty := .mptr QOU8QIU64
abbrev AU64 : Ty := .ptr U64
abbrev K44Un : Ty := .kclo 44 .unit
abbrev AI : Ty := .ptr I
abbrev AQILQII : Ty := .ptr QILQII
abbrev RLI : Ty := .rows 27 LI
abbrev K50Un : Ty := .kclo 50 .unit
def rows : List (TypeId × TD) := [(3, ⟨I, [], none⟩),
  (4, ⟨.bool, [], none⟩),
  (5, ⟨U8, [], none⟩),
  (22, ⟨LU8, [], some (5, U8, 0)⟩),
  (24, ⟨LQII, [], some (73, QII, 0)⟩),
  (26, ⟨QILQII, [(0, I), (1, LQII)], none⟩),
  (27, ⟨LI, [], some (3, I, 0)⟩),
  (30, ⟨LLI, [], some (27, LI, 0)⟩),
  (37, ⟨QLLILQII, [(0, LLI), (1, LQII)], none⟩),
  (44, ⟨GLILIBo, [], none⟩),
  (49, ⟨AQLU8QIU64, [], none⟩),
  (50, ⟨U64, [], none⟩),
  (52, ⟨QLU8QIU64, [(0, LU8), (1, I), (2, U64)], none⟩),
  (56, ⟨FIBo, [], none⟩),
  (70, ⟨GLILII, [], none⟩),
  (72, ⟨LQLLILQII, [], some (37, QLLILQII, 0)⟩),
  (73, ⟨QII, [], some (3, I, 2)⟩),
  (77, ⟨GQIIQIII, [], none⟩),
  (83, ⟨U64, [], none⟩),
  (84, ⟨U64, [], none⟩),
  (101, ⟨FU64Bo, [], none⟩),
  (140, ⟨FQIIBo, [], none⟩)]
def tab : Tab := tabOf rows
theorem progOk : ProgOk Tryz.prog tab := ⟨tabOk_of (by kernel_rfl), by kernel_rfl⟩
def shr {α β : Type} (x : α) (f : α → β) : β := f x
theorem pcQ {G : GTab} {L : List LSum} {f : FuncId} {fn : Func} {ps : List (PV.Mode × Ty)} {rs : List (Bool × Ty)} {F : argsT ps → Option (resT rs × mutT ps)} (hG : GOk Tryz.prog G) (hent : Ent Tryz.prog f) (hf : Tryz.prog.funcs[f]? = some fn) (hrun : ∀ x, F x = funF G tab L fn ps rs x)
    (hL : LsOk Tryz.prog fn.ntmps (fn.body.getD .skip) 0 L) (hc : both fn.body.isSome (okF tab (fn.body.getD .skip) fn.ntmps ps) = true) : PC Tryz.prog f ⟨ps, rs, F⟩ := pcF progOk hG hent hf hrun hL (both_true.1 hc).1 (both_true.1 hc).2
theorem loopQ {G : GTab} {L : List LSum} {n : Nat} {c : Code} {sh : Sh} {ex : List (Ex × Sh)} {N : Nat} (F : (R : Type) → Nat → sh.T → KS ex R → Option R) (hG : GOk Tryz.prog G)
    (h0 : ∀ R x ks, F R 0 x ks = none) (hstep : ∀ R k x ks, F R (k + 1) x ks = roundF G tab L c sh ex (fun y => F R k y ks) ks x) (hL : LsOk Tryz.prog n c 0 L) (hc : both (okC tab c []).isSome (lowC n c) = true) : LoopOk Tryz.prog n ⟨sh, ex, fun {R} x ks => F R N x ks⟩ c := loopF F progOk hG h0 hstep hL hc
end Go.Proofs.YtahehkidnfmfnaaGreat
