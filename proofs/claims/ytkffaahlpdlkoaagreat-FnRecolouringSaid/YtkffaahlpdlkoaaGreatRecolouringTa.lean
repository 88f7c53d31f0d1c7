/- The types that the functions use, and the program. -/
import Derived.Test.YtkffaahlpdlkoaaGreatProg
import Derived.Test.YtkffaahlpdlkoaaGreatPvLaw
set_option linter.all false
namespace Go.Proofs.YtkffaahlpdlkoaaGreat
open Go Go.PV
abbrev I : Ty := .int .i64
abbrev U8 : Ty := .int .u8
abbrev LU8 : Ty := .list 5 U8
abbrev QII : Ty := .pair I I
abbrev LQII : Ty := .list 49 QII
abbrev QILQII : Ty := .pair I LQII
abbrev LI : Ty := .list 3 I
abbrev LLI : Ty := .list 27 LI
abbrev QLLILQII : Ty := .pair LLI LQII
abbrev GLILIBo : Ty := .fn2 LI LI .bool
abbrev U64 : Ty := .int .u64
abbrev QIU64 : Ty := .pair I U64
abbrev QLU8QIU64 : Ty := .pair LU8 QIU64
abbrev AQLU8QIU64 : Ty := .ptr QLU8QIU64
abbrev FLIBo : Ty := .fn1 LI .bool
abbrev FIBo : Ty := .fn1 I .bool
abbrev GLILII : Ty := .fn2 LI LI I
abbrev FQIIBo : Ty := .fn1 QII .bool
abbrev FUnUn : Ty := .fn1 .unit .unit
abbrev OU8 : Ty := .rol 5 U8
abbrev QOU8QIU64 : Ty := .pair OU8 QIU64
abbrev BQOU8QIU64 : Ty := .mptr QOU8QIU64
abbrev AI : Ty := .ptr I
abbrev ALI : Ty := .ptr LI
abbrev AQILQII : Ty := .ptr QILQII
abbrev BLLI : Ty := .mptr LLI
abbrev BLI : Ty := .mptr LI
abbrev S136 : Ty := .sptr 136 1
abbrev K102Un : Ty := .kclo 102 .unit
abbrev K147ALI : Ty := .kclo 147 ALI
def rows : List (TypeId × TD) := [(3, ⟨I, [], none⟩),
  (4, ⟨.bool, [], none⟩),
  (5, ⟨U8, [], none⟩),
  (22, ⟨LU8, [], some (5, U8, 0)⟩),
  (24, ⟨LQII, [], some (49, QII, 0)⟩),
  (26, ⟨QILQII, [(0, I), (1, LQII)], none⟩),
  (27, ⟨LI, [], some (3, I, 0)⟩),
  (32, ⟨LLI, [], some (27, LI, 0)⟩),
  (34, ⟨QLLILQII, [(0, LLI), (1, LQII)], none⟩),
  (48, ⟨GLILIBo, [], none⟩),
  (49, ⟨QII, [], some (3, I, 2)⟩),
  (62, ⟨AQLU8QIU64, [], none⟩),
  (63, ⟨U64, [], none⟩),
  (65, ⟨QLU8QIU64, [(0, LU8), (1, I), (2, U64)], none⟩),
  (71, ⟨FLIBo, [], none⟩),
  (79, ⟨FIBo, [], none⟩),
  (90, ⟨U64, [], none⟩),
  (91, ⟨U64, [], none⟩),
  (111, ⟨GLILII, [], none⟩),
  (116, ⟨FQIIBo, [], none⟩),
  (120, ⟨FUnUn, [], none⟩)]
def tab : Tab := tabOf rows
theorem progOk : ProgOk Tryz.prog tab := ⟨tabOk_of (by kernel_rfl), by kernel_rfl⟩
theorem pcQ {G : GTab} {L : List LSum} {f : FuncId} {fn : Func} {ps : List (PV.Mode × Ty)} {rs : List (Bool × Ty)} {F : argsT ps → Option (resT rs × mutT ps)} (hG : GOk Tryz.prog G) (hent : Ent Tryz.prog f) (hf : Tryz.prog.funcs[f]? = some fn) (hrun : ∀ x, F x = funF G tab L fn ps rs x)
    (hL : LsOk Tryz.prog fn.ntmps (fn.body.getD .skip) 0 L) (hc : both fn.body.isSome (okF tab (fn.body.getD .skip) fn.ntmps ps) = true) : PC Tryz.prog f ⟨ps, rs, F⟩ := pcF progOk hG hent hf hrun hL (both_true.1 hc).1 (both_true.1 hc).2
theorem loopQ {G : GTab} {L : List LSum} {n : Nat} {c : Code} {sh : Sh} {ex : List (Ex × Sh)} {N : Nat} (F : (R : Type) → Nat → sh.T → KS ex R → Option R) (hG : GOk Tryz.prog G)
    (h0 : ∀ R x ks, F R 0 x ks = none) (hstep : ∀ R k x ks, F R (k + 1) x ks = roundF G tab L c sh ex (fun y => F R k y ks) ks x) (hL : LsOk Tryz.prog n c 0 L) (hc : both (okC tab c []).isSome (lowC n c) = true) : LoopOk Tryz.prog n ⟨sh, ex, fun {R} x ks => F R N x ks⟩ c := loopF F progOk hG h0 hstep hL hc
end Go.Proofs.YtkffaahlpdlkoaaGreat
