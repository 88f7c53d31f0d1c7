/- The types that the functions use, and the program. -/
import Derived.Test.YtffeokcchabclaaGreatProg
import Derived.Test.YtffeokcchabclaaGreatPvLaw
set_option linter.all false
namespace Go.Proofs.YtffeokcchabclaaGreat
open Go Go.PV
abbrev I : Ty := .int .i64
abbrev U8 : Ty := .int .u8
abbrev LU8 : Ty := .list 5 U8
abbrev QII : Ty := .pair I I
abbrev LQII : Ty := .list 90 QII
abbrev QILQII : Ty := .pair I LQII
abbrev LI : Ty := .list 3 I
abbrev GLILIBo : Ty := .fn2 LI LI .bool
abbrev LLI : Ty := .list 27 LI
abbrev QLLILQII : Ty := .pair LLI LQII
abbrev U64 : Ty := .int .u64
abbrev QIU64 : Ty := .pair I U64
abbrev QLU8QIU64 : Ty := .pair LU8 QIU64
abbrev AQLU8QIU64 : Ty := .ptr QLU8QIU64
abbrev FIBo : Ty := .fn1 I .bool
abbrev GLILII : Ty := .fn2 LI LI I
abbrev FU64Bo : Ty := .fn1 U64 .bool
abbrev FLIBo : Ty := .fn1 LI .bool
abbrev LBo : Ty := .list 4 .bool
abbrev FQIIBo : Ty := .fn1 QII .bool
abbrev OU8 : Ty := .rol 5 U8
abbrev QOU8QIU64 : Ty := .pair OU8 QIU64
abbrev BQOU8QIU64 : Ty := .mptr QOU8QIU64
abbrev AU64 : Ty := .ptr U64
abbrev K102Un : Ty := .kclo 102 .unit
abbrev AI : Ty := .ptr I
abbrev AQILQII : Ty := .ptr QILQII
abbrev K167Un : Ty := .kclo 167 .unit
def rows : List (TypeId × TD) := [(3, ⟨I, [], none⟩),
  (4, ⟨.bool, [], none⟩),
  (5, ⟨U8, [], none⟩),
  (22, ⟨LU8, [], some (5, U8, 0)⟩),
  (24, ⟨LQII, [], some (90, QII, 0)⟩),
  (26, ⟨QILQII, [(0, I), (1, LQII)], none⟩),
  (27, ⟨LI, [], some (3, I, 0)⟩),
  (34, ⟨GLILIBo, [], none⟩),
  (37, ⟨LLI, [], some (27, LI, 0)⟩),
  (54, ⟨QLLILQII, [(0, LLI), (1, LQII)], none⟩),
  (65, ⟨AQLU8QIU64, [], none⟩),
  (66, ⟨U64, [], none⟩),
  (68, ⟨QLU8QIU64, [(0, LU8), (1, I), (2, U64)], none⟩),
  (72, ⟨FIBo, [], none⟩),
  (75, ⟨U64, [], none⟩),
  (76, ⟨U64, [], none⟩),
  (90, ⟨QII, [], some (3, I, 2)⟩),
  (104, ⟨GLILII, [], none⟩),
  (126, ⟨FU64Bo, [], none⟩),
  (131, ⟨FLIBo, [], none⟩),
  (146, ⟨LBo, [], some (4, .bool, 0)⟩),
  (149, ⟨FQIIBo, [], none⟩)]
def tab : Tab := tabOf rows
theorem progOk : ProgOk Tryz.prog tab := ⟨tabOk_of (by kernel_rfl), by kernel_rfl⟩
theorem pcQ {G : GTab} {L : List LSum} {f : FuncId} {fn : Func} {ps : List (PV.Mode × Ty)} {rs : List (Bool × Ty)} {F : argsT ps → Option (resT rs × mutT ps)} (hG : GOk Tryz.prog G) (hent : Ent Tryz.prog f) (hf : Tryz.prog.funcs[f]? = some fn) (hrun : ∀ x, F x = funF G tab L fn ps rs x)
    (hL : LsOk Tryz.prog fn.ntmps (fn.body.getD .skip) 0 L) (hc : both fn.body.isSome (okF tab (fn.body.getD .skip) fn.ntmps ps) = true) : PC Tryz.prog f ⟨ps, rs, F⟩ := pcF progOk hG hent hf hrun hL (both_true.1 hc).1 (both_true.1 hc).2
theorem loopQ {G : GTab} {L : List LSum} {n : Nat} {c : Code} {sh : Sh} {ex : List (Ex × Sh)} {N : Nat} (F : (R : Type) → Nat → sh.T → KS ex R → Option R) (hG : GOk Tryz.prog G)
    (h0 : ∀ R x ks, F R 0 x ks = none) (hstep : ∀ R k x ks, F R (k + 1) x ks = roundF G tab L c sh ex (fun y => F R k y ks) ks x) (hL : LsOk Tryz.prog n c 0 L) (hc : both (okC tab c []).isSome (lowC n c) = true) : LoopOk Tryz.prog n ⟨sh, ex, fun {R} x ks => F R N x ks⟩ c := loopF F progOk hG h0 hstep hL hc
end Go.Proofs.YtffeokcchabclaaGreat
