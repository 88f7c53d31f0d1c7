/- The types that the functions use, and the program. -/
import Derived.Test.YtfilchmabmfmaaaGreatProg
import Derived.Test.YtfilchmabmfmaaaGreatPvLaw
set_option linter.all false
namespace Go.Proofs.YtfilchmabmfmaaaGreat
open Go Go.PV
abbrev I : Ty := .int .i64
abbrev U8 : Ty := .int .u8
abbrev U64 : Ty := .int .u64
abbrev LU8 : Ty := .list 5 U8
abbrev LI : Ty := .list 3 I
abbrev LLI : Ty := .list 33 LI
abbrev QILLI : Ty := .pair I LLI
abbrev QII : Ty := .pair I I
abbrev LQII : Ty := .list 108 QII
abbrev QLLILQII : Ty := .pair LLI LQII
abbrev GLILIBo : Ty := .fn2 LI LI .bool
abbrev QIU64 : Ty := .pair I U64
abbrev QLU8QIU64 : Ty := .pair LU8 QIU64
abbrev AQLU8QIU64 : Ty := .ptr QLU8QIU64
abbrev S74 : Ty := .sptr 74 4
abbrev LU64 : Ty := .list 74 U64
abbrev FIBo : Ty := .fn1 I .bool
abbrev FLIBo : Ty := .fn1 LI .bool
abbrev GLILII : Ty := .fn2 LI LI I
abbrev OU8 : Ty := .rol 5 U8
abbrev QOU8QIU64 : Ty := .pair OU8 QIU64
abbrev BQOU8QIU64 : Ty := .mptr QOU8QIU64
abbrev ALI : Ty := .ptr LI
abbrev AI : Ty := .ptr I
abbrev K98Un : Ty := .kclo 98 .unit
def rows : List (TypeId × TD) := [(3, ⟨I, [], none⟩),
  (4, ⟨.bool, [], none⟩),
  (5, ⟨U8, [], none⟩),
  (22, ⟨LU8, [], some (5, U8, 0)⟩),
  (24, ⟨LLI, [], some (33, LI, 0)⟩),
  (26, ⟨QILLI, [(0, I), (1, LLI)], none⟩),
  (33, ⟨LI, [], some (3, I, 0)⟩),
  (42, ⟨LQII, [], some (108, QII, 0)⟩),
  (44, ⟨QLLILQII, [(0, LLI), (1, LQII)], none⟩),
  (59, ⟨GLILIBo, [], none⟩),
  (63, ⟨AQLU8QIU64, [], none⟩),
  (64, ⟨U64, [], none⟩),
  (66, ⟨QLU8QIU64, [(0, LU8), (1, I), (2, U64)], none⟩),
  (71, ⟨S74, [], none⟩),
  (72, ⟨LU64, [], some (74, U64, 0)⟩),
  (74, ⟨U64, [], none⟩),
  (82, ⟨FIBo, [], none⟩),
  (89, ⟨FLIBo, [], none⟩),
  (107, ⟨GLILII, [], none⟩),
  (108, ⟨QII, [], some (3, I, 2)⟩)]
def tab : Tab := tabOf rows
theorem progOk : ProgOk Tryz.prog tab := ⟨tabOk_of (by kernel_rfl), by kernel_rfl⟩
def shr {α β : Type} (x : α) (f : α → β) : β := f x
theorem pcQ {G : GTab} {L : List LSum} {f : FuncId} {fn : Func} {ps : List (PV.Mode × Ty)} {rs : List (Bool × Ty)} {F : argsT ps → Option (resT rs × mutT ps)} (hG : GOk Tryz.prog G) (hent : Ent Tryz.prog f) (hf : Tryz.prog.funcs[f]? = some fn) (hrun : ∀ x, F x = funF G tab L fn ps rs x)
    (hL : LsOk Tryz.prog fn.ntmps (fn.body.getD .skip) 0 L) (hc : both fn.body.isSome (okF tab (fn.body.getD .skip) fn.ntmps ps) = true) : PC Tryz.prog f ⟨ps, rs, F⟩ := pcF progOk hG hent hf hrun hL (both_true.1 hc).1 (both_true.1 hc).2
theorem loopQ {G : GTab} {L : List LSum} {n : Nat} {c : Code} {sh : Sh} {ex : List (Ex × Sh)} {N : Nat} (F : (R : Type) → Nat → sh.T → KS ex R → Option R) (hG : GOk Tryz.prog G)
    (h0 : ∀ R x ks, F R 0 x ks = none) (hstep : ∀ R k x ks, F R (k + 1) x ks = roundF G tab L c sh ex (fun y => F R k y ks) ks x) (hL : LsOk Tryz.prog n c 0 L) (hc : both (okC tab c []).isSome (lowC n c) = true) : LoopOk Tryz.prog n ⟨sh, ex, fun {R} x ks => F R N x ks⟩ c := loopF F progOk hG h0 hstep hL hc
end Go.Proofs.YtfilchmabmfmaaaGreat
