/- The types that the functions use, and the program. -/
import Derived.Test.YtffeokcchabclaaProg
import Derived.Test.YtffeokcchabclaaPvLaw
set_option linter.all false
namespace Go.Proofs.Ytffeokcchabclaa
open Go Go.PV
abbrev I : Ty := .int .i64
abbrev QII : Ty := .pair I I
abbrev LQII : Ty := .list 52 QII
abbrev QILQII : Ty := .pair I LQII
abbrev LI : Ty := .list 3 I
abbrev LLI : Ty := .list 40 LI
abbrev U64 : Ty := .int .u64
abbrev FLIBo : Ty := .fn1 LI .bool
abbrev FU64Bo : Ty := .fn1 U64 .bool
abbrev GLILII : Ty := .fn2 LI LI I
abbrev FQIIBo : Ty := .fn1 QII .bool
abbrev K63Un : Ty := .kclo 63 .unit
abbrev AU64 : Ty := .ptr U64
abbrev AQILQII : Ty := .ptr QILQII
abbrev AI : Ty := .ptr I
abbrev K56Un : Ty := .kclo 56 .unit
def rows : List (TypeId × TD) := [(3, ⟨I, [], none⟩),
  (4, ⟨.bool, [], none⟩),
  (22, ⟨LQII, [], some (52, QII, 0)⟩),
  (24, ⟨QILQII, [(0, I), (1, LQII)], none⟩),
  (26, ⟨LLI, [], some (40, LI, 0)⟩),
  (29, ⟨QILQII, [(0, I), (1, LQII)], none⟩),
  (40, ⟨LI, [], some (3, I, 0)⟩),
  (52, ⟨QII, [], some (3, I, 2)⟩),
  (59, ⟨U64, [], none⟩),
  (61, ⟨FLIBo, [], none⟩),
  (68, ⟨FU64Bo, [], none⟩),
  (70, ⟨GLILII, [], none⟩),
  (80, ⟨FQIIBo, [], none⟩)]
def tab : Tab := tabOf rows
theorem progOk : ProgOk Try.prog tab := ⟨tabOk_of (by kernel_rfl), by kernel_rfl⟩
theorem pcQ {G : GTab} {L : List LSum} {f : FuncId} {fn : Func} {ps : List (PV.Mode × Ty)} {rs : List (Bool × Ty)} {F : argsT ps → Option (resT rs × mutT ps)} (hG : GOk Try.prog G) (hent : Ent Try.prog f) (hf : Try.prog.funcs[f]? = some fn) (hrun : ∀ x, F x = funF G tab L fn ps rs x)
    (hL : LsOk Try.prog fn.ntmps (fn.body.getD .skip) 0 L) (hc : both fn.body.isSome (okF tab (fn.body.getD .skip) fn.ntmps ps) = true) : PC Try.prog f ⟨ps, rs, F⟩ := pcF progOk hG hent hf hrun hL (both_true.1 hc).1 (both_true.1 hc).2
theorem loopQ {G : GTab} {L : List LSum} {n : Nat} {c : Code} {sh : Sh} {ex : List (Ex × Sh)} {N : Nat} (F : (R : Type) → Nat → sh.T → KS ex R → Option R) (hG : GOk Try.prog G)
    (h0 : ∀ R x ks, F R 0 x ks = none) (hstep : ∀ R k x ks, F R (k + 1) x ks = roundF G tab L c sh ex (fun y => F R k y ks) ks x) (hL : LsOk Try.prog n c 0 L) (hc : both (okC tab c []).isSome (lowC n c) = true) : LoopOk Try.prog n ⟨sh, ex, fun {R} x ks => F R N x ks⟩ c := loopF F progOk hG h0 hstep hL hc
end Go.Proofs.Ytffeokcchabclaa
