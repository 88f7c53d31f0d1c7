/- The types that the functions use, and the program. -/
import Derived.Test.YtfilchmabmfmaaaProg
import Derived.Test.YtfilchmabmfmaaaPvLaw
set_option linter.all false
namespace Go.Proofs.Ytfilchmabmfmaaa
open Go Go.PV
abbrev I : Ty := .int .i64
abbrev QII : Ty := .pair I I
abbrev LQII : Ty := .list 67 QII
abbrev QILQII : Ty := .pair I LQII
abbrev LI : Ty := .list 3 I
abbrev LLI : Ty := .list 44 LI
abbrev QIQII : Ty := .pair I QII
abbrev QIQIQII : Ty := .pair I QIQII
abbrev QIQIQIQII : Ty := .pair I QIQIQII
abbrev QIQIQIQIQII : Ty := .pair I QIQIQIQII
abbrev QIQIQIQIQIQII : Ty := .pair I QIQIQIQIQII
abbrev QIQIQIQIQIQIQII : Ty := .pair I QIQIQIQIQIQII
abbrev QQIQIQIQIQIQIQIIQIQIQIQIQIQIQII : Ty := .pair QIQIQIQIQIQIQII QIQIQIQIQIQIQII
abbrev QQIQIQIQIQIQIQIIQQIQIQIQIQIQIQIIQIQIQIQIQIQIQII : Ty := .pair QIQIQIQIQIQIQII QQIQIQIQIQIQIQIIQIQIQIQIQIQIQII
abbrev QQIQIQIQIQIQIQIIQQIQIQIQIQIQIQIIQQIQIQIQIQIQIQIIQIQIQIQIQIQIQII : Ty := .pair QIQIQIQIQIQIQII QQIQIQIQIQIQIQIIQQIQIQIQIQIQIQIIQIQIQIQIQIQIQII
abbrev QQIQIQIQIQIQIQIIQQIQIQIQIQIQIQIIQQIQIQIQIQIQIQIIQQIQIQIQIQIQIQIIQIQIQIQIQIQIQII : Ty := .pair QIQIQIQIQIQIQII QQIQIQIQIQIQIQIIQQIQIQIQIQIQIQIIQQIQIQIQIQIQIQIIQIQIQIQIQIQIQII
abbrev QQIQIQIQIQIQIQIIQQIQIQIQIQIQIQIIQQIQIQIQIQIQIQIIQQIQIQIQIQIQIQIIQQIQIQIQIQIQIQIIQIQIQIQIQIQIQII : Ty := .pair QIQIQIQIQIQIQII QQIQIQIQIQIQIQIIQQIQIQIQIQIQIQIIQQIQIQIQIQIQIQIIQQIQIQIQIQIQIQIIQIQIQIQIQIQIQII
abbrev QQIQIQIQIQIQIQIIQQIQIQIQIQIQIQIIQQIQIQIQIQIQIQIIQQIQIQIQIQIQIQIIQQIQIQIQIQIQIQIIQQIQIQIQIQIQIQIIQIQIQIQIQIQIQII : Ty := .pair QIQIQIQIQIQIQII QQIQIQIQIQIQIQIIQQIQIQIQIQIQIQIIQQIQIQIQIQIQIQIIQQIQIQIQIQIQIQIIQQIQIQIQIQIQIQIIQIQIQIQIQIQIQII
abbrev QQIQIQIQIQIQIQIIQQIQIQIQIQIQIQIIQQIQIQIQIQIQIQIIQQIQIQIQIQIQIQIIQQIQIQIQIQIQIQIIQQIQIQIQIQIQIQIIQQIQIQIQIQIQIQIIQIQIQIQIQIQIQII : Ty := .pair QIQIQIQIQIQIQII QQIQIQIQIQIQIQIIQQIQIQIQIQIQIQIIQQIQIQIQIQIQIQIIQQIQIQIQIQIQIQIIQQIQIQIQIQIQIQIIQQIQIQIQIQIQIQIIQIQIQIQIQIQIQII
def rows : List (TypeId × TD) := [(3, ⟨I, [], none⟩),
  (4, ⟨.bool, [], none⟩),
  (22, ⟨LQII, [], some (67, QII, 0)⟩),
  (24, ⟨QILQII, [(0, I), (1, LQII)], none⟩),
  (28, ⟨QILQII, [(0, I), (1, LQII)], none⟩),
  (32, ⟨LLI, [], some (44, LI, 0)⟩),
  (44, ⟨LI, [], some (3, I, 0)⟩),
  (49, ⟨QIQIQIQIQIQIQII, [], some (3, I, 8)⟩),
  (50, ⟨QQIQIQIQIQIQIQIIQQIQIQIQIQIQIQIIQQIQIQIQIQIQIQIIQQIQIQIQIQIQIQIIQQIQIQIQIQIQIQIIQQIQIQIQIQIQIQIIQQIQIQIQIQIQIQIIQIQIQIQIQIQIQII, [], some (49, QIQIQIQIQIQIQII, 8)⟩),
  (67, ⟨QII, [], some (3, I, 2)⟩)]
def tab : Tab := tabOf rows
theorem progOk : ProgOk Try.prog tab := ⟨tabOk_of (by kernel_rfl), by kernel_rfl⟩
def shr {α β : Type} (x : α) (f : α → β) : β := f x
theorem pcQ {G : GTab} {L : List LSum} {f : FuncId} {fn : Func} {ps : List (PV.Mode × Ty)} {rs : List (Bool × Ty)} {F : argsT ps → Option (resT rs × mutT ps)} (hG : GOk Try.prog G) (hent : Ent Try.prog f) (hf : Try.prog.funcs[f]? = some fn) (hrun : ∀ x, F x = funF G tab L fn ps rs x)
    (hL : LsOk Try.prog fn.ntmps (fn.body.getD .skip) 0 L) (hc : both fn.body.isSome (okF tab (fn.body.getD .skip) fn.ntmps ps) = true) : PC Try.prog f ⟨ps, rs, F⟩ := pcF progOk hG hent hf hrun hL (both_true.1 hc).1 (both_true.1 hc).2
theorem loopQ {G : GTab} {L : List LSum} {n : Nat} {c : Code} {sh : Sh} {ex : List (Ex × Sh)} {N : Nat} (F : (R : Type) → Nat → sh.T → KS ex R → Option R) (hG : GOk Try.prog G)
    (h0 : ∀ R x ks, F R 0 x ks = none) (hstep : ∀ R k x ks, F R (k + 1) x ks = roundF G tab L c sh ex (fun y => F R k y ks) ks x) (hL : LsOk Try.prog n c 0 L) (hc : both (okC tab c []).isSome (lowC n c) = true) : LoopOk Try.prog n ⟨sh, ex, fun {R} x ks => F R N x ks⟩ c := loopF F progOk hG h0 hstep hL hc
end Go.Proofs.Ytfilchmabmfmaaa
