/- The types that the functions use, and the program. -/
import Derived.Test.YtgelipdkheahdaaProg
import Derived.Test.YtgelipdkheahdaaPvLaw
set_option linter.all false
namespace Go.Proofs.Ytgelipdkheahdaa
open Go Go.PV
abbrev I : Ty := .int .i64
abbrev QII : Ty := .pair I I
abbrev LQII : Ty := .list 80 QII
abbrev QILQII : Ty := .pair I LQII
abbrev LI : Ty := .list 3 I
abbrev LLI : Ty := .list 43 LI
abbrev QLLILQII : Ty := .pair LLI LQII
abbrev GLILIBo : Ty := .fn2 LI LI .bool
abbrev FIBo : Ty := .fn1 I .bool
abbrev GLILII : Ty := .fn2 LI LI I
abbrev LBo : Ty := .list 4 .bool
abbrev AI : Ty := .ptr I
abbrev ALI : Ty := .ptr LI
abbrev AQILQII : Ty := .ptr QILQII
abbrev BLLI : Ty := .mptr LLI
abbrev BLI : Ty := .mptr LI
abbrev S170 : Ty := .sptr 170 1
abbrev K81Un : Ty := .kclo 81 .unit
def rows : List (TypeId × TD) := [(3, ⟨I, [], none⟩),
  (4, ⟨.bool, [], none⟩),
  (22, ⟨LQII, [], some (80, QII, 0)⟩),
  (24, ⟨QILQII, [(0, I), (1, LQII)], none⟩),
  (28, ⟨QILQII, [(0, I), (1, LQII)], none⟩),
  (32, ⟨LLI, [], some (43, LI, 0)⟩),
  (34, ⟨QLLILQII, [(0, LLI), (1, LQII)], none⟩),
  (43, ⟨LI, [], some (3, I, 0)⟩),
  (50, ⟨GLILIBo, [], none⟩),
  (80, ⟨QII, [], some (3, I, 2)⟩),
  (90, ⟨FIBo, [], none⟩),
  (92, ⟨GLILII, [], none⟩),
  (109, ⟨LBo, [], some (4, .bool, 0)⟩)]
def tab : Tab := tabOf rows
theorem progOk : ProgOk Try.prog tab := ⟨tabOk_of (by kernel_rfl), by kernel_rfl⟩
end Go.Proofs.Ytgelipdkheahdaa
