/- The types that the functions use, and the program. -/
import Derived.Test.YtkffaahlpdlkoaaProg
import Derived.Test.YtkffaahlpdlkoaaPvLaw
set_option linter.all false
namespace Go.Proofs.Ytkffaahlpdlkoaa
open Go Go.PV
abbrev I : Ty := .int .i64
abbrev QII : Ty := .pair I I
abbrev LQII : Ty := .list 53 QII
abbrev QILQII : Ty := .pair I LQII
abbrev LI : Ty := .list 3 I
abbrev FIBo : Ty := .fn1 I .bool
abbrev FUnUn : Ty := .fn1 .unit .unit
abbrev U64 : Ty := .int .u64
abbrev ALI : Ty := .ptr LI
abbrev K57ALI : Ty := .kclo 57 ALI
abbrev AI : Ty := .ptr I
def rows : List (TypeId × TD) := [(3, ⟨I, [], none⟩),
  (4, ⟨.bool, [], none⟩),
  (22, ⟨LQII, [], some (53, QII, 0)⟩),
  (24, ⟨QILQII, [(0, I), (1, LQII)], none⟩),
  (25, ⟨LI, [], some (3, I, 0)⟩),
  (29, ⟨QILQII, [(0, I), (1, LQII)], none⟩),
  (51, ⟨FIBo, [], none⟩),
  (53, ⟨QII, [], some (3, I, 2)⟩),
  (61, ⟨FUnUn, [], none⟩),
  (66, ⟨U64, [], none⟩),
  (79, ⟨U64, [], none⟩)]
def tab : Tab := tabOf rows
theorem progOk : ProgOk Try.prog tab := ⟨tabOk_of (by kernel_rfl), by kernel_rfl⟩
end Go.Proofs.Ytkffaahlpdlkoaa
