/- The types that the functions use, and the program. -/
import Derived.Test.YtbnjcjpnpidhmaaGreatProg
import Derived.Test.YtbnjcjpnpidhmaaGreatPvLaw
set_option linter.all false
namespace Go.Proofs.YtbnjcjpnpidhmaaGreat
open Go Go.PV
abbrev I : Ty := .int .i64
abbrev QII : Ty := .pair I I
abbrev LQII : Ty := .list 123 QII
abbrev QILQII : Ty := .pair I LQII
abbrev LI : Ty := .list 3 I
abbrev GLILIBo : Ty := .fn2 LI LI .bool
abbrev LLI : Ty := .list 25 LI
abbrev QLLILQII : Ty := .pair LLI LQII
abbrev U64 : Ty := .int .u64
abbrev GLILII : Ty := .fn2 LI LI I
abbrev FU64Bo : Ty := .fn1 U64 .bool
abbrev FQIIBo : Ty := .fn1 QII .bool
abbrev AU64 : Ty := .ptr U64
abbrev K166Un : Ty := .kclo 166 .unit
abbrev AI : Ty := .ptr I
abbrev AQILQII : Ty := .ptr QILQII
def rows : List (TypeId × TD) := [(3, ⟨I, [], none⟩),
  (4, ⟨.bool, [], none⟩),
  (22, ⟨LQII, [], some (123, QII, 0)⟩),
  (24, ⟨QILQII, [(0, I), (1, LQII)], none⟩),
  (25, ⟨LI, [], some (3, I, 0)⟩),
  (29, ⟨QILQII, [(0, I), (1, LQII)], none⟩),
  (33, ⟨GLILIBo, [], none⟩),
  (35, ⟨LLI, [], some (25, LI, 0)⟩),
  (64, ⟨QLLILQII, [(0, LLI), (1, LQII)], none⟩),
  (101, ⟨U64, [], none⟩),
  (109, ⟨U64, [], none⟩),
  (110, ⟨U64, [], none⟩),
  (123, ⟨QII, [], some (3, I, 2)⟩),
  (136, ⟨GLILII, [], none⟩),
  (177, ⟨FU64Bo, [], none⟩),
  (208, ⟨FQIIBo, [], none⟩)]
def tab : Tab := tabOf rows
theorem progOk : ProgOk Tryz.prog tab := ⟨tabOk_of (by kernel_rfl), by kernel_rfl⟩
end Go.Proofs.YtbnjcjpnpidhmaaGreat
