/- The types that the functions use, and the program. -/
import Derived.Test.YtfbkjgeaoafejaaProg
import Derived.Test.YtfbkjgeaoafejaaPvLaw
set_option linter.all false
namespace Go.Proofs.Ytfbkjgeaoafejaa
open Go Go.PV
abbrev I : Ty := .int .i64
abbrev U64 : Ty := .int .u64
abbrev QII : Ty := .pair I I
abbrev LQII : Ty := .list 137 QII
abbrev QILQII : Ty := .pair I LQII
abbrev LI : Ty := .list 3 I
abbrev LLI : Ty := .list 42 LI
abbrev LU64 : Ty := .list 101 U64
abbrev FUnUn : Ty := .fn1 .unit .unit
abbrev AI : Ty := .ptr I
abbrev BLLI : Ty := .mptr LLI
abbrev BLI : Ty := .mptr LI
abbrev ALLI : Ty := .ptr LLI
abbrev ALI : Ty := .ptr LI
abbrev S150 : Ty := .sptr 150 1
def rows : List (TypeId × TD) := [(3, ⟨I, [], none⟩),
  (4, ⟨.bool, [], none⟩),
  (22, ⟨LQII, [], some (137, QII, 0)⟩),
  (24, ⟨QILQII, [(0, I), (1, LQII)], none⟩),
  (26, ⟨LLI, [], some (42, LI, 0)⟩),
  (29, ⟨QILQII, [(0, I), (1, LQII)], none⟩),
  (42, ⟨LI, [], some (3, I, 0)⟩),
  (99, ⟨LU64, [], some (101, U64, 0)⟩),
  (100, ⟨U64, [], none⟩),
  (101, ⟨U64, [], none⟩),
  (129, ⟨U64, [], none⟩),
  (137, ⟨QII, [], some (3, I, 2)⟩),
  (141, ⟨FUnUn, [], none⟩)]
def tab : Tab := tabOf rows
theorem progOk : ProgOk Try.prog tab := ⟨tabOk_of (by kernel_rfl), by kernel_rfl⟩
end Go.Proofs.Ytfbkjgeaoafejaa
