/- The types that the functions use, and the program. -/
import Derived.Test.YthkejedgfhjdiaaProg
import Derived.Test.YthkejedgfhjdiaaPvLaw
set_option linter.all false
namespace Go.Proofs.Ythkejedgfhjdiaa
open Go Go.PV
abbrev I : Ty := .int .i64
abbrev LI : Ty := .list 3 I
abbrev QII : Ty := .pair I I
abbrev LQII : Ty := .list 97 QII
abbrev QILQII : Ty := .pair I LQII
abbrev U64 : Ty := .int .u64
def rows : List (TypeId × TD) := [(3, ⟨I, [], none⟩),
  (4, ⟨.bool, [], none⟩),
  (33, ⟨LI, [], some (3, I, 0)⟩),
  (43, ⟨LQII, [], some (97, QII, 0)⟩),
  (45, ⟨QILQII, [(0, I), (1, LQII)], none⟩),
  (49, ⟨QILQII, [(0, I), (1, LQII)], none⟩),
  (97, ⟨QII, [], some (3, I, 2)⟩),
  (101, ⟨U64, [], none⟩),
  (102, ⟨U64, [], none⟩),
  (152, ⟨U64, [], none⟩)]
def tab : Tab := tabOf rows
theorem progOk : ProgOk Try.prog tab := ⟨tabOk_of (by kernel_rfl), by kernel_rfl⟩
end Go.Proofs.Ythkejedgfhjdiaa
