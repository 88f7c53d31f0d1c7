/- The types that the functions use, and the program. -/
import Derived.Test.YthkejedgfhjdiaaProg
import Derived.Test.YthkejedgfhjdiaaPvLaw
set_option linter.all false
namespace Go.Proofs.Ythkejedgfhjdiaa
open Go Go.PV
abbrev I : Ty := .int .i64
abbrev U8 : Ty := .int .u8
abbrev LI : Ty := .list 3 I
abbrev LLI : Ty := .list 33 LI
abbrev QII : Ty := .pair I I
abbrev LQII : Ty := .list 97 QII
abbrev QILQII : Ty := .pair I LQII
abbrev U64 : Ty := .int .u64
abbrev FIBo : Ty := .fn1 I .bool
abbrev BLI : Ty := .mptr LI
abbrev AQILQII : Ty := .ptr QILQII
abbrev QBLIAQILQII : Ty := .pair BLI AQILQII
abbrev K145QBLIAQILQII : Ty := .kclo 145 QBLIAQILQII
def str0 : ByteArray := ⟨#[0, 1, 2, 2, 3, 3, 3, 3, 4, 4, 4, 4, 4, 4, 4, 4, 5, 5, 5, 5, 5, 5, 5, 5, 5, 5, 5, 5, 5, 5, 5, 5, 6, 6, 6, 6, 6, 6, 6, 6, 6, 6, 6, 6, 6, 6, 6, 6, 6, 6, 6, 6, 6, 6, 6, 6, 6, 6, 6, 6, 6, 6, 6, 6, 7, 7, 7, 7, 7, 7, 7, 7, 7, 7, 7, 7, 7, 7, 7, 7, 7, 7, 7, 7, 7, 7, 7, 7, 7, 7, 7, 7, 7, 7, 7, 7, 7, 7, 7, 7, 7, 7, 7, 7, 7, 7, 7, 7, 7, 7, 7, 7, 7, 7, 7, 7, 7, 7, 7, 7, 7, 7, 7, 7, 7, 7, 7, 7, 8, 8, 8, 8, 8, 8, 8, 8, 8, 8, 8, 8, 8, 8, 8, 8, 8, 8, 8, 8, 8, 8, 8, 8, 8, 8, 8, 8, 8, 8, 8, 8, 8, 8, 8, 8, 8, 8, 8, 8, 8, 8, 8, 8, 8, 8, 8, 8, 8, 8, 8, 8, 8, 8, 8, 8, 8, 8, 8, 8, 8, 8, 8, 8, 8, 8, 8, 8, 8, 8, 8, 8, 8, 8, 8, 8, 8, 8, 8, 8, 8, 8, 8, 8, 8, 8, 8, 8, 8, 8, 8, 8, 8, 8, 8, 8, 8, 8, 8, 8, 8, 8, 8, 8, 8, 8, 8, 8, 8, 8, 8, 8, 8, 8, 8, 8, 8, 8, 8, 8, 8, 8, 8, 8, 8, 8, 8, 8]⟩
def rows : List (TypeId × TD) := [(3, ⟨I, [], none⟩),
  (4, ⟨.bool, [], none⟩),
  (5, ⟨U8, [], none⟩),
  (9, ⟨.str, [], none⟩),
  (22, ⟨LLI, [], some (33, LI, 0)⟩),
  (33, ⟨LI, [], some (3, I, 0)⟩),
  (43, ⟨LQII, [], some (97, QII, 0)⟩),
  (45, ⟨QILQII, [(0, I), (1, LQII)], none⟩),
  (49, ⟨QILQII, [(0, I), (1, LQII)], none⟩),
  (94, ⟨LI, [], some (3, I, 0)⟩),
  (97, ⟨QII, [], some (3, I, 2)⟩),
  (101, ⟨U64, [], none⟩),
  (128, ⟨FIBo, [], none⟩),
  (152, ⟨U64, [], none⟩)]
def tab : Tab := tabOf rows
theorem progOk : ProgOk Try.prog tab := ⟨tabOk_of (by kernel_rfl), by kernel_rfl⟩
end Go.Proofs.Ythkejedgfhjdiaa
