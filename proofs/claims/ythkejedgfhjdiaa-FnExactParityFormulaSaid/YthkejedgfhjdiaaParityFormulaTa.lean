/- The types that the functions use, and the program. -/
import Derived.Test.YthkejedgfhjdiaaProg
import Derived.Test.YthkejedgfhjdiaaPvLaw
set_option linter.all false
namespace Go.Proofs.Ythkejedgfhjdiaa
open Go Go.PV
abbrev I : Ty := .int .i64
abbrev U8 : Ty := .int .u8
abbrev LI : Ty := .list 3 I
abbrev LLI : Ty := .list 33 LI
abbrev QILLI : Ty := .pair I LLI
abbrev QLLILI : Ty := .pair LLI LI
abbrev QIQLLILI : Ty := .pair I QLLILI
abbrev FLIBo : Ty := .fn1 LI .bool
abbrev U64 : Ty := .int .u64
abbrev FIBo : Ty := .fn1 I .bool
abbrev AQIQLLILI : Ty := .ptr QIQLLILI
abbrev ALI : Ty := .ptr LI
def str0 : ByteArray := ⟨#[0, 1, 2, 2, 3, 3, 3, 3, 4, 4, 4, 4, 4, 4, 4, 4, 5, 5, 5, 5, 5, 5, 5, 5, 5, 5, 5, 5, 5, 5, 5, 5, 6, 6, 6, 6, 6, 6, 6, 6, 6, 6, 6, 6, 6, 6, 6, 6, 6, 6, 6, 6, 6, 6, 6, 6, 6, 6, 6, 6, 6, 6, 6, 6, 7, 7, 7, 7, 7, 7, 7, 7, 7, 7, 7, 7, 7, 7, 7, 7, 7, 7, 7, 7, 7, 7, 7, 7, 7, 7, 7, 7, 7, 7, 7, 7, 7, 7, 7, 7, 7, 7, 7, 7, 7, 7, 7, 7, 7, 7, 7, 7, 7, 7, 7, 7, 7, 7, 7, 7, 7, 7, 7, 7, 7, 7, 7, 7, 8, 8, 8, 8, 8, 8, 8, 8, 8, 8, 8, 8, 8, 8, 8, 8, 8, 8, 8, 8, 8, 8, 8, 8, 8, 8, 8, 8, 8, 8, 8, 8, 8, 8, 8, 8, 8, 8, 8, 8, 8, 8, 8, 8, 8, 8, 8, 8, 8, 8, 8, 8, 8, 8, 8, 8, 8, 8, 8, 8, 8, 8, 8, 8, 8, 8, 8, 8, 8, 8, 8, 8, 8, 8, 8, 8, 8, 8, 8, 8, 8, 8, 8, 8, 8, 8, 8, 8, 8, 8, 8, 8, 8, 8, 8, 8, 8, 8, 8, 8, 8, 8, 8, 8, 8, 8, 8, 8, 8, 8, 8, 8, 8, 8, 8, 8, 8, 8, 8, 8, 8, 8, 8, 8, 8, 8, 8, 8]⟩
def rows : List (TypeId × TD) := [(3, ⟨I, [], none⟩),
  (4, ⟨.bool, [], none⟩),
  (5, ⟨U8, [], none⟩),
  (9, ⟨.str, [], none⟩),
  (22, ⟨LLI, [], some (33, LI, 0)⟩),
  (25, ⟨QILLI, [(0, I), (1, LLI)], none⟩),
  (33, ⟨LI, [], some (3, I, 0)⟩),
  (35, ⟨QIQLLILI, [(0, I), (1, LLI), (2, LI)], none⟩),
  (38, ⟨QIQLLILI, [(0, I), (1, LLI), (2, LI)], none⟩),
  (79, ⟨FLIBo, [], none⟩),
  (101, ⟨U64, [], none⟩),
  (128, ⟨FIBo, [], none⟩),
  (152, ⟨U64, [], none⟩)]
def tab : Tab := tabOf rows
theorem progOk : ProgOk Try.prog tab := ⟨tabOk_of (by kernel_rfl), by kernel_rfl⟩
end Go.Proofs.Ythkejedgfhjdiaa
