/- The types that the functions use, and the program. -/
import Derived.Test.YtbnjcjpnpidhmaaGreatProg
import Derived.Test.YtbnjcjpnpidhmaaGreatPvLaw
set_option linter.all false
namespace Go.Proofs.YtbnjcjpnpidhmaaGreat
open Go Go.PV
abbrev I : Ty := .int .i64
abbrev U8 : Ty := .int .u8
abbrev QII : Ty := .pair I I
abbrev LQII : Ty := .list 123 QII
abbrev LI : Ty := .list 3 I
abbrev QILQII : Ty := .pair I LQII
abbrev GLILIBo : Ty := .fn2 LI LI .bool
abbrev LLI : Ty := .list 25 LI
abbrev LU8 : Ty := .list 5 U8
abbrev QLLILQII : Ty := .pair LLI LQII
abbrev U64 : Ty := .int .u64
abbrev QIU64 : Ty := .pair I U64
abbrev QLU8QIU64 : Ty := .pair LU8 QIU64
abbrev AQLU8QIU64 : Ty := .ptr QLU8QIU64
abbrev FIBo : Ty := .fn1 I .bool
abbrev GLILII : Ty := .fn2 LI LI I
abbrev LBo : Ty := .list 4 .bool
abbrev OU8 : Ty := .rol 5 U8
abbrev QOU8QIU64 : Ty := .pair OU8 QIU64
abbrev BQOU8QIU64 : Ty := .mptr QOU8QIU64
abbrev AI : Ty := .ptr I
abbrev ALI : Ty := .ptr LI
abbrev AQILQII : Ty := .ptr QILQII
abbrev BLLI : Ty := .mptr LLI
abbrev BLI : Ty := .mptr LI
abbrev S263 : Ty := .sptr 263 1
abbrev K166Un : Ty := .kclo 166 .unit
def rows : List (TypeId × TD) := [(3, ⟨I, [], none⟩),
  (4, ⟨.bool, [], none⟩),
  (5, ⟨U8, [], none⟩),
  (22, ⟨LQII, [], some (123, QII, 0)⟩),
  (25, ⟨LI, [], some (3, I, 0)⟩),
  (29, ⟨QILQII, [(0, I), (1, LQII)], none⟩),
  (33, ⟨GLILIBo, [], none⟩),
  (35, ⟨LLI, [], some (25, LI, 0)⟩),
  (42, ⟨LU8, [], some (5, U8, 0)⟩),
  (64, ⟨QLLILQII, [(0, LLI), (1, LQII)], none⟩),
  (100, ⟨AQLU8QIU64, [], none⟩),
  (101, ⟨U64, [], none⟩),
  (103, ⟨QLU8QIU64, [(0, LU8), (1, I), (2, U64)], none⟩),
  (107, ⟨FIBo, [], none⟩),
  (109, ⟨U64, [], none⟩),
  (110, ⟨U64, [], none⟩),
  (123, ⟨QII, [], some (3, I, 2)⟩),
  (136, ⟨GLILII, [], none⟩),
  (193, ⟨LBo, [], some (4, .bool, 0)⟩)]
def tab : Tab := tabOf rows
theorem progOk : ProgOk Tryz.prog tab := ⟨tabOk_of (by kernel_rfl), by kernel_rfl⟩
end Go.Proofs.YtbnjcjpnpidhmaaGreat
