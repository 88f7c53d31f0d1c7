/- The types that the functions use, and the program. -/
import Derived.Test.YtbnjcjpnpidhmaaProg
import Derived.Test.YtbnjcjpnpidhmaaPvLaw
set_option linter.all false
namespace Go.Proofs.Ytbnjcjpnpidhmaa
open Go Go.PV
abbrev I : Ty := .int .i64
abbrev U8 : Ty := .int .u8
abbrev QII : Ty := .pair I I
abbrev LQII : Ty := .list 85 QII
abbrev LI : Ty := .list 3 I
abbrev LLI : Ty := .list 36 LI
abbrev QILQII : Ty := .pair I LQII
abbrev LU8 : Ty := .list 5 U8
abbrev FIBo : Ty := .fn1 I .bool
abbrev U64 : Ty := .int .u64
abbrev QIU64 : Ty := .pair I U64
abbrev QLU8QIU64 : Ty := .pair LU8 QIU64
abbrev AQLU8QIU64 : Ty := .ptr QLU8QIU64
abbrev FLIBo : Ty := .fn1 LI .bool
abbrev FQIIBo : Ty := .fn1 QII .bool
abbrev OU8 : Ty := .rol 5 U8
abbrev QOU8QIU64 : Ty := .pair OU8 QIU64
abbrev BQOU8QIU64 : Ty := .mptr QOU8QIU64
abbrev AI : Ty := .ptr I
abbrev ALI : Ty := .ptr LI
abbrev AQILQII : Ty := .ptr QILQII
def rows : List (TypeId × TD) := [(3, ⟨I, [], none⟩),
  (4, ⟨.bool, [], none⟩),
  (5, ⟨U8, [], none⟩),
  (22, ⟨LQII, [], some (85, QII, 0)⟩),
  (26, ⟨LLI, [], some (36, LI, 0)⟩),
  (29, ⟨QILQII, [(0, I), (1, LQII)], none⟩),
  (36, ⟨LI, [], some (3, I, 0)⟩),
  (45, ⟨LU8, [], some (5, U8, 0)⟩),
  (62, ⟨FIBo, [], none⟩),
  (74, ⟨AQLU8QIU64, [], none⟩),
  (75, ⟨U64, [], none⟩),
  (77, ⟨QLU8QIU64, [(0, LU8), (1, I), (2, U64)], none⟩),
  (85, ⟨QII, [], some (3, I, 2)⟩),
  (94, ⟨FLIBo, [], none⟩),
  (111, ⟨FQIIBo, [], none⟩)]
def tab : Tab := tabOf rows
theorem progOk : ProgOk Try.prog tab := ⟨tabOk_of (by kernel_rfl), by kernel_rfl⟩
end Go.Proofs.Ytbnjcjpnpidhmaa
