/- The types that the functions use, and the program. -/
import Derived.Test.YtaodifjegdpifaaGreatProg
import Derived.Test.YtaodifjegdpifaaGreatPvLaw
set_option linter.all false
namespace Go.Proofs.YtaodifjegdpifaaGreat
open Go Go.PV
abbrev I : Ty := .int .i64
abbrev U8 : Ty := .int .u8
abbrev LU8 : Ty := .list 5 U8
abbrev LI : Ty := .list 3 I
abbrev LLI : Ty := .list 27 LI
abbrev QILLI : Ty := .pair I LLI
abbrev GLILIBo : Ty := .fn2 LI LI .bool
abbrev U64 : Ty := .int .u64
abbrev QIU64 : Ty := .pair I U64
abbrev QLU8QIU64 : Ty := .pair LU8 QIU64
abbrev AQLU8QIU64 : Ty := .ptr QLU8QIU64
abbrev FLIBo : Ty := .fn1 LI .bool
abbrev FIBo : Ty := .fn1 I .bool
abbrev QII : Ty := .pair I I
abbrev LQII : Ty := .list 84 QII
abbrev QLLILQII : Ty := .pair LLI LQII
abbrev GLILII : Ty := .fn2 LI LI I
abbrev OU8 : Ty := .rol 5 U8
abbrev QOU8QIU64 : Ty := .pair OU8 QIU64
abbrev BQOU8QIU64 : Ty := .mptr QOU8QIU64
abbrev ALI : Ty := .ptr LI
abbrev K71Un : Ty := .kclo 71 .unit
def rows : List (TypeId × TD) := [(3, ⟨I, [], none⟩),
  (4, ⟨.bool, [], none⟩),
  (5, ⟨U8, [], none⟩),
  (22, ⟨LU8, [], some (5, U8, 0)⟩),
  (24, ⟨LLI, [], some (27, LI, 0)⟩),
  (26, ⟨QILLI, [(0, I), (1, LLI)], none⟩),
  (27, ⟨LI, [], some (3, I, 0)⟩),
  (34, ⟨GLILIBo, [], none⟩),
  (37, ⟨AQLU8QIU64, [], none⟩),
  (38, ⟨U64, [], none⟩),
  (40, ⟨QLU8QIU64, [(0, LU8), (1, I), (2, U64)], none⟩),
  (49, ⟨FLIBo, [], none⟩),
  (54, ⟨FIBo, [], none⟩),
  (59, ⟨LQII, [], some (84, QII, 0)⟩),
  (61, ⟨QLLILQII, [(0, LLI), (1, LQII)], none⟩),
  (83, ⟨GLILII, [], none⟩),
  (84, ⟨QII, [], some (3, I, 2)⟩),
  (89, ⟨U64, [], none⟩)]
def tab : Tab := tabOf rows
theorem progOk : ProgOk Tryz.prog tab := ⟨tabOk_of (by kernel_rfl), by kernel_rfl⟩
end Go.Proofs.YtaodifjegdpifaaGreat
