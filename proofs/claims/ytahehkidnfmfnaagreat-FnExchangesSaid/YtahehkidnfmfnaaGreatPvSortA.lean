/- The kit's contract of slices.SortFunc, at a program where it is laid. -/
import Derived.Test.YtahehkidnfmfnaaGreatPvSort
import Derived.Shelf.SlSortCmp.NoneTotal
set_option linter.all false
namespace Go.PV
open Go Go.Sort Go.Proofs Go.Shelf
variable {P : Program} {ρ : Go.Shelf.Ren}
theorem sortsAt (L : SlLaysF.n6 P ρ) : SortsAt P (ρ.f 6) := fun k enc cf g blk off cap d w h1 hO eg hcmp hH hblk hsz => Any.slices_SortFunc L enc h1 cf hO g #[] blk off cap d w eg hcmp hH hblk hsz
theorem sortsNone (L : SlLaysF.n6 P ρ) : SortsNone P (ρ.f 6) := fun p cap fv w => AnyF.slices_SortFunc_none { L with } p cap fv w
end Go.PV
