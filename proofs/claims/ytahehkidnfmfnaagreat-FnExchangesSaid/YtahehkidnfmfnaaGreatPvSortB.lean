/- The kit's contract of slices.Sort on whole numbers, at a program where it is laid. -/
import Derived.Test.YtahehkidnfmfnaaGreatPvSort
import Derived.Shelf.SortG.Plain
import Derived.Shelf.SortG.SortNone
set_option linter.all false
namespace Go.PV
open Go Go.Sort Go.Proofs Go.Shelf
variable {P : Program} {ρ : Go.Shelf.Ren}
theorem sortsI (L : SlLaysN.n53 P ρ) : SortsI P (ρ.f 53) := fun blk off cap zs w hH hblk hsz => AnyG.slices_Sort_int L blk off cap zs w hH hblk hsz
theorem sortsINone (L : SlLaysN.n53 P ρ) : SortsINone P (ρ.f 53) := fun p cap w => AnyG.slices_Sort_int_none L p cap w
end Go.PV
