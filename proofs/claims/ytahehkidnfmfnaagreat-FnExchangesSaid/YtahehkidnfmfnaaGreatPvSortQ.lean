/- The kit's contract of slices.SortFunc at pairs, at a program where it is laid. -/
import Derived.Test.YtahehkidnfmfnaaGreatPvSortP
import Derived.Shelf.SlSortCmp.NoneTotal
set_option linter.all false
namespace Go.PV
open Go Go.Sort Go.Proofs Go.Shelf
variable {P : Program} {ρ : Go.Shelf.Ren}
theorem sortsPAt (L : SlLaysF0.n6 P ρ) (aE : ∀ w, (isAgg (ρ.t 24)).run P w = .ok true w) (zE : ∀ w, (Go.sizeOf (ρ.t 24)).run P w = .ok 2 w) : SortsPAt P (ρ.f 6) := fun k enc cf g blk off cap d w hk h1 hO eg hcmp hH hblk hsz => AnyQ.slices_SortFunc L 2 aE zE enc hk h1 cf hO g #[] blk off cap d w eg hcmp hH hblk hsz
theorem sortsPNone (L : SlLaysF0.n6 P ρ) : SortsNone P (ρ.f 6) := fun p cap fv w => AnyF.slices_SortFunc_none L p cap fv w
end Go.PV
