/-
  DERIVED: the contracts of slices.SortFunc, slices.Contains, slices.Equal at faults, laid at this dump.
-/
import Derived.Shelf.Lay
import Derived.Shelf.LaySoft
import Derived.Shelf.SlSortCmp.WholeK
import Derived.Shelf.SlicesQ.Contains
import Derived.Shelf.SlicesQ.Equal
import Derived.Shelf.Spec.SlicesGrow
import Derived.Test.YtjhhdgmhocpceaaGreatDoorProg
namespace Go.Proofs
open Go.Shelf

shelf_try shelf_lay_g SlLaysF0.n6 Slsf 6 at Tryz 27 as Tryz.sortFl
shelf_try shelf_lay_g Lays8.n4 Nm8 4 at Tryz 86 as Tryz.growFl
shelf_tried
end Go.Proofs
