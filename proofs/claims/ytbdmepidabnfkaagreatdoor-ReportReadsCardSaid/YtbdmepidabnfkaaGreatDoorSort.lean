/-
  DERIVED: the contracts of slices.SortFunc, slices.Contains, slices.Equal at faults, laid at this dump.
-/
import Derived.Shelf.Lay
import Derived.Shelf.LaySoft
import Derived.Shelf.SlSortCmp.WholeK
import Derived.Shelf.SlicesQ.Contains
import Derived.Shelf.SlicesQ.Equal
import Derived.Shelf.Spec.SlicesGrow
import Derived.Test.YtbdmepidabnfkaaGreatDoorProg
namespace Go.Proofs
open Go.Shelf

shelf_try shelf_lay_g SlLaysF0.n6 Slsf 6 at Tryz 103 as Tryz.sortFl
shelf_try shelf_lay_g SlLaysQ.n8 Slgq 8 at Tryz 58 as Tryz.eqFl
shelf_tried
end Go.Proofs
