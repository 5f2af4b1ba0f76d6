/-
  The contracts of strconv.Atoi: laid with the others.
-/
import Derived.Test.YthbflllflnnipaaGreatDoorShelf
import Derived.Lib.AtoiAllCases
