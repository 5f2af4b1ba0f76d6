/-
  The contracts of strconv.Atoi: laid with the others.
-/
import Derived.Test.YtfloijkagfabpaaGreatDoorShelf
import Derived.Lib.AtoiAllCases
