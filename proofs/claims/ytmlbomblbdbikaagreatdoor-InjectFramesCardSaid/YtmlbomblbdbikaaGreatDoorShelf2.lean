/-
  The contracts of strconv.Atoi: laid with the others.
-/
import Derived.Test.YtmlbomblbdbikaaGreatDoorShelf
import Derived.Lib.AtoiAllCases
