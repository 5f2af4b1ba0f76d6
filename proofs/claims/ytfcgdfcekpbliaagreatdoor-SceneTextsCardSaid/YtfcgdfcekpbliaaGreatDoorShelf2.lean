/-
  The contracts of strconv.Atoi: laid with the others.
-/
import Derived.Test.YtfcgdfcekpbliaaGreatDoorShelf
import Derived.Lib.AtoiAllCases
