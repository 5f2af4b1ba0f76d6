/-
  The contracts of strconv.Atoi: laid with the others.
-/
import Derived.Test.YtfcklbiejlkafaaGreatDoorShelf
import Derived.Lib.AtoiAllCases
