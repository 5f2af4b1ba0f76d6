/-
  The contracts of strconv.Atoi: laid with the others.
-/
import Derived.Test.YtfgldglelijekaaGreatDoorShelf
import Derived.Lib.AtoiAllCases
