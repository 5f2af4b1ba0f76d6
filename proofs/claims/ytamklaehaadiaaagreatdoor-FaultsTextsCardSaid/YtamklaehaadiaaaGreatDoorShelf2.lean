/-
  The contracts of strconv.Atoi: laid with the others.
-/
import Derived.Test.YtamklaehaadiaaaGreatDoorShelf
import Derived.Lib.AtoiAllCases
