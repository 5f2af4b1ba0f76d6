/-
  The contracts of strconv.Atoi: laid with the others.
-/
import Derived.Test.YtbdmepidabnfkaaGreatDoorShelf
import Derived.Lib.AtoiAllCases
