/-
  The contracts of strconv.Atoi: laid with the others.
-/
import Derived.Test.YtfgldglelijekaaDoorShelf
import Derived.Lib.AtoiAllCases
