/-
  The contracts of strconv.Atoi: laid with the others.
-/
import Derived.Test.YtamklaehaadiaaaDoorShelf
import Derived.Lib.AtoiAllCases
