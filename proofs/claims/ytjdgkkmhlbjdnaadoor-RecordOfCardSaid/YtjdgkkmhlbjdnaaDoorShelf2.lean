/-
  The contracts of strconv.Atoi: laid with the others.
-/
import Derived.Test.YtjdgkkmhlbjdnaaDoorShelf
import Derived.Lib.AtoiAllCases
