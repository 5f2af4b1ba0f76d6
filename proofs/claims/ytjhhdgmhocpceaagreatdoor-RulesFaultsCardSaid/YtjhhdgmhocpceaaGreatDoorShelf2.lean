/-
  The contracts of strconv.Atoi: laid with the others.
-/
import Derived.Test.YtjhhdgmhocpceaaGreatDoorShelf
import Derived.Lib.AtoiAllCases
