/-
  The law TallyPlays, both ways.
-/
import Derived.Test.YtafccnkeiohlhaaTal9
import Derived.Test.YtafccnkeiohlhaaTal10
namespace Go.Proofs.Ytafccnkeiohlhaa
set_option linter.unusedSimpArgs false
set_option linter.unusedVariables false
open Go.ChangeShapes Go.WideShapes Go.ChangeAt Go.RowKit Go.Deep Go.Shelf

theorem tallyPlays_law (ans : Bool) (met : List UInt8) (a : Option Addr) (cap : Nat) (l : List Ev) (w : World) (hmm : met.length ≤ maxLen) (hm : l.length ≤ maxLen) (hs : SlE w w w.heap.size a l) :
    Calls Try.prog 16 #[.bool ans, bstr met, .slice a l.length cap] w fun e w' => e = .returned (.bool true) ∧ ∃ j, w' = w.more j := by
  cases ans
  · exact tallyPlays_false met a cap l w hmm hm hs
  · exact tallyPlays_true met a cap l w hmm hm hs
