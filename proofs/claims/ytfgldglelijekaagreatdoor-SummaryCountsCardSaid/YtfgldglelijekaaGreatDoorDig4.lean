/-
  Numbers as digits: a text read as a number, the document's road.
-/
import Derived.Test.YtfgldglelijekaaGreatDoorDig2
import Derived.Test.YtfgldglelijekaaGreatDoorDig3
namespace Go.Proofs.YtfgldglelijekaaGreatDoor
set_option linter.unusedSimpArgs false
set_option linter.unusedVariables false
set_option linter.unusedSectionVars false
open Go.ChangeShapes Go.WideShapes Go.ChangeAt Go.RowKit Go.Deep Go.Shelf

theorem readR_long {s : List UInt8} (h : 20 < (s.length : Int)) : readR s = (0, false) := by unfold readR; rw [if_pos (.inl h)]
theorem head45 (c : UInt8) (r : List UInt8) : ((c :: r).head?.map (· == 45) = some true) ↔ ((c.toNat : Int) == 45) = true := by
  simp only [List.head?_cons, Option.map_some, Option.some.injEq, beq_iff_eq, ← UInt8.toNat_inj]
  show c.toNat = 45 ↔ _
  omega
theorem readR_minus {c : UInt8} {r : List UInt8} (h : ¬ 20 < ((c :: r).length : Int)) (hc : ((c.toNat : Int) == 45) = true) :
    readR (c :: r) = if (vlF r).2 = true ∧ Lib.itoa (vlF r).1 = c :: r then ((vlF r).1, true) else (0, false) := by
  unfold readR
  rw [if_neg (by simp only [reduceCtorEq, or_false]; exact h), if_pos ((head45 c r).2 hc)]
  rfl
theorem readR_plus {c : UInt8} {r : List UInt8} (h : ¬ 20 < ((c :: r).length : Int)) (hc : ((c.toNat : Int) == 45) = false) :
    readR (c :: r) = if (vlF (c :: r)).1 = -9223372036854775808 then (0, false) else if (vlF (c :: r)).2 = true ∧ Lib.itoa (-(vlF (c :: r)).1) = c :: r then (-(vlF (c :: r)).1, true) else (0, false) := by
  unfold readR
  rw [if_neg (by simp only [reduceCtorEq, or_false]; exact h), if_neg (fun e => by rw [(head45 c r).1 e] at hc; cases hc)]

end Go.Proofs.YtfgldglelijekaaGreatDoor
