/-
  Pings: one more.
-/
import Derived.Test.YtngnjlidfhenkaaPng5
namespace Go.Proofs.Ytngnjlidfhenkaa
set_option linter.unusedSimpArgs false
set_option linter.unusedVariables false
set_option linter.unusedSectionVars false
open Go.ChangeShapes Go.WideShapes Go.ChangeAt Go.RowKit Go.Deep

set_option maxRecDepth 100000 in
theorem pings_Send_nil (v : Value) (w : World) : Calls Try.prog 12 #[.pointer none, v] w fun e w' => e = .returned (.int .i64 2) ∧ ∃ j, w' = w.more j := by
  go_enter Try.func12, Try.ntmps12
  go_wp2_with fail
  go_ret
  exact ⟨rfl, Below.junk (by repeat (first | (with_reducible exact Below.refl _ _) | (with_reducible refine Below.allocS ?_ _) | (with_reducible refine Below.moreS ?_ _) | (with_reducible refine Below.drew ?_) | (with_reducible refine below_drewN ?_ _)))⟩
set_option maxHeartbeats 4000000 in
set_option maxRecDepth 100000 in
theorem pings_Send_len (b : Nat) (a : Option Addr) (n cap : Nat) (hn : n ≠ 8) (w : World) : Calls Try.prog 12 #[.pointer (some ⟨b, 0, none⟩), .slice a n cap] w fun e w' => e = .returned (.int .i64 1) ∧ ∃ j, w' = w.more j := by
  have h1 : ((n : Int) == 8) = false := by rw [beq_eq_false_iff_ne]; omega
  have h1' : ((n : Int) != 8) = true := by rw [bne_iff_ne]; omega
  have h2 : ¬ n = 8 := hn
  have h3 : ¬ (n : Int) = 8 := by omega
  go_enter Try.func12, Try.ntmps12
  go_wp2_with fail
  go_ret
  exact ⟨rfl, Below.junk (by repeat (first | (with_reducible exact Below.refl _ _) | (with_reducible refine Below.allocS ?_ _) | (with_reducible refine Below.moreS ?_ _) | (with_reducible refine Below.drew ?_) | (with_reducible refine below_drewN ?_ _)))⟩
set_option maxHeartbeats 4000000 in
set_option maxRecDepth 100000 in
theorem pings_Send_full (b mb N : Nat) (most : Int) (l : List (List UInt8)) (a : Option Addr) (cap : Nat) (hfull : most ≤ (l.length : Int)) (w : World) (hP : Pg w b mb most N l) :
    Calls Try.prog 12 #[.pointer (some ⟨b, 0, none⟩), .slice a 8 cap] w fun e w' => e = .returned (.int .i64 6) ∧ ∃ j, w' = w.more j := by
  obtain ⟨c0, c1, c2, _, _, _, hl⟩ := hP.blk.three
  go_enter Try.func12, Try.ntmps12
  go_wp2_with fail
  refine wp_region_more (by kernel_rfl) (by kernel_rfl) ?_
  repeat (go_big_quiet_step (first | fail))
  refine wpQuiet_nil ?_
  intro w' hw'
  obtain ⟨j, rfl⟩ := hw'
  go_wp2_with fail
  go_ret
  exact ⟨rfl, Below.junk (by repeat (first | (with_reducible exact Below.refl _ _) | (with_reducible refine Below.allocS ?_ _) | (with_reducible refine Below.moreS ?_ _) | (with_reducible refine Below.drew ?_) | (with_reducible refine below_drewN ?_ _)))⟩
end Go.Proofs.Ytngnjlidfhenkaa
