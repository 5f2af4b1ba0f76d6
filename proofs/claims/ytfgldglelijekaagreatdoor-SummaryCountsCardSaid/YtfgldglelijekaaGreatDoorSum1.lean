/-
  Summaries: how many bytes a record's frame has; a record counted.
-/
import Derived.Test.YtfgldglelijekaaGreatDoorSumP
import Derived.Test.YtfgldglelijekaaGreatDoorRec2
import Derived.BigGuardPart
namespace Go.Proofs.YtfgldglelijekaaGreatDoor
set_option linter.unusedSimpArgs false
set_option linter.unusedVariables false
set_option linter.unusedSectionVars false
open Go.ChangeShapes Go.WideShapes Go.ChangeAt Go.RowKit Go.Deep Go.Shelf

set_option maxHeartbeats 4000000 in
set_option maxRecDepth 100000 in
theorem summary_size (a b c d e f : Int) (w : World) : Calls Tryz.prog 26 #[.agg #[.int .i64 a, .int .i64 b, .int .i64 c, .int .i64 d, .int .i64 e, .int .i64 f]] w fun en w' => en = .returned (.int .i64 (szR ⟨a, b, c, d, e, f⟩)) ∧ ∃ j, w' = w.more j := by
  have HZ : Hid (szR ⟨a, b, c, d, e, f⟩ = (if inB e 16777215 = true then e else 0) + (if b = -1 then 0 else 9)) := rfl
  generalize szR ⟨a, b, c, d, e, f⟩ = Z at HZ ⊢
  have h3 : (0 ≤ e ∧ e ≤ 16777215) ∨ (0 ≤ e ∧ ¬ e ≤ 16777215) ∨ ¬ 0 ≤ e := by omega
  rcases h3 with ⟨h1, h2⟩ | ⟨h1, h2⟩ | h1
  all_goals
    by_cases h4 : b = -1
    · have hZ : Z = _ := HZ.out
      rw [if_pos h4] at hZ
      first | rw [if_pos (inB_iff.2 ⟨h1, h2⟩)] at hZ | rw [if_neg (fun h => by have := inB_iff.1 h; omega)] at hZ
      subst h4 hZ
      clear HZ
      go_enter Tryz.func26, Tryz.ntmps26
      go_wp2_with fail
      go_ret
      exact ⟨by simp, Below.junk (by repeat (first | (with_reducible exact Below.refl _ _) | (with_reducible refine Below.allocS ?_ _) | (with_reducible refine Below.moreS ?_ _) | (with_reducible refine Below.drew ?_) | (with_reducible refine below_drewN ?_ _)))⟩
    · have hZ : Z = _ := HZ.out
      rw [if_neg h4] at hZ
      first | rw [if_pos (inB_iff.2 ⟨h1, h2⟩)] at hZ | rw [if_neg (fun h => by have := inB_iff.1 h; omega)] at hZ
      have h5 : (b == -1) = false := by rw [beq_eq_false_iff_ne]; exact h4
      have hw1 : IntKind.i64.wrap (0 + 9) = 9 := by decide
      have hw2 : 0 ≤ e → e ≤ 16777215 → IntKind.i64.wrap (e + 9) = e + 9 := fun _ _ => IntWalk.i64_in _ (by omega)
      subst hZ
      clear HZ
      go_enter Tryz.func26, Tryz.ntmps26
      go_wp2_with fail
      go_ret
      exact ⟨by simp, Below.junk (by repeat (first | (with_reducible exact Below.refl _ _) | (with_reducible refine Below.allocS ?_ _) | (with_reducible refine Below.moreS ?_ _) | (with_reducible refine Below.drew ?_) | (with_reducible refine below_drewN ?_ _)))⟩
end Go.Proofs.YtfgldglelijekaaGreatDoor
