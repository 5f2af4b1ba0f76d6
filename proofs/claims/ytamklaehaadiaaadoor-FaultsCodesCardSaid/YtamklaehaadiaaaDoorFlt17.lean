/-
  The statement FaultsCodes: each code has its name, and just these names are codes.
-/
import Derived.Test.YtamklaehaadiaaaDoorFlt14
namespace Go.Proofs.YtamklaehaadiaaaDoor
set_option linter.unusedSimpArgs false
set_option linter.unusedVariables false
set_option linter.unusedSectionVars false
open Go.ChangeShapes Go.WideShapes Go.ChangeAt Go.RowKit Go.Deep Go.Shelf

theorem codeOf_nil : codeOf [] = (0, false) := by decide
set_option maxHeartbeats 8000000 in
set_option maxRecDepth 100000 in
theorem faultsCodes_law (code : Int) (s : List UInt8) (w : World) (hE : Env w) (hF : FN w) (h0 : -9223372036854775808 ≤ code) (h1 : code ≤ 9223372036854775807) (hms : s.length ≤ maxLen) :
    Calls Tryd.prog 5 #[.int .i64 code, bstr s] w fun e w' => e = .returned (.bool true) ∧ ∃ j, w' = w.more j := by
  have HAL : Hid (∀ W, FN W → Calls Tryd.prog 6 #[] W fun e w' => e = .returned (.bool true) ∧ ∃ j, w' = W.more j) := law09_alive
  have HE := Lib.hid hE
  have HF := Lib.hid hF
  unfold maxLen at hms
  by_cases hs : 100 < s.length
  · have hs' : (100 : Int) < s.length := by omega
    clear hE hF
    go_enter Tryd.func5, Tryd.ntmps5
    go_wp2_with (go_at_call 6; (with_reducible refine (HAL.out _ (HF.out.below (by repeat (first | (with_reducible exact Below.refl _ _) | (with_reducible refine Below.allocS ?_ _) | (with_reducible refine Below.moreS ?_ _) | (with_reducible refine Below.drew ?_) | (with_reducible refine below_drewN ?_ _))))).mono ?_); rintro e w' ⟨rfl, j, rfl⟩)
    go_ret
    exact ⟨rfl, Below.junk (by repeat (first | (with_reducible exact Below.refl _ _) | (with_reducible refine Below.allocS ?_ _) | (with_reducible refine Below.moreS ?_ _) | (with_reducible refine Below.drew ?_) | (with_reducible refine below_drewN ?_ _)))⟩
  have hs' : ¬ (100 : Int) < s.length := by omega
  have HN : Hid (∀ W, Env W → FN W → Calls Tryd.prog 18 #[.int .i64 code] W fun e w' => e = .returned (bstr (codeN code)) ∧ ∃ j, w' = W.more j) := fun W => faults_CodeName code W
  have HM : Hid (∀ W, Calls Tryd.prog 21 #[.int .i64 code] W fun e w' => e = .returned (bstr (codeN code)) ∧ ∃ j, w' = W.more j) := ref09_CodeName code
  have HC : Hid (∀ W, Env W → FN W → Calls Tryd.prog 19 #[bstr s] W fun e w' => e = .returned (.tuple #[.int .i64 (codeOf s).1, .bool (codeOf s).2]) ∧ ∃ j, w' = W.more j) := fun W => faults_Code s (by omega) W
  have HD : Hid (∀ W, Calls Tryd.prog 20 #[bstr s] W fun e w' => e = .returned (.tuple #[.int .i64 (codeOf s).1, .bool (codeOf s).2]) ∧ ∃ j, w' = W.more j) := ref09_Code s (by omega)
  have hlen := codeN_len code
  have HZ : Hid (∀ W, Env W → FN W → Calls Tryd.prog 19 #[bstr (codeN code)] W fun e w' => e = .returned (.tuple #[.int .i64 (codeOf (codeN code)).1, .bool (codeOf (codeN code)).2]) ∧ ∃ j, w' = W.more j) := fun W => faults_Code (codeN code) (by omega) W
  generalize codeOf s = x at HC HD
  obtain ⟨x, b⟩ := x
  clear hE hF
  by_cases hin : 0 ≤ code ∧ code ≤ 4294967295
  · have e1 : codeOf (codeN code) = (code, true) := codeOf_name hin.1 hin.2
    have e2 := codeN_ne hin.1 hin.2
    rw [e1] at HZ
    generalize codeN code = n at HN HM HZ e2 hlen
    have hne : n.isEmpty = false := by cases n <;> simp_all
    have hne' : (!n.isEmpty) = true := by rw [hne]; rfl
    clear e1 e2
    cases b
    all_goals
      go_enter Tryd.func5, Tryd.ntmps5
      go_wp2_with (first
        | (go_at_call 18; (with_reducible refine (HN.out _ (HE.out.below (by repeat (first | (with_reducible exact Below.refl _ _) | (with_reducible refine Below.allocS ?_ _) | (with_reducible refine Below.moreS ?_ _) | (with_reducible refine Below.drew ?_) | (with_reducible refine below_drewN ?_ _)))) (HF.out.below (by repeat (first | (with_reducible exact Below.refl _ _) | (with_reducible refine Below.allocS ?_ _) | (with_reducible refine Below.moreS ?_ _) | (with_reducible refine Below.drew ?_) | (with_reducible refine below_drewN ?_ _))))).mono ?_); rintro e w' ⟨rfl, j, rfl⟩)
        | (go_at_call 21; (with_reducible refine (HM.out _).mono ?_); rintro e w' ⟨rfl, j, rfl⟩)
        | (go_at_call 19; (with_reducible refine (HC.out _ (HE.out.below (by repeat (first | (with_reducible exact Below.refl _ _) | (with_reducible refine Below.allocS ?_ _) | (with_reducible refine Below.moreS ?_ _) | (with_reducible refine Below.drew ?_) | (with_reducible refine below_drewN ?_ _)))) (HF.out.below (by repeat (first | (with_reducible exact Below.refl _ _) | (with_reducible refine Below.allocS ?_ _) | (with_reducible refine Below.moreS ?_ _) | (with_reducible refine Below.drew ?_) | (with_reducible refine below_drewN ?_ _))))).mono ?_); rintro e w' ⟨rfl, j, rfl⟩)
        | (go_at_call 19; (with_reducible refine (HZ.out _ (HE.out.below (by repeat (first | (with_reducible exact Below.refl _ _) | (with_reducible refine Below.allocS ?_ _) | (with_reducible refine Below.moreS ?_ _) | (with_reducible refine Below.drew ?_) | (with_reducible refine below_drewN ?_ _)))) (HF.out.below (by repeat (first | (with_reducible exact Below.refl _ _) | (with_reducible refine Below.allocS ?_ _) | (with_reducible refine Below.moreS ?_ _) | (with_reducible refine Below.drew ?_) | (with_reducible refine below_drewN ?_ _))))).mono ?_); rintro e w' ⟨rfl, j, rfl⟩)
        | (go_at_call 20; (with_reducible refine (HD.out _).mono ?_); rintro e w' ⟨rfl, j, rfl⟩)
        | (go_at_call 6; (with_reducible refine (HAL.out _ (HF.out.below (by repeat (first | (with_reducible exact Below.refl _ _) | (with_reducible refine Below.allocS ?_ _) | (with_reducible refine Below.moreS ?_ _) | (with_reducible refine Below.drew ?_) | (with_reducible refine below_drewN ?_ _))))).mono ?_); rintro e w' ⟨rfl, j, rfl⟩))
      go_ret
      exact ⟨rfl, Below.junk (by repeat (first | (with_reducible exact Below.refl _ _) | (with_reducible refine Below.allocS ?_ _) | (with_reducible refine Below.moreS ?_ _) | (with_reducible refine Below.drew ?_) | (with_reducible refine below_drewN ?_ _)))⟩
  · have e2 : codeN code = [] := codeN_out (by omega)
    rw [e2, codeOf_nil] at HZ
    rw [e2] at HN HM
    cases b
    all_goals
      go_enter Tryd.func5, Tryd.ntmps5
      go_wp2_with (first
        | (go_at_call 18; (with_reducible refine (HN.out _ (HE.out.below (by repeat (first | (with_reducible exact Below.refl _ _) | (with_reducible refine Below.allocS ?_ _) | (with_reducible refine Below.moreS ?_ _) | (with_reducible refine Below.drew ?_) | (with_reducible refine below_drewN ?_ _)))) (HF.out.below (by repeat (first | (with_reducible exact Below.refl _ _) | (with_reducible refine Below.allocS ?_ _) | (with_reducible refine Below.moreS ?_ _) | (with_reducible refine Below.drew ?_) | (with_reducible refine below_drewN ?_ _))))).mono ?_); rintro e w' ⟨rfl, j, rfl⟩)
        | (go_at_call 21; (with_reducible refine (HM.out _).mono ?_); rintro e w' ⟨rfl, j, rfl⟩)
        | (go_at_call 19; (with_reducible refine (HC.out _ (HE.out.below (by repeat (first | (with_reducible exact Below.refl _ _) | (with_reducible refine Below.allocS ?_ _) | (with_reducible refine Below.moreS ?_ _) | (with_reducible refine Below.drew ?_) | (with_reducible refine below_drewN ?_ _)))) (HF.out.below (by repeat (first | (with_reducible exact Below.refl _ _) | (with_reducible refine Below.allocS ?_ _) | (with_reducible refine Below.moreS ?_ _) | (with_reducible refine Below.drew ?_) | (with_reducible refine below_drewN ?_ _))))).mono ?_); rintro e w' ⟨rfl, j, rfl⟩)
        | (go_at_call 19; (with_reducible refine (HZ.out _ (HE.out.below (by repeat (first | (with_reducible exact Below.refl _ _) | (with_reducible refine Below.allocS ?_ _) | (with_reducible refine Below.moreS ?_ _) | (with_reducible refine Below.drew ?_) | (with_reducible refine below_drewN ?_ _)))) (HF.out.below (by repeat (first | (with_reducible exact Below.refl _ _) | (with_reducible refine Below.allocS ?_ _) | (with_reducible refine Below.moreS ?_ _) | (with_reducible refine Below.drew ?_) | (with_reducible refine below_drewN ?_ _))))).mono ?_); rintro e w' ⟨rfl, j, rfl⟩)
        | (go_at_call 20; (with_reducible refine (HD.out _).mono ?_); rintro e w' ⟨rfl, j, rfl⟩)
        | (go_at_call 6; (with_reducible refine (HAL.out _ (HF.out.below (by repeat (first | (with_reducible exact Below.refl _ _) | (with_reducible refine Below.allocS ?_ _) | (with_reducible refine Below.moreS ?_ _) | (with_reducible refine Below.drew ?_) | (with_reducible refine below_drewN ?_ _))))).mono ?_); rintro e w' ⟨rfl, j, rfl⟩))
      go_ret
      exact ⟨rfl, Below.junk (by repeat (first | (with_reducible exact Below.refl _ _) | (with_reducible refine Below.allocS ?_ _) | (with_reducible refine Below.moreS ?_ _) | (with_reducible refine Below.drew ?_) | (with_reducible refine below_drewN ?_ _)))⟩
end Go.Proofs.YtamklaehaadiaaaDoor
