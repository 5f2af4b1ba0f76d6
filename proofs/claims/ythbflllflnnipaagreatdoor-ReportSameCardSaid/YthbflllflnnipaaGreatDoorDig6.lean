/-
  Numbers as digits: the program's text of a number, and a text read as a number.
-/
import Derived.Test.YthbflllflnnipaaGreatDoorEnv
import Derived.Test.YthbflllflnnipaaGreatDoorMa
namespace Go.Proofs.YthbflllflnnipaaGreatDoor
set_option linter.unusedSimpArgs false
set_option linter.unusedVariables false
set_option linter.unusedSectionVars false
open Go.ChangeShapes Go.WideShapes Go.ChangeAt Go.RowKit Go.Deep Go.Shelf

set_option maxHeartbeats 2000000 in
set_option maxRecDepth 100000 in
theorem digits_Text (n : Int) (h0 : -9223372036854775808 ≤ n) (h1 : n ≤ 9223372036854775807) (w : World) (hE : Env w) :
    Calls Tryz.prog 61 #[.int .i64 n] w fun e w' => e = .returned (bstr (Lib.itoa n)) ∧ ∃ j, w' = w.more j := by
  have H := Lib.hid (itoa_call n h0 h1 w hE)
  clear hE
  generalize Lib.itoa n = T at H ⊢
  go_enter Tryz.func61, Tryz.ntmps61
  go_wp2_with (go_at_call 99; (with_reducible refine (H.out).mono ?_); rintro e w' ⟨rfl, j, rfl⟩)
  go_ret
  exact ⟨rfl, Below.junk (by repeat (first | (with_reducible exact Below.refl _ _) | (with_reducible refine Below.allocS ?_ _) | (with_reducible refine Below.moreS ?_ _) | (with_reducible refine Below.drew ?_) | (with_reducible refine below_drewN ?_ _)))⟩

set_option maxHeartbeats 4000000 in
set_option maxRecDepth 100000 in
theorem digits_Read (s : List UInt8) (hm : s.length ≤ 1048576) (w : World) (hE : Env w) :
    Calls Tryz.prog 85 #[bstr s] w fun e w' => e = .returned (.tuple #[.int .i64 (readF s).1, .bool (readF s).2]) ∧ ∃ j, w' = w.more j := by
  by_cases hok : ∃ v, Lib.atoiAll s = .ok v
  · obtain ⟨v, hv⟩ := hok
    have hbd := Lib.atoiAll_bounds hv
    have HA := Lib.hid (atoi_good hm hv w)
    have HI : Hid (∀ j, Calls Tryz.prog 99 #[.int .i64 v] (w.more j) fun e w' => e = .returned (bstr (Lib.itoa v)) ∧ ∃ k, w' = (w.more j).more k) := fun j => itoa_call v hbd.1 hbd.2 _ (hE.more j)
    have HR := Lib.hid (readF_ok hv)
    clear hE hv hbd
    generalize readF s = R at HR ⊢
    generalize Lib.itoa v = T at HI HR
    cases e1 : (T == s)
    · have hR : R = (0, false) := by rw [HR.out, if_neg]; intro h; rw [h] at e1; simp at e1
      have e2 : (T != s) = true := by unfold bne; rw [e1]; rfl
      subst hR
      clear HR
      go_enter Tryz.func85, Tryz.ntmps85
      go_wp2_with (first
        | (go_at_call 119; (with_reducible refine (HA.out).mono ?_); rintro e w' ⟨rfl, j, rfl⟩)
        | (go_at_call 99; (with_reducible refine (HI.out _).mono ?_); rintro e w' ⟨rfl, j, rfl⟩))
      go_ret2
      exact ⟨rfl, Below.junk (by repeat (first | (with_reducible exact Below.refl _ _) | (with_reducible refine Below.allocS ?_ _) | (with_reducible refine Below.moreS ?_ _) | (with_reducible refine Below.drew ?_) | (with_reducible refine below_drewN ?_ _)))⟩
    · have hR : R = (v, true) := by rw [HR.out, if_pos (by simpa using e1)]
      have e2 : (T != s) = false := by unfold bne; rw [e1]; rfl
      subst hR
      clear HR
      go_enter Tryz.func85, Tryz.ntmps85
      go_wp2_with (first
        | (go_at_call 119; (with_reducible refine (HA.out).mono ?_); rintro e w' ⟨rfl, j, rfl⟩)
        | (go_at_call 99; (with_reducible refine (HI.out _).mono ?_); rintro e w' ⟨rfl, j, rfl⟩))
      go_ret2
      exact ⟨rfl, Below.junk (by repeat (first | (with_reducible exact Below.refl _ _) | (with_reducible refine Below.allocS ?_ _) | (with_reducible refine Below.moreS ?_ _) | (with_reducible refine Below.drew ?_) | (with_reducible refine below_drewN ?_ _)))⟩
  · have hno : ∀ v, Lib.atoiAll s ≠ .ok v := fun v hv => hok ⟨v, hv⟩
    rw [readF_bad hno]
    have HA := Lib.hid (atoi_bad hm hno w hE)
    clear hE hno hok
    go_enter Tryz.func85, Tryz.ntmps85
    go_wp2_with fail
    refine HA.out.mono ?_
    rintro e w' ⟨n, t, p, rfl, j, rfl⟩
    go_wp2_with fail
    go_ret2
    exact ⟨rfl, Below.junk (by repeat (first | (with_reducible exact Below.refl _ _) | (with_reducible refine Below.allocS ?_ _) | (with_reducible refine Below.moreS ?_ _) | (with_reducible refine Below.drew ?_) | (with_reducible refine below_drewN ?_ _)))⟩
end Go.Proofs.YthbflllflnnipaaGreatDoor
