/-
  Numbers as digits: the document's text of a number: it calls itself.
-/
import Derived.Test.YtjhhdgmhocpceaaGreatDoorMc
namespace Go.Proofs.YtjhhdgmhocpceaaGreatDoor
set_option linter.unusedSimpArgs false
set_option linter.unusedVariables false
set_option linter.unusedSectionVars false
open Go.ChangeShapes Go.WideShapes Go.ChangeAt Go.RowKit Go.Deep Go.Shelf

theorem dig_lo {n : Nat} (h : n < 10) : Lib.decDigits n = digB n := dec_lo h
theorem dig_hi {n : Nat} (h : ¬ n < 10) : Lib.decDigits n = Lib.decDigits (n / 10) ++ digB (n % 10) := dec_hi h
theorem dec_len20 {n : Nat} (h : n < 10000000000000000000) : (Lib.decDigits n).length ≤ 19 := dec_len 18 n (by omega)
def RefText (n : Int) (w : World) : Prop := Calls Tryz.prog 63 #[.int .i64 n] w fun e w' => e = .returned (bstr (Lib.itoa n)) ∧ w = w'
set_option maxHeartbeats 4000000 in
set_option maxRecDepth 100000 in
theorem text_pos : ∀ (k m : Nat), m ≤ k → m ≤ 9223372036854775807 → ∀ w, RefText (m : Int) w
  | k, m, hk, hm, w => by
    unfold RefText
    rw [itoa_pos m]
    by_cases h10 : m < 10
    · rw [dig_lo h10]
      have HD := Lib.hid (ref03_digit m h10)
      generalize digB m = P at HD ⊢
      have h1 : ¬ (m : Int) < 0 := by omega
      have h2 : (m : Int) < 10 := by omega
      go_enter Tryz.func63, Tryz.ntmps63
      go_wp2_with (go_at_call 94; (with_reducible refine (HD.out _).mono ?_); rintro e w' ⟨rfl, rfl⟩)
      go_ret
      exact ⟨rfl, rfl⟩
    · obtain ⟨k, rfl⟩ : ∃ k', k = k' + 1 := ⟨k - 1, by omega⟩
      have HT := Lib.hid (text_pos k (m / 10) (by omega) (by omega))
      unfold RefText at HT
      rw [dig_hi h10]
      rw [itoa_pos (m / 10)] at HT
      have hlen : (Lib.decDigits (m / 10)).length ≤ 19 := dec_len20 (by omega)
      have HD := Lib.hid (ref03_digit (m % 10) (by omega))
      have hP : (digB (m % 10)).length ≤ 1 := Nat.le_refl 1
      generalize digB (m % 10) = P at HD hP ⊢
      generalize Lib.decDigits (m / 10) = T at HT hlen ⊢
      have f1 : (m : Int) / 10 = ((m / 10 : Nat) : Int) := by omega
      have f2 : (m : Int) % 10 = ((m % 10 : Nat) : Int) := by omega
      generalize hq : m / 10 = q at *
      generalize hr : m % 10 = r at *
      have h1 : ¬ (m : Int) < 0 := by omega
      have h2 : ¬ (m : Int) < 10 := by omega
      clear hq hr
      go_enter Tryz.func63, Tryz.ntmps63
      go_wp2_with (first
        | (go_at_call 94; (with_reducible refine (HD.out _).mono ?_); rintro e w' ⟨rfl, rfl⟩)
        | (go_at_call 63; (with_reducible refine (HT.out _).mono ?_); rintro e w' ⟨rfl, rfl⟩))
      go_ret
      exact ⟨rfl, rfl⟩
set_option maxHeartbeats 4000000 in
set_option maxRecDepth 100000 in
theorem text_neg : ∀ (k m : Nat), m ≤ k → 1 ≤ m → m ≤ 9223372036854775808 → ∀ w, RefText (-(m : Int)) w
  | k, m, hk, h0, hm, w => by
    unfold RefText
    rw [itoa_minus m h0]
    have h1 : -(m : Int) < 0 := by omega
    by_cases h10 : m < 10
    · rw [dig_lo h10]
      have HD := Lib.hid (ref03_digit m h10)
      have hP : (digB m).length ≤ 1 := Nat.le_refl 1
      generalize digB m = P at HD hP ⊢
      have h2 : -10 < -(m : Int) := by omega
      have s1 : IntKind.i64.wrap (-(-(m : Int))) = (m : Int) := by rw [IntWalk.i64_in _ (by omega)]; omega
      have s2 : IntKind.i64.wrap ((m : Int)) = (m : Int) := by rw [IntWalk.i64_in _ (by omega)]
      go_enter Tryz.func63, Tryz.ntmps63
      go_wp2_with (go_at_call 94; (with_reducible refine (HD.out _).mono ?_); rintro e w' ⟨rfl, rfl⟩)
      go_ret
      exact ⟨rfl, rfl⟩
    · obtain ⟨k, rfl⟩ : ∃ k', k = k' + 1 := ⟨k - 1, by omega⟩
      have HT := Lib.hid (text_neg k (m / 10) (by omega) (by omega) (by omega))
      unfold RefText at HT
      rw [dig_hi h10]
      rw [itoa_minus (m / 10) (by omega)] at HT
      have hlen : (Lib.decDigits (m / 10)).length ≤ 19 := dec_len20 (by omega)
      have HD := Lib.hid (ref03_digit (m % 10) (by omega))
      have hP : (digB (m % 10)).length ≤ 1 := Nat.le_refl 1
      generalize digB (m % 10) = P at HD hP ⊢
      generalize Lib.decDigits (m / 10) = T at HT hlen ⊢
      have f1 : (-(m : Int)).tdiv 10 = -((m / 10 : Nat) : Int) := by rw [Int.neg_tdiv, Int.tdiv_eq_ediv_of_nonneg (by omega)]; omega
      have f2 : (-(m : Int)).tmod 10 = -((m % 10 : Nat) : Int) := by rw [Int.neg_tmod, Int.tmod_eq_emod_of_nonneg (by omega)]; omega
      generalize hq : m / 10 = q at *
      generalize hr : m % 10 = r at *
      have s1 : IntKind.i64.wrap (-(-(r : Int))) = (r : Int) := by rw [IntWalk.i64_in _ (by omega)]; omega
      have s2 : IntKind.i64.wrap (-(q : Int)) = -(q : Int) := by rw [IntWalk.i64_in _ (by omega)]
      have h2 : ¬ -10 < -(m : Int) := by omega
      have hr9 : r < 10 := by omega
      have s3 : wrap64 (r : Int) = (r : Int) := by unfold wrap64; omega
      clear hq hr
      go_enter Tryz.func63, Tryz.ntmps63
      go_wp2_with (first
        | (go_at_call 94; (with_reducible refine (HD.out _).mono ?_); rintro e w' ⟨rfl, rfl⟩)
        | (go_at_call 63; (with_reducible refine (HT.out _).mono ?_); rintro e w' ⟨rfl, rfl⟩))
      go_ret
      exact ⟨rfl, rfl⟩
