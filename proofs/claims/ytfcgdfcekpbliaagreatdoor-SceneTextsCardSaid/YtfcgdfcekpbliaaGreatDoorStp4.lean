/-
  Scenarios: which steps may be: the document's.
-/
import Derived.Test.YtfcgdfcekpbliaaGreatDoorStp3
import Derived.Test.YtfcgdfcekpbliaaGreatDoorMi
namespace Go.Proofs.YtfcgdfcekpbliaaGreatDoor
set_option linter.unusedSimpArgs false
set_option linter.unusedVariables false
set_option linter.unusedSectionVars false
open Go.ChangeShapes Go.WideShapes Go.ChangeAt Go.RowKit Go.Deep Go.Shelf

set_option maxHeartbeats 16000000 in
set_option maxRecDepth 100000 in
theorem ref45_RightStep (kd sm nn : Int) (e : Bool) (fs : List Fd) (ss : List (Int × Int)) (hl : fs.length ≤ 1000000) (hs : ss.length ≤ 100000) (fa sa : Option Addr) (fc sc : Nat) (w : World) (hF : SlF w w.heap.size fa fs) (hS : SlSe w w.heap.size sa ss) :
    Calls Tryz.prog 26 #[.agg #[.int .i64 kd, .int .i64 sm, .int .i64 nn, .bool e, .slice fa fs.length fc, .slice sa ss.length sc]] w fun x w' => x = .returned (.bool (stR ⟨kd, sm, nn, e, fs, ss⟩)) ∧ ∃ j, w' = w.more j := by
  have HR0 := stR_sp kd sm nn e fs ss
  generalize stR ⟨kd, sm, nn, e, fs, ss⟩ = R at HR0 ⊢
  have HF : Hid (∀ a b n W, Calls Tryz.prog 27 #[.int .i64 n, .int .i64 a, .int .i64 b] W fun x w' => x = .returned (.bool (inR n a b)) ∧ W = w') := fun a b n W => ref45_from n a b W
  have HA : Hid (∀ W, Calls Tryz.prog 27 #[.int .i64 sm, .int .i64 1, .int .i64 2147483647] W fun x w' => x = .returned (.bool (inR sm 1 topS)) ∧ W = w') := fun W => ref45_from sm 1 2147483647 W
  have HZ4 : Hid (∀ W, Calls Tryz.prog 27 #[.int .i64 sm, .int .i64 0, .int .i64 2147483647] W fun x w' => x = .returned (.bool (decide (sm = 0) || inR sm 1 topS)) ∧ W = w') := fun W => by rw [← inR0]; exact ref45_from sm 0 2147483647 W
  have HL : Hid (∀ W, Below w.heap.size w W → Calls Tryz.prog 15 #[.slice fa fs.length fc, .int .i64 20, .int .i64 200] W fun x w' => x = .returned (.bool (largeF fs 20 200)) ∧ ∃ j, w' = W.more j) := fun W hW => ref21_Large fa fs fc 20 200 (by omega) (by omega) W ((hF.below hW (Nat.le_refl _)).mono hW.size (fun _ _ _ h => h))
  have HW : Hid (∀ W, Below w.heap.size w W → Calls Tryz.prog 51 #[.slice sa ss.length sc] W fun x w' => (∃ v, x = .returned (.tuple #[v, .bool (ss.all seR)])) ∧ ∃ j, w' = W.more j) := fun W hW => ref13_Put sa ss sc hs W ((hS.below hW (Nat.le_refl _)).mono hW.size (fun _ _ _ h => h))
  generalize largeF fs 20 200 = L at HR0 HL
  generalize ss.all seR = X at HR0 HW
  generalize inR sm 1 topS = A at HR0 HA HZ4
  generalize fs.length = nf at HR0 HL hl
  generalize ss.length = ns at HR0 HW hs
  clear hF hS
  by_cases hk1 : kd = 1
  case pos =>
    subst hk1
    have hr : R = (A && (decide (nn = 0) && (!L && decide (ns = 0)))) := HR0
    clear HR0
    by_cases hS0 : ns = 0
    case neg =>
      have hS0b : ((ns : Int) == 0) = false := by rw [beq_eq_false_iff_ne]; omega
      have hS0p : (0 : Int) < (ns : Int) := by omega
      have hS0n : 0 < ns := by omega
      obtain rfl : R = false := by rw [hr]; simp [*]
      clear hr
      go_enter Tryz.func26, Tryz.ntmps26
      go_wp2_with (first | (go_at_call 27; (with_reducible refine (HA.out _).mono ?_); rintro e w' ⟨rfl, rfl⟩) | (go_at_call 27; (with_reducible refine (HZ4.out _).mono ?_); rintro e w' ⟨rfl, rfl⟩) | (go_at_call 27; (with_reducible refine (HI.out _).mono ?_); rintro e w' ⟨rfl, rfl⟩) | (go_at_call 15; (with_reducible refine (HL.out _ bel).mono ?_); rintro e w' ⟨rfl, j, rfl⟩) | (go_at_call 51; (with_reducible refine (HW.out _ bel).mono ?_); rintro x w' ⟨⟨v, rfl⟩, j, rfl⟩))
      all_goals go_ret
      all_goals exact ⟨rfl, Below.junk bel⟩
    subst hS0
    cases A
    case false =>
      obtain rfl : R = false := by rw [hr]; simp [*]
      clear hr
      go_enter Tryz.func26, Tryz.ntmps26
      go_wp2_with (first | (go_at_call 27; (with_reducible refine (HA.out _).mono ?_); rintro e w' ⟨rfl, rfl⟩) | (go_at_call 27; (with_reducible refine (HZ4.out _).mono ?_); rintro e w' ⟨rfl, rfl⟩) | (go_at_call 27; (with_reducible refine (HI.out _).mono ?_); rintro e w' ⟨rfl, rfl⟩) | (go_at_call 15; (with_reducible refine (HL.out _ bel).mono ?_); rintro e w' ⟨rfl, j, rfl⟩) | (go_at_call 51; (with_reducible refine (HW.out _ bel).mono ?_); rintro x w' ⟨⟨v, rfl⟩, j, rfl⟩))
      all_goals go_ret
      all_goals exact ⟨rfl, Below.junk bel⟩
    by_cases hN : nn = 0
    case neg =>
      have hNb : (nn == 0) = false := by simp [hN]
      obtain rfl : R = false := by rw [hr]; simp [*]
      clear hr
      go_enter Tryz.func26, Tryz.ntmps26
      go_wp2_with (first | (go_at_call 27; (with_reducible refine (HA.out _).mono ?_); rintro e w' ⟨rfl, rfl⟩) | (go_at_call 27; (with_reducible refine (HZ4.out _).mono ?_); rintro e w' ⟨rfl, rfl⟩) | (go_at_call 27; (with_reducible refine (HI.out _).mono ?_); rintro e w' ⟨rfl, rfl⟩) | (go_at_call 15; (with_reducible refine (HL.out _ bel).mono ?_); rintro e w' ⟨rfl, j, rfl⟩) | (go_at_call 51; (with_reducible refine (HW.out _ bel).mono ?_); rintro x w' ⟨⟨v, rfl⟩, j, rfl⟩))
      all_goals go_ret
      all_goals exact ⟨rfl, Below.junk bel⟩
    subst hN
    cases L
    case true =>
      obtain rfl : R = false := by rw [hr]; simp [*]
      clear hr
      go_enter Tryz.func26, Tryz.ntmps26
      go_wp2_with (first | (go_at_call 27; (with_reducible refine (HA.out _).mono ?_); rintro e w' ⟨rfl, rfl⟩) | (go_at_call 27; (with_reducible refine (HZ4.out _).mono ?_); rintro e w' ⟨rfl, rfl⟩) | (go_at_call 27; (with_reducible refine (HI.out _).mono ?_); rintro e w' ⟨rfl, rfl⟩) | (go_at_call 15; (with_reducible refine (HL.out _ bel).mono ?_); rintro e w' ⟨rfl, j, rfl⟩) | (go_at_call 51; (with_reducible refine (HW.out _ bel).mono ?_); rintro x w' ⟨⟨v, rfl⟩, j, rfl⟩))
      all_goals go_ret
      all_goals exact ⟨rfl, Below.junk bel⟩
    obtain rfl : R = true := by rw [hr]; simp [*]
    clear hr
    go_enter Tryz.func26, Tryz.ntmps26
    go_wp2_with (first | (go_at_call 27; (with_reducible refine (HA.out _).mono ?_); rintro e w' ⟨rfl, rfl⟩) | (go_at_call 27; (with_reducible refine (HZ4.out _).mono ?_); rintro e w' ⟨rfl, rfl⟩) | (go_at_call 27; (with_reducible refine (HI.out _).mono ?_); rintro e w' ⟨rfl, rfl⟩) | (go_at_call 15; (with_reducible refine (HL.out _ bel).mono ?_); rintro e w' ⟨rfl, j, rfl⟩) | (go_at_call 51; (with_reducible refine (HW.out _ bel).mono ?_); rintro x w' ⟨⟨v, rfl⟩, j, rfl⟩))
    all_goals go_ret
    all_goals exact ⟨rfl, Below.junk bel⟩
  by_cases hk2 : kd = 2
  case pos =>
    subst hk2
    have hr : R = ((decide (nf = 0) && decide (ns = 0)) && (A && inR nn 0 16384)) := HR0
    clear HR0
    have HI : Hid (∀ W, Calls Tryz.prog 27 #[.int .i64 nn, .int .i64 0, .int .i64 16384] W fun x w' => x = .returned (.bool (inR nn 0 16384)) ∧ W = w') := fun W => HF.out 0 16384 nn W
    generalize inR nn 0 16384 = I at HI hr
    by_cases hF0 : nf = 0
    case neg =>
      have hF0b : ((nf : Int) == 0) = false := by rw [beq_eq_false_iff_ne]; omega
      have hF0p : (0 : Int) < (nf : Int) := by omega
      have hF0n : 0 < nf := by omega
      obtain rfl : R = false := by rw [hr]; simp [*]
      clear hr
      go_enter Tryz.func26, Tryz.ntmps26
      go_wp2_with (first | (go_at_call 27; (with_reducible refine (HA.out _).mono ?_); rintro e w' ⟨rfl, rfl⟩) | (go_at_call 27; (with_reducible refine (HZ4.out _).mono ?_); rintro e w' ⟨rfl, rfl⟩) | (go_at_call 27; (with_reducible refine (HI.out _).mono ?_); rintro e w' ⟨rfl, rfl⟩) | (go_at_call 15; (with_reducible refine (HL.out _ bel).mono ?_); rintro e w' ⟨rfl, j, rfl⟩) | (go_at_call 51; (with_reducible refine (HW.out _ bel).mono ?_); rintro x w' ⟨⟨v, rfl⟩, j, rfl⟩))
      all_goals go_ret
      all_goals exact ⟨rfl, Below.junk bel⟩
    subst hF0
    by_cases hS0 : ns = 0
    case neg =>
      have hS0b : ((ns : Int) == 0) = false := by rw [beq_eq_false_iff_ne]; omega
      have hS0p : (0 : Int) < (ns : Int) := by omega
      have hS0n : 0 < ns := by omega
      obtain rfl : R = false := by rw [hr]; simp [*]
      clear hr
      go_enter Tryz.func26, Tryz.ntmps26
      go_wp2_with (first | (go_at_call 27; (with_reducible refine (HA.out _).mono ?_); rintro e w' ⟨rfl, rfl⟩) | (go_at_call 27; (with_reducible refine (HZ4.out _).mono ?_); rintro e w' ⟨rfl, rfl⟩) | (go_at_call 27; (with_reducible refine (HI.out _).mono ?_); rintro e w' ⟨rfl, rfl⟩) | (go_at_call 15; (with_reducible refine (HL.out _ bel).mono ?_); rintro e w' ⟨rfl, j, rfl⟩) | (go_at_call 51; (with_reducible refine (HW.out _ bel).mono ?_); rintro x w' ⟨⟨v, rfl⟩, j, rfl⟩))
      all_goals go_ret
      all_goals exact ⟨rfl, Below.junk bel⟩
    subst hS0
    cases A
    case false =>
      obtain rfl : R = false := by rw [hr]; simp [*]
      clear hr
      go_enter Tryz.func26, Tryz.ntmps26
      go_wp2_with (first | (go_at_call 27; (with_reducible refine (HA.out _).mono ?_); rintro e w' ⟨rfl, rfl⟩) | (go_at_call 27; (with_reducible refine (HZ4.out _).mono ?_); rintro e w' ⟨rfl, rfl⟩) | (go_at_call 27; (with_reducible refine (HI.out _).mono ?_); rintro e w' ⟨rfl, rfl⟩) | (go_at_call 15; (with_reducible refine (HL.out _ bel).mono ?_); rintro e w' ⟨rfl, j, rfl⟩) | (go_at_call 51; (with_reducible refine (HW.out _ bel).mono ?_); rintro x w' ⟨⟨v, rfl⟩, j, rfl⟩))
      all_goals go_ret
      all_goals exact ⟨rfl, Below.junk bel⟩
    cases I
    case false =>
      obtain rfl : R = false := by rw [hr]; simp [*]
      clear hr
      go_enter Tryz.func26, Tryz.ntmps26
      go_wp2_with (first | (go_at_call 27; (with_reducible refine (HA.out _).mono ?_); rintro e w' ⟨rfl, rfl⟩) | (go_at_call 27; (with_reducible refine (HZ4.out _).mono ?_); rintro e w' ⟨rfl, rfl⟩) | (go_at_call 27; (with_reducible refine (HI.out _).mono ?_); rintro e w' ⟨rfl, rfl⟩) | (go_at_call 15; (with_reducible refine (HL.out _ bel).mono ?_); rintro e w' ⟨rfl, j, rfl⟩) | (go_at_call 51; (with_reducible refine (HW.out _ bel).mono ?_); rintro x w' ⟨⟨v, rfl⟩, j, rfl⟩))
      all_goals go_ret
      all_goals exact ⟨rfl, Below.junk bel⟩
    obtain rfl : R = true := by rw [hr]; simp [*]
    clear hr
    go_enter Tryz.func26, Tryz.ntmps26
    go_wp2_with (first | (go_at_call 27; (with_reducible refine (HA.out _).mono ?_); rintro e w' ⟨rfl, rfl⟩) | (go_at_call 27; (with_reducible refine (HZ4.out _).mono ?_); rintro e w' ⟨rfl, rfl⟩) | (go_at_call 27; (with_reducible refine (HI.out _).mono ?_); rintro e w' ⟨rfl, rfl⟩) | (go_at_call 15; (with_reducible refine (HL.out _ bel).mono ?_); rintro e w' ⟨rfl, j, rfl⟩) | (go_at_call 51; (with_reducible refine (HW.out _ bel).mono ?_); rintro x w' ⟨⟨v, rfl⟩, j, rfl⟩))
    all_goals go_ret
    all_goals exact ⟨rfl, Below.junk bel⟩
  by_cases hk3 : kd = 3
  case pos =>
    subst hk3
    have hr : R = (decide (sm = 0) && (decide (nn = 0) && (!e && (decide (nf = 0) && (decide (ns ≤ 10) && X))))) := HR0
    clear HR0
    by_cases hF0 : nf = 0
    case neg =>
      have hF0b : ((nf : Int) == 0) = false := by rw [beq_eq_false_iff_ne]; omega
      have hF0p : (0 : Int) < (nf : Int) := by omega
      have hF0n : 0 < nf := by omega
      obtain rfl : R = false := by rw [hr]; simp [*]
      clear hr
      go_enter Tryz.func26, Tryz.ntmps26
      go_wp2_with (first | (go_at_call 27; (with_reducible refine (HA.out _).mono ?_); rintro e w' ⟨rfl, rfl⟩) | (go_at_call 27; (with_reducible refine (HZ4.out _).mono ?_); rintro e w' ⟨rfl, rfl⟩) | (go_at_call 27; (with_reducible refine (HI.out _).mono ?_); rintro e w' ⟨rfl, rfl⟩) | (go_at_call 15; (with_reducible refine (HL.out _ bel).mono ?_); rintro e w' ⟨rfl, j, rfl⟩) | (go_at_call 51; (with_reducible refine (HW.out _ bel).mono ?_); rintro x w' ⟨⟨v, rfl⟩, j, rfl⟩))
      all_goals go_ret
      all_goals exact ⟨rfl, Below.junk bel⟩
    subst hF0
    cases e
    case true =>
      obtain rfl : R = false := by rw [hr]; simp [*]
      clear hr
      go_enter Tryz.func26, Tryz.ntmps26
      go_wp2_with (first | (go_at_call 27; (with_reducible refine (HA.out _).mono ?_); rintro e w' ⟨rfl, rfl⟩) | (go_at_call 27; (with_reducible refine (HZ4.out _).mono ?_); rintro e w' ⟨rfl, rfl⟩) | (go_at_call 27; (with_reducible refine (HI.out _).mono ?_); rintro e w' ⟨rfl, rfl⟩) | (go_at_call 15; (with_reducible refine (HL.out _ bel).mono ?_); rintro e w' ⟨rfl, j, rfl⟩) | (go_at_call 51; (with_reducible refine (HW.out _ bel).mono ?_); rintro x w' ⟨⟨v, rfl⟩, j, rfl⟩))
      all_goals go_ret
      all_goals exact ⟨rfl, Below.junk bel⟩
    by_cases hZ : sm = 0
    case neg =>
      have hZb : (sm == 0) = false := by simp [hZ]
      obtain rfl : R = false := by rw [hr]; simp [*]
      clear hr
      go_enter Tryz.func26, Tryz.ntmps26
      go_wp2_with (first | (go_at_call 27; (with_reducible refine (HA.out _).mono ?_); rintro e w' ⟨rfl, rfl⟩) | (go_at_call 27; (with_reducible refine (HZ4.out _).mono ?_); rintro e w' ⟨rfl, rfl⟩) | (go_at_call 27; (with_reducible refine (HI.out _).mono ?_); rintro e w' ⟨rfl, rfl⟩) | (go_at_call 15; (with_reducible refine (HL.out _ bel).mono ?_); rintro e w' ⟨rfl, j, rfl⟩) | (go_at_call 51; (with_reducible refine (HW.out _ bel).mono ?_); rintro x w' ⟨⟨v, rfl⟩, j, rfl⟩))
      all_goals go_ret
      all_goals exact ⟨rfl, Below.junk bel⟩
    subst hZ
    by_cases hN : nn = 0
    case neg =>
      have hNb : (nn == 0) = false := by simp [hN]
      obtain rfl : R = false := by rw [hr]; simp [*]
      clear hr
      go_enter Tryz.func26, Tryz.ntmps26
      go_wp2_with (first | (go_at_call 27; (with_reducible refine (HA.out _).mono ?_); rintro e w' ⟨rfl, rfl⟩) | (go_at_call 27; (with_reducible refine (HZ4.out _).mono ?_); rintro e w' ⟨rfl, rfl⟩) | (go_at_call 27; (with_reducible refine (HI.out _).mono ?_); rintro e w' ⟨rfl, rfl⟩) | (go_at_call 15; (with_reducible refine (HL.out _ bel).mono ?_); rintro e w' ⟨rfl, j, rfl⟩) | (go_at_call 51; (with_reducible refine (HW.out _ bel).mono ?_); rintro x w' ⟨⟨v, rfl⟩, j, rfl⟩))
      all_goals go_ret
      all_goals exact ⟨rfl, Below.junk bel⟩
    subst hN
    by_cases hT : ns ≤ 10
    case neg =>
      have hTb : ¬ (ns : Int) ≤ 10 := by omega
      have hTc : (10 : Int) < (ns : Int) := by omega
      have hTd : decide ((ns : Int) ≤ 10) = false := by simp; omega
      have hTe : 10 < ns := by omega
      obtain rfl : R = false := by rw [hr]; simp [*]
      clear hr
      go_enter Tryz.func26, Tryz.ntmps26
      go_wp2_with (first | (go_at_call 27; (with_reducible refine (HA.out _).mono ?_); rintro e w' ⟨rfl, rfl⟩) | (go_at_call 27; (with_reducible refine (HZ4.out _).mono ?_); rintro e w' ⟨rfl, rfl⟩) | (go_at_call 27; (with_reducible refine (HI.out _).mono ?_); rintro e w' ⟨rfl, rfl⟩) | (go_at_call 15; (with_reducible refine (HL.out _ bel).mono ?_); rintro e w' ⟨rfl, j, rfl⟩) | (go_at_call 51; (with_reducible refine (HW.out _ bel).mono ?_); rintro x w' ⟨⟨v, rfl⟩, j, rfl⟩))
      all_goals go_ret
      all_goals exact ⟨rfl, Below.junk bel⟩
    have hTb : (ns : Int) ≤ 10 := by omega
    cases X
    case false =>
      obtain rfl : R = false := by rw [hr]; simp [*]
      clear hr
      go_enter Tryz.func26, Tryz.ntmps26
      go_wp2_with (first | (go_at_call 27; (with_reducible refine (HA.out _).mono ?_); rintro e w' ⟨rfl, rfl⟩) | (go_at_call 27; (with_reducible refine (HZ4.out _).mono ?_); rintro e w' ⟨rfl, rfl⟩) | (go_at_call 27; (with_reducible refine (HI.out _).mono ?_); rintro e w' ⟨rfl, rfl⟩) | (go_at_call 15; (with_reducible refine (HL.out _ bel).mono ?_); rintro e w' ⟨rfl, j, rfl⟩) | (go_at_call 51; (with_reducible refine (HW.out _ bel).mono ?_); rintro x w' ⟨⟨v, rfl⟩, j, rfl⟩))
      all_goals go_ret
      all_goals exact ⟨rfl, Below.junk bel⟩
    obtain rfl : R = true := by rw [hr]; simp [*]
    clear hr
    go_enter Tryz.func26, Tryz.ntmps26
    go_wp2_with (first | (go_at_call 27; (with_reducible refine (HA.out _).mono ?_); rintro e w' ⟨rfl, rfl⟩) | (go_at_call 27; (with_reducible refine (HZ4.out _).mono ?_); rintro e w' ⟨rfl, rfl⟩) | (go_at_call 27; (with_reducible refine (HI.out _).mono ?_); rintro e w' ⟨rfl, rfl⟩) | (go_at_call 15; (with_reducible refine (HL.out _ bel).mono ?_); rintro e w' ⟨rfl, j, rfl⟩) | (go_at_call 51; (with_reducible refine (HW.out _ bel).mono ?_); rintro x w' ⟨⟨v, rfl⟩, j, rfl⟩))
    all_goals go_ret
    all_goals exact ⟨rfl, Below.junk bel⟩
  by_cases hk4 : kd = 4
  case pos =>
    subst hk4
    have hr : R = ((!e && (decide (nf = 0) && decide (ns = 0))) && ((decide (sm = 0) || A) && inR nn 1 2147483647)) := HR0
    clear HR0
    have HI : Hid (∀ W, Calls Tryz.prog 27 #[.int .i64 nn, .int .i64 1, .int .i64 2147483647] W fun x w' => x = .returned (.bool (inR nn 1 2147483647)) ∧ W = w') := fun W => HF.out 1 2147483647 nn W
    generalize inR nn 1 2147483647 = I at HI hr
    by_cases hF0 : nf = 0
    case neg =>
      have hF0b : ((nf : Int) == 0) = false := by rw [beq_eq_false_iff_ne]; omega
      have hF0p : (0 : Int) < (nf : Int) := by omega
      have hF0n : 0 < nf := by omega
      obtain rfl : R = false := by rw [hr]; simp [*]
      clear hr
      go_enter Tryz.func26, Tryz.ntmps26
      go_wp2_with (first | (go_at_call 27; (with_reducible refine (HA.out _).mono ?_); rintro e w' ⟨rfl, rfl⟩) | (go_at_call 27; (with_reducible refine (HZ4.out _).mono ?_); rintro e w' ⟨rfl, rfl⟩) | (go_at_call 27; (with_reducible refine (HI.out _).mono ?_); rintro e w' ⟨rfl, rfl⟩) | (go_at_call 15; (with_reducible refine (HL.out _ bel).mono ?_); rintro e w' ⟨rfl, j, rfl⟩) | (go_at_call 51; (with_reducible refine (HW.out _ bel).mono ?_); rintro x w' ⟨⟨v, rfl⟩, j, rfl⟩))
      all_goals go_ret
      all_goals exact ⟨rfl, Below.junk bel⟩
    subst hF0
    by_cases hS0 : ns = 0
    case neg =>
      have hS0b : ((ns : Int) == 0) = false := by rw [beq_eq_false_iff_ne]; omega
      have hS0p : (0 : Int) < (ns : Int) := by omega
      have hS0n : 0 < ns := by omega
      obtain rfl : R = false := by rw [hr]; simp [*]
      clear hr
      go_enter Tryz.func26, Tryz.ntmps26
      go_wp2_with (first | (go_at_call 27; (with_reducible refine (HA.out _).mono ?_); rintro e w' ⟨rfl, rfl⟩) | (go_at_call 27; (with_reducible refine (HZ4.out _).mono ?_); rintro e w' ⟨rfl, rfl⟩) | (go_at_call 27; (with_reducible refine (HI.out _).mono ?_); rintro e w' ⟨rfl, rfl⟩) | (go_at_call 15; (with_reducible refine (HL.out _ bel).mono ?_); rintro e w' ⟨rfl, j, rfl⟩) | (go_at_call 51; (with_reducible refine (HW.out _ bel).mono ?_); rintro x w' ⟨⟨v, rfl⟩, j, rfl⟩))
      all_goals go_ret
      all_goals exact ⟨rfl, Below.junk bel⟩
    subst hS0
    cases e
    case true =>
      obtain rfl : R = false := by rw [hr]; simp [*]
      clear hr
      go_enter Tryz.func26, Tryz.ntmps26
      go_wp2_with (first | (go_at_call 27; (with_reducible refine (HA.out _).mono ?_); rintro e w' ⟨rfl, rfl⟩) | (go_at_call 27; (with_reducible refine (HZ4.out _).mono ?_); rintro e w' ⟨rfl, rfl⟩) | (go_at_call 27; (with_reducible refine (HI.out _).mono ?_); rintro e w' ⟨rfl, rfl⟩) | (go_at_call 15; (with_reducible refine (HL.out _ bel).mono ?_); rintro e w' ⟨rfl, j, rfl⟩) | (go_at_call 51; (with_reducible refine (HW.out _ bel).mono ?_); rintro x w' ⟨⟨v, rfl⟩, j, rfl⟩))
      all_goals go_ret
      all_goals exact ⟨rfl, Below.junk bel⟩
    by_cases hZ : sm = 0
    case pos =>
      subst hZ
      cases I
      case false =>
        obtain rfl : R = false := by rw [hr]; simp [*]
        clear hr
        go_enter Tryz.func26, Tryz.ntmps26
        go_wp2_with (first | (go_at_call 27; (with_reducible refine (HA.out _).mono ?_); rintro e w' ⟨rfl, rfl⟩) | (go_at_call 27; (with_reducible refine (HZ4.out _).mono ?_); rintro e w' ⟨rfl, rfl⟩) | (go_at_call 27; (with_reducible refine (HI.out _).mono ?_); rintro e w' ⟨rfl, rfl⟩) | (go_at_call 15; (with_reducible refine (HL.out _ bel).mono ?_); rintro e w' ⟨rfl, j, rfl⟩) | (go_at_call 51; (with_reducible refine (HW.out _ bel).mono ?_); rintro x w' ⟨⟨v, rfl⟩, j, rfl⟩))
        all_goals go_ret
        all_goals exact ⟨rfl, Below.junk bel⟩
      obtain rfl : R = true := by rw [hr]; simp [*]
      clear hr
      go_enter Tryz.func26, Tryz.ntmps26
      go_wp2_with (first | (go_at_call 27; (with_reducible refine (HA.out _).mono ?_); rintro e w' ⟨rfl, rfl⟩) | (go_at_call 27; (with_reducible refine (HZ4.out _).mono ?_); rintro e w' ⟨rfl, rfl⟩) | (go_at_call 27; (with_reducible refine (HI.out _).mono ?_); rintro e w' ⟨rfl, rfl⟩) | (go_at_call 15; (with_reducible refine (HL.out _ bel).mono ?_); rintro e w' ⟨rfl, j, rfl⟩) | (go_at_call 51; (with_reducible refine (HW.out _ bel).mono ?_); rintro x w' ⟨⟨v, rfl⟩, j, rfl⟩))
      all_goals go_ret
      all_goals exact ⟨rfl, Below.junk bel⟩
    have hZb : (sm == 0) = false := by simp [hZ]
    cases A
    case false =>
      obtain rfl : R = false := by rw [hr]; simp [*]
      clear hr
      go_enter Tryz.func26, Tryz.ntmps26
      go_wp2_with (first | (go_at_call 27; (with_reducible refine (HA.out _).mono ?_); rintro e w' ⟨rfl, rfl⟩) | (go_at_call 27; (with_reducible refine (HZ4.out _).mono ?_); rintro e w' ⟨rfl, rfl⟩) | (go_at_call 27; (with_reducible refine (HI.out _).mono ?_); rintro e w' ⟨rfl, rfl⟩) | (go_at_call 15; (with_reducible refine (HL.out _ bel).mono ?_); rintro e w' ⟨rfl, j, rfl⟩) | (go_at_call 51; (with_reducible refine (HW.out _ bel).mono ?_); rintro x w' ⟨⟨v, rfl⟩, j, rfl⟩))
      all_goals go_ret
      all_goals exact ⟨rfl, Below.junk bel⟩
    cases I
    case false =>
      obtain rfl : R = false := by rw [hr]; simp [*]
      clear hr
      go_enter Tryz.func26, Tryz.ntmps26
      go_wp2_with (first | (go_at_call 27; (with_reducible refine (HA.out _).mono ?_); rintro e w' ⟨rfl, rfl⟩) | (go_at_call 27; (with_reducible refine (HZ4.out _).mono ?_); rintro e w' ⟨rfl, rfl⟩) | (go_at_call 27; (with_reducible refine (HI.out _).mono ?_); rintro e w' ⟨rfl, rfl⟩) | (go_at_call 15; (with_reducible refine (HL.out _ bel).mono ?_); rintro e w' ⟨rfl, j, rfl⟩) | (go_at_call 51; (with_reducible refine (HW.out _ bel).mono ?_); rintro x w' ⟨⟨v, rfl⟩, j, rfl⟩))
      all_goals go_ret
      all_goals exact ⟨rfl, Below.junk bel⟩
    obtain rfl : R = true := by rw [hr]; simp [*]
    clear hr
    go_enter Tryz.func26, Tryz.ntmps26
    go_wp2_with (first | (go_at_call 27; (with_reducible refine (HA.out _).mono ?_); rintro e w' ⟨rfl, rfl⟩) | (go_at_call 27; (with_reducible refine (HZ4.out _).mono ?_); rintro e w' ⟨rfl, rfl⟩) | (go_at_call 27; (with_reducible refine (HI.out _).mono ?_); rintro e w' ⟨rfl, rfl⟩) | (go_at_call 15; (with_reducible refine (HL.out _ bel).mono ?_); rintro e w' ⟨rfl, j, rfl⟩) | (go_at_call 51; (with_reducible refine (HW.out _ bel).mono ?_); rintro x w' ⟨⟨v, rfl⟩, j, rfl⟩))
    all_goals go_ret
    all_goals exact ⟨rfl, Below.junk bel⟩
  by_cases hk5 : kd = 5
  case pos =>
    subst hk5
    have hr : R = ((!e && (decide (nf = 0) && decide (ns = 0))) && (A && inR nn 0 4294967295)) := HR0
    clear HR0
    have HI : Hid (∀ W, Calls Tryz.prog 27 #[.int .i64 nn, .int .i64 0, .int .i64 4294967295] W fun x w' => x = .returned (.bool (inR nn 0 4294967295)) ∧ W = w') := fun W => HF.out 0 4294967295 nn W
    generalize inR nn 0 4294967295 = I at HI hr
    by_cases hF0 : nf = 0
    case neg =>
      have hF0b : ((nf : Int) == 0) = false := by rw [beq_eq_false_iff_ne]; omega
      have hF0p : (0 : Int) < (nf : Int) := by omega
      have hF0n : 0 < nf := by omega
      obtain rfl : R = false := by rw [hr]; simp [*]
      clear hr
      go_enter Tryz.func26, Tryz.ntmps26
      go_wp2_with (first | (go_at_call 27; (with_reducible refine (HA.out _).mono ?_); rintro e w' ⟨rfl, rfl⟩) | (go_at_call 27; (with_reducible refine (HZ4.out _).mono ?_); rintro e w' ⟨rfl, rfl⟩) | (go_at_call 27; (with_reducible refine (HI.out _).mono ?_); rintro e w' ⟨rfl, rfl⟩) | (go_at_call 15; (with_reducible refine (HL.out _ bel).mono ?_); rintro e w' ⟨rfl, j, rfl⟩) | (go_at_call 51; (with_reducible refine (HW.out _ bel).mono ?_); rintro x w' ⟨⟨v, rfl⟩, j, rfl⟩))
      all_goals go_ret
      all_goals exact ⟨rfl, Below.junk bel⟩
    subst hF0
    by_cases hS0 : ns = 0
    case neg =>
      have hS0b : ((ns : Int) == 0) = false := by rw [beq_eq_false_iff_ne]; omega
      have hS0p : (0 : Int) < (ns : Int) := by omega
      have hS0n : 0 < ns := by omega
      obtain rfl : R = false := by rw [hr]; simp [*]
      clear hr
      go_enter Tryz.func26, Tryz.ntmps26
      go_wp2_with (first | (go_at_call 27; (with_reducible refine (HA.out _).mono ?_); rintro e w' ⟨rfl, rfl⟩) | (go_at_call 27; (with_reducible refine (HZ4.out _).mono ?_); rintro e w' ⟨rfl, rfl⟩) | (go_at_call 27; (with_reducible refine (HI.out _).mono ?_); rintro e w' ⟨rfl, rfl⟩) | (go_at_call 15; (with_reducible refine (HL.out _ bel).mono ?_); rintro e w' ⟨rfl, j, rfl⟩) | (go_at_call 51; (with_reducible refine (HW.out _ bel).mono ?_); rintro x w' ⟨⟨v, rfl⟩, j, rfl⟩))
      all_goals go_ret
      all_goals exact ⟨rfl, Below.junk bel⟩
    subst hS0
    cases e
    case true =>
      obtain rfl : R = false := by rw [hr]; simp [*]
      clear hr
      go_enter Tryz.func26, Tryz.ntmps26
      go_wp2_with (first | (go_at_call 27; (with_reducible refine (HA.out _).mono ?_); rintro e w' ⟨rfl, rfl⟩) | (go_at_call 27; (with_reducible refine (HZ4.out _).mono ?_); rintro e w' ⟨rfl, rfl⟩) | (go_at_call 27; (with_reducible refine (HI.out _).mono ?_); rintro e w' ⟨rfl, rfl⟩) | (go_at_call 15; (with_reducible refine (HL.out _ bel).mono ?_); rintro e w' ⟨rfl, j, rfl⟩) | (go_at_call 51; (with_reducible refine (HW.out _ bel).mono ?_); rintro x w' ⟨⟨v, rfl⟩, j, rfl⟩))
      all_goals go_ret
      all_goals exact ⟨rfl, Below.junk bel⟩
    cases A
    case false =>
      obtain rfl : R = false := by rw [hr]; simp [*]
      clear hr
      go_enter Tryz.func26, Tryz.ntmps26
      go_wp2_with (first | (go_at_call 27; (with_reducible refine (HA.out _).mono ?_); rintro e w' ⟨rfl, rfl⟩) | (go_at_call 27; (with_reducible refine (HZ4.out _).mono ?_); rintro e w' ⟨rfl, rfl⟩) | (go_at_call 27; (with_reducible refine (HI.out _).mono ?_); rintro e w' ⟨rfl, rfl⟩) | (go_at_call 15; (with_reducible refine (HL.out _ bel).mono ?_); rintro e w' ⟨rfl, j, rfl⟩) | (go_at_call 51; (with_reducible refine (HW.out _ bel).mono ?_); rintro x w' ⟨⟨v, rfl⟩, j, rfl⟩))
      all_goals go_ret
      all_goals exact ⟨rfl, Below.junk bel⟩
    cases I
    case false =>
      obtain rfl : R = false := by rw [hr]; simp [*]
      clear hr
      go_enter Tryz.func26, Tryz.ntmps26
      go_wp2_with (first | (go_at_call 27; (with_reducible refine (HA.out _).mono ?_); rintro e w' ⟨rfl, rfl⟩) | (go_at_call 27; (with_reducible refine (HZ4.out _).mono ?_); rintro e w' ⟨rfl, rfl⟩) | (go_at_call 27; (with_reducible refine (HI.out _).mono ?_); rintro e w' ⟨rfl, rfl⟩) | (go_at_call 15; (with_reducible refine (HL.out _ bel).mono ?_); rintro e w' ⟨rfl, j, rfl⟩) | (go_at_call 51; (with_reducible refine (HW.out _ bel).mono ?_); rintro x w' ⟨⟨v, rfl⟩, j, rfl⟩))
      all_goals go_ret
      all_goals exact ⟨rfl, Below.junk bel⟩
    obtain rfl : R = true := by rw [hr]; simp [*]
    clear hr
    go_enter Tryz.func26, Tryz.ntmps26
    go_wp2_with (first | (go_at_call 27; (with_reducible refine (HA.out _).mono ?_); rintro e w' ⟨rfl, rfl⟩) | (go_at_call 27; (with_reducible refine (HZ4.out _).mono ?_); rintro e w' ⟨rfl, rfl⟩) | (go_at_call 27; (with_reducible refine (HI.out _).mono ?_); rintro e w' ⟨rfl, rfl⟩) | (go_at_call 15; (with_reducible refine (HL.out _ bel).mono ?_); rintro e w' ⟨rfl, j, rfl⟩) | (go_at_call 51; (with_reducible refine (HW.out _ bel).mono ?_); rintro x w' ⟨⟨v, rfl⟩, j, rfl⟩))
    all_goals go_ret
    all_goals exact ⟨rfl, Below.junk bel⟩
  by_cases hk6 : kd = 6
  case pos =>
    subst hk6
    have hr : R = ((!e && (decide (nf = 0) && decide (ns = 0))) && (decide (sm = 0) && inR nn 0 255)) := HR0
    clear HR0
    have HI : Hid (∀ W, Calls Tryz.prog 27 #[.int .i64 nn, .int .i64 0, .int .i64 255] W fun x w' => x = .returned (.bool (inR nn 0 255)) ∧ W = w') := fun W => HF.out 0 255 nn W
    generalize inR nn 0 255 = I at HI hr
    by_cases hF0 : nf = 0
    case neg =>
      have hF0b : ((nf : Int) == 0) = false := by rw [beq_eq_false_iff_ne]; omega
      have hF0p : (0 : Int) < (nf : Int) := by omega
      have hF0n : 0 < nf := by omega
      obtain rfl : R = false := by rw [hr]; simp [*]
      clear hr
      go_enter Tryz.func26, Tryz.ntmps26
      go_wp2_with (first | (go_at_call 27; (with_reducible refine (HA.out _).mono ?_); rintro e w' ⟨rfl, rfl⟩) | (go_at_call 27; (with_reducible refine (HZ4.out _).mono ?_); rintro e w' ⟨rfl, rfl⟩) | (go_at_call 27; (with_reducible refine (HI.out _).mono ?_); rintro e w' ⟨rfl, rfl⟩) | (go_at_call 15; (with_reducible refine (HL.out _ bel).mono ?_); rintro e w' ⟨rfl, j, rfl⟩) | (go_at_call 51; (with_reducible refine (HW.out _ bel).mono ?_); rintro x w' ⟨⟨v, rfl⟩, j, rfl⟩))
      all_goals go_ret
      all_goals exact ⟨rfl, Below.junk bel⟩
    subst hF0
    by_cases hS0 : ns = 0
    case neg =>
      have hS0b : ((ns : Int) == 0) = false := by rw [beq_eq_false_iff_ne]; omega
      have hS0p : (0 : Int) < (ns : Int) := by omega
      have hS0n : 0 < ns := by omega
      obtain rfl : R = false := by rw [hr]; simp [*]
      clear hr
      go_enter Tryz.func26, Tryz.ntmps26
      go_wp2_with (first | (go_at_call 27; (with_reducible refine (HA.out _).mono ?_); rintro e w' ⟨rfl, rfl⟩) | (go_at_call 27; (with_reducible refine (HZ4.out _).mono ?_); rintro e w' ⟨rfl, rfl⟩) | (go_at_call 27; (with_reducible refine (HI.out _).mono ?_); rintro e w' ⟨rfl, rfl⟩) | (go_at_call 15; (with_reducible refine (HL.out _ bel).mono ?_); rintro e w' ⟨rfl, j, rfl⟩) | (go_at_call 51; (with_reducible refine (HW.out _ bel).mono ?_); rintro x w' ⟨⟨v, rfl⟩, j, rfl⟩))
      all_goals go_ret
      all_goals exact ⟨rfl, Below.junk bel⟩
    subst hS0
    cases e
    case true =>
      obtain rfl : R = false := by rw [hr]; simp [*]
      clear hr
      go_enter Tryz.func26, Tryz.ntmps26
      go_wp2_with (first | (go_at_call 27; (with_reducible refine (HA.out _).mono ?_); rintro e w' ⟨rfl, rfl⟩) | (go_at_call 27; (with_reducible refine (HZ4.out _).mono ?_); rintro e w' ⟨rfl, rfl⟩) | (go_at_call 27; (with_reducible refine (HI.out _).mono ?_); rintro e w' ⟨rfl, rfl⟩) | (go_at_call 15; (with_reducible refine (HL.out _ bel).mono ?_); rintro e w' ⟨rfl, j, rfl⟩) | (go_at_call 51; (with_reducible refine (HW.out _ bel).mono ?_); rintro x w' ⟨⟨v, rfl⟩, j, rfl⟩))
      all_goals go_ret
      all_goals exact ⟨rfl, Below.junk bel⟩
    by_cases hZ : sm = 0
    case neg =>
      have hZb : (sm == 0) = false := by simp [hZ]
      obtain rfl : R = false := by rw [hr]; simp [*]
      clear hr
      go_enter Tryz.func26, Tryz.ntmps26
      go_wp2_with (first | (go_at_call 27; (with_reducible refine (HA.out _).mono ?_); rintro e w' ⟨rfl, rfl⟩) | (go_at_call 27; (with_reducible refine (HZ4.out _).mono ?_); rintro e w' ⟨rfl, rfl⟩) | (go_at_call 27; (with_reducible refine (HI.out _).mono ?_); rintro e w' ⟨rfl, rfl⟩) | (go_at_call 15; (with_reducible refine (HL.out _ bel).mono ?_); rintro e w' ⟨rfl, j, rfl⟩) | (go_at_call 51; (with_reducible refine (HW.out _ bel).mono ?_); rintro x w' ⟨⟨v, rfl⟩, j, rfl⟩))
      all_goals go_ret
      all_goals exact ⟨rfl, Below.junk bel⟩
    subst hZ
    cases I
    case false =>
      obtain rfl : R = false := by rw [hr]; simp [*]
      clear hr
      go_enter Tryz.func26, Tryz.ntmps26
      go_wp2_with (first | (go_at_call 27; (with_reducible refine (HA.out _).mono ?_); rintro e w' ⟨rfl, rfl⟩) | (go_at_call 27; (with_reducible refine (HZ4.out _).mono ?_); rintro e w' ⟨rfl, rfl⟩) | (go_at_call 27; (with_reducible refine (HI.out _).mono ?_); rintro e w' ⟨rfl, rfl⟩) | (go_at_call 15; (with_reducible refine (HL.out _ bel).mono ?_); rintro e w' ⟨rfl, j, rfl⟩) | (go_at_call 51; (with_reducible refine (HW.out _ bel).mono ?_); rintro x w' ⟨⟨v, rfl⟩, j, rfl⟩))
      all_goals go_ret
      all_goals exact ⟨rfl, Below.junk bel⟩
    obtain rfl : R = true := by rw [hr]; simp [*]
    clear hr
    go_enter Tryz.func26, Tryz.ntmps26
    go_wp2_with (first | (go_at_call 27; (with_reducible refine (HA.out _).mono ?_); rintro e w' ⟨rfl, rfl⟩) | (go_at_call 27; (with_reducible refine (HZ4.out _).mono ?_); rintro e w' ⟨rfl, rfl⟩) | (go_at_call 27; (with_reducible refine (HI.out _).mono ?_); rintro e w' ⟨rfl, rfl⟩) | (go_at_call 15; (with_reducible refine (HL.out _ bel).mono ?_); rintro e w' ⟨rfl, j, rfl⟩) | (go_at_call 51; (with_reducible refine (HW.out _ bel).mono ?_); rintro x w' ⟨⟨v, rfl⟩, j, rfl⟩))
    all_goals go_ret
    all_goals exact ⟨rfl, Below.junk bel⟩
  by_cases hk7 : kd = 7
  case pos =>
    subst hk7
    have hr : R = ((!e && (decide (nf = 0) && decide (ns = 0))) && (decide (sm = 0) && inR nn 0 2147483647)) := HR0
    clear HR0
    have HI : Hid (∀ W, Calls Tryz.prog 27 #[.int .i64 nn, .int .i64 0, .int .i64 2147483647] W fun x w' => x = .returned (.bool (inR nn 0 2147483647)) ∧ W = w') := fun W => HF.out 0 2147483647 nn W
    generalize inR nn 0 2147483647 = I at HI hr
    by_cases hF0 : nf = 0
    case neg =>
      have hF0b : ((nf : Int) == 0) = false := by rw [beq_eq_false_iff_ne]; omega
      have hF0p : (0 : Int) < (nf : Int) := by omega
      have hF0n : 0 < nf := by omega
      obtain rfl : R = false := by rw [hr]; simp [*]
      clear hr
      go_enter Tryz.func26, Tryz.ntmps26
      go_wp2_with (first | (go_at_call 27; (with_reducible refine (HA.out _).mono ?_); rintro e w' ⟨rfl, rfl⟩) | (go_at_call 27; (with_reducible refine (HZ4.out _).mono ?_); rintro e w' ⟨rfl, rfl⟩) | (go_at_call 27; (with_reducible refine (HI.out _).mono ?_); rintro e w' ⟨rfl, rfl⟩) | (go_at_call 15; (with_reducible refine (HL.out _ bel).mono ?_); rintro e w' ⟨rfl, j, rfl⟩) | (go_at_call 51; (with_reducible refine (HW.out _ bel).mono ?_); rintro x w' ⟨⟨v, rfl⟩, j, rfl⟩))
      all_goals go_ret
      all_goals exact ⟨rfl, Below.junk bel⟩
    subst hF0
    by_cases hS0 : ns = 0
    case neg =>
      have hS0b : ((ns : Int) == 0) = false := by rw [beq_eq_false_iff_ne]; omega
      have hS0p : (0 : Int) < (ns : Int) := by omega
      have hS0n : 0 < ns := by omega
      obtain rfl : R = false := by rw [hr]; simp [*]
      clear hr
      go_enter Tryz.func26, Tryz.ntmps26
      go_wp2_with (first | (go_at_call 27; (with_reducible refine (HA.out _).mono ?_); rintro e w' ⟨rfl, rfl⟩) | (go_at_call 27; (with_reducible refine (HZ4.out _).mono ?_); rintro e w' ⟨rfl, rfl⟩) | (go_at_call 27; (with_reducible refine (HI.out _).mono ?_); rintro e w' ⟨rfl, rfl⟩) | (go_at_call 15; (with_reducible refine (HL.out _ bel).mono ?_); rintro e w' ⟨rfl, j, rfl⟩) | (go_at_call 51; (with_reducible refine (HW.out _ bel).mono ?_); rintro x w' ⟨⟨v, rfl⟩, j, rfl⟩))
      all_goals go_ret
      all_goals exact ⟨rfl, Below.junk bel⟩
    subst hS0
    cases e
    case true =>
      obtain rfl : R = false := by rw [hr]; simp [*]
      clear hr
      go_enter Tryz.func26, Tryz.ntmps26
      go_wp2_with (first | (go_at_call 27; (with_reducible refine (HA.out _).mono ?_); rintro e w' ⟨rfl, rfl⟩) | (go_at_call 27; (with_reducible refine (HZ4.out _).mono ?_); rintro e w' ⟨rfl, rfl⟩) | (go_at_call 27; (with_reducible refine (HI.out _).mono ?_); rintro e w' ⟨rfl, rfl⟩) | (go_at_call 15; (with_reducible refine (HL.out _ bel).mono ?_); rintro e w' ⟨rfl, j, rfl⟩) | (go_at_call 51; (with_reducible refine (HW.out _ bel).mono ?_); rintro x w' ⟨⟨v, rfl⟩, j, rfl⟩))
      all_goals go_ret
      all_goals exact ⟨rfl, Below.junk bel⟩
    by_cases hZ : sm = 0
    case neg =>
      have hZb : (sm == 0) = false := by simp [hZ]
      obtain rfl : R = false := by rw [hr]; simp [*]
      clear hr
      go_enter Tryz.func26, Tryz.ntmps26
      go_wp2_with (first | (go_at_call 27; (with_reducible refine (HA.out _).mono ?_); rintro e w' ⟨rfl, rfl⟩) | (go_at_call 27; (with_reducible refine (HZ4.out _).mono ?_); rintro e w' ⟨rfl, rfl⟩) | (go_at_call 27; (with_reducible refine (HI.out _).mono ?_); rintro e w' ⟨rfl, rfl⟩) | (go_at_call 15; (with_reducible refine (HL.out _ bel).mono ?_); rintro e w' ⟨rfl, j, rfl⟩) | (go_at_call 51; (with_reducible refine (HW.out _ bel).mono ?_); rintro x w' ⟨⟨v, rfl⟩, j, rfl⟩))
      all_goals go_ret
      all_goals exact ⟨rfl, Below.junk bel⟩
    subst hZ
    cases I
    case false =>
      obtain rfl : R = false := by rw [hr]; simp [*]
      clear hr
      go_enter Tryz.func26, Tryz.ntmps26
      go_wp2_with (first | (go_at_call 27; (with_reducible refine (HA.out _).mono ?_); rintro e w' ⟨rfl, rfl⟩) | (go_at_call 27; (with_reducible refine (HZ4.out _).mono ?_); rintro e w' ⟨rfl, rfl⟩) | (go_at_call 27; (with_reducible refine (HI.out _).mono ?_); rintro e w' ⟨rfl, rfl⟩) | (go_at_call 15; (with_reducible refine (HL.out _ bel).mono ?_); rintro e w' ⟨rfl, j, rfl⟩) | (go_at_call 51; (with_reducible refine (HW.out _ bel).mono ?_); rintro x w' ⟨⟨v, rfl⟩, j, rfl⟩))
      all_goals go_ret
      all_goals exact ⟨rfl, Below.junk bel⟩
    obtain rfl : R = true := by rw [hr]; simp [*]
    clear hr
    go_enter Tryz.func26, Tryz.ntmps26
    go_wp2_with (first | (go_at_call 27; (with_reducible refine (HA.out _).mono ?_); rintro e w' ⟨rfl, rfl⟩) | (go_at_call 27; (with_reducible refine (HZ4.out _).mono ?_); rintro e w' ⟨rfl, rfl⟩) | (go_at_call 27; (with_reducible refine (HI.out _).mono ?_); rintro e w' ⟨rfl, rfl⟩) | (go_at_call 15; (with_reducible refine (HL.out _ bel).mono ?_); rintro e w' ⟨rfl, j, rfl⟩) | (go_at_call 51; (with_reducible refine (HW.out _ bel).mono ?_); rintro x w' ⟨⟨v, rfl⟩, j, rfl⟩))
    all_goals go_ret
    all_goals exact ⟨rfl, Below.junk bel⟩
  by_cases hk8 : kd = 8
  case pos =>
    subst hk8
    have hr : R = ((!e && (decide (nf = 0) && decide (ns = 0))) && (decide (sm = 0) && inR nn 0 16)) := HR0
    clear HR0
    have HI : Hid (∀ W, Calls Tryz.prog 27 #[.int .i64 nn, .int .i64 0, .int .i64 16] W fun x w' => x = .returned (.bool (inR nn 0 16)) ∧ W = w') := fun W => HF.out 0 16 nn W
    generalize inR nn 0 16 = I at HI hr
    by_cases hF0 : nf = 0
    case neg =>
      have hF0b : ((nf : Int) == 0) = false := by rw [beq_eq_false_iff_ne]; omega
      have hF0p : (0 : Int) < (nf : Int) := by omega
      have hF0n : 0 < nf := by omega
      obtain rfl : R = false := by rw [hr]; simp [*]
      clear hr
      go_enter Tryz.func26, Tryz.ntmps26
      go_wp2_with (first | (go_at_call 27; (with_reducible refine (HA.out _).mono ?_); rintro e w' ⟨rfl, rfl⟩) | (go_at_call 27; (with_reducible refine (HZ4.out _).mono ?_); rintro e w' ⟨rfl, rfl⟩) | (go_at_call 27; (with_reducible refine (HI.out _).mono ?_); rintro e w' ⟨rfl, rfl⟩) | (go_at_call 15; (with_reducible refine (HL.out _ bel).mono ?_); rintro e w' ⟨rfl, j, rfl⟩) | (go_at_call 51; (with_reducible refine (HW.out _ bel).mono ?_); rintro x w' ⟨⟨v, rfl⟩, j, rfl⟩))
      all_goals go_ret
      all_goals exact ⟨rfl, Below.junk bel⟩
    subst hF0
    by_cases hS0 : ns = 0
    case neg =>
      have hS0b : ((ns : Int) == 0) = false := by rw [beq_eq_false_iff_ne]; omega
      have hS0p : (0 : Int) < (ns : Int) := by omega
      have hS0n : 0 < ns := by omega
      obtain rfl : R = false := by rw [hr]; simp [*]
      clear hr
      go_enter Tryz.func26, Tryz.ntmps26
      go_wp2_with (first | (go_at_call 27; (with_reducible refine (HA.out _).mono ?_); rintro e w' ⟨rfl, rfl⟩) | (go_at_call 27; (with_reducible refine (HZ4.out _).mono ?_); rintro e w' ⟨rfl, rfl⟩) | (go_at_call 27; (with_reducible refine (HI.out _).mono ?_); rintro e w' ⟨rfl, rfl⟩) | (go_at_call 15; (with_reducible refine (HL.out _ bel).mono ?_); rintro e w' ⟨rfl, j, rfl⟩) | (go_at_call 51; (with_reducible refine (HW.out _ bel).mono ?_); rintro x w' ⟨⟨v, rfl⟩, j, rfl⟩))
      all_goals go_ret
      all_goals exact ⟨rfl, Below.junk bel⟩
    subst hS0
    cases e
    case true =>
      obtain rfl : R = false := by rw [hr]; simp [*]
      clear hr
      go_enter Tryz.func26, Tryz.ntmps26
      go_wp2_with (first | (go_at_call 27; (with_reducible refine (HA.out _).mono ?_); rintro e w' ⟨rfl, rfl⟩) | (go_at_call 27; (with_reducible refine (HZ4.out _).mono ?_); rintro e w' ⟨rfl, rfl⟩) | (go_at_call 27; (with_reducible refine (HI.out _).mono ?_); rintro e w' ⟨rfl, rfl⟩) | (go_at_call 15; (with_reducible refine (HL.out _ bel).mono ?_); rintro e w' ⟨rfl, j, rfl⟩) | (go_at_call 51; (with_reducible refine (HW.out _ bel).mono ?_); rintro x w' ⟨⟨v, rfl⟩, j, rfl⟩))
      all_goals go_ret
      all_goals exact ⟨rfl, Below.junk bel⟩
    by_cases hZ : sm = 0
    case neg =>
      have hZb : (sm == 0) = false := by simp [hZ]
      obtain rfl : R = false := by rw [hr]; simp [*]
      clear hr
      go_enter Tryz.func26, Tryz.ntmps26
      go_wp2_with (first | (go_at_call 27; (with_reducible refine (HA.out _).mono ?_); rintro e w' ⟨rfl, rfl⟩) | (go_at_call 27; (with_reducible refine (HZ4.out _).mono ?_); rintro e w' ⟨rfl, rfl⟩) | (go_at_call 27; (with_reducible refine (HI.out _).mono ?_); rintro e w' ⟨rfl, rfl⟩) | (go_at_call 15; (with_reducible refine (HL.out _ bel).mono ?_); rintro e w' ⟨rfl, j, rfl⟩) | (go_at_call 51; (with_reducible refine (HW.out _ bel).mono ?_); rintro x w' ⟨⟨v, rfl⟩, j, rfl⟩))
      all_goals go_ret
      all_goals exact ⟨rfl, Below.junk bel⟩
    subst hZ
    cases I
    case false =>
      obtain rfl : R = false := by rw [hr]; simp [*]
      clear hr
      go_enter Tryz.func26, Tryz.ntmps26
      go_wp2_with (first | (go_at_call 27; (with_reducible refine (HA.out _).mono ?_); rintro e w' ⟨rfl, rfl⟩) | (go_at_call 27; (with_reducible refine (HZ4.out _).mono ?_); rintro e w' ⟨rfl, rfl⟩) | (go_at_call 27; (with_reducible refine (HI.out _).mono ?_); rintro e w' ⟨rfl, rfl⟩) | (go_at_call 15; (with_reducible refine (HL.out _ bel).mono ?_); rintro e w' ⟨rfl, j, rfl⟩) | (go_at_call 51; (with_reducible refine (HW.out _ bel).mono ?_); rintro x w' ⟨⟨v, rfl⟩, j, rfl⟩))
      all_goals go_ret
      all_goals exact ⟨rfl, Below.junk bel⟩
    obtain rfl : R = true := by rw [hr]; simp [*]
    clear hr
    go_enter Tryz.func26, Tryz.ntmps26
    go_wp2_with (first | (go_at_call 27; (with_reducible refine (HA.out _).mono ?_); rintro e w' ⟨rfl, rfl⟩) | (go_at_call 27; (with_reducible refine (HZ4.out _).mono ?_); rintro e w' ⟨rfl, rfl⟩) | (go_at_call 27; (with_reducible refine (HI.out _).mono ?_); rintro e w' ⟨rfl, rfl⟩) | (go_at_call 15; (with_reducible refine (HL.out _ bel).mono ?_); rintro e w' ⟨rfl, j, rfl⟩) | (go_at_call 51; (with_reducible refine (HW.out _ bel).mono ?_); rintro x w' ⟨⟨v, rfl⟩, j, rfl⟩))
    all_goals go_ret
    all_goals exact ⟨rfl, Below.junk bel⟩
  obtain rfl : R = false := by rw [HR0]; unfold spQ; simp [hk1, hk2, hk3, hk4, hk5, hk6, hk7, hk8]
  clear HR0
  have hk1b : (kd == 1) = false := by simp [hk1]
  have hk2b : (kd == 2) = false := by simp [hk2]
  have hk3b : (kd == 3) = false := by simp [hk3]
  have hk4b : (kd == 4) = false := by simp [hk4]
  have hk5b : (kd == 5) = false := by simp [hk5]
  have hk6b : (kd == 6) = false := by simp [hk6]
  have hk7b : (kd == 7) = false := by simp [hk7]
  have hk8b : (kd == 8) = false := by simp [hk8]
  rcases Nat.eq_zero_or_pos nf with hf0 | hf0 <;> rcases Nat.eq_zero_or_pos ns with hs0 | hs0 <;> by_cases hk20 : 2 < kd <;> cases e
  all_goals
    first | subst hf0 | (have hf1 : (0 : Int) < (nf : Int) := by omega)
    first | subst hs0 | (have hs1 : (0 : Int) < (ns : Int) := by omega)
    go_enter Tryz.func26, Tryz.ntmps26
    go_wp2_with fail
    all_goals go_ret
    all_goals exact ⟨rfl, Below.junk bel⟩
end Go.Proofs.YtfcgdfcekpbliaaGreatDoor
