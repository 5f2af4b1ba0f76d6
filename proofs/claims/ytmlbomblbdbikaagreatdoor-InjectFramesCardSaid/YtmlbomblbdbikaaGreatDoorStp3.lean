/-
  Scenarios: which steps may be: the program's.
-/
import Derived.Test.YtmlbomblbdbikaaGreatDoorMl
namespace Go.Proofs.YtmlbomblbdbikaaGreatDoor
set_option linter.unusedSimpArgs false
set_option linter.unusedVariables false
set_option linter.unusedSectionVars false
open Go.ChangeShapes Go.WideShapes Go.ChangeAt Go.RowKit Go.Deep Go.Shelf

/-- What a step that may be is, of the answers of the parts. -/
def spQ (kd : Int) (A Z N e L F0 S0 W : Bool) (I : Int → Int → Bool) : Bool :=
  if kd = 1 then A && (N && (!L && S0))
  else if kd = 2 then (F0 && S0) && (A && I 0 16384)
  else if kd = 3 then Z && (N && (!e && (F0 && W)))
  else if kd = 4 then (!e && (F0 && S0)) && ((Z || A) && I 1 2147483647)
  else if kd = 5 then (!e && (F0 && S0)) && (A && I 0 4294967295)
  else if kd = 6 then (!e && (F0 && S0)) && (Z && I 0 255)
  else if kd = 7 then (!e && (F0 && S0)) && (Z && I 0 2147483647)
  else if kd = 8 then (!e && (F0 && S0)) && (Z && I 0 16)
  else false
theorem largeF_eq (l : List Fd) : (!largeF l 20 200) = (decide (l.length ≤ 20) && l.all fdR) := by
  have h1 : ∀ f : Fd, (!bigF 200 f) = fdR f := fun f => by
    unfold bigF fdR
    by_cases h1 : f.name.length ≤ 200 <;> by_cases h2 : f.value.length ≤ 200 <;> simp [h1, h2] <;> omega
  unfold largeF
  rw [Bool.not_or, List.not_any_eq_all_not]
  congr 1
  · by_cases h : l.length ≤ 20 <;> simp [h] <;> omega
  · congr 1
    funext f
    exact h1 f
theorem empty_len {α : Type} (l : List α) : l.isEmpty = decide (l.length = 0) := by cases l <;> simp
theorem inR0 (n : Int) : inR n 0 topS = (decide (n = 0) || inR n 1 topS) := by
  unfold inR topS
  by_cases h0 : n = 0
  · subst h0; decide
  · by_cases h1 : 0 ≤ n
    · have : 1 ≤ n := by omega
      simp [h0, h1, this]
    · have : ¬ 1 ≤ n := by omega
      simp [h0, h1, this]
theorem stR_sp (kd sm nn : Int) (e : Bool) (fs : List Fd) (ss : List (Int × Int)) :
    stR ⟨kd, sm, nn, e, fs, ss⟩ = spQ kd (inR sm 1 topS) (decide (sm = 0)) (decide (nn = 0)) e (largeF fs 20 200) (decide (fs.length = 0)) (decide (ss.length = 0)) (decide (ss.length ≤ 10) && ss.all seR) (fun a b => inR nn a b) := by
  have h := largeF_eq fs
  unfold stR spQ bareS
  simp only [inR0 sm, empty_len]
  have ht : topS = 2147483647 := rfl
  repeat' split
  all_goals first | rfl | skip
  · rw [h]
    cases decide (fs.length ≤ 20) <;> cases fs.all fdR <;> rfl
  · cases decide (fs.length = 0) <;> cases decide (ss.length = 0) <;> rfl
set_option maxHeartbeats 16000000 in
set_option maxRecDepth 100000 in
theorem spec_RightStep (kd sm nn : Int) (e : Bool) (fs : List Fd) (ss : List (Int × Int)) (hl : fs.length ≤ 1000000) (hs : ss.length ≤ 100000) (fa sa : Option Addr) (fc sc : Nat) (w : World) (hF : SlF w w.heap.size fa fs) (hS : SlSe w w.heap.size sa ss) :
    Calls Tryz.prog 36 #[.agg #[.int .i64 kd, .int .i64 sm, .int .i64 nn, .bool e, .slice fa fs.length fc, .slice sa ss.length sc]] w fun x w' => x = .returned (.bool (stR ⟨kd, sm, nn, e, fs, ss⟩)) ∧ ∃ j, w' = w.more j := by
  have HR0 := stR_sp kd sm nn e fs ss
  generalize stR ⟨kd, sm, nn, e, fs, ss⟩ = R at HR0 ⊢
  have HF : Hid (∀ a b W, Calls Tryz.prog 37 #[.int .i64 nn, .int .i64 a, .int .i64 b] W fun x w' => x = .returned (.bool (inR nn a b)) ∧ W = w') := fun a b W => spec_within nn a b W
  have HA : Hid (∀ W, Calls Tryz.prog 38 #[.int .i64 sm] W fun x w' => x = .returned (.bool (inR sm 1 topS)) ∧ W = w') := fun W => spec_stream sm W
  have HL : Hid (∀ W, Below w.heap.size w W → Calls Tryz.prog 47 #[.slice fa fs.length fc] W fun x w' => x = .returned (.bool (!largeF fs 20 200)) ∧ ∃ j, w' = W.more j) := fun W hW => spec_short fa fs fc hl W ((hF.below hW (Nat.le_refl _)).mono hW.size (fun _ _ _ h => h))
  have HW : Hid (∀ W, Below w.heap.size w W → Calls Tryz.prog 49 #[.slice sa ss.length sc] W fun x w' => x = .returned (.bool (decide (ss.length ≤ 10) && ss.all seR)) ∧ ∃ j, w' = W.more j) := fun W hW => spec_few sa ss sc hs W ((hS.below hW (Nat.le_refl _)).mono hW.size (fun _ _ _ h => h))
  have HP : Hid (∀ q W, Calls Tryz.prog 48 #[.agg #[.int .i64 kd, .int .i64 sm, .int .i64 nn, .bool q, .slice fa fs.length fc, .slice sa ss.length sc]] W fun x w' => x = .returned (.bool (!q && (decide (fs.length = 0) && decide (ss.length = 0)))) ∧ ∃ j, w' = W.more j) := fun q W => spec_plain kd sm nn q fa fs.length fc sa ss.length sc W
  generalize largeF fs 20 200 = L at HR0 HL
  generalize (decide (ss.length ≤ 10) && ss.all seR) = W at HR0 HW
  generalize inR sm 1 topS = A at HR0 HA
  generalize fs.length = nf at HR0 HL HP hl
  generalize ss.length = ns at HR0 HW HP hs
  clear hF hS
  by_cases hk1 : kd = 1
  case pos =>
    subst hk1
    have hr : R = (A && (decide (nn = 0) && (!L && decide (ns = 0)))) := HR0
    clear HR0
    cases A
    case false =>
      obtain rfl : R = false := by rw [hr]; simp [*]
      clear hr
      go_enter Tryz.func36, Tryz.ntmps36
      go_wp2_with (first | (go_at_call 37; (with_reducible refine (HI.out _).mono ?_); rintro e w' ⟨rfl, rfl⟩) | (go_at_call 38; (with_reducible refine (HA.out _).mono ?_); rintro e w' ⟨rfl, rfl⟩) | (go_at_call 47; (with_reducible refine (HL.out _ bel).mono ?_); rintro e w' ⟨rfl, j, rfl⟩) | (go_at_call 49; (with_reducible refine (HW.out _ bel).mono ?_); rintro e w' ⟨rfl, j, rfl⟩) | (go_at_call 48; (with_reducible refine (HQ.out _).mono ?_); rintro e w' ⟨rfl, j, rfl⟩))
      all_goals go_ret
      all_goals exact ⟨rfl, Below.junk bel⟩
    by_cases hN : nn = 0
    case neg =>
      have hNb : (nn == 0) = false := by simp [hN]
      obtain rfl : R = false := by rw [hr]; simp [*]
      clear hr
      go_enter Tryz.func36, Tryz.ntmps36
      go_wp2_with (first | (go_at_call 37; (with_reducible refine (HI.out _).mono ?_); rintro e w' ⟨rfl, rfl⟩) | (go_at_call 38; (with_reducible refine (HA.out _).mono ?_); rintro e w' ⟨rfl, rfl⟩) | (go_at_call 47; (with_reducible refine (HL.out _ bel).mono ?_); rintro e w' ⟨rfl, j, rfl⟩) | (go_at_call 49; (with_reducible refine (HW.out _ bel).mono ?_); rintro e w' ⟨rfl, j, rfl⟩) | (go_at_call 48; (with_reducible refine (HQ.out _).mono ?_); rintro e w' ⟨rfl, j, rfl⟩))
      all_goals go_ret
      all_goals exact ⟨rfl, Below.junk bel⟩
    subst hN
    cases L
    case true =>
      obtain rfl : R = false := by rw [hr]; simp [*]
      clear hr
      go_enter Tryz.func36, Tryz.ntmps36
      go_wp2_with (first | (go_at_call 37; (with_reducible refine (HI.out _).mono ?_); rintro e w' ⟨rfl, rfl⟩) | (go_at_call 38; (with_reducible refine (HA.out _).mono ?_); rintro e w' ⟨rfl, rfl⟩) | (go_at_call 47; (with_reducible refine (HL.out _ bel).mono ?_); rintro e w' ⟨rfl, j, rfl⟩) | (go_at_call 49; (with_reducible refine (HW.out _ bel).mono ?_); rintro e w' ⟨rfl, j, rfl⟩) | (go_at_call 48; (with_reducible refine (HQ.out _).mono ?_); rintro e w' ⟨rfl, j, rfl⟩))
      all_goals go_ret
      all_goals exact ⟨rfl, Below.junk bel⟩
    by_cases hS0 : ns = 0
    case neg =>
      have hS0b : ((ns : Int) == 0) = false := by rw [beq_eq_false_iff_ne]; omega
      have hS0p : (0 : Int) < (ns : Int) := by omega
      have hS0n : 0 < ns := by omega
      obtain rfl : R = false := by rw [hr]; simp [*]
      clear hr
      go_enter Tryz.func36, Tryz.ntmps36
      go_wp2_with (first | (go_at_call 37; (with_reducible refine (HI.out _).mono ?_); rintro e w' ⟨rfl, rfl⟩) | (go_at_call 38; (with_reducible refine (HA.out _).mono ?_); rintro e w' ⟨rfl, rfl⟩) | (go_at_call 47; (with_reducible refine (HL.out _ bel).mono ?_); rintro e w' ⟨rfl, j, rfl⟩) | (go_at_call 49; (with_reducible refine (HW.out _ bel).mono ?_); rintro e w' ⟨rfl, j, rfl⟩) | (go_at_call 48; (with_reducible refine (HQ.out _).mono ?_); rintro e w' ⟨rfl, j, rfl⟩))
      all_goals go_ret
      all_goals exact ⟨rfl, Below.junk bel⟩
    subst hS0
    obtain rfl : R = true := by rw [hr]; simp [*]
    clear hr
    go_enter Tryz.func36, Tryz.ntmps36
    go_wp2_with (first | (go_at_call 37; (with_reducible refine (HI.out _).mono ?_); rintro e w' ⟨rfl, rfl⟩) | (go_at_call 38; (with_reducible refine (HA.out _).mono ?_); rintro e w' ⟨rfl, rfl⟩) | (go_at_call 47; (with_reducible refine (HL.out _ bel).mono ?_); rintro e w' ⟨rfl, j, rfl⟩) | (go_at_call 49; (with_reducible refine (HW.out _ bel).mono ?_); rintro e w' ⟨rfl, j, rfl⟩) | (go_at_call 48; (with_reducible refine (HQ.out _).mono ?_); rintro e w' ⟨rfl, j, rfl⟩))
    all_goals go_ret
    all_goals exact ⟨rfl, Below.junk bel⟩
  by_cases hk2 : kd = 2
  case pos =>
    subst hk2
    have hr : R = ((decide (nf = 0) && decide (ns = 0)) && (A && inR nn 0 16384)) := HR0
    clear HR0
    have HI : Hid (∀ W, Calls Tryz.prog 37 #[.int .i64 nn, .int .i64 0, .int .i64 16384] W fun x w' => x = .returned (.bool (inR nn 0 16384)) ∧ W = w') := fun W => HF.out 0 16384 W
    generalize inR nn 0 16384 = I at HI hr
    have HQ : Hid (∀ W, Calls Tryz.prog 48 #[.agg #[.int .i64 2, .int .i64 sm, .int .i64 nn, .bool false, .slice fa nf fc, .slice sa ns sc]] W fun x w' => x = .returned (.bool (decide (nf = 0) && decide (ns = 0))) ∧ ∃ j, w' = W.more j) := fun W => HP.out false W
    by_cases hF0 : nf = 0
    case neg =>
      have hF0b : ((nf : Int) == 0) = false := by rw [beq_eq_false_iff_ne]; omega
      have hF0p : (0 : Int) < (nf : Int) := by omega
      have hF0n : 0 < nf := by omega
      obtain rfl : R = false := by rw [hr]; simp [*]
      clear hr
      go_enter Tryz.func36, Tryz.ntmps36
      go_wp2_with (first | (go_at_call 37; (with_reducible refine (HI.out _).mono ?_); rintro e w' ⟨rfl, rfl⟩) | (go_at_call 38; (with_reducible refine (HA.out _).mono ?_); rintro e w' ⟨rfl, rfl⟩) | (go_at_call 47; (with_reducible refine (HL.out _ bel).mono ?_); rintro e w' ⟨rfl, j, rfl⟩) | (go_at_call 49; (with_reducible refine (HW.out _ bel).mono ?_); rintro e w' ⟨rfl, j, rfl⟩) | (go_at_call 48; (with_reducible refine (HQ.out _).mono ?_); rintro e w' ⟨rfl, j, rfl⟩))
      all_goals go_ret
      all_goals exact ⟨rfl, Below.junk bel⟩
    subst hF0
    by_cases hS0 : ns = 0
    case neg =>
      have hS0b : ((ns : Int) == 0) = false := by rw [beq_eq_false_iff_ne]; omega
      have hS0p : (0 : Int) < (ns : Int) := by omega
      have hS0n : 0 < ns := by omega
      obtain rfl : R = false := by rw [hr]; simp [*]
      clear hr
      go_enter Tryz.func36, Tryz.ntmps36
      go_wp2_with (first | (go_at_call 37; (with_reducible refine (HI.out _).mono ?_); rintro e w' ⟨rfl, rfl⟩) | (go_at_call 38; (with_reducible refine (HA.out _).mono ?_); rintro e w' ⟨rfl, rfl⟩) | (go_at_call 47; (with_reducible refine (HL.out _ bel).mono ?_); rintro e w' ⟨rfl, j, rfl⟩) | (go_at_call 49; (with_reducible refine (HW.out _ bel).mono ?_); rintro e w' ⟨rfl, j, rfl⟩) | (go_at_call 48; (with_reducible refine (HQ.out _).mono ?_); rintro e w' ⟨rfl, j, rfl⟩))
      all_goals go_ret
      all_goals exact ⟨rfl, Below.junk bel⟩
    subst hS0
    cases A
    case false =>
      obtain rfl : R = false := by rw [hr]; simp [*]
      clear hr
      go_enter Tryz.func36, Tryz.ntmps36
      go_wp2_with (first | (go_at_call 37; (with_reducible refine (HI.out _).mono ?_); rintro e w' ⟨rfl, rfl⟩) | (go_at_call 38; (with_reducible refine (HA.out _).mono ?_); rintro e w' ⟨rfl, rfl⟩) | (go_at_call 47; (with_reducible refine (HL.out _ bel).mono ?_); rintro e w' ⟨rfl, j, rfl⟩) | (go_at_call 49; (with_reducible refine (HW.out _ bel).mono ?_); rintro e w' ⟨rfl, j, rfl⟩) | (go_at_call 48; (with_reducible refine (HQ.out _).mono ?_); rintro e w' ⟨rfl, j, rfl⟩))
      all_goals go_ret
      all_goals exact ⟨rfl, Below.junk bel⟩
    cases I
    case false =>
      obtain rfl : R = false := by rw [hr]; simp [*]
      clear hr
      go_enter Tryz.func36, Tryz.ntmps36
      go_wp2_with (first | (go_at_call 37; (with_reducible refine (HI.out _).mono ?_); rintro e w' ⟨rfl, rfl⟩) | (go_at_call 38; (with_reducible refine (HA.out _).mono ?_); rintro e w' ⟨rfl, rfl⟩) | (go_at_call 47; (with_reducible refine (HL.out _ bel).mono ?_); rintro e w' ⟨rfl, j, rfl⟩) | (go_at_call 49; (with_reducible refine (HW.out _ bel).mono ?_); rintro e w' ⟨rfl, j, rfl⟩) | (go_at_call 48; (with_reducible refine (HQ.out _).mono ?_); rintro e w' ⟨rfl, j, rfl⟩))
      all_goals go_ret
      all_goals exact ⟨rfl, Below.junk bel⟩
    obtain rfl : R = true := by rw [hr]; simp [*]
    clear hr
    go_enter Tryz.func36, Tryz.ntmps36
    go_wp2_with (first | (go_at_call 37; (with_reducible refine (HI.out _).mono ?_); rintro e w' ⟨rfl, rfl⟩) | (go_at_call 38; (with_reducible refine (HA.out _).mono ?_); rintro e w' ⟨rfl, rfl⟩) | (go_at_call 47; (with_reducible refine (HL.out _ bel).mono ?_); rintro e w' ⟨rfl, j, rfl⟩) | (go_at_call 49; (with_reducible refine (HW.out _ bel).mono ?_); rintro e w' ⟨rfl, j, rfl⟩) | (go_at_call 48; (with_reducible refine (HQ.out _).mono ?_); rintro e w' ⟨rfl, j, rfl⟩))
    all_goals go_ret
    all_goals exact ⟨rfl, Below.junk bel⟩
  by_cases hk3 : kd = 3
  case pos =>
    subst hk3
    have hr : R = (decide (sm = 0) && (decide (nn = 0) && (!e && (decide (nf = 0) && W)))) := HR0
    clear HR0
    by_cases hZ : sm = 0
    case neg =>
      have hZb : (sm == 0) = false := by simp [hZ]
      obtain rfl : R = false := by rw [hr]; simp [*]
      clear hr
      go_enter Tryz.func36, Tryz.ntmps36
      go_wp2_with (first | (go_at_call 37; (with_reducible refine (HI.out _).mono ?_); rintro e w' ⟨rfl, rfl⟩) | (go_at_call 38; (with_reducible refine (HA.out _).mono ?_); rintro e w' ⟨rfl, rfl⟩) | (go_at_call 47; (with_reducible refine (HL.out _ bel).mono ?_); rintro e w' ⟨rfl, j, rfl⟩) | (go_at_call 49; (with_reducible refine (HW.out _ bel).mono ?_); rintro e w' ⟨rfl, j, rfl⟩) | (go_at_call 48; (with_reducible refine (HQ.out _).mono ?_); rintro e w' ⟨rfl, j, rfl⟩))
      all_goals go_ret
      all_goals exact ⟨rfl, Below.junk bel⟩
    subst hZ
    by_cases hN : nn = 0
    case neg =>
      have hNb : (nn == 0) = false := by simp [hN]
      obtain rfl : R = false := by rw [hr]; simp [*]
      clear hr
      go_enter Tryz.func36, Tryz.ntmps36
      go_wp2_with (first | (go_at_call 37; (with_reducible refine (HI.out _).mono ?_); rintro e w' ⟨rfl, rfl⟩) | (go_at_call 38; (with_reducible refine (HA.out _).mono ?_); rintro e w' ⟨rfl, rfl⟩) | (go_at_call 47; (with_reducible refine (HL.out _ bel).mono ?_); rintro e w' ⟨rfl, j, rfl⟩) | (go_at_call 49; (with_reducible refine (HW.out _ bel).mono ?_); rintro e w' ⟨rfl, j, rfl⟩) | (go_at_call 48; (with_reducible refine (HQ.out _).mono ?_); rintro e w' ⟨rfl, j, rfl⟩))
      all_goals go_ret
      all_goals exact ⟨rfl, Below.junk bel⟩
    subst hN
    cases e
    case true =>
      obtain rfl : R = false := by rw [hr]; simp [*]
      clear hr
      go_enter Tryz.func36, Tryz.ntmps36
      go_wp2_with (first | (go_at_call 37; (with_reducible refine (HI.out _).mono ?_); rintro e w' ⟨rfl, rfl⟩) | (go_at_call 38; (with_reducible refine (HA.out _).mono ?_); rintro e w' ⟨rfl, rfl⟩) | (go_at_call 47; (with_reducible refine (HL.out _ bel).mono ?_); rintro e w' ⟨rfl, j, rfl⟩) | (go_at_call 49; (with_reducible refine (HW.out _ bel).mono ?_); rintro e w' ⟨rfl, j, rfl⟩) | (go_at_call 48; (with_reducible refine (HQ.out _).mono ?_); rintro e w' ⟨rfl, j, rfl⟩))
      all_goals go_ret
      all_goals exact ⟨rfl, Below.junk bel⟩
    by_cases hF0 : nf = 0
    case neg =>
      have hF0b : ((nf : Int) == 0) = false := by rw [beq_eq_false_iff_ne]; omega
      have hF0p : (0 : Int) < (nf : Int) := by omega
      have hF0n : 0 < nf := by omega
      obtain rfl : R = false := by rw [hr]; simp [*]
      clear hr
      go_enter Tryz.func36, Tryz.ntmps36
      go_wp2_with (first | (go_at_call 37; (with_reducible refine (HI.out _).mono ?_); rintro e w' ⟨rfl, rfl⟩) | (go_at_call 38; (with_reducible refine (HA.out _).mono ?_); rintro e w' ⟨rfl, rfl⟩) | (go_at_call 47; (with_reducible refine (HL.out _ bel).mono ?_); rintro e w' ⟨rfl, j, rfl⟩) | (go_at_call 49; (with_reducible refine (HW.out _ bel).mono ?_); rintro e w' ⟨rfl, j, rfl⟩) | (go_at_call 48; (with_reducible refine (HQ.out _).mono ?_); rintro e w' ⟨rfl, j, rfl⟩))
      all_goals go_ret
      all_goals exact ⟨rfl, Below.junk bel⟩
    subst hF0
    cases W
    case false =>
      obtain rfl : R = false := by rw [hr]; simp [*]
      clear hr
      go_enter Tryz.func36, Tryz.ntmps36
      go_wp2_with (first | (go_at_call 37; (with_reducible refine (HI.out _).mono ?_); rintro e w' ⟨rfl, rfl⟩) | (go_at_call 38; (with_reducible refine (HA.out _).mono ?_); rintro e w' ⟨rfl, rfl⟩) | (go_at_call 47; (with_reducible refine (HL.out _ bel).mono ?_); rintro e w' ⟨rfl, j, rfl⟩) | (go_at_call 49; (with_reducible refine (HW.out _ bel).mono ?_); rintro e w' ⟨rfl, j, rfl⟩) | (go_at_call 48; (with_reducible refine (HQ.out _).mono ?_); rintro e w' ⟨rfl, j, rfl⟩))
      all_goals go_ret
      all_goals exact ⟨rfl, Below.junk bel⟩
    obtain rfl : R = true := by rw [hr]; simp [*]
    clear hr
    go_enter Tryz.func36, Tryz.ntmps36
    go_wp2_with (first | (go_at_call 37; (with_reducible refine (HI.out _).mono ?_); rintro e w' ⟨rfl, rfl⟩) | (go_at_call 38; (with_reducible refine (HA.out _).mono ?_); rintro e w' ⟨rfl, rfl⟩) | (go_at_call 47; (with_reducible refine (HL.out _ bel).mono ?_); rintro e w' ⟨rfl, j, rfl⟩) | (go_at_call 49; (with_reducible refine (HW.out _ bel).mono ?_); rintro e w' ⟨rfl, j, rfl⟩) | (go_at_call 48; (with_reducible refine (HQ.out _).mono ?_); rintro e w' ⟨rfl, j, rfl⟩))
    all_goals go_ret
    all_goals exact ⟨rfl, Below.junk bel⟩
  by_cases hk4 : kd = 4
  case pos =>
    subst hk4
    have hr : R = ((!e && (decide (nf = 0) && decide (ns = 0))) && ((decide (sm = 0) || A) && inR nn 1 2147483647)) := HR0
    clear HR0
    have HI : Hid (∀ W, Calls Tryz.prog 37 #[.int .i64 nn, .int .i64 1, .int .i64 2147483647] W fun x w' => x = .returned (.bool (inR nn 1 2147483647)) ∧ W = w') := fun W => HF.out 1 2147483647 W
    generalize inR nn 1 2147483647 = I at HI hr
    have HQ := Lib.hid (HP.out e)
    cases e
    case true =>
      obtain rfl : R = false := by rw [hr]; simp [*]
      clear hr
      go_enter Tryz.func36, Tryz.ntmps36
      go_wp2_with (first | (go_at_call 37; (with_reducible refine (HI.out _).mono ?_); rintro e w' ⟨rfl, rfl⟩) | (go_at_call 38; (with_reducible refine (HA.out _).mono ?_); rintro e w' ⟨rfl, rfl⟩) | (go_at_call 47; (with_reducible refine (HL.out _ bel).mono ?_); rintro e w' ⟨rfl, j, rfl⟩) | (go_at_call 49; (with_reducible refine (HW.out _ bel).mono ?_); rintro e w' ⟨rfl, j, rfl⟩) | (go_at_call 48; (with_reducible refine (HQ.out _).mono ?_); rintro e w' ⟨rfl, j, rfl⟩))
      all_goals go_ret
      all_goals exact ⟨rfl, Below.junk bel⟩
    by_cases hF0 : nf = 0
    case neg =>
      have hF0b : ((nf : Int) == 0) = false := by rw [beq_eq_false_iff_ne]; omega
      have hF0p : (0 : Int) < (nf : Int) := by omega
      have hF0n : 0 < nf := by omega
      obtain rfl : R = false := by rw [hr]; simp [*]
      clear hr
      go_enter Tryz.func36, Tryz.ntmps36
      go_wp2_with (first | (go_at_call 37; (with_reducible refine (HI.out _).mono ?_); rintro e w' ⟨rfl, rfl⟩) | (go_at_call 38; (with_reducible refine (HA.out _).mono ?_); rintro e w' ⟨rfl, rfl⟩) | (go_at_call 47; (with_reducible refine (HL.out _ bel).mono ?_); rintro e w' ⟨rfl, j, rfl⟩) | (go_at_call 49; (with_reducible refine (HW.out _ bel).mono ?_); rintro e w' ⟨rfl, j, rfl⟩) | (go_at_call 48; (with_reducible refine (HQ.out _).mono ?_); rintro e w' ⟨rfl, j, rfl⟩))
      all_goals go_ret
      all_goals exact ⟨rfl, Below.junk bel⟩
    subst hF0
    by_cases hS0 : ns = 0
    case neg =>
      have hS0b : ((ns : Int) == 0) = false := by rw [beq_eq_false_iff_ne]; omega
      have hS0p : (0 : Int) < (ns : Int) := by omega
      have hS0n : 0 < ns := by omega
      obtain rfl : R = false := by rw [hr]; simp [*]
      clear hr
      go_enter Tryz.func36, Tryz.ntmps36
      go_wp2_with (first | (go_at_call 37; (with_reducible refine (HI.out _).mono ?_); rintro e w' ⟨rfl, rfl⟩) | (go_at_call 38; (with_reducible refine (HA.out _).mono ?_); rintro e w' ⟨rfl, rfl⟩) | (go_at_call 47; (with_reducible refine (HL.out _ bel).mono ?_); rintro e w' ⟨rfl, j, rfl⟩) | (go_at_call 49; (with_reducible refine (HW.out _ bel).mono ?_); rintro e w' ⟨rfl, j, rfl⟩) | (go_at_call 48; (with_reducible refine (HQ.out _).mono ?_); rintro e w' ⟨rfl, j, rfl⟩))
      all_goals go_ret
      all_goals exact ⟨rfl, Below.junk bel⟩
    subst hS0
    by_cases hZ : sm = 0
    case pos =>
      subst hZ
      cases I
      case false =>
        obtain rfl : R = false := by rw [hr]; simp [*]
        clear hr
        go_enter Tryz.func36, Tryz.ntmps36
        go_wp2_with (first | (go_at_call 37; (with_reducible refine (HI.out _).mono ?_); rintro e w' ⟨rfl, rfl⟩) | (go_at_call 38; (with_reducible refine (HA.out _).mono ?_); rintro e w' ⟨rfl, rfl⟩) | (go_at_call 47; (with_reducible refine (HL.out _ bel).mono ?_); rintro e w' ⟨rfl, j, rfl⟩) | (go_at_call 49; (with_reducible refine (HW.out _ bel).mono ?_); rintro e w' ⟨rfl, j, rfl⟩) | (go_at_call 48; (with_reducible refine (HQ.out _).mono ?_); rintro e w' ⟨rfl, j, rfl⟩))
        all_goals go_ret
        all_goals exact ⟨rfl, Below.junk bel⟩
      obtain rfl : R = true := by rw [hr]; simp [*]
      clear hr
      go_enter Tryz.func36, Tryz.ntmps36
      go_wp2_with (first | (go_at_call 37; (with_reducible refine (HI.out _).mono ?_); rintro e w' ⟨rfl, rfl⟩) | (go_at_call 38; (with_reducible refine (HA.out _).mono ?_); rintro e w' ⟨rfl, rfl⟩) | (go_at_call 47; (with_reducible refine (HL.out _ bel).mono ?_); rintro e w' ⟨rfl, j, rfl⟩) | (go_at_call 49; (with_reducible refine (HW.out _ bel).mono ?_); rintro e w' ⟨rfl, j, rfl⟩) | (go_at_call 48; (with_reducible refine (HQ.out _).mono ?_); rintro e w' ⟨rfl, j, rfl⟩))
      all_goals go_ret
      all_goals exact ⟨rfl, Below.junk bel⟩
    have hZb : (sm == 0) = false := by simp [hZ]
    cases A
    case false =>
      obtain rfl : R = false := by rw [hr]; simp [*]
      clear hr
      go_enter Tryz.func36, Tryz.ntmps36
      go_wp2_with (first | (go_at_call 37; (with_reducible refine (HI.out _).mono ?_); rintro e w' ⟨rfl, rfl⟩) | (go_at_call 38; (with_reducible refine (HA.out _).mono ?_); rintro e w' ⟨rfl, rfl⟩) | (go_at_call 47; (with_reducible refine (HL.out _ bel).mono ?_); rintro e w' ⟨rfl, j, rfl⟩) | (go_at_call 49; (with_reducible refine (HW.out _ bel).mono ?_); rintro e w' ⟨rfl, j, rfl⟩) | (go_at_call 48; (with_reducible refine (HQ.out _).mono ?_); rintro e w' ⟨rfl, j, rfl⟩))
      all_goals go_ret
      all_goals exact ⟨rfl, Below.junk bel⟩
    cases I
    case false =>
      obtain rfl : R = false := by rw [hr]; simp [*]
      clear hr
      go_enter Tryz.func36, Tryz.ntmps36
      go_wp2_with (first | (go_at_call 37; (with_reducible refine (HI.out _).mono ?_); rintro e w' ⟨rfl, rfl⟩) | (go_at_call 38; (with_reducible refine (HA.out _).mono ?_); rintro e w' ⟨rfl, rfl⟩) | (go_at_call 47; (with_reducible refine (HL.out _ bel).mono ?_); rintro e w' ⟨rfl, j, rfl⟩) | (go_at_call 49; (with_reducible refine (HW.out _ bel).mono ?_); rintro e w' ⟨rfl, j, rfl⟩) | (go_at_call 48; (with_reducible refine (HQ.out _).mono ?_); rintro e w' ⟨rfl, j, rfl⟩))
      all_goals go_ret
      all_goals exact ⟨rfl, Below.junk bel⟩
    obtain rfl : R = true := by rw [hr]; simp [*]
    clear hr
    go_enter Tryz.func36, Tryz.ntmps36
    go_wp2_with (first | (go_at_call 37; (with_reducible refine (HI.out _).mono ?_); rintro e w' ⟨rfl, rfl⟩) | (go_at_call 38; (with_reducible refine (HA.out _).mono ?_); rintro e w' ⟨rfl, rfl⟩) | (go_at_call 47; (with_reducible refine (HL.out _ bel).mono ?_); rintro e w' ⟨rfl, j, rfl⟩) | (go_at_call 49; (with_reducible refine (HW.out _ bel).mono ?_); rintro e w' ⟨rfl, j, rfl⟩) | (go_at_call 48; (with_reducible refine (HQ.out _).mono ?_); rintro e w' ⟨rfl, j, rfl⟩))
    all_goals go_ret
    all_goals exact ⟨rfl, Below.junk bel⟩
  by_cases hk5 : kd = 5
  case pos =>
    subst hk5
    have hr : R = ((!e && (decide (nf = 0) && decide (ns = 0))) && (A && inR nn 0 4294967295)) := HR0
    clear HR0
    have HI : Hid (∀ W, Calls Tryz.prog 37 #[.int .i64 nn, .int .i64 0, .int .i64 4294967295] W fun x w' => x = .returned (.bool (inR nn 0 4294967295)) ∧ W = w') := fun W => HF.out 0 4294967295 W
    generalize inR nn 0 4294967295 = I at HI hr
    have HQ := Lib.hid (HP.out e)
    cases e
    case true =>
      obtain rfl : R = false := by rw [hr]; simp [*]
      clear hr
      go_enter Tryz.func36, Tryz.ntmps36
      go_wp2_with (first | (go_at_call 37; (with_reducible refine (HI.out _).mono ?_); rintro e w' ⟨rfl, rfl⟩) | (go_at_call 38; (with_reducible refine (HA.out _).mono ?_); rintro e w' ⟨rfl, rfl⟩) | (go_at_call 47; (with_reducible refine (HL.out _ bel).mono ?_); rintro e w' ⟨rfl, j, rfl⟩) | (go_at_call 49; (with_reducible refine (HW.out _ bel).mono ?_); rintro e w' ⟨rfl, j, rfl⟩) | (go_at_call 48; (with_reducible refine (HQ.out _).mono ?_); rintro e w' ⟨rfl, j, rfl⟩))
      all_goals go_ret
      all_goals exact ⟨rfl, Below.junk bel⟩
    by_cases hF0 : nf = 0
    case neg =>
      have hF0b : ((nf : Int) == 0) = false := by rw [beq_eq_false_iff_ne]; omega
      have hF0p : (0 : Int) < (nf : Int) := by omega
      have hF0n : 0 < nf := by omega
      obtain rfl : R = false := by rw [hr]; simp [*]
      clear hr
      go_enter Tryz.func36, Tryz.ntmps36
      go_wp2_with (first | (go_at_call 37; (with_reducible refine (HI.out _).mono ?_); rintro e w' ⟨rfl, rfl⟩) | (go_at_call 38; (with_reducible refine (HA.out _).mono ?_); rintro e w' ⟨rfl, rfl⟩) | (go_at_call 47; (with_reducible refine (HL.out _ bel).mono ?_); rintro e w' ⟨rfl, j, rfl⟩) | (go_at_call 49; (with_reducible refine (HW.out _ bel).mono ?_); rintro e w' ⟨rfl, j, rfl⟩) | (go_at_call 48; (with_reducible refine (HQ.out _).mono ?_); rintro e w' ⟨rfl, j, rfl⟩))
      all_goals go_ret
      all_goals exact ⟨rfl, Below.junk bel⟩
    subst hF0
    by_cases hS0 : ns = 0
    case neg =>
      have hS0b : ((ns : Int) == 0) = false := by rw [beq_eq_false_iff_ne]; omega
      have hS0p : (0 : Int) < (ns : Int) := by omega
      have hS0n : 0 < ns := by omega
      obtain rfl : R = false := by rw [hr]; simp [*]
      clear hr
      go_enter Tryz.func36, Tryz.ntmps36
      go_wp2_with (first | (go_at_call 37; (with_reducible refine (HI.out _).mono ?_); rintro e w' ⟨rfl, rfl⟩) | (go_at_call 38; (with_reducible refine (HA.out _).mono ?_); rintro e w' ⟨rfl, rfl⟩) | (go_at_call 47; (with_reducible refine (HL.out _ bel).mono ?_); rintro e w' ⟨rfl, j, rfl⟩) | (go_at_call 49; (with_reducible refine (HW.out _ bel).mono ?_); rintro e w' ⟨rfl, j, rfl⟩) | (go_at_call 48; (with_reducible refine (HQ.out _).mono ?_); rintro e w' ⟨rfl, j, rfl⟩))
      all_goals go_ret
      all_goals exact ⟨rfl, Below.junk bel⟩
    subst hS0
    cases A
    case false =>
      obtain rfl : R = false := by rw [hr]; simp [*]
      clear hr
      go_enter Tryz.func36, Tryz.ntmps36
      go_wp2_with (first | (go_at_call 37; (with_reducible refine (HI.out _).mono ?_); rintro e w' ⟨rfl, rfl⟩) | (go_at_call 38; (with_reducible refine (HA.out _).mono ?_); rintro e w' ⟨rfl, rfl⟩) | (go_at_call 47; (with_reducible refine (HL.out _ bel).mono ?_); rintro e w' ⟨rfl, j, rfl⟩) | (go_at_call 49; (with_reducible refine (HW.out _ bel).mono ?_); rintro e w' ⟨rfl, j, rfl⟩) | (go_at_call 48; (with_reducible refine (HQ.out _).mono ?_); rintro e w' ⟨rfl, j, rfl⟩))
      all_goals go_ret
      all_goals exact ⟨rfl, Below.junk bel⟩
    cases I
    case false =>
      obtain rfl : R = false := by rw [hr]; simp [*]
      clear hr
      go_enter Tryz.func36, Tryz.ntmps36
      go_wp2_with (first | (go_at_call 37; (with_reducible refine (HI.out _).mono ?_); rintro e w' ⟨rfl, rfl⟩) | (go_at_call 38; (with_reducible refine (HA.out _).mono ?_); rintro e w' ⟨rfl, rfl⟩) | (go_at_call 47; (with_reducible refine (HL.out _ bel).mono ?_); rintro e w' ⟨rfl, j, rfl⟩) | (go_at_call 49; (with_reducible refine (HW.out _ bel).mono ?_); rintro e w' ⟨rfl, j, rfl⟩) | (go_at_call 48; (with_reducible refine (HQ.out _).mono ?_); rintro e w' ⟨rfl, j, rfl⟩))
      all_goals go_ret
      all_goals exact ⟨rfl, Below.junk bel⟩
    obtain rfl : R = true := by rw [hr]; simp [*]
    clear hr
    go_enter Tryz.func36, Tryz.ntmps36
    go_wp2_with (first | (go_at_call 37; (with_reducible refine (HI.out _).mono ?_); rintro e w' ⟨rfl, rfl⟩) | (go_at_call 38; (with_reducible refine (HA.out _).mono ?_); rintro e w' ⟨rfl, rfl⟩) | (go_at_call 47; (with_reducible refine (HL.out _ bel).mono ?_); rintro e w' ⟨rfl, j, rfl⟩) | (go_at_call 49; (with_reducible refine (HW.out _ bel).mono ?_); rintro e w' ⟨rfl, j, rfl⟩) | (go_at_call 48; (with_reducible refine (HQ.out _).mono ?_); rintro e w' ⟨rfl, j, rfl⟩))
    all_goals go_ret
    all_goals exact ⟨rfl, Below.junk bel⟩
  by_cases hk6 : kd = 6
  case pos =>
    subst hk6
    have hr : R = ((!e && (decide (nf = 0) && decide (ns = 0))) && (decide (sm = 0) && inR nn 0 255)) := HR0
    clear HR0
    have HI : Hid (∀ W, Calls Tryz.prog 37 #[.int .i64 nn, .int .i64 0, .int .i64 255] W fun x w' => x = .returned (.bool (inR nn 0 255)) ∧ W = w') := fun W => HF.out 0 255 W
    generalize inR nn 0 255 = I at HI hr
    have HQ := Lib.hid (HP.out e)
    cases e
    case true =>
      obtain rfl : R = false := by rw [hr]; simp [*]
      clear hr
      go_enter Tryz.func36, Tryz.ntmps36
      go_wp2_with (first | (go_at_call 37; (with_reducible refine (HI.out _).mono ?_); rintro e w' ⟨rfl, rfl⟩) | (go_at_call 38; (with_reducible refine (HA.out _).mono ?_); rintro e w' ⟨rfl, rfl⟩) | (go_at_call 47; (with_reducible refine (HL.out _ bel).mono ?_); rintro e w' ⟨rfl, j, rfl⟩) | (go_at_call 49; (with_reducible refine (HW.out _ bel).mono ?_); rintro e w' ⟨rfl, j, rfl⟩) | (go_at_call 48; (with_reducible refine (HQ.out _).mono ?_); rintro e w' ⟨rfl, j, rfl⟩))
      all_goals go_ret
      all_goals exact ⟨rfl, Below.junk bel⟩
    by_cases hF0 : nf = 0
    case neg =>
      have hF0b : ((nf : Int) == 0) = false := by rw [beq_eq_false_iff_ne]; omega
      have hF0p : (0 : Int) < (nf : Int) := by omega
      have hF0n : 0 < nf := by omega
      obtain rfl : R = false := by rw [hr]; simp [*]
      clear hr
      go_enter Tryz.func36, Tryz.ntmps36
      go_wp2_with (first | (go_at_call 37; (with_reducible refine (HI.out _).mono ?_); rintro e w' ⟨rfl, rfl⟩) | (go_at_call 38; (with_reducible refine (HA.out _).mono ?_); rintro e w' ⟨rfl, rfl⟩) | (go_at_call 47; (with_reducible refine (HL.out _ bel).mono ?_); rintro e w' ⟨rfl, j, rfl⟩) | (go_at_call 49; (with_reducible refine (HW.out _ bel).mono ?_); rintro e w' ⟨rfl, j, rfl⟩) | (go_at_call 48; (with_reducible refine (HQ.out _).mono ?_); rintro e w' ⟨rfl, j, rfl⟩))
      all_goals go_ret
      all_goals exact ⟨rfl, Below.junk bel⟩
    subst hF0
    by_cases hS0 : ns = 0
    case neg =>
      have hS0b : ((ns : Int) == 0) = false := by rw [beq_eq_false_iff_ne]; omega
      have hS0p : (0 : Int) < (ns : Int) := by omega
      have hS0n : 0 < ns := by omega
      obtain rfl : R = false := by rw [hr]; simp [*]
      clear hr
      go_enter Tryz.func36, Tryz.ntmps36
      go_wp2_with (first | (go_at_call 37; (with_reducible refine (HI.out _).mono ?_); rintro e w' ⟨rfl, rfl⟩) | (go_at_call 38; (with_reducible refine (HA.out _).mono ?_); rintro e w' ⟨rfl, rfl⟩) | (go_at_call 47; (with_reducible refine (HL.out _ bel).mono ?_); rintro e w' ⟨rfl, j, rfl⟩) | (go_at_call 49; (with_reducible refine (HW.out _ bel).mono ?_); rintro e w' ⟨rfl, j, rfl⟩) | (go_at_call 48; (with_reducible refine (HQ.out _).mono ?_); rintro e w' ⟨rfl, j, rfl⟩))
      all_goals go_ret
      all_goals exact ⟨rfl, Below.junk bel⟩
    subst hS0
    by_cases hZ : sm = 0
    case neg =>
      have hZb : (sm == 0) = false := by simp [hZ]
      obtain rfl : R = false := by rw [hr]; simp [*]
      clear hr
      go_enter Tryz.func36, Tryz.ntmps36
      go_wp2_with (first | (go_at_call 37; (with_reducible refine (HI.out _).mono ?_); rintro e w' ⟨rfl, rfl⟩) | (go_at_call 38; (with_reducible refine (HA.out _).mono ?_); rintro e w' ⟨rfl, rfl⟩) | (go_at_call 47; (with_reducible refine (HL.out _ bel).mono ?_); rintro e w' ⟨rfl, j, rfl⟩) | (go_at_call 49; (with_reducible refine (HW.out _ bel).mono ?_); rintro e w' ⟨rfl, j, rfl⟩) | (go_at_call 48; (with_reducible refine (HQ.out _).mono ?_); rintro e w' ⟨rfl, j, rfl⟩))
      all_goals go_ret
      all_goals exact ⟨rfl, Below.junk bel⟩
    subst hZ
    cases I
    case false =>
      obtain rfl : R = false := by rw [hr]; simp [*]
      clear hr
      go_enter Tryz.func36, Tryz.ntmps36
      go_wp2_with (first | (go_at_call 37; (with_reducible refine (HI.out _).mono ?_); rintro e w' ⟨rfl, rfl⟩) | (go_at_call 38; (with_reducible refine (HA.out _).mono ?_); rintro e w' ⟨rfl, rfl⟩) | (go_at_call 47; (with_reducible refine (HL.out _ bel).mono ?_); rintro e w' ⟨rfl, j, rfl⟩) | (go_at_call 49; (with_reducible refine (HW.out _ bel).mono ?_); rintro e w' ⟨rfl, j, rfl⟩) | (go_at_call 48; (with_reducible refine (HQ.out _).mono ?_); rintro e w' ⟨rfl, j, rfl⟩))
      all_goals go_ret
      all_goals exact ⟨rfl, Below.junk bel⟩
    obtain rfl : R = true := by rw [hr]; simp [*]
    clear hr
    go_enter Tryz.func36, Tryz.ntmps36
    go_wp2_with (first | (go_at_call 37; (with_reducible refine (HI.out _).mono ?_); rintro e w' ⟨rfl, rfl⟩) | (go_at_call 38; (with_reducible refine (HA.out _).mono ?_); rintro e w' ⟨rfl, rfl⟩) | (go_at_call 47; (with_reducible refine (HL.out _ bel).mono ?_); rintro e w' ⟨rfl, j, rfl⟩) | (go_at_call 49; (with_reducible refine (HW.out _ bel).mono ?_); rintro e w' ⟨rfl, j, rfl⟩) | (go_at_call 48; (with_reducible refine (HQ.out _).mono ?_); rintro e w' ⟨rfl, j, rfl⟩))
    all_goals go_ret
    all_goals exact ⟨rfl, Below.junk bel⟩
  by_cases hk7 : kd = 7
  case pos =>
    subst hk7
    have hr : R = ((!e && (decide (nf = 0) && decide (ns = 0))) && (decide (sm = 0) && inR nn 0 2147483647)) := HR0
    clear HR0
    have HI : Hid (∀ W, Calls Tryz.prog 37 #[.int .i64 nn, .int .i64 0, .int .i64 2147483647] W fun x w' => x = .returned (.bool (inR nn 0 2147483647)) ∧ W = w') := fun W => HF.out 0 2147483647 W
    generalize inR nn 0 2147483647 = I at HI hr
    have HQ := Lib.hid (HP.out e)
    cases e
    case true =>
      obtain rfl : R = false := by rw [hr]; simp [*]
      clear hr
      go_enter Tryz.func36, Tryz.ntmps36
      go_wp2_with (first | (go_at_call 37; (with_reducible refine (HI.out _).mono ?_); rintro e w' ⟨rfl, rfl⟩) | (go_at_call 38; (with_reducible refine (HA.out _).mono ?_); rintro e w' ⟨rfl, rfl⟩) | (go_at_call 47; (with_reducible refine (HL.out _ bel).mono ?_); rintro e w' ⟨rfl, j, rfl⟩) | (go_at_call 49; (with_reducible refine (HW.out _ bel).mono ?_); rintro e w' ⟨rfl, j, rfl⟩) | (go_at_call 48; (with_reducible refine (HQ.out _).mono ?_); rintro e w' ⟨rfl, j, rfl⟩))
      all_goals go_ret
      all_goals exact ⟨rfl, Below.junk bel⟩
    by_cases hF0 : nf = 0
    case neg =>
      have hF0b : ((nf : Int) == 0) = false := by rw [beq_eq_false_iff_ne]; omega
      have hF0p : (0 : Int) < (nf : Int) := by omega
      have hF0n : 0 < nf := by omega
      obtain rfl : R = false := by rw [hr]; simp [*]
      clear hr
      go_enter Tryz.func36, Tryz.ntmps36
      go_wp2_with (first | (go_at_call 37; (with_reducible refine (HI.out _).mono ?_); rintro e w' ⟨rfl, rfl⟩) | (go_at_call 38; (with_reducible refine (HA.out _).mono ?_); rintro e w' ⟨rfl, rfl⟩) | (go_at_call 47; (with_reducible refine (HL.out _ bel).mono ?_); rintro e w' ⟨rfl, j, rfl⟩) | (go_at_call 49; (with_reducible refine (HW.out _ bel).mono ?_); rintro e w' ⟨rfl, j, rfl⟩) | (go_at_call 48; (with_reducible refine (HQ.out _).mono ?_); rintro e w' ⟨rfl, j, rfl⟩))
      all_goals go_ret
      all_goals exact ⟨rfl, Below.junk bel⟩
    subst hF0
    by_cases hS0 : ns = 0
    case neg =>
      have hS0b : ((ns : Int) == 0) = false := by rw [beq_eq_false_iff_ne]; omega
      have hS0p : (0 : Int) < (ns : Int) := by omega
      have hS0n : 0 < ns := by omega
      obtain rfl : R = false := by rw [hr]; simp [*]
      clear hr
      go_enter Tryz.func36, Tryz.ntmps36
      go_wp2_with (first | (go_at_call 37; (with_reducible refine (HI.out _).mono ?_); rintro e w' ⟨rfl, rfl⟩) | (go_at_call 38; (with_reducible refine (HA.out _).mono ?_); rintro e w' ⟨rfl, rfl⟩) | (go_at_call 47; (with_reducible refine (HL.out _ bel).mono ?_); rintro e w' ⟨rfl, j, rfl⟩) | (go_at_call 49; (with_reducible refine (HW.out _ bel).mono ?_); rintro e w' ⟨rfl, j, rfl⟩) | (go_at_call 48; (with_reducible refine (HQ.out _).mono ?_); rintro e w' ⟨rfl, j, rfl⟩))
      all_goals go_ret
      all_goals exact ⟨rfl, Below.junk bel⟩
    subst hS0
    by_cases hZ : sm = 0
    case neg =>
      have hZb : (sm == 0) = false := by simp [hZ]
      obtain rfl : R = false := by rw [hr]; simp [*]
      clear hr
      go_enter Tryz.func36, Tryz.ntmps36
      go_wp2_with (first | (go_at_call 37; (with_reducible refine (HI.out _).mono ?_); rintro e w' ⟨rfl, rfl⟩) | (go_at_call 38; (with_reducible refine (HA.out _).mono ?_); rintro e w' ⟨rfl, rfl⟩) | (go_at_call 47; (with_reducible refine (HL.out _ bel).mono ?_); rintro e w' ⟨rfl, j, rfl⟩) | (go_at_call 49; (with_reducible refine (HW.out _ bel).mono ?_); rintro e w' ⟨rfl, j, rfl⟩) | (go_at_call 48; (with_reducible refine (HQ.out _).mono ?_); rintro e w' ⟨rfl, j, rfl⟩))
      all_goals go_ret
      all_goals exact ⟨rfl, Below.junk bel⟩
    subst hZ
    cases I
    case false =>
      obtain rfl : R = false := by rw [hr]; simp [*]
      clear hr
      go_enter Tryz.func36, Tryz.ntmps36
      go_wp2_with (first | (go_at_call 37; (with_reducible refine (HI.out _).mono ?_); rintro e w' ⟨rfl, rfl⟩) | (go_at_call 38; (with_reducible refine (HA.out _).mono ?_); rintro e w' ⟨rfl, rfl⟩) | (go_at_call 47; (with_reducible refine (HL.out _ bel).mono ?_); rintro e w' ⟨rfl, j, rfl⟩) | (go_at_call 49; (with_reducible refine (HW.out _ bel).mono ?_); rintro e w' ⟨rfl, j, rfl⟩) | (go_at_call 48; (with_reducible refine (HQ.out _).mono ?_); rintro e w' ⟨rfl, j, rfl⟩))
      all_goals go_ret
      all_goals exact ⟨rfl, Below.junk bel⟩
    obtain rfl : R = true := by rw [hr]; simp [*]
    clear hr
    go_enter Tryz.func36, Tryz.ntmps36
    go_wp2_with (first | (go_at_call 37; (with_reducible refine (HI.out _).mono ?_); rintro e w' ⟨rfl, rfl⟩) | (go_at_call 38; (with_reducible refine (HA.out _).mono ?_); rintro e w' ⟨rfl, rfl⟩) | (go_at_call 47; (with_reducible refine (HL.out _ bel).mono ?_); rintro e w' ⟨rfl, j, rfl⟩) | (go_at_call 49; (with_reducible refine (HW.out _ bel).mono ?_); rintro e w' ⟨rfl, j, rfl⟩) | (go_at_call 48; (with_reducible refine (HQ.out _).mono ?_); rintro e w' ⟨rfl, j, rfl⟩))
    all_goals go_ret
    all_goals exact ⟨rfl, Below.junk bel⟩
  by_cases hk8 : kd = 8
  case pos =>
    subst hk8
    have hr : R = ((!e && (decide (nf = 0) && decide (ns = 0))) && (decide (sm = 0) && inR nn 0 16)) := HR0
    clear HR0
    have HI : Hid (∀ W, Calls Tryz.prog 37 #[.int .i64 nn, .int .i64 0, .int .i64 16] W fun x w' => x = .returned (.bool (inR nn 0 16)) ∧ W = w') := fun W => HF.out 0 16 W
    generalize inR nn 0 16 = I at HI hr
    have HQ := Lib.hid (HP.out e)
    cases e
    case true =>
      obtain rfl : R = false := by rw [hr]; simp [*]
      clear hr
      go_enter Tryz.func36, Tryz.ntmps36
      go_wp2_with (first | (go_at_call 37; (with_reducible refine (HI.out _).mono ?_); rintro e w' ⟨rfl, rfl⟩) | (go_at_call 38; (with_reducible refine (HA.out _).mono ?_); rintro e w' ⟨rfl, rfl⟩) | (go_at_call 47; (with_reducible refine (HL.out _ bel).mono ?_); rintro e w' ⟨rfl, j, rfl⟩) | (go_at_call 49; (with_reducible refine (HW.out _ bel).mono ?_); rintro e w' ⟨rfl, j, rfl⟩) | (go_at_call 48; (with_reducible refine (HQ.out _).mono ?_); rintro e w' ⟨rfl, j, rfl⟩))
      all_goals go_ret
      all_goals exact ⟨rfl, Below.junk bel⟩
    by_cases hF0 : nf = 0
    case neg =>
      have hF0b : ((nf : Int) == 0) = false := by rw [beq_eq_false_iff_ne]; omega
      have hF0p : (0 : Int) < (nf : Int) := by omega
      have hF0n : 0 < nf := by omega
      obtain rfl : R = false := by rw [hr]; simp [*]
      clear hr
      go_enter Tryz.func36, Tryz.ntmps36
      go_wp2_with (first | (go_at_call 37; (with_reducible refine (HI.out _).mono ?_); rintro e w' ⟨rfl, rfl⟩) | (go_at_call 38; (with_reducible refine (HA.out _).mono ?_); rintro e w' ⟨rfl, rfl⟩) | (go_at_call 47; (with_reducible refine (HL.out _ bel).mono ?_); rintro e w' ⟨rfl, j, rfl⟩) | (go_at_call 49; (with_reducible refine (HW.out _ bel).mono ?_); rintro e w' ⟨rfl, j, rfl⟩) | (go_at_call 48; (with_reducible refine (HQ.out _).mono ?_); rintro e w' ⟨rfl, j, rfl⟩))
      all_goals go_ret
      all_goals exact ⟨rfl, Below.junk bel⟩
    subst hF0
    by_cases hS0 : ns = 0
    case neg =>
      have hS0b : ((ns : Int) == 0) = false := by rw [beq_eq_false_iff_ne]; omega
      have hS0p : (0 : Int) < (ns : Int) := by omega
      have hS0n : 0 < ns := by omega
      obtain rfl : R = false := by rw [hr]; simp [*]
      clear hr
      go_enter Tryz.func36, Tryz.ntmps36
      go_wp2_with (first | (go_at_call 37; (with_reducible refine (HI.out _).mono ?_); rintro e w' ⟨rfl, rfl⟩) | (go_at_call 38; (with_reducible refine (HA.out _).mono ?_); rintro e w' ⟨rfl, rfl⟩) | (go_at_call 47; (with_reducible refine (HL.out _ bel).mono ?_); rintro e w' ⟨rfl, j, rfl⟩) | (go_at_call 49; (with_reducible refine (HW.out _ bel).mono ?_); rintro e w' ⟨rfl, j, rfl⟩) | (go_at_call 48; (with_reducible refine (HQ.out _).mono ?_); rintro e w' ⟨rfl, j, rfl⟩))
      all_goals go_ret
      all_goals exact ⟨rfl, Below.junk bel⟩
    subst hS0
    by_cases hZ : sm = 0
    case neg =>
      have hZb : (sm == 0) = false := by simp [hZ]
      obtain rfl : R = false := by rw [hr]; simp [*]
      clear hr
      go_enter Tryz.func36, Tryz.ntmps36
      go_wp2_with (first | (go_at_call 37; (with_reducible refine (HI.out _).mono ?_); rintro e w' ⟨rfl, rfl⟩) | (go_at_call 38; (with_reducible refine (HA.out _).mono ?_); rintro e w' ⟨rfl, rfl⟩) | (go_at_call 47; (with_reducible refine (HL.out _ bel).mono ?_); rintro e w' ⟨rfl, j, rfl⟩) | (go_at_call 49; (with_reducible refine (HW.out _ bel).mono ?_); rintro e w' ⟨rfl, j, rfl⟩) | (go_at_call 48; (with_reducible refine (HQ.out _).mono ?_); rintro e w' ⟨rfl, j, rfl⟩))
      all_goals go_ret
      all_goals exact ⟨rfl, Below.junk bel⟩
    subst hZ
    cases I
    case false =>
      obtain rfl : R = false := by rw [hr]; simp [*]
      clear hr
      go_enter Tryz.func36, Tryz.ntmps36
      go_wp2_with (first | (go_at_call 37; (with_reducible refine (HI.out _).mono ?_); rintro e w' ⟨rfl, rfl⟩) | (go_at_call 38; (with_reducible refine (HA.out _).mono ?_); rintro e w' ⟨rfl, rfl⟩) | (go_at_call 47; (with_reducible refine (HL.out _ bel).mono ?_); rintro e w' ⟨rfl, j, rfl⟩) | (go_at_call 49; (with_reducible refine (HW.out _ bel).mono ?_); rintro e w' ⟨rfl, j, rfl⟩) | (go_at_call 48; (with_reducible refine (HQ.out _).mono ?_); rintro e w' ⟨rfl, j, rfl⟩))
      all_goals go_ret
      all_goals exact ⟨rfl, Below.junk bel⟩
    obtain rfl : R = true := by rw [hr]; simp [*]
    clear hr
    go_enter Tryz.func36, Tryz.ntmps36
    go_wp2_with (first | (go_at_call 37; (with_reducible refine (HI.out _).mono ?_); rintro e w' ⟨rfl, rfl⟩) | (go_at_call 38; (with_reducible refine (HA.out _).mono ?_); rintro e w' ⟨rfl, rfl⟩) | (go_at_call 47; (with_reducible refine (HL.out _ bel).mono ?_); rintro e w' ⟨rfl, j, rfl⟩) | (go_at_call 49; (with_reducible refine (HW.out _ bel).mono ?_); rintro e w' ⟨rfl, j, rfl⟩) | (go_at_call 48; (with_reducible refine (HQ.out _).mono ?_); rintro e w' ⟨rfl, j, rfl⟩))
    all_goals go_ret
    all_goals exact ⟨rfl, Below.junk bel⟩
  obtain rfl : R = false := by rw [HR0]; unfold spQ; simp [hk1, hk2, hk3, hk4, hk5, hk6, hk7, hk8]
  clear HR0
  have hk1b : (kd == 1) = false := by simp [hk1]
  have hk2b : (kd == 2) = false := by simp [hk2]
  have hk3b : (kd == 3) = false := by simp [hk3]
  have hk4b : (kd == 4) = false := by simp [hk4]
  have hk5b : (kd == 5) = false := by simp [hk5]
  have hk6b : (kd == 6) = false := by simp [hk6]
  have hk7b : (kd == 7) = false := by simp [hk7]
  have hk8b : (kd == 8) = false := by simp [hk8]
  go_enter Tryz.func36, Tryz.ntmps36
  go_wp2_with fail
  go_ret
  exact ⟨rfl, Below.junk bel⟩
end Go.Proofs.YtmlbomblbdbikaaGreatDoor
