/-
  Numbers as digits: a text read as a number, the document's road.
-/
import Derived.Test.YthbflllflnnipaaGreatDoorDig2
import Derived.Test.YthbflllflnnipaaGreatDoorDig3
namespace Go.Proofs.YthbflllflnnipaaGreatDoor
set_option linter.unusedSimpArgs false
set_option linter.unusedVariables false
set_option linter.unusedSectionVars false
open Go.ChangeShapes Go.WideShapes Go.ChangeAt Go.RowKit Go.Deep Go.Shelf

theorem ref03_Text (n : Int) (h0 : -9223372036854775808 ≤ n) (h1 : n ≤ 9223372036854775807) (w : World) : RefText n w := by
  rcases Int.lt_or_le n 0 with h | h
  · obtain ⟨m, rfl⟩ : ∃ m : Nat, n = -(m : Int) := ⟨n.natAbs, by omega⟩
    exact text_neg m m (Nat.le_refl _) (by omega) (by omega) w
  · obtain ⟨m, rfl⟩ : ∃ m : Nat, n = (m : Int) := ⟨n.toNat, by omega⟩
    exact text_pos m m (Nat.le_refl _) (by omega) w
theorem readR_long {s : List UInt8} (h : 20 < (s.length : Int)) : readR s = (0, false) := by unfold readR; rw [if_pos (.inl h)]
theorem head45 (c : UInt8) (r : List UInt8) : ((c :: r).head?.map (· == 45) = some true) ↔ ((c.toNat : Int) == 45) = true := by
  simp only [List.head?_cons, Option.map_some, Option.some.injEq, beq_iff_eq, ← UInt8.toNat_inj]
  show c.toNat = 45 ↔ _
  omega
theorem readR_minus {c : UInt8} {r : List UInt8} (h : ¬ 20 < ((c :: r).length : Int)) (hc : ((c.toNat : Int) == 45) = true) :
    readR (c :: r) = if (vlF r).2 = true ∧ Lib.itoa (vlF r).1 = c :: r then ((vlF r).1, true) else (0, false) := by
  unfold readR
  rw [if_neg (by simp only [reduceCtorEq, or_false]; exact h), if_pos ((head45 c r).2 hc)]
  rfl
theorem readR_plus {c : UInt8} {r : List UInt8} (h : ¬ 20 < ((c :: r).length : Int)) (hc : ((c.toNat : Int) == 45) = false) :
    readR (c :: r) = if (vlF (c :: r)).1 = -9223372036854775808 then (0, false) else if (vlF (c :: r)).2 = true ∧ Lib.itoa (-(vlF (c :: r)).1) = c :: r then (-(vlF (c :: r)).1, true) else (0, false) := by
  unfold readR
  rw [if_neg (by simp only [reduceCtorEq, or_false]; exact h), if_neg (fun e => by rw [(head45 c r).1 e] at hc; cases hc)]

set_option maxHeartbeats 4000000 in
set_option maxRecDepth 100000 in
theorem ref03_Read (s : List UInt8) (hm : s.length ≤ 1048576) (w : World) :
    Calls Tryz.prog 93 #[bstr s] w fun e w' => e = .returned (.tuple #[.int .i64 (readR s).1, .bool (readR s).2]) ∧ w = w' := by
  by_cases h1 : 20 < (s.length : Int)
  · rw [readR_long h1]
    go_enter Tryz.func93, Tryz.ntmps93
    go_wp2_with fail
    go_ret2
    exact ⟨rfl, rfl⟩
  cases s with
  | nil =>
    go_enter Tryz.func93, Tryz.ntmps93
    go_wp2_with fail
    go_ret2
    exact ⟨rfl, rfl⟩
  | cons c r =>
    have hr : r.length ≤ 19 := by simp at h1; omega
    have i1 : ¬ 20 < (r.length : Int) + 1 := by omega
    have i2 : ((r.length : Int) + 1 == 0) = false := by rw [beq_eq_false_iff_ne]; omega
    have i3 : (0 : Int) < (r.length : Int) + 1 := by omega
    have i4 : 1 ≤ (r.length : Int) + 1 := by omega
    cases c45 : ((c.toNat : Int) == 45) with
    | true =>
      have HR := Lib.hid (readR_minus h1 c45)
      have HV : Hid (∀ W, Calls Tryz.prog 124 #[bstr r] W fun e w' => e = .returned (.tuple #[.int .i64 (vlF r).1, .bool (vlF r).2]) ∧ W = w') := ref03_value r (by omega)
      obtain ⟨b0, b1⟩ := vlF_bd r
      have HT : Hid (∀ W, Calls Tryz.prog 86 #[.int .i64 (vlF r).1] W fun e w' => e = .returned (bstr (Lib.itoa (vlF r).1)) ∧ W = w') := ref03_Text _ b0 (by omega)
      generalize readR (c :: r) = R at HR ⊢
      generalize vlF r = V at HR HV HT b0 b1
      obtain ⟨n, is⟩ := V
      simp only at HR HV HT b0 b1
      have HQ := Lib.hid (rfl : Lib.itoa n = Lib.itoa n)
      generalize hT : Lib.itoa n = T at HR HT
      clear hT HQ h1 hm
      cases is
      · have hR : R = (0, false) := by rw [HR.out]; simp
        subst hR
        clear HR HT
        go_enter Tryz.func93, Tryz.ntmps93
        go_wp2_with (go_at_call 124; (with_reducible refine (HV.out _).mono ?_); rintro e w' ⟨rfl, rfl⟩)
        go_ret2
        exact ⟨rfl, rfl⟩
      · cases e1 : (T == c :: r)
        · have hR : R = (0, false) := by rw [HR.out, if_neg]; rintro ⟨_, h⟩; rw [h] at e1; simp at e1
          have e2 : (T != c :: r) = true := by unfold bne; rw [e1]; rfl
          subst hR
          clear HR
          go_enter Tryz.func93, Tryz.ntmps93
          go_wp2_with (first
            | (go_at_call 124; (with_reducible refine (HV.out _).mono ?_); rintro e w' ⟨rfl, rfl⟩)
            | (go_at_call 86; (with_reducible refine (HT.out _).mono ?_); rintro e w' ⟨rfl, rfl⟩))
          go_ret2
          exact ⟨rfl, rfl⟩
        · have hR : R = (n, true) := by rw [HR.out, if_pos ⟨rfl, by simpa using e1⟩]
          have e2 : (T != c :: r) = false := by unfold bne; rw [e1]; rfl
          subst hR
          clear HR
          go_enter Tryz.func93, Tryz.ntmps93
          go_wp2_with (first
            | (go_at_call 124; (with_reducible refine (HV.out _).mono ?_); rintro e w' ⟨rfl, rfl⟩)
            | (go_at_call 86; (with_reducible refine (HT.out _).mono ?_); rintro e w' ⟨rfl, rfl⟩))
          go_ret2
          exact ⟨rfl, rfl⟩
    | false =>
      have HR := Lib.hid (readR_plus h1 c45)
      have HV : Hid (∀ W, Calls Tryz.prog 124 #[bstr (c :: r)] W fun e w' => e = .returned (.tuple #[.int .i64 (vlF (c :: r)).1, .bool (vlF (c :: r)).2]) ∧ W = w') := ref03_value (c :: r) hm
      obtain ⟨b0, b1⟩ := vlF_bd (c :: r)
      generalize readR (c :: r) = R at HR ⊢
      generalize vlF (c :: r) = V at HR HV b0 b1
      obtain ⟨n, is⟩ := V
      simp only at HR HV b0 b1
      cases n9 : (n == -9223372036854775808)
      · have n9' : ¬ n = -9223372036854775808 := by simpa using n9
        have HT : Hid (∀ W, Calls Tryz.prog 86 #[.int .i64 (-n)] W fun e w' => e = .returned (bstr (Lib.itoa (-n))) ∧ W = w') := ref03_Text _ (by omega) (by omega)
        have s1 : IntKind.i64.wrap (-n) = -n := IntWalk.i64_in _ (by omega)
        have s2 : wrap64 (-n) = -n := by unfold wrap64; omega
        have HN := Lib.hid n9'
        generalize hT : Lib.itoa (-n) = T at HR HT
        clear hT h1 hm n9'
        cases is
        · have hR : R = (0, false) := by rw [HR.out, if_neg HN.out]; simp
          subst hR
          clear HR HT
          go_enter Tryz.func93, Tryz.ntmps93
          go_wp2_with (go_at_call 124; (with_reducible refine (HV.out _).mono ?_); rintro e w' ⟨rfl, rfl⟩)
          go_ret2
          exact ⟨rfl, rfl⟩
        · cases e1 : (T == c :: r)
          · have hR : R = (0, false) := by rw [HR.out, if_neg HN.out, if_neg]; rintro ⟨_, h⟩; rw [h] at e1; simp at e1
            have e2 : (T != c :: r) = true := by unfold bne; rw [e1]; rfl
            subst hR
            clear HR
            go_enter Tryz.func93, Tryz.ntmps93
            go_wp2_with (first
              | (go_at_call 124; (with_reducible refine (HV.out _).mono ?_); rintro e w' ⟨rfl, rfl⟩)
              | (go_at_call 86; (with_reducible refine (HT.out _).mono ?_); rintro e w' ⟨rfl, rfl⟩))
            go_ret2
            exact ⟨rfl, rfl⟩
          · have hR : R = (-n, true) := by rw [HR.out, if_neg HN.out, if_pos ⟨rfl, by simpa using e1⟩]
            have e2 : (T != c :: r) = false := by unfold bne; rw [e1]; rfl
            subst hR
            clear HR
            go_enter Tryz.func93, Tryz.ntmps93
            go_wp2_with (first
              | (go_at_call 124; (with_reducible refine (HV.out _).mono ?_); rintro e w' ⟨rfl, rfl⟩)
              | (go_at_call 86; (with_reducible refine (HT.out _).mono ?_); rintro e w' ⟨rfl, rfl⟩))
            go_ret2
            exact ⟨rfl, rfl⟩
      · obtain rfl : n = -9223372036854775808 := by simpa using n9
        have hR : R = (0, false) := by rw [HR.out, if_pos rfl]
        subst hR
        clear HR b0 b1 h1 hm n9
        go_enter Tryz.func93, Tryz.ntmps93
        go_wp2_with (go_at_call 124; (with_reducible refine (HV.out _).mono ?_); rintro e w' ⟨rfl, rfl⟩)
        go_ret2
        exact ⟨rfl, rfl⟩
end Go.Proofs.YthbflllflnnipaaGreatDoor
