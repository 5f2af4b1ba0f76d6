/-
  Records: which may be, both roads.
-/
import Derived.Test.YthbflllflnnipaaGreatDoorRec2
namespace Go.Proofs.YthbflllflnnipaaGreatDoor
set_option linter.unusedSimpArgs false
set_option linter.unusedVariables false
set_option linter.unusedSectionVars false
open Go.ChangeShapes Go.WideShapes Go.ChangeAt Go.RowKit Go.Deep Go.Shelf

abbrev RecT : TypeId := 44
theorem rec_fields : Tryz.prog.underlying RecT = some (.struct (Tryz.prog.fieldsOf RecT)) := by kernel_rfl
theorem rec_plain : Tryz.prog.stoodInHeld RecT = false := by kernel_rfl
def recEq (a1 a2 a3 a4 a5 a6 b1 b2 b3 b4 b5 b6 : Int) : Bool := decide ((⟨a1, a2, a3, a4, a5, a6⟩ : Rec) = ⟨b1, b2, b3, b4, b5, b6⟩)
set_option maxRecDepth 100000 in
theorem rec_eql (a1 a2 a3 a4 a5 a6 b1 b2 b3 b4 b5 b6 : Int) (w : World) :
    (binOp .eql RecT (.agg #[.int .i64 a1, .int .i64 a2, .int .i64 a3, .int .i64 a4, .int .i64 a5, .int .i64 a6]) (.agg #[.int .i64 b1, .int .i64 b2, .int .i64 b3, .int .i64 b4, .int .i64 b5, .int .i64 b6])).run Tryz.prog w =
      .ok (.bool (recEq a1 a2 a3 a4 a5 a6 b1 b2 b3 b4 b5 b6)) w := by
  have u3 := Tryz.underlying3
  have ag := Tryz.isAgg3
  have z3 := Tryz.sizeOf3
  rw [run_eql_struct, show (10000 : Nat) = 9999 + 1 from rfl, run_equalIn_agg w 9999 RecT _ _ rec_fields rec_plain]
  simp only [Program.fieldsOf, Tryz.underlying44]
  go_simp
  unfold recEq
  repeat' split
  all_goals simp_all
set_option maxRecDepth 100000 in
theorem rec_neq (a1 a2 a3 a4 a5 a6 b1 b2 b3 b4 b5 b6 : Int) (w : World) :
    (binOp .neq RecT (.agg #[.int .i64 a1, .int .i64 a2, .int .i64 a3, .int .i64 a4, .int .i64 a5, .int .i64 a6]) (.agg #[.int .i64 b1, .int .i64 b2, .int .i64 b3, .int .i64 b4, .int .i64 b5, .int .i64 b6])).run Tryz.prog w =
      .ok (.bool (!recEq a1 a2 a3 a4 a5 a6 b1 b2 b3 b4 b5 b6)) w := by
  have u3 := Tryz.underlying3
  have ag := Tryz.isAgg3
  have z3 := Tryz.sizeOf3
  rw [run_neq_struct, show (10000 : Nat) = 9999 + 1 from rfl, run_equalIn_agg w 9999 RecT _ _ rec_fields rec_plain]
  simp only [Program.fieldsOf, Tryz.underlying44]
  go_simp
  unfold recEq
  repeat' split
  all_goals simp_all

theorem recR_fr {fr ty fl st ln kd : Int} (h : ¬ (fr = 0 ∨ fr = 1)) : recR ⟨fr, ty, fl, st, ln, kd⟩ = false := by
  cases hr : recR ⟨fr, ty, fl, st, ln, kd⟩ with
  | false => rfl
  | true => exact absurd (recR_ok hr).fr h
theorem recR_kd {fr ty fl st ln kd : Int} (h : ¬ (1 ≤ kd ∧ kd ≤ 4)) : recR ⟨fr, ty, fl, st, ln, kd⟩ = false := by
  cases hr : recR ⟨fr, ty, fl, st, ln, kd⟩ with
  | false => rfl
  | true => exact absurd (recR_ok hr).kd h
theorem recR_pre {fr fl st ln kd : Int} (hf : fr = 0 ∨ fr = 1) (hk : 1 ≤ kd ∧ kd ≤ 4) : recR ⟨fr, -1, fl, st, ln, kd⟩ = recEq fr (-1) fl st ln kd 0 (-1) 0 0 24 kd := by
  have h1 : inB (kd - 1) 3 = true := inB_iff.2 (by omega)
  unfold recR recEq
  simp only [h1, if_true, Rec.mk.injEq]
  rcases hf with rfl | rfl <;> simp
theorem recR_head {fr ty fl st ln kd : Int} (hf : fr = 0 ∨ fr = 1) (hk : 1 ≤ kd ∧ kd ≤ 4) (ht : ¬ ty = -1) : recR ⟨fr, ty, fl, st, ln, kd⟩ = headR ln ty fl st := by
  have h1 : inB (kd - 1) 3 = true := inB_iff.2 (by omega)
  unfold recR
  simp only [h1, if_neg ht]
  rcases hf with rfl | rfl <;> simp
theorem kindF_no {n : Int} (h : ¬ (1 ≤ n ∧ n ≤ 4)) : kindF n = [] := by unfold kindF; rw [if_neg (by omega), if_neg (by omega), if_neg (by omega), if_neg (by omega)]
theorem sideF_no {n : Int} (h : ¬ (n = 0 ∨ n = 1)) : sideF n = [] := by unfold sideF; rw [if_neg (by omega), if_neg (by omega)]
theorem okW_ne {w : List UInt8} (h : okW w = true) : (w == []) = false ∧ w.isEmpty = false := by
  have := (okW_free h).2
  cases w with
  | nil => exact absurd rfl this
  | cons _ _ => exact ⟨rfl, rfl⟩

set_option maxHeartbeats 4000000 in
set_option maxRecDepth 100000 in
theorem record_Right (fr ty fl st ln kd : Int) (w : World) :
    Calls Tryz.prog 29 #[.agg #[.int .i64 fr, .int .i64 ty, .int .i64 fl, .int .i64 st, .int .i64 ln, .int .i64 kd]] w fun e w' => e = .returned (.bool (recR ⟨fr, ty, fl, st, ln, kd⟩)) ∧ ∃ j, w' = w.more j := by
  have HS : Hid (∀ W, Calls Tryz.prog 63 #[.int .i64 fr] W fun e w' => e = .returned (bstr (sideF fr)) ∧ W = w') := record_Side fr
  have HK : Hid (∀ W, Calls Tryz.prog 22 #[.int .i64 kd] W fun e w' => e = .returned (bstr (kindF kd)) ∧ W = w') := record_Kind kd
  by_cases hf : fr = 0 ∨ fr = 1
  · obtain ⟨s1, s2⟩ := okW_ne (sideF_ok hf)
    have s3 : (!(sideF fr).isEmpty) = true := by rw [s2]; rfl
    by_cases hk : 1 ≤ kd ∧ kd ≤ 4
    · obtain ⟨k1, k2⟩ := okW_ne (kindF_ok hk)
      have k3 : (!(kindF kd).isEmpty) = true := by rw [k2]; rfl
      generalize sideF fr = S at HS s1 s2 s3
      generalize kindF kd = K at HK k1 k2 k3
      cases ht : (ty == -1)
      · have ht' : ¬ ty = -1 := by simpa using ht
        have HH : Hid (∀ W, Calls Tryz.prog 72 #[.agg #[.int .i64 ln, .int .i64 ty, .int .i64 fl, .int .i64 st, .bool false]] W fun e w' => e = .returned (.bool (headR ln ty fl st)) ∧ ∃ j, w' = W.more j) := head_Right ln ty fl st false
        rw [recR_head hf hk ht']
        generalize headR ln ty fl st = R at HH ⊢
        clear hf hk ht'
        go_enter Tryz.func29, Tryz.ntmps29
        go_wp2_with (first
          | (go_at_call 63; (with_reducible refine (HS.out _).mono ?_); rintro e w' ⟨rfl, rfl⟩)
          | (go_at_call 22; (with_reducible refine (HK.out _).mono ?_); rintro e w' ⟨rfl, rfl⟩)
          | (go_at_call 72; (with_reducible refine (HH.out _).mono ?_); rintro e w' ⟨rfl, j, rfl⟩))
        go_ret
        exact ⟨rfl, Below.junk (by repeat (first | (with_reducible exact Below.refl _ _) | (with_reducible refine Below.allocS ?_ _) | (with_reducible refine Below.moreS ?_ _) | (with_reducible refine Below.drew ?_) | (with_reducible refine below_drewN ?_ _)))⟩
      · obtain rfl : ty = -1 := by simpa using ht
        have HQ := fun W => rec_eql fr (-1) fl st ln kd 0 (-1) 0 0 24 kd W
        rw [recR_pre hf hk]
        generalize recEq fr (-1) fl st ln kd 0 (-1) 0 0 24 kd = R at HQ ⊢
        clear hf hk ht
        go_enter Tryz.func29, Tryz.ntmps29
        go_wp2_with (first
          | (go_at_call 63; (with_reducible refine (HS.out _).mono ?_); rintro e w' ⟨rfl, rfl⟩)
          | (go_at_call 22; (with_reducible refine (HK.out _).mono ?_); rintro e w' ⟨rfl, rfl⟩))
        go_ret
        exact ⟨rfl, Below.junk (by repeat (first | (with_reducible exact Below.refl _ _) | (with_reducible refine Below.allocS ?_ _) | (with_reducible refine Below.moreS ?_ _) | (with_reducible refine Below.drew ?_) | (with_reducible refine below_drewN ?_ _)))⟩
    · rw [recR_kd hk]
      rw [kindF_no hk] at HK
      generalize sideF fr = S at HS s1 s2 s3
      clear hf hk
      go_enter Tryz.func29, Tryz.ntmps29
      go_wp2_with (first
        | (go_at_call 63; (with_reducible refine (HS.out _).mono ?_); rintro e w' ⟨rfl, rfl⟩)
        | (go_at_call 22; (with_reducible refine (HK.out _).mono ?_); rintro e w' ⟨rfl, rfl⟩))
      go_ret
      exact ⟨rfl, Below.junk (by repeat (first | (with_reducible exact Below.refl _ _) | (with_reducible refine Below.allocS ?_ _) | (with_reducible refine Below.moreS ?_ _) | (with_reducible refine Below.drew ?_) | (with_reducible refine below_drewN ?_ _)))⟩
  · rw [recR_fr hf]
    rw [sideF_no hf] at HS
    clear hf
    go_enter Tryz.func29, Tryz.ntmps29
    go_wp2_with (first
      | (go_at_call 63; (with_reducible refine (HS.out _).mono ?_); rintro e w' ⟨rfl, rfl⟩)
      | (go_at_call 22; (with_reducible refine (HK.out _).mono ?_); rintro e w' ⟨rfl, rfl⟩))
    go_ret
    exact ⟨rfl, Below.junk (by repeat (first | (with_reducible exact Below.refl _ _) | (with_reducible refine Below.allocS ?_ _) | (with_reducible refine Below.moreS ?_ _) | (with_reducible refine Below.drew ?_) | (with_reducible refine below_drewN ?_ _)))⟩

theorem inB_16 (n : Int) : inB n 16777215 = (decide (0 ≤ n) && decide (n < 16777216)) := by unfold inB; congr 1; simp; omega
theorem inB_8 (n : Int) : inB n 255 = (decide (0 ≤ n) && decide (n < 256)) := by unfold inB; congr 1; simp; omega
theorem inB_31 (n : Int) : inB n 2147483647 = (decide (0 ≤ n) && decide (n < 2147483648)) := by unfold inB; congr 1; simp; omega
set_option maxHeartbeats 4000000 in
set_option maxRecDepth 100000 in
theorem ref07_Right (ln ty fl st : Int) (rs : Bool) (w : World) : Calls Tryz.prog 75 #[.agg #[.int .i64 ln, .int .i64 ty, .int .i64 fl, .int .i64 st, .bool rs]] w fun e w' => e = .returned (.bool (headR ln ty fl st)) ∧ ∃ j, w' = w.more j := by
  have HR : Hid (headR ln ty fl st = (decide (0 ≤ ln) && decide (ln < 16777216) && (decide (0 ≤ ty) && decide (ty < 256) && (decide (0 ≤ fl) && decide (fl < 256) && (decide (0 ≤ st) && decide (st < 2147483648)))))) := by show _ = _; unfold headR; rw [inB_16, inB_8, inB_8, inB_31]
  generalize headR ln ty fl st = R at HR ⊢
  by_cases c1 : 0 ≤ ln
  · by_cases c2 : ln < 16777216
    · by_cases c3 : 0 ≤ ty
      · by_cases c4 : ty < 256
        · by_cases c5 : 0 ≤ fl
          · by_cases c6 : fl < 256
            · by_cases c7 : 0 ≤ st
              · by_cases c8 : st < 2147483648
                all_goals
                  go_enter Tryz.func75, Tryz.ntmps75
                  go_wp2_with fail
                  go_ret
                  exact ⟨by rw [HR.out]; simp [c1, c2, c3, c4, c5, c6, c7, c8] <;> (intros; omega), Below.junk (by repeat (first | (with_reducible exact Below.refl _ _) | (with_reducible refine Below.allocS ?_ _) | (with_reducible refine Below.moreS ?_ _) | (with_reducible refine Below.drew ?_) | (with_reducible refine below_drewN ?_ _)))⟩
              · go_enter Tryz.func75, Tryz.ntmps75
                go_wp2_with fail
                go_ret
                exact ⟨by rw [HR.out]; simp [c1, c2, c3, c4, c5, c6, c7] <;> (intros; omega), Below.junk (by repeat (first | (with_reducible exact Below.refl _ _) | (with_reducible refine Below.allocS ?_ _) | (with_reducible refine Below.moreS ?_ _) | (with_reducible refine Below.drew ?_) | (with_reducible refine below_drewN ?_ _)))⟩
            · go_enter Tryz.func75, Tryz.ntmps75
              go_wp2_with fail
              go_ret
              exact ⟨by rw [HR.out]; simp [c1, c2, c3, c4, c5, c6] <;> (intros; omega), Below.junk (by repeat (first | (with_reducible exact Below.refl _ _) | (with_reducible refine Below.allocS ?_ _) | (with_reducible refine Below.moreS ?_ _) | (with_reducible refine Below.drew ?_) | (with_reducible refine below_drewN ?_ _)))⟩
          · go_enter Tryz.func75, Tryz.ntmps75
            go_wp2_with fail
            go_ret
            exact ⟨by rw [HR.out]; simp [c1, c2, c3, c4, c5] <;> (intros; omega), Below.junk (by repeat (first | (with_reducible exact Below.refl _ _) | (with_reducible refine Below.allocS ?_ _) | (with_reducible refine Below.moreS ?_ _) | (with_reducible refine Below.drew ?_) | (with_reducible refine below_drewN ?_ _)))⟩
        · go_enter Tryz.func75, Tryz.ntmps75
          go_wp2_with fail
          go_ret
          exact ⟨by rw [HR.out]; simp [c1, c2, c3, c4] <;> (intros; omega), Below.junk (by repeat (first | (with_reducible exact Below.refl _ _) | (with_reducible refine Below.allocS ?_ _) | (with_reducible refine Below.moreS ?_ _) | (with_reducible refine Below.drew ?_) | (with_reducible refine below_drewN ?_ _)))⟩
      · go_enter Tryz.func75, Tryz.ntmps75
        go_wp2_with fail
        go_ret
        exact ⟨by rw [HR.out]; simp [c1, c2, c3] <;> (intros; omega), Below.junk (by repeat (first | (with_reducible exact Below.refl _ _) | (with_reducible refine Below.allocS ?_ _) | (with_reducible refine Below.moreS ?_ _) | (with_reducible refine Below.drew ?_) | (with_reducible refine below_drewN ?_ _)))⟩
    · go_enter Tryz.func75, Tryz.ntmps75
      go_wp2_with fail
      go_ret
      exact ⟨by rw [HR.out]; simp [c1, c2] <;> (intros; omega), Below.junk (by repeat (first | (with_reducible exact Below.refl _ _) | (with_reducible refine Below.allocS ?_ _) | (with_reducible refine Below.moreS ?_ _) | (with_reducible refine Below.drew ?_) | (with_reducible refine below_drewN ?_ _)))⟩
  · go_enter Tryz.func75, Tryz.ntmps75
    go_wp2_with fail
    go_ret
    exact ⟨by rw [HR.out]; simp [c1] <;> (intros; omega), Below.junk (by repeat (first | (with_reducible exact Below.refl _ _) | (with_reducible refine Below.allocS ?_ _) | (with_reducible refine Below.moreS ?_ _) | (with_reducible refine Below.drew ?_) | (with_reducible refine below_drewN ?_ _)))⟩

set_option maxHeartbeats 4000000 in
set_option maxRecDepth 100000 in
theorem ref41_Right (fr ty fl st ln kd : Int) (w : World) :
    Calls Tryz.prog 33 #[.agg #[.int .i64 fr, .int .i64 ty, .int .i64 fl, .int .i64 st, .int .i64 ln, .int .i64 kd]] w fun e w' => e = .returned (.bool (recR ⟨fr, ty, fl, st, ln, kd⟩)) ∧ ∃ j, w' = w.more j := by
  by_cases hf : fr = 0 ∨ fr = 1
  · by_cases k1 : kd < 1
    · rw [recR_kd (by omega)]
      rcases hf with rfl | rfl
      all_goals
        go_enter Tryz.func33, Tryz.ntmps33
        go_wp2_with fail
        go_ret
        exact ⟨rfl, Below.junk (by repeat (first | (with_reducible exact Below.refl _ _) | (with_reducible refine Below.allocS ?_ _) | (with_reducible refine Below.moreS ?_ _) | (with_reducible refine Below.drew ?_) | (with_reducible refine below_drewN ?_ _)))⟩
    by_cases k4 : 4 < kd
    · rw [recR_kd (by omega)]
      rcases hf with rfl | rfl
      all_goals
        go_enter Tryz.func33, Tryz.ntmps33
        go_wp2_with fail
        go_ret
        exact ⟨rfl, Below.junk (by repeat (first | (with_reducible exact Below.refl _ _) | (with_reducible refine Below.allocS ?_ _) | (with_reducible refine Below.moreS ?_ _) | (with_reducible refine Below.drew ?_) | (with_reducible refine below_drewN ?_ _)))⟩
    cases ht : (ty == -1)
    · have ht' : ¬ ty = -1 := by simpa using ht
      have HH : Hid (∀ W, Calls Tryz.prog 75 #[.agg #[.int .i64 ln, .int .i64 ty, .int .i64 fl, .int .i64 st, .bool false]] W fun e w' => e = .returned (.bool (headR ln ty fl st)) ∧ ∃ j, w' = W.more j) := ref07_Right ln ty fl st false
      rw [recR_head hf (by omega) ht']
      generalize headR ln ty fl st = R at HH ⊢
      clear ht'
      rcases hf with rfl | rfl
      all_goals
        go_enter Tryz.func33, Tryz.ntmps33
        go_wp2_with (go_at_call 75; (with_reducible refine (HH.out _).mono ?_); rintro e w' ⟨rfl, j, rfl⟩)
        go_ret
        exact ⟨rfl, Below.junk (by repeat (first | (with_reducible exact Below.refl _ _) | (with_reducible refine Below.allocS ?_ _) | (with_reducible refine Below.moreS ?_ _) | (with_reducible refine Below.drew ?_) | (with_reducible refine below_drewN ?_ _)))⟩
    · obtain rfl : ty = -1 := by simpa using ht
      have HR : Hid (recR ⟨fr, -1, fl, st, ln, kd⟩ = (decide (fr = 0) && (decide (fl = 0) && (decide (st = 0) && decide (ln = 24))))) := by
        show _ = _
        have h1 : inB (kd - 1) 3 = true := inB_iff.2 (by omega)
        unfold recR
        simp only [h1, if_true]
        rcases hf with rfl | rfl <;> simp
      generalize recR ⟨fr, -1, fl, st, ln, kd⟩ = R at HR ⊢
      clear ht
      rcases hf with rfl | rfl
      · cases c1 : (fl == 0) <;> cases c2 : (st == 0) <;> cases c3 : (ln == 24)
        all_goals
          have hR : R = ((fl == 0) && ((st == 0) && (ln == 24))) := by
            rw [HR.out]; simp only [decide_true, Bool.true_and]
            rfl
          rw [c1, c2, c3] at hR
          subst hR
          clear HR
          go_enter Tryz.func33, Tryz.ntmps33
          go_wp2_with fail
          go_ret
          exact ⟨rfl, Below.junk (by repeat (first | (with_reducible exact Below.refl _ _) | (with_reducible refine Below.allocS ?_ _) | (with_reducible refine Below.moreS ?_ _) | (with_reducible refine Below.drew ?_) | (with_reducible refine below_drewN ?_ _)))⟩
      · have hR : R = false := by rw [HR.out]; simp
        subst hR
        clear HR
        go_enter Tryz.func33, Tryz.ntmps33
        go_wp2_with fail
        go_ret
        exact ⟨rfl, Below.junk (by repeat (first | (with_reducible exact Below.refl _ _) | (with_reducible refine Below.allocS ?_ _) | (with_reducible refine Below.moreS ?_ _) | (with_reducible refine Below.drew ?_) | (with_reducible refine below_drewN ?_ _)))⟩
  · rw [recR_fr hf]
    have f0 : (fr == 0) = false := by rw [beq_eq_false_iff_ne]; omega
    have f1 : (fr == 1) = false := by rw [beq_eq_false_iff_ne]; omega
    have f2 : (fr != 0) = true := by unfold bne; rw [f0]; rfl
    have f3 : (fr != 1) = true := by unfold bne; rw [f1]; rfl
    clear hf
    go_enter Tryz.func33, Tryz.ntmps33
    go_wp2_with fail
    go_ret
    exact ⟨rfl, Below.junk (by repeat (first | (with_reducible exact Below.refl _ _) | (with_reducible refine Below.allocS ?_ _) | (with_reducible refine Below.moreS ?_ _) | (with_reducible refine Below.drew ?_) | (with_reducible refine below_drewN ?_ _)))⟩
end Go.Proofs.YthbflllflnnipaaGreatDoor
