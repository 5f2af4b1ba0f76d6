/-
  Records: the chapter's example; the laws RecordTexts, RecordReads.
-/
import Derived.Test.YtjdgkkmhlbjdnaaDoorRec8
namespace Go.Proofs.YtjdgkkmhlbjdnaaDoor
set_option linter.unusedSimpArgs false
set_option linter.unusedVariables false
set_option linter.unusedSectionVars false
open Go.ChangeShapes Go.WideShapes Go.ChangeAt Go.RowKit Go.Deep Go.Shelf

theorem itoa_5 : Lib.itoa 5 = [53] := by
  rw [show (5 : Int) = ((5 : Nat) : Int) from rfl, itoa_pos, dec_lo (by omega)]
  decide
theorem itoa_1' : Lib.itoa 1 = [49] := by
  rw [show (1 : Int) = ((1 : Nat) : Int) from rfl, itoa_pos, dec_lo (by omega)]
  decide
theorem itoa_12 : Lib.itoa 12 = [49, 50] := by
  rw [show (12 : Int) = ((12 : Nat) : Int) from rfl, itoa_pos, dec_hi (by omega), dec_lo (n := 12 / 10) (by omega)]
  decide
theorem rec_ex : recLine ⟨0, 1, 5, 1, 12, 1⟩ = [102, 114, 97, 109, 101, 32, 99, 108, 105, 101, 110, 116, 32, 72, 69, 65, 68, 69, 82, 83, 32, 53, 32, 49, 32, 49, 50, 32, 97, 108, 108, 111, 119, 101, 100] := by
  unfold recLine recWords
  simp only
  rw [itoa_5, itoa_1', itoa_12]
  decide
theorem side_at (n : Int) (s : List UInt8) (h : sideF n = s) (w : World) : Calls Tryd.prog 20 #[.int .i64 n] w fun e w' => e = .returned (bstr s) ∧ w = w' := h ▸ record_Side n w
theorem kind_at (n : Int) (s : List UInt8) (h : kindF n = s) (w : World) : Calls Tryd.prog 21 #[.int .i64 n] w fun e w' => e = .returned (bstr s) ∧ w = w' := h ▸ record_Kind n w

set_option maxHeartbeats 4000000 in
set_option maxRecDepth 100000 in
theorem law41_alive (w : World) (hE : EnvK0 w) : Calls Tryd.prog 17 #[] w fun e w' => e = .returned (.bool true) ∧ ∃ j, w' = w.more j := by
  have HE := Lib.hid hE
  have HT : Hid (∀ W, EnvK0 W → Calls Tryd.prog 63 #[.agg #[.int .i64 0, .int .i64 1, .int .i64 5, .int .i64 1, .int .i64 12, .int .i64 1]] W fun e w' => e = .returned (.tuple #[bstr [102, 114, 97, 109, 101, 32, 99, 108, 105, 101, 110, 116, 32, 72, 69, 65, 68, 69, 82, 83, 32, 53, 32, 49, 32, 49, 50, 32, 97, 108, 108, 111, 119, 101, 100], .int .i64 0]) ∧ ∃ j, w' = W.more j) := fun W hW => by
    have := record_Text_yes 0 1 5 1 12 1 (by decide) W hW
    rw [rec_ex] at this
    exact this
  have HS1 := Lib.hid (side_at 1 [115, 101, 114, 118, 101, 114] rfl)
  have HS2 := Lib.hid (side_at 2 [] rfl)
  have HK4 := Lib.hid (kind_at 4 [108, 105, 109, 105, 116, 101, 100] rfl)
  have HK0 := Lib.hid (kind_at 0 [] rfl)
  clear hE
  go_enter Tryd.func17, Tryd.ntmps17
  go_wp2_with (first
    | (go_at_call 63; (with_reducible refine (HT.out _ (HE.out.below (by repeat (first | (with_reducible exact Below.refl _ _) | (with_reducible refine Below.allocS ?_ _) | (with_reducible refine Below.moreS ?_ _) | (with_reducible refine Below.drew ?_) | (with_reducible refine below_drewN ?_ _))))).mono ?_); rintro e w' ⟨rfl, j, rfl⟩)
    | (go_at_call 20; (with_reducible refine (HS1.out _).mono ?_); rintro e w' ⟨rfl, rfl⟩)
    | (go_at_call 20; (with_reducible refine (HS2.out _).mono ?_); rintro e w' ⟨rfl, rfl⟩)
    | (go_at_call 21; (with_reducible refine (HK4.out _).mono ?_); rintro e w' ⟨rfl, rfl⟩)
    | (go_at_call 21; (with_reducible refine (HK0.out _).mono ?_); rintro e w' ⟨rfl, rfl⟩))
  go_ret
  exact ⟨rfl, Below.junk (by repeat (first | (with_reducible exact Below.refl _ _) | (with_reducible refine Below.allocS ?_ _) | (with_reducible refine Below.moreS ?_ _) | (with_reducible refine Below.drew ?_) | (with_reducible refine below_drewN ?_ _)))⟩

theorem recEq_self (a b c d e f : Int) : recEq a b c d e f a b c d e f = true := by simp [recEq]
theorem recLine_len {r : Rec} (h : RecOk r) : (recLine r).length ≤ 300 := by
  have hl := recWords_len h
  have hj : ∀ l : List (List UInt8), (∀ x ∈ l, x.length ≤ 30) → (Lib.join l [32]).length ≤ 31 * l.length := by
    intro l hl
    cases l with
    | nil => simp [Lib.join_nil]
    | cons x r =>
      rw [Lib.join_length]
      have : ∀ m : List (List UInt8), (∀ x ∈ m, x.length ≤ 30) → Lib.lens m ≤ 30 * m.length := by
        intro m
        induction m with
        | nil => intro _; simp [Lib.lens]
        | cons y t ih =>
          intro h
          have := ih (fun x hx => h x (by simp [hx]))
          have := h y (by simp)
          simp only [Lib.lens, List.map_cons, List.sum_cons, List.length_cons] at *
          omega
      have := this (x :: r) hl
      simp only [List.length_cons, List.length_nil] at *
      omega
  have := hj _ hl
  unfold recLine
  have h7 : (recWords r).length = 7 := rfl
  omega

set_option maxHeartbeats 8000000 in
set_option maxRecDepth 100000 in
theorem recordTexts_law (fr ty fl st ln kd : Int) (w : World) (hE : EnvK w) :
    Calls Tryd.prog 14 #[.agg #[.int .i64 fr, .int .i64 ty, .int .i64 fl, .int .i64 st, .int .i64 ln, .int .i64 kd]] w fun e w' => e = .returned (.bool true) ∧ ∃ j, w' = w.more j := by
  have HE := Lib.hid hE.k0
  have HEK := Lib.hid hE
  have HA := Lib.hid law41_alive
  clear hE
  cases hr : recR ⟨fr, ty, fl, st, ln, kd⟩
  · have HT : Hid (∀ W, Calls Tryd.prog 63 #[.agg #[.int .i64 fr, .int .i64 ty, .int .i64 fl, .int .i64 st, .int .i64 ln, .int .i64 kd]] W fun e w' => e = .returned (.tuple #[bstr [], .int .i64 1]) ∧ ∃ j, w' = W.more j) := record_Text_no fr ty fl st ln kd hr
    have HR1 : Hid (∀ W, Calls Tryd.prog 64 #[.agg #[.int .i64 fr, .int .i64 ty, .int .i64 fl, .int .i64 st, .int .i64 ln, .int .i64 kd]] W fun e w' => e = .returned (.bool false) ∧ ∃ j, w' = W.more j) := hr ▸ record_Right fr ty fl st ln kd
    have HR2 : Hid (∀ W, Calls Tryd.prog 65 #[.agg #[.int .i64 fr, .int .i64 ty, .int .i64 fl, .int .i64 st, .int .i64 ln, .int .i64 kd]] W fun e w' => e = .returned (.bool false) ∧ ∃ j, w' = W.more j) := hr ▸ ref41_Right fr ty fl st ln kd
    clear hr HEK
    go_enter Tryd.func14, Tryd.ntmps14
    go_wp2_with (go_at_call 63; (with_reducible refine (HT.out _).mono ?_); rintro e w' ⟨rfl, j, rfl⟩)
    refine grown_start (by kernel_rfl) ?_
    refine grown_take 0 (v := ?_) rfl (by kernel_rfl) (by kernel_rfl) (by kernel_rfl) (fun _ _ _ h => h) (Or.inl ⟨by rfl, ?_⟩) ?_
    rotate_left
    · intro wS hSw; have hSc := hSw.cell; clear hSw; go_simp; try with_reducible rfl
    try simp only [Act.put, List.setIfInBounds_toArray, List.set_cons_zero, List.set_cons_succ]
    refine grown_take 2 (v := ?_) rfl (by kernel_rfl) (by kernel_rfl) (by kernel_rfl) (fun _ _ _ h => h) (Or.inl ⟨by rfl, ?_⟩) ?_
    rotate_left
    · intro wS hSw; have hSc := hSw.cell; clear hSw; go_simp; try with_reducible rfl
    try simp only [Act.put, List.setIfInBounds_toArray, List.set_cons_zero, List.set_cons_succ]
    refine grown_step 1 (by kernel_rfl) rfl (fun K hK => ?_)
    go_simp
    go_wp2_with (go_at_call 64; (with_reducible refine (HR1.out _).mono ?_); rintro e w' ⟨rfl, j, rfl⟩)
    refine hK.out _ _ (show Below _ _ _ from (by (try (with_reducible refine grown_undrew ?_)); repeat (first | (with_reducible exact Below.refl _ _) | (with_reducible exact grown_merge _ _ _ _) | (with_reducible exact grown_merge2 _ _ _ _ _ _) | (with_reducible exact grown_merge3 _ _ _ _ _ _ _) | (with_reducible refine Below.allocS ?_ _) | (with_reducible refine Below.moreS ?_ _) | (with_reducible refine Below.drew ?_)))) ?_
    clear hK K
    try simp only [Act.put, List.setIfInBounds_toArray, List.set_cons_zero, List.set_cons_succ]
    refine grown_step 3 (by kernel_rfl) rfl (fun K hK => ?_)
    go_simp
    go_wp2_with (go_at_call 65; (with_reducible refine (HR2.out _).mono ?_); rintro e w' ⟨rfl, j, rfl⟩)
    refine hK.out _ _ (show Below _ _ _ from (by (try (with_reducible refine grown_undrew ?_)); repeat (first | (with_reducible exact Below.refl _ _) | (with_reducible exact grown_merge _ _ _ _) | (with_reducible exact grown_merge2 _ _ _ _ _ _) | (with_reducible exact grown_merge3 _ _ _ _ _ _ _) | (with_reducible refine Below.allocS ?_ _) | (with_reducible refine Below.moreS ?_ _) | (with_reducible refine Below.drew ?_)))) ?_
    clear hK K
    try simp only [Act.put, List.setIfInBounds_toArray, List.set_cons_zero, List.set_cons_succ]
    refine grown_take 4 (v := ?_) rfl (by kernel_rfl) (by kernel_rfl) (by kernel_rfl) (fun _ _ _ h => h) (Or.inl ⟨by rfl, ?_⟩) ?_
    rotate_left
    · intro wS hSw; have hSc := hSw.cell; clear hSw; go_simp; try with_reducible rfl
    try simp only [Act.put, List.setIfInBounds_toArray, List.set_cons_zero, List.set_cons_succ]
    refine wpAnyH_done (by kernel_rfl) ?_ _
    go_wp2_with (first
      | (go_at_call 65; (with_reducible refine (HR2.out _).mono ?_); rintro e w' ⟨rfl, j, rfl⟩)
      | (go_at_call 17; (with_reducible refine (HA.out _ (HE.out.below (by repeat (first | (with_reducible exact Below.refl _ _) | (with_reducible refine Below.allocS ?_ _) | (with_reducible refine Below.moreS ?_ _) | (with_reducible refine Below.drew ?_) | (with_reducible refine below_drewN ?_ _))))).mono ?_); rintro e w' ⟨rfl, j, rfl⟩))
    go_ret
    exact ⟨rfl, Below.junk (by repeat (first | (with_reducible exact Below.refl _ _) | (with_reducible refine Below.allocS ?_ _) | (with_reducible refine Below.moreS ?_ _) | (with_reducible refine Below.drew ?_) | (with_reducible refine below_drewN ?_ _)))⟩
  · have ho := recR_ok hr
    have hll := recLine_len ho
    have HT : Hid (∀ W, EnvK0 W → Calls Tryd.prog 63 #[.agg #[.int .i64 fr, .int .i64 ty, .int .i64 fl, .int .i64 st, .int .i64 ln, .int .i64 kd]] W fun e w' => e = .returned (.tuple #[bstr (recLine ⟨fr, ty, fl, st, ln, kd⟩), .int .i64 0]) ∧ ∃ j, w' = W.more j) := record_Text_yes fr ty fl st ln kd hr
    have HT2 : Hid (∀ W, Calls Tryd.prog 67 #[.agg #[.int .i64 fr, .int .i64 ty, .int .i64 fl, .int .i64 st, .int .i64 ln, .int .i64 kd]] W fun e w' => e = .returned (bstr (recLine ⟨fr, ty, fl, st, ln, kd⟩)) ∧ ∃ j, w' = W.more j) := ref41_Text fr ty fl st ln kd hr
    have HR1 : Hid (∀ W, Calls Tryd.prog 64 #[.agg #[.int .i64 fr, .int .i64 ty, .int .i64 fl, .int .i64 st, .int .i64 ln, .int .i64 kd]] W fun e w' => e = .returned (.bool true) ∧ ∃ j, w' = W.more j) := hr ▸ record_Right fr ty fl st ln kd
    have HR2 : Hid (∀ W, Calls Tryd.prog 65 #[.agg #[.int .i64 fr, .int .i64 ty, .int .i64 fl, .int .i64 st, .int .i64 ln, .int .i64 kd]] W fun e w' => e = .returned (.bool true) ∧ ∃ j, w' = W.more j) := hr ▸ ref41_Right fr ty fl st ln kd
    have HRd : Hid (∀ W, EnvK W → Calls Tryd.prog 66 #[bstr (recLine ⟨fr, ty, fl, st, ln, kd⟩)] W fun e w' => e = .returned (.tuple #[.agg #[.int .i64 fr, .int .i64 ty, .int .i64 fl, .int .i64 st, .int .i64 ln, .int .i64 kd], .bool true]) ∧ ∃ j, w' = W.more j) := fun W hW => by
      have := record_Read (recLine ⟨fr, ty, fl, st, ln, kd⟩) (by omega) W hW
      rw [readRec_line hr] at this
      exact this
    have HQ := fun W => rec_eql fr ty fl st ln kd fr ty fl st ln kd W
    rw [recEq_self] at HQ
    clear hr ho hll
    generalize recLine ⟨fr, ty, fl, st, ln, kd⟩ = L at HT HT2 HRd
    have e1 : (L == L) = true := by simp
    go_enter Tryd.func14, Tryd.ntmps14
    go_wp2_with (go_at_call 63; (with_reducible refine (HT.out _ (HE.out.below (by repeat (first | (with_reducible exact Below.refl _ _) | (with_reducible refine Below.allocS ?_ _) | (with_reducible refine Below.moreS ?_ _) | (with_reducible refine Below.drew ?_) | (with_reducible refine below_drewN ?_ _))))).mono ?_); rintro e w' ⟨rfl, j, rfl⟩)
    refine grown_start (by kernel_rfl) ?_
    refine grown_take 0 (v := ?_) rfl (by kernel_rfl) (by kernel_rfl) (by kernel_rfl) (fun _ _ _ h => h) (Or.inl ⟨by rfl, ?_⟩) ?_
    rotate_left
    · intro wS hSw; have hSc := hSw.cell; clear hSw; go_simp; try with_reducible rfl
    try simp only [Act.put, List.setIfInBounds_toArray, List.set_cons_zero, List.set_cons_succ]
    refine grown_take 2 (v := ?_) rfl (by kernel_rfl) (by kernel_rfl) (by kernel_rfl) (fun _ _ _ h => h) (Or.inl ⟨by rfl, ?_⟩) ?_
    rotate_left
    · intro wS hSw; have hSc := hSw.cell; clear hSw; go_simp; try with_reducible rfl
    try simp only [Act.put, List.setIfInBounds_toArray, List.set_cons_zero, List.set_cons_succ]
    refine grown_step 1 (by kernel_rfl) rfl (fun K hK => ?_)
    go_simp
    go_wp2_with (go_at_call 64; (with_reducible refine (HR1.out _).mono ?_); rintro e w' ⟨rfl, j, rfl⟩)
    refine hK.out _ _ (show Below _ _ _ from (by (try (with_reducible refine grown_undrew ?_)); repeat (first | (with_reducible exact Below.refl _ _) | (with_reducible exact grown_merge _ _ _ _) | (with_reducible exact grown_merge2 _ _ _ _ _ _) | (with_reducible exact grown_merge3 _ _ _ _ _ _ _) | (with_reducible refine Below.allocS ?_ _) | (with_reducible refine Below.moreS ?_ _) | (with_reducible refine Below.drew ?_)))) ?_
    clear hK K
    try simp only [Act.put, List.setIfInBounds_toArray, List.set_cons_zero, List.set_cons_succ]
    refine grown_step 3 (by kernel_rfl) rfl (fun K hK => ?_)
    go_simp
    go_wp2_with (go_at_call 65; (with_reducible refine (HR2.out _).mono ?_); rintro e w' ⟨rfl, j, rfl⟩)
    refine hK.out _ _ (show Below _ _ _ from (by (try (with_reducible refine grown_undrew ?_)); repeat (first | (with_reducible exact Below.refl _ _) | (with_reducible exact grown_merge _ _ _ _) | (with_reducible exact grown_merge2 _ _ _ _ _ _) | (with_reducible exact grown_merge3 _ _ _ _ _ _ _) | (with_reducible refine Below.allocS ?_ _) | (with_reducible refine Below.moreS ?_ _) | (with_reducible refine Below.drew ?_)))) ?_
    clear hK K
    try simp only [Act.put, List.setIfInBounds_toArray, List.set_cons_zero, List.set_cons_succ]
    refine grown_take 4 (v := ?_) rfl (by kernel_rfl) (by kernel_rfl) (by kernel_rfl) (fun _ _ _ h => h) (Or.inl ⟨by rfl, ?_⟩) ?_
    rotate_left
    · intro wS hSw; have hSc := hSw.cell; clear hSw; go_simp; try with_reducible rfl
    try simp only [Act.put, List.setIfInBounds_toArray, List.set_cons_zero, List.set_cons_succ]
    refine wpAnyH_done (by kernel_rfl) ?_ _
    go_wp2_with (first
      | (go_at_call 65; (with_reducible refine (HR2.out _).mono ?_); rintro e w' ⟨rfl, j, rfl⟩)
      | (go_at_call 66; (with_reducible refine (HRd.out _ (HEK.out.below (by repeat (first | (with_reducible exact Below.refl _ _) | (with_reducible refine Below.allocS ?_ _) | (with_reducible refine Below.moreS ?_ _) | (with_reducible refine Below.drew ?_) | (with_reducible refine below_drewN ?_ _))))).mono ?_); rintro e w' ⟨rfl, j, rfl⟩)
      | (go_at_call 67; (with_reducible refine (HT2.out _).mono ?_); rintro e w' ⟨rfl, j, rfl⟩)
      | (go_at_call 17; (with_reducible refine (HA.out _ (HE.out.below (by repeat (first | (with_reducible exact Below.refl _ _) | (with_reducible refine Below.allocS ?_ _) | (with_reducible refine Below.moreS ?_ _) | (with_reducible refine Below.drew ?_) | (with_reducible refine below_drewN ?_ _))))).mono ?_); rintro e w' ⟨rfl, j, rfl⟩))
    go_ret
    exact ⟨rfl, Below.junk (by repeat (first | (with_reducible exact Below.refl _ _) | (with_reducible refine Below.allocS ?_ _) | (with_reducible refine Below.moreS ?_ _) | (with_reducible refine Below.drew ?_) | (with_reducible refine below_drewN ?_ _)))⟩

set_option maxHeartbeats 8000000 in
set_option maxRecDepth 100000 in
theorem recordReads_law (s : List UInt8) (w : World) (hE : EnvK w) (hms : s.length ≤ maxLen) :
    Calls Tryd.prog 15 #[bstr s] w fun e w' => e = .returned (.bool true) ∧ ∃ j, w' = w.more j := by
  unfold maxLen at hms
  have HE := Lib.hid hE.k0
  have HEK := Lib.hid hE
  have HA := Lib.hid law41_alive
  clear hE
  by_cases h1 : 200 < (s.length : Int)
  · go_enter Tryd.func15, Tryd.ntmps15
    go_wp2_with (go_at_call 17; (with_reducible refine (HA.out _ (HE.out.below (by repeat (first | (with_reducible exact Below.refl _ _) | (with_reducible refine Below.allocS ?_ _) | (with_reducible refine Below.moreS ?_ _) | (with_reducible refine Below.drew ?_) | (with_reducible refine below_drewN ?_ _))))).mono ?_); rintro e w' ⟨rfl, j, rfl⟩)
    go_ret
    exact ⟨rfl, Below.junk (by repeat (first | (with_reducible exact Below.refl _ _) | (with_reducible refine Below.allocS ?_ _) | (with_reducible refine Below.moreS ?_ _) | (with_reducible refine Below.drew ?_) | (with_reducible refine below_drewN ?_ _)))⟩
  obtain ⟨⟨⟨fr, ty, fl, st, ln, kd⟩, is⟩, hR⟩ : ∃ p, readRecF s = p := ⟨_, rfl⟩
  have HR1 : Hid (∀ W, EnvK W → Calls Tryd.prog 66 #[bstr s] W fun e w' => e = .returned (.tuple #[.agg #[.int .i64 fr, .int .i64 ty, .int .i64 fl, .int .i64 st, .int .i64 ln, .int .i64 kd], .bool is]) ∧ ∃ j, w' = W.more j) := fun W hW => by
    have := record_Read s (by omega) W hW
    rw [hR] at this
    exact this
  have HR2 : Hid (∀ W, Calls Tryd.prog 68 #[bstr s] W fun e w' => e = .returned (.tuple #[.agg #[.int .i64 fr, .int .i64 ty, .int .i64 fl, .int .i64 st, .int .i64 ln, .int .i64 kd], .bool is]) ∧ ∃ j, w' = W.more j) := fun W => by
    have := ref41_Read s (by omega) W
    rw [← readRec_eq, hR] at this
    exact this
  have HQ := fun W => rec_neq fr ty fl st ln kd fr ty fl st ln kd W
  rw [recEq_self] at HQ
  simp only [Bool.not_true] at HQ
  have e1 : (s == s) = true := by simp
  cases is
  · have hz : (⟨fr, ty, fl, st, ln, kd⟩ : Rec) = zRec := by
      have := readRec_no (line := s) (by rw [hR])
      rw [hR] at this
      exact (Prod.mk.inj this).1
    have hr : recR ⟨fr, ty, fl, st, ln, kd⟩ = false := by rw [hz]; decide
    have HT : Hid (∀ W, Calls Tryd.prog 63 #[.agg #[.int .i64 fr, .int .i64 ty, .int .i64 fl, .int .i64 st, .int .i64 ln, .int .i64 kd]] W fun e w' => e = .returned (.tuple #[bstr [], .int .i64 1]) ∧ ∃ j, w' = W.more j) := record_Text_no fr ty fl st ln kd hr
    clear hr hz hR
    go_enter Tryd.func15, Tryd.ntmps15
    go_wp2_with (first
      | (go_at_call 66; (with_reducible refine (HR1.out _ (HEK.out.below (by repeat (first | (with_reducible exact Below.refl _ _) | (with_reducible refine Below.allocS ?_ _) | (with_reducible refine Below.moreS ?_ _) | (with_reducible refine Below.drew ?_) | (with_reducible refine below_drewN ?_ _))))).mono ?_); rintro e w' ⟨rfl, j, rfl⟩)
      | (go_at_call 68; (with_reducible refine (HR2.out _).mono ?_); rintro e w' ⟨rfl, j, rfl⟩)
      | (go_at_call 63; (with_reducible refine (HT.out _).mono ?_); rintro e w' ⟨rfl, j, rfl⟩)
      | (go_at_call 17; (with_reducible refine (HA.out _ (HE.out.below (by repeat (first | (with_reducible exact Below.refl _ _) | (with_reducible refine Below.allocS ?_ _) | (with_reducible refine Below.moreS ?_ _) | (with_reducible refine Below.drew ?_) | (with_reducible refine below_drewN ?_ _))))).mono ?_); rintro e w' ⟨rfl, j, rfl⟩))
    go_ret
    exact ⟨rfl, Below.junk (by repeat (first | (with_reducible exact Below.refl _ _) | (with_reducible refine Below.allocS ?_ _) | (with_reducible refine Below.moreS ?_ _) | (with_reducible refine Below.drew ?_) | (with_reducible refine below_drewN ?_ _)))⟩
  · obtain ⟨g1, g2⟩ := readRec_yes (line := s) (by rw [hR])
    rw [hR] at g1 g2
    have HT : Hid (∀ W, EnvK0 W → Calls Tryd.prog 63 #[.agg #[.int .i64 fr, .int .i64 ty, .int .i64 fl, .int .i64 st, .int .i64 ln, .int .i64 kd]] W fun e w' => e = .returned (.tuple #[bstr s, .int .i64 0]) ∧ ∃ j, w' = W.more j) := fun W hW => by
      have := record_Text_yes fr ty fl st ln kd g1 W hW
      rw [g2] at this
      exact this
    clear g1 g2 hR
    go_enter Tryd.func15, Tryd.ntmps15
    go_wp2_with (first
      | (go_at_call 66; (with_reducible refine (HR1.out _ (HEK.out.below (by repeat (first | (with_reducible exact Below.refl _ _) | (with_reducible refine Below.allocS ?_ _) | (with_reducible refine Below.moreS ?_ _) | (with_reducible refine Below.drew ?_) | (with_reducible refine below_drewN ?_ _))))).mono ?_); rintro e w' ⟨rfl, j, rfl⟩)
      | (go_at_call 68; (with_reducible refine (HR2.out _).mono ?_); rintro e w' ⟨rfl, j, rfl⟩)
      | (go_at_call 63; (with_reducible refine (HT.out _ (HE.out.below (by repeat (first | (with_reducible exact Below.refl _ _) | (with_reducible refine Below.allocS ?_ _) | (with_reducible refine Below.moreS ?_ _) | (with_reducible refine Below.drew ?_) | (with_reducible refine below_drewN ?_ _))))).mono ?_); rintro e w' ⟨rfl, j, rfl⟩)
      | (go_at_call 17; (with_reducible refine (HA.out _ (HE.out.below (by repeat (first | (with_reducible exact Below.refl _ _) | (with_reducible refine Below.allocS ?_ _) | (with_reducible refine Below.moreS ?_ _) | (with_reducible refine Below.drew ?_) | (with_reducible refine below_drewN ?_ _))))).mono ?_); rintro e w' ⟨rfl, j, rfl⟩))
    go_ret
    exact ⟨rfl, Below.junk (by repeat (first | (with_reducible exact Below.refl _ _) | (with_reducible refine Below.allocS ?_ _) | (with_reducible refine Below.moreS ?_ _) | (with_reducible refine Below.drew ?_) | (with_reducible refine below_drewN ?_ _)))⟩
end Go.Proofs.YtjdgkkmhlbjdnaaDoor
