/-
  Summaries: the walk of one record's counting.
-/
import Derived.Test.YtfgldglelijekaaGreatDoorSum2
namespace Go.Proofs.YtfgldglelijekaaGreatDoor
set_option linter.unusedSimpArgs false
set_option linter.unusedVariables false
set_option linter.unusedSectionVars false
open Go.ChangeShapes Go.WideShapes Go.ChangeAt Go.RowKit Go.Deep Go.Shelf

theorem Blk.rowStep {w : World} {g : Nat} {F : Nat → Int} {sec : Value} (h : Blk w g SmT (rowA F sec)) {j : Nat} (hj : j < 20) (d : Int) : Blk (w.setCell ⟨g, j, none⟩ (.int .i64 (F j + d))) g SmT (rowA (stepA F j d) sec) := h.rowSet hj _
theorem bel_set {g : Nat} (w : World) (j : Nat) (v : Value) : Below g w (w.setCell ⟨g, j, none⟩ v) := (Below.refl g w).setCell (p := ⟨g, j, none⟩) (Nat.le_refl _) _
theorem size_set (w : World) (g j : Nat) (v : Value) : (w.setCell ⟨g, j, none⟩ v).heap.size = w.heap.size := by simp
theorem F_step {F : Nat → Int} {m : Int} (hF : ∀ i, i < 20 → 0 ≤ F i ∧ F i ≤ m) (j : Nat) (d e : Int) (hd : 0 ≤ d ∧ d ≤ e) : ∀ i, i < 20 → 0 ≤ stepA F j d i ∧ stepA F j d i ≤ m + e := fun i hi => by
  have := hF i hi
  rw [stepA_at]
  split <;> omega

set_option maxHeartbeats 16000000 in
set_option maxRecDepth 100000 in
theorem summary_add_in (g : Nat) (F : Nat → Int) (sec : Value) (k : Nat) (hk : k < 2) (ty fl st ln kd : Int) (w : World) (hB : Blk w g SmT (rowA F sec)) (hF : ∀ i, i < 20 → 0 ≤ F i ∧ F i ≤ 1000000000000) :
    Calls Tryz.prog 12 #[.pointer (some ⟨g, 0, none⟩), .agg #[.int .i64 k, .int .i64 ty, .int .i64 fl, .int .i64 st, .int .i64 ln, .int .i64 kd]] w fun e w' => e = .returned (.tuple #[]) ∧ Blk w' g SmT (rowA (fun i => F i + cv i ⟨k, ty, fl, st, ln, kd⟩) sec) ∧ Below g w w' := by
  have d0 := hB.rowGet (show k < 20 by omega)
  have f0 := hB.frozen k
  have hg := hB.lt
  have k0 : (0 : Int) ≤ k := by omega
  have k2 : (k : Int) < 2 := by omega
  have hw1 : IntKind.i64.wrap (F k + 1) = F k + 1 := IntWalk.i64_in _ (by have := hF k (by omega); omega)
  have HB := Lib.hid hB
  have HSZ : Hid (∀ W, Calls Tryz.prog 26 #[.agg #[.int .i64 k, .int .i64 ty, .int .i64 fl, .int .i64 st, .int .i64 ln, .int .i64 kd]] W fun en w' => en = .returned (.int .i64 (szR ⟨k, ty, fl, st, ln, kd⟩)) ∧ ∃ j, w' = W.more j) := summary_size k ty fl st ln kd
  have HKN : Hid (∀ W, Calls Tryz.prog 27 #[.int .i64 ty] W fun e w' => e = .returned (.bool (inB ty 9)) ∧ W = w') := kinds_Known ty
  have HKD : Hid (∀ W, Calls Tryz.prog 21 #[.int .i64 kd] W fun e w' => e = .returned (bstr (kindF kd)) ∧ W = w') := record_Kind kd
  have hz := szR_bd ⟨k, ty, fl, st, ln, kd⟩
  have hF1 := F_step hF k 1 1 (by omega)
  have hF2 := F_step hF1 (2 + k) (szR ⟨k, ty, fl, st, ln, kd⟩) 20000000 (by omega)
  have hF3 := F_step hF2 (4 + tyI ⟨k, ty, fl, st, ln, kd⟩) 1 1 (by omega)
  have hty := tyI_lt ⟨k, ty, fl, st, ln, kd⟩
  have HY : Hid (kdOk ⟨k, ty, fl, st, ln, kd⟩ = true → ∀ q : Nat, kd = (q : Int) → ∀ i, i < 20 → stepA (stepA (stepA (stepA F k 1) (2 + k) (szR ⟨k, ty, fl, st, ln, kd⟩)) (4 + tyI ⟨k, ty, fl, st, ln, kd⟩) 1) (15 + q) 1 i = F i + cv i ⟨k, ty, fl, st, ln, kd⟩) := fun h q hq i hi => step_yes F ⟨k, ty, fl, st, ln, kd⟩ k hk rfl q hq h i hi
  have HN : Hid (kdOk ⟨k, ty, fl, st, ln, kd⟩ = false → ∀ i, i < 20 → stepA (stepA (stepA F k 1) (2 + k) (szR ⟨k, ty, fl, st, ln, kd⟩)) (4 + tyI ⟨k, ty, fl, st, ln, kd⟩) 1 i = F i + cv i ⟨k, ty, fl, st, ln, kd⟩) := fun h i hi => step_no F ⟨k, ty, fl, st, ln, kd⟩ k hk rfl h i hi
  have HT1 : Hid (inB ty 9 = true → ty = ((tyI ⟨k, ty, fl, st, ln, kd⟩ : Nat) : Int) ∧ tyI ⟨k, ty, fl, st, ln, kd⟩ ≤ 9) := fun h => by
    have h2 := inB_iff.1 h
    have e : tyI ⟨k, ty, fl, st, ln, kd⟩ = ty.toNat := by unfold tyI; rw [if_pos h]
    rw [e]
    exact ⟨by omega, by omega⟩
  have HT2 : Hid (inB ty 9 = false → tyI ⟨k, ty, fl, st, ln, kd⟩ = 10) := fun h => by
    unfold tyI
    rw [if_neg (by show ¬ inB ty 9 = true; rw [h]; simp)]
  have HK1 : Hid (kdOk ⟨k, ty, fl, st, ln, kd⟩ = true → (kindF kd).isEmpty = false ∧ ∃ q : Nat, kd = (q : Int) ∧ 1 ≤ q ∧ q ≤ 4) := fun h => by
    obtain ⟨q, h1, h2, h3⟩ := kd_pos h
    have h1 : kd = (q : Int) := h1
    refine ⟨?_, q, h1, h2, h3⟩
    have := kindF_ok (n := kd) (by omega)
    cases hk : kindF kd with
    | nil => rw [hk] at this; simp [okW] at this
    | cons => rfl
  have HK2 : Hid (kdOk ⟨k, ty, fl, st, ln, kd⟩ = false → (kindF kd).isEmpty = true) := fun h => by
    have h : inB (kd - 1) 3 = false := h
    have hne : ¬ (1 ≤ kd ∧ kd ≤ 4) := fun hc => by rw [inB_iff.2 (by omega)] at h; cases h
    unfold kindF
    rw [if_neg (by omega), if_neg (by omega), if_neg (by omega), if_neg (by omega)]; rfl
  generalize hQ : (fun i => F i + cv i ⟨k, ty, fl, st, ln, kd⟩) = G
  have hQ2 : ∀ i, F i + cv i ⟨k, ty, fl, st, ln, kd⟩ = G i := fun i => by rw [← hQ]
  simp only [hQ2] at HY HN
  clear hQ hQ2
  generalize szR ⟨k, ty, fl, st, ln, kd⟩ = Z at HSZ hz hF2 hF3 HY HN
  generalize tyI ⟨k, ty, fl, st, ln, kd⟩ = T at hF3 HY HN HT1 HT2 hty
  generalize kdOk ⟨k, ty, fl, st, ln, kd⟩ = KO at HK1 HK2 HY HN
  generalize kindF kd = KT at HKD HK1 HK2
  generalize inB ty 9 = NO at HKN HT1 HT2
  have hw2 : IntKind.i64.wrap (stepA F k 1 (2 + k) + Z) = stepA F k 1 (2 + k) + Z := IntWalk.i64_in _ (by have := hF1 (2 + k) (by omega); omega)
  have hw3 : IntKind.i64.wrap (stepA (stepA F k 1) (2 + k) Z (4 + T) + 1) = stepA (stepA F k 1) (2 + k) Z (4 + T) + 1 := IntWalk.i64_in _ (by have := hF2 (4 + T) (by omega); omega)
  have hw4 : ∀ q : Nat, q ≤ 4 → IntKind.i64.wrap (stepA (stepA (stepA F k 1) (2 + k) Z) (4 + T) 1 (15 + q) + 1) = stepA (stepA (stepA F k 1) (2 + k) Z) (4 + T) 1 (15 + q) + 1 := fun q hq => IntWalk.i64_in _ (by have := hF3 (15 + q) (by omega); omega)
  have HW2 := Lib.hid hw2
  have HW3 := Lib.hid hw3
  have HW4 := Lib.hid hw4
  clear hF hB hF1 hF2 hF3 hz hw2 hw3 hw4
  cases e1 : ((k : Int) == 0)
  · have e2 : ((k : Int) == 1) = true := by rw [beq_eq_false_iff_ne] at e1; rw [beq_iff_eq]; omega
    have e3 : ((k : Int) != 0) = true := by unfold bne; rw [e1]; rfl
    have e4 : ((k : Int) != 1) = false := by unfold bne; rw [e2]; rfl
    go_enter Tryz.func12, Tryz.ntmps12
    go_wp2_with fail
    go_region
    go_wp2_with fail
    have hbA := HB.out.rowStep (show k < 20 by omega) 1
    have hzA := size_set w g k (.int .i64 (F k + 1))
    have hbelA := bel_set (g := g) w k (.int .i64 (F k + 1))
    rw [← hzA]
    generalize w.setCell ⟨g, k, none⟩ (.int .i64 (F k + 1)) = wA at hbA hzA hbelA ⊢
    have hw2 := HW2.out
    generalize stepA F k 1 = FA at hbA hw2 HW3 HW4 HY HN
    have dA := hbA.rowGet (show 2 + k < 20 by omega)
    have fA := hbA.frozen (2 + k)
    have hgA := hbA.lt
    have HBA := Lib.hid hbA
    have HBELA := Lib.hid hbelA
    clear d0 f0 hg hzA hw1 hbA hbelA HB HW2
    go_region_with (go_at_call 26; refine (HSZ.out _).mono ?_; rintro e w' ⟨rfl, j, rfl⟩)
    all_goals
      have hbB := HBA.out.rowStep (show 2 + k < 20 by omega) Z
      have hzB := size_set wA g (2 + k) (.int .i64 (FA (2 + k) + Z))
      have hbelB := HBELA.out.trans (bel_set (g := g) wA (2 + k) (.int .i64 (FA (2 + k) + Z)))
      rw [← hzB]
      generalize wA.setCell ⟨g, 2 + k, none⟩ (.int .i64 (FA (2 + k) + Z)) = wB at hbB hzB hbelB ⊢
      have HW3b := HW3
      have HW4b := HW4
      have HYb := HY
      have HNb := HN
      generalize stepA FA (2 + k) Z = FB at hbB HW3b HW4b HYb HNb
      have hgB := hbB.lt
      have HBB := Lib.hid hbB
      have HBELB := Lib.hid hbelB
      clear dA fA hgA hzB hbB hbelB HBA HBELA HW3 HW4 HY HN hw2 HSZ
      cases NO
      · obtain rfl := HT2.out rfl
        have hw3 : IntKind.i64.wrap (FB 14 + 1) = FB 14 + 1 := HW3b.out
        have dB : wB.cell? ⟨g, 14, none⟩ = some (.int .i64 (FB 14)) := HBB.out.rowGet (by omega)
        have fB : wB.frozen? ⟨g, 14, none⟩ = false := HBB.out.frozen 14
        clear HT1 HT2 HW3b hty
        go_wp2_with (go_at_call 27; (with_reducible refine (HKN.out _).mono ?_); rintro e w' ⟨rfl, rfl⟩)
        go_region
        go_wp2_with fail
        have hbC := HBB.out.rowStep (show 14 < 20 by omega) 1
        have hzC := size_set wB g (14) (.int .i64 (FB (14) + 1))
        have hbelC := HBELB.out.trans (bel_set (g := g) wB (14) (.int .i64 (FB (14) + 1)))
        rw [← hzC]
        generalize wB.setCell ⟨g, 14, none⟩ (.int .i64 (FB (14) + 1)) = wC at hbC hzC hbelC ⊢
        generalize hFC : stepA FB (4 + 10) 1 = FC at HW4b HYb HNb
        have hbC2 : Blk wC g SmT (rowA FC sec) := by rw [← hFC]; exact hbC
        have hgC := hbC2.lt
        have HBC := Lib.hid hbC2
        have HBELC := Lib.hid hbelC
        clear dB fB hgB hzC hbC hbC2 hbelC HBB HBELB hw3 hFC
        cases KO
        · have hE := HK2.out rfl
          have hG := HNb.out rfl
          have HRW := Lib.hid (rowA_congr sec hG)
          clear HK1 HK2 HW4b HYb HNb hG
          go_wp2_with (go_at_call 21; (with_reducible refine (HKD.out _).mono ?_); rintro e w' ⟨rfl, rfl⟩)
          refine bodyPost_end (results_none rfl _ _ _) rfl ?_
          refine ⟨rfl, ?_, ?_⟩
          · rw [← HRW.out]
            exact HBC.out.below (B := wC.heap.size) (by repeat (first | (with_reducible exact Below.refl _ _) | (with_reducible refine Below.allocS ?_ _) | (with_reducible refine Below.moreS ?_ _) | (with_reducible refine Below.drew ?_) | (with_reducible refine below_drewN ?_ _))) HBC.out.lt
          · refine HBELC.out.trans ?_
            exact Below.mono (B := wC.heap.size) (by repeat (first | (with_reducible exact Below.refl _ _) | (with_reducible refine Below.allocS ?_ _) | (with_reducible refine Below.moreS ?_ _) | (with_reducible refine Below.drew ?_) | (with_reducible refine below_drewN ?_ _))) (Nat.le_of_lt HBC.out.lt)
        · obtain ⟨hE, q, rfl, hq1, hq4⟩ := HK1.out rfl
          have hG := HYb.out rfl q rfl
          have HRW := Lib.hid (rowA_congr sec hG)
          have hw4 : IntKind.i64.wrap (FC (15 + q) + 1) = FC (15 + q) + 1 := HW4b.out q hq4
          have dC : wC.cell? ⟨g, 15 + q, none⟩ = some (.int .i64 (FC (15 + q))) := HBC.out.rowGet (by omega)
          have fC : wC.frozen? ⟨g, 15 + q, none⟩ = false := HBC.out.frozen (15 + q)
          have hq5 : (q : Int) < 5 := by omega
          have hq0 : (0 : Int) ≤ q := by omega
          clear HK1 HK2 HW4b HYb HNb hG
          go_wp2_with (go_at_call 21; (with_reducible refine (HKD.out _).mono ?_); rintro e w' ⟨rfl, rfl⟩)
          go_region
          go_wp2_with fail
          refine bodyPost_end (results_none rfl _ _ _) rfl ?_
          have hbD := HBC.out.rowStep (show 15 + q < 20 by omega) 1
          have hbelD := HBELC.out.trans (bel_set (g := g) wC (15 + q) (.int .i64 (FC (15 + q) + 1)))
          generalize wC.setCell ⟨g, 15 + q, none⟩ (.int .i64 (FC (15 + q) + 1)) = wD at hbD hbelD ⊢
          rw [HRW.out] at hbD
          refine ⟨rfl, hbD.below (B := wD.heap.size) (by repeat (first | (with_reducible exact Below.refl _ _) | (with_reducible refine Below.allocS ?_ _) | (with_reducible refine Below.moreS ?_ _) | (with_reducible refine Below.drew ?_) | (with_reducible refine below_drewN ?_ _))) hbD.lt, ?_⟩
          refine hbelD.trans ?_
          exact Below.mono (B := wD.heap.size) (by repeat (first | (with_reducible exact Below.refl _ _) | (with_reducible refine Below.allocS ?_ _) | (with_reducible refine Below.moreS ?_ _) | (with_reducible refine Below.drew ?_) | (with_reducible refine below_drewN ?_ _))) (Nat.le_of_lt hbD.lt)
      · obtain ⟨rfl, ht⟩ := HT1.out rfl
        have hw3 : IntKind.i64.wrap (FB (4 + T) + 1) = FB (4 + T) + 1 := HW3b.out
        have dB : wB.cell? ⟨g, 4 + T, none⟩ = some (.int .i64 (FB (4 + T))) := HBB.out.rowGet (by omega)
        have fB : wB.frozen? ⟨g, 4 + T, none⟩ = false := HBB.out.frozen (4 + T)
        have ht0 : (0 : Int) ≤ T := by omega
        have ht11 : (T : Int) < 11 := by omega
        clear HT1 HT2 HW3b hty
        go_wp2_with (go_at_call 27; (with_reducible refine (HKN.out _).mono ?_); rintro e w' ⟨rfl, rfl⟩)
        go_region
        go_wp2_with fail
        have hbC := HBB.out.rowStep (show 4 + T < 20 by omega) 1
        have hzC := size_set wB g (4 + T) (.int .i64 (FB (4 + T) + 1))
        have hbelC := HBELB.out.trans (bel_set (g := g) wB (4 + T) (.int .i64 (FB (4 + T) + 1)))
        rw [← hzC]
        generalize wB.setCell ⟨g, 4 + T, none⟩ (.int .i64 (FB (4 + T) + 1)) = wC at hbC hzC hbelC ⊢
        generalize hFC : stepA FB (4 + T) 1 = FC at HW4b HYb HNb
        have hbC2 : Blk wC g SmT (rowA FC sec) := by rw [← hFC]; exact hbC
        have hgC := hbC2.lt
        have HBC := Lib.hid hbC2
        have HBELC := Lib.hid hbelC
        clear dB fB hgB hzC hbC hbC2 hbelC HBB HBELB hw3 hFC
        cases KO
        · have hE := HK2.out rfl
          have hG := HNb.out rfl
          have HRW := Lib.hid (rowA_congr sec hG)
          clear HK1 HK2 HW4b HYb HNb hG
          go_wp2_with (go_at_call 21; (with_reducible refine (HKD.out _).mono ?_); rintro e w' ⟨rfl, rfl⟩)
          refine bodyPost_end (results_none rfl _ _ _) rfl ?_
          refine ⟨rfl, ?_, ?_⟩
          · rw [← HRW.out]
            exact HBC.out.below (B := wC.heap.size) (by repeat (first | (with_reducible exact Below.refl _ _) | (with_reducible refine Below.allocS ?_ _) | (with_reducible refine Below.moreS ?_ _) | (with_reducible refine Below.drew ?_) | (with_reducible refine below_drewN ?_ _))) HBC.out.lt
          · refine HBELC.out.trans ?_
            exact Below.mono (B := wC.heap.size) (by repeat (first | (with_reducible exact Below.refl _ _) | (with_reducible refine Below.allocS ?_ _) | (with_reducible refine Below.moreS ?_ _) | (with_reducible refine Below.drew ?_) | (with_reducible refine below_drewN ?_ _))) (Nat.le_of_lt HBC.out.lt)
        · obtain ⟨hE, q, rfl, hq1, hq4⟩ := HK1.out rfl
          have hG := HYb.out rfl q rfl
          have HRW := Lib.hid (rowA_congr sec hG)
          have hw4 : IntKind.i64.wrap (FC (15 + q) + 1) = FC (15 + q) + 1 := HW4b.out q hq4
          have dC : wC.cell? ⟨g, 15 + q, none⟩ = some (.int .i64 (FC (15 + q))) := HBC.out.rowGet (by omega)
          have fC : wC.frozen? ⟨g, 15 + q, none⟩ = false := HBC.out.frozen (15 + q)
          have hq5 : (q : Int) < 5 := by omega
          have hq0 : (0 : Int) ≤ q := by omega
          clear HK1 HK2 HW4b HYb HNb hG
          go_wp2_with (go_at_call 21; (with_reducible refine (HKD.out _).mono ?_); rintro e w' ⟨rfl, rfl⟩)
          go_region
          go_wp2_with fail
          refine bodyPost_end (results_none rfl _ _ _) rfl ?_
          have hbD := HBC.out.rowStep (show 15 + q < 20 by omega) 1
          have hbelD := HBELC.out.trans (bel_set (g := g) wC (15 + q) (.int .i64 (FC (15 + q) + 1)))
          generalize wC.setCell ⟨g, 15 + q, none⟩ (.int .i64 (FC (15 + q) + 1)) = wD at hbD hbelD ⊢
          rw [HRW.out] at hbD
          refine ⟨rfl, hbD.below (B := wD.heap.size) (by repeat (first | (with_reducible exact Below.refl _ _) | (with_reducible refine Below.allocS ?_ _) | (with_reducible refine Below.moreS ?_ _) | (with_reducible refine Below.drew ?_) | (with_reducible refine below_drewN ?_ _))) hbD.lt, ?_⟩
          refine hbelD.trans ?_
          exact Below.mono (B := wD.heap.size) (by repeat (first | (with_reducible exact Below.refl _ _) | (with_reducible refine Below.allocS ?_ _) | (with_reducible refine Below.moreS ?_ _) | (with_reducible refine Below.drew ?_) | (with_reducible refine below_drewN ?_ _))) (Nat.le_of_lt hbD.lt)
  · have e3 : ((k : Int) != 0) = false := by unfold bne; rw [e1]; rfl
    go_enter Tryz.func12, Tryz.ntmps12
    go_wp2_with fail
    go_region
    go_wp2_with fail
    have hbA := HB.out.rowStep (show k < 20 by omega) 1
    have hzA := size_set w g k (.int .i64 (F k + 1))
    have hbelA := bel_set (g := g) w k (.int .i64 (F k + 1))
    rw [← hzA]
    generalize w.setCell ⟨g, k, none⟩ (.int .i64 (F k + 1)) = wA at hbA hzA hbelA ⊢
    have hw2 := HW2.out
    generalize stepA F k 1 = FA at hbA hw2 HW3 HW4 HY HN
    have dA := hbA.rowGet (show 2 + k < 20 by omega)
    have fA := hbA.frozen (2 + k)
    have hgA := hbA.lt
    have HBA := Lib.hid hbA
    have HBELA := Lib.hid hbelA
    clear d0 f0 hg hzA hw1 hbA hbelA HB HW2
    go_region_with (go_at_call 26; refine (HSZ.out _).mono ?_; rintro e w' ⟨rfl, j, rfl⟩)
    all_goals
      have hbB := HBA.out.rowStep (show 2 + k < 20 by omega) Z
      have hzB := size_set wA g (2 + k) (.int .i64 (FA (2 + k) + Z))
      have hbelB := HBELA.out.trans (bel_set (g := g) wA (2 + k) (.int .i64 (FA (2 + k) + Z)))
      rw [← hzB]
      generalize wA.setCell ⟨g, 2 + k, none⟩ (.int .i64 (FA (2 + k) + Z)) = wB at hbB hzB hbelB ⊢
      have HW3b := HW3
      have HW4b := HW4
      have HYb := HY
      have HNb := HN
      generalize stepA FA (2 + k) Z = FB at hbB HW3b HW4b HYb HNb
      have hgB := hbB.lt
      have HBB := Lib.hid hbB
      have HBELB := Lib.hid hbelB
      clear dA fA hgA hzB hbB hbelB HBA HBELA HW3 HW4 HY HN hw2 HSZ
      cases NO
      · obtain rfl := HT2.out rfl
        have hw3 : IntKind.i64.wrap (FB 14 + 1) = FB 14 + 1 := HW3b.out
        have dB : wB.cell? ⟨g, 14, none⟩ = some (.int .i64 (FB 14)) := HBB.out.rowGet (by omega)
        have fB : wB.frozen? ⟨g, 14, none⟩ = false := HBB.out.frozen 14
        clear HT1 HT2 HW3b hty
        go_wp2_with (go_at_call 27; (with_reducible refine (HKN.out _).mono ?_); rintro e w' ⟨rfl, rfl⟩)
        go_region
        go_wp2_with fail
        have hbC := HBB.out.rowStep (show 14 < 20 by omega) 1
        have hzC := size_set wB g (14) (.int .i64 (FB (14) + 1))
        have hbelC := HBELB.out.trans (bel_set (g := g) wB (14) (.int .i64 (FB (14) + 1)))
        rw [← hzC]
        generalize wB.setCell ⟨g, 14, none⟩ (.int .i64 (FB (14) + 1)) = wC at hbC hzC hbelC ⊢
        generalize hFC : stepA FB (4 + 10) 1 = FC at HW4b HYb HNb
        have hbC2 : Blk wC g SmT (rowA FC sec) := by rw [← hFC]; exact hbC
        have hgC := hbC2.lt
        have HBC := Lib.hid hbC2
        have HBELC := Lib.hid hbelC
        clear dB fB hgB hzC hbC hbC2 hbelC HBB HBELB hw3 hFC
        cases KO
        · have hE := HK2.out rfl
          have hG := HNb.out rfl
          have HRW := Lib.hid (rowA_congr sec hG)
          clear HK1 HK2 HW4b HYb HNb hG
          go_wp2_with (go_at_call 21; (with_reducible refine (HKD.out _).mono ?_); rintro e w' ⟨rfl, rfl⟩)
          refine bodyPost_end (results_none rfl _ _ _) rfl ?_
          refine ⟨rfl, ?_, ?_⟩
          · rw [← HRW.out]
            exact HBC.out.below (B := wC.heap.size) (by repeat (first | (with_reducible exact Below.refl _ _) | (with_reducible refine Below.allocS ?_ _) | (with_reducible refine Below.moreS ?_ _) | (with_reducible refine Below.drew ?_) | (with_reducible refine below_drewN ?_ _))) HBC.out.lt
          · refine HBELC.out.trans ?_
            exact Below.mono (B := wC.heap.size) (by repeat (first | (with_reducible exact Below.refl _ _) | (with_reducible refine Below.allocS ?_ _) | (with_reducible refine Below.moreS ?_ _) | (with_reducible refine Below.drew ?_) | (with_reducible refine below_drewN ?_ _))) (Nat.le_of_lt HBC.out.lt)
        · obtain ⟨hE, q, rfl, hq1, hq4⟩ := HK1.out rfl
          have hG := HYb.out rfl q rfl
          have HRW := Lib.hid (rowA_congr sec hG)
          have hw4 : IntKind.i64.wrap (FC (15 + q) + 1) = FC (15 + q) + 1 := HW4b.out q hq4
          have dC : wC.cell? ⟨g, 15 + q, none⟩ = some (.int .i64 (FC (15 + q))) := HBC.out.rowGet (by omega)
          have fC : wC.frozen? ⟨g, 15 + q, none⟩ = false := HBC.out.frozen (15 + q)
          have hq5 : (q : Int) < 5 := by omega
          have hq0 : (0 : Int) ≤ q := by omega
          clear HK1 HK2 HW4b HYb HNb hG
          go_wp2_with (go_at_call 21; (with_reducible refine (HKD.out _).mono ?_); rintro e w' ⟨rfl, rfl⟩)
          go_region
          go_wp2_with fail
          refine bodyPost_end (results_none rfl _ _ _) rfl ?_
          have hbD := HBC.out.rowStep (show 15 + q < 20 by omega) 1
          have hbelD := HBELC.out.trans (bel_set (g := g) wC (15 + q) (.int .i64 (FC (15 + q) + 1)))
          generalize wC.setCell ⟨g, 15 + q, none⟩ (.int .i64 (FC (15 + q) + 1)) = wD at hbD hbelD ⊢
          rw [HRW.out] at hbD
          refine ⟨rfl, hbD.below (B := wD.heap.size) (by repeat (first | (with_reducible exact Below.refl _ _) | (with_reducible refine Below.allocS ?_ _) | (with_reducible refine Below.moreS ?_ _) | (with_reducible refine Below.drew ?_) | (with_reducible refine below_drewN ?_ _))) hbD.lt, ?_⟩
          refine hbelD.trans ?_
          exact Below.mono (B := wD.heap.size) (by repeat (first | (with_reducible exact Below.refl _ _) | (with_reducible refine Below.allocS ?_ _) | (with_reducible refine Below.moreS ?_ _) | (with_reducible refine Below.drew ?_) | (with_reducible refine below_drewN ?_ _))) (Nat.le_of_lt hbD.lt)
      · obtain ⟨rfl, ht⟩ := HT1.out rfl
        have hw3 : IntKind.i64.wrap (FB (4 + T) + 1) = FB (4 + T) + 1 := HW3b.out
        have dB : wB.cell? ⟨g, 4 + T, none⟩ = some (.int .i64 (FB (4 + T))) := HBB.out.rowGet (by omega)
        have fB : wB.frozen? ⟨g, 4 + T, none⟩ = false := HBB.out.frozen (4 + T)
        have ht0 : (0 : Int) ≤ T := by omega
        have ht11 : (T : Int) < 11 := by omega
        clear HT1 HT2 HW3b hty
        go_wp2_with (go_at_call 27; (with_reducible refine (HKN.out _).mono ?_); rintro e w' ⟨rfl, rfl⟩)
        go_region
        go_wp2_with fail
        have hbC := HBB.out.rowStep (show 4 + T < 20 by omega) 1
        have hzC := size_set wB g (4 + T) (.int .i64 (FB (4 + T) + 1))
        have hbelC := HBELB.out.trans (bel_set (g := g) wB (4 + T) (.int .i64 (FB (4 + T) + 1)))
        rw [← hzC]
        generalize wB.setCell ⟨g, 4 + T, none⟩ (.int .i64 (FB (4 + T) + 1)) = wC at hbC hzC hbelC ⊢
        generalize hFC : stepA FB (4 + T) 1 = FC at HW4b HYb HNb
        have hbC2 : Blk wC g SmT (rowA FC sec) := by rw [← hFC]; exact hbC
        have hgC := hbC2.lt
        have HBC := Lib.hid hbC2
        have HBELC := Lib.hid hbelC
        clear dB fB hgB hzC hbC hbC2 hbelC HBB HBELB hw3 hFC
        cases KO
        · have hE := HK2.out rfl
          have hG := HNb.out rfl
          have HRW := Lib.hid (rowA_congr sec hG)
          clear HK1 HK2 HW4b HYb HNb hG
          go_wp2_with (go_at_call 21; (with_reducible refine (HKD.out _).mono ?_); rintro e w' ⟨rfl, rfl⟩)
          refine bodyPost_end (results_none rfl _ _ _) rfl ?_
          refine ⟨rfl, ?_, ?_⟩
          · rw [← HRW.out]
            exact HBC.out.below (B := wC.heap.size) (by repeat (first | (with_reducible exact Below.refl _ _) | (with_reducible refine Below.allocS ?_ _) | (with_reducible refine Below.moreS ?_ _) | (with_reducible refine Below.drew ?_) | (with_reducible refine below_drewN ?_ _))) HBC.out.lt
          · refine HBELC.out.trans ?_
            exact Below.mono (B := wC.heap.size) (by repeat (first | (with_reducible exact Below.refl _ _) | (with_reducible refine Below.allocS ?_ _) | (with_reducible refine Below.moreS ?_ _) | (with_reducible refine Below.drew ?_) | (with_reducible refine below_drewN ?_ _))) (Nat.le_of_lt HBC.out.lt)
        · obtain ⟨hE, q, rfl, hq1, hq4⟩ := HK1.out rfl
          have hG := HYb.out rfl q rfl
          have HRW := Lib.hid (rowA_congr sec hG)
          have hw4 : IntKind.i64.wrap (FC (15 + q) + 1) = FC (15 + q) + 1 := HW4b.out q hq4
          have dC : wC.cell? ⟨g, 15 + q, none⟩ = some (.int .i64 (FC (15 + q))) := HBC.out.rowGet (by omega)
          have fC : wC.frozen? ⟨g, 15 + q, none⟩ = false := HBC.out.frozen (15 + q)
          have hq5 : (q : Int) < 5 := by omega
          have hq0 : (0 : Int) ≤ q := by omega
          clear HK1 HK2 HW4b HYb HNb hG
          go_wp2_with (go_at_call 21; (with_reducible refine (HKD.out _).mono ?_); rintro e w' ⟨rfl, rfl⟩)
          go_region
          go_wp2_with fail
          refine bodyPost_end (results_none rfl _ _ _) rfl ?_
          have hbD := HBC.out.rowStep (show 15 + q < 20 by omega) 1
          have hbelD := HBELC.out.trans (bel_set (g := g) wC (15 + q) (.int .i64 (FC (15 + q) + 1)))
          generalize wC.setCell ⟨g, 15 + q, none⟩ (.int .i64 (FC (15 + q) + 1)) = wD at hbD hbelD ⊢
          rw [HRW.out] at hbD
          refine ⟨rfl, hbD.below (B := wD.heap.size) (by repeat (first | (with_reducible exact Below.refl _ _) | (with_reducible refine Below.allocS ?_ _) | (with_reducible refine Below.moreS ?_ _) | (with_reducible refine Below.drew ?_) | (with_reducible refine below_drewN ?_ _))) hbD.lt, ?_⟩
          refine hbelD.trans ?_
          exact Below.mono (B := wD.heap.size) (by repeat (first | (with_reducible exact Below.refl _ _) | (with_reducible refine Below.allocS ?_ _) | (with_reducible refine Below.moreS ?_ _) | (with_reducible refine Below.drew ?_) | (with_reducible refine below_drewN ?_ _))) (Nat.le_of_lt hbD.lt)
end Go.Proofs.YtfgldglelijekaaGreatDoor
