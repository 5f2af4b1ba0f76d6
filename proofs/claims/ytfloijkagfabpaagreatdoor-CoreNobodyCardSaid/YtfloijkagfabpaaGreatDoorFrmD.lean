/-
  What is wrong with a frame, by the document.
-/
import Derived.Test.YtfloijkagfabpaaGreatDoorMi
namespace Go.Proofs.YtfloijkagfabpaaGreatDoor
set_option linter.unusedSimpArgs false
set_option linter.unusedVariables false
set_option linter.unusedSectionVars false
open Go.ChangeShapes Go.WideShapes Go.ChangeAt Go.RowKit Go.Deep Go.Shelf

def faultF (ty fl st : Int) (l : List UInt8) : Int × Int :=
  if strOk ty st = false then (2, 1) else if lenOk ty fl l.length = false then (if ty = 2 then 1 else 2, 6) else if l.length < aheadF ty fl then (if ty = 0 then 1 else 2, 6)
  else if hasF ty fl 8 = true ∧ l.length < (l.headD 0).toNat + aheadF ty fl then (2, 1) else (0, 0)

def FauP (p : Int × Int) (w : World) (e : Ending) (w' : World) : Prop := e = .returned (fuV p) ∧ ∃ j, w' = w.more j
set_option maxHeartbeats 4000000 in
set_option maxRecDepth 100000 in
theorem ref14_fault (fr ty fl st : Int) (rs : Bool) (a : Option Addr) (c : Nat) (l : List UInt8) (h0 : 0 ≤ fl) (h1 : fl ≤ 255) (hl : l.length ≤ 1099511627776) (w : World) (h : SlB w w.heap.size a l) :
    Calls Tryz.prog 101 #[rawV fr ty fl st rs a l.length c] w (FauP (faultF ty fl st l) w) := by
  have HS := Lib.hid h
  have H8 : Hid (∀ W, Calls Tryz.prog 64 #[.int .i64 ty, .int .i64 fl, .int .i64 8] W fun e w' => e = .returned (.bool (hasF ty fl 8)) ∧ W = w') := ref08_Has ty fl 8 (by simp) h0 h1
  have HT : Hid (∀ W, Calls Tryz.prog 190 #[.int .i64 ty] W fun e w' => e = .returned (.int .i64 (strF ty)) ∧ W = w') := ref08_Streams ty
  have HL : Hid (∀ W, Calls Tryz.prog 191 #[rawV fr ty fl st rs a l.length c] W fun e w' => e = .returned (.bool (lenOk ty fl l.length)) ∧ ∃ j, w' = W.more j) := fun W => ref14_length fr ty fl st rs a l.length c h0 h1 W
  have HA : Hid (∀ W, Calls Tryz.prog 192 #[rawV fr ty fl st rs a l.length c] W fun e w' => e = .returned (.int .i64 (aheadF ty fl : Int)) ∧ ∃ j, w' = W.more j) := fun W => ref14_ahead fr ty fl st rs a l.length c h0 h1 W
  have HF : Hid (faultF ty fl st l = if strOk ty st = false then (2, 1) else if lenOk ty fl l.length = false then (if ty = 2 then 1 else 2, 6) else if l.length < aheadF ty fl then (if ty = 0 then 1 else 2, 6)
    else if hasF ty fl 8 = true ∧ l.length < (l.headD 0).toNat + aheadF ty fl then (2, 1) else (0, 0)) := rfl
  have ha : aheadF ty fl ≤ 10 := by unfold aheadF; repeat' split
                                    all_goals omega
  have ha1 : hasF ty fl 8 = true → 1 ≤ aheadF ty fl := fun e => by unfold aheadF; rw [if_pos e]; omega
  have hsc := strF_cases ty
  have hso : strOk ty st = if strF ty = 0 then decide (st = 0) else if strF ty = 1 then decide (¬ st = 0) else true := rfl
  unfold FauP
  generalize faultF ty fl st l = R at HF ⊢
  generalize aheadF ty fl = A at HA HF ha ha1
  generalize lenOk ty fl l.length = L at HL HF
  generalize hasF ty fl 8 = b at H8 HF ha1
  generalize strOk ty st = S at HF hso
  generalize strF ty = s at HT hsc hso
  obtain ⟨n, hn⟩ : ∃ n, n = l.length := ⟨_, rfl⟩
  have HN := Lib.hid hn
  rw [← hn] at HL HA HF hl ⊢
  clear h h0 h1 hn
  have hcs : (S = false ∧ ((s = 0 ∧ ¬ st = 0) ∨ (s = 1 ∧ st = 0))) ∨ (S = true ∧ ((s = 0 ∧ st = 0) ∨ (s = 1 ∧ ¬ st = 0) ∨ s = 2)) := by
    rcases hsc with rfl | rfl | rfl <;> by_cases e : st = 0 <;> simp [e] at hso <;> simp [hso, e]
  clear hsc hso
  rcases hcs with ⟨rfl, hcs⟩ | ⟨rfl, hcs⟩
  · obtain rfl : R = (2, 1) := by rw [HF.out]; rfl
    clear HF
    rcases hcs with ⟨rfl, hst⟩ | ⟨rfl, rfl⟩
    all_goals
      go_enter Tryz.func101, Tryz.ntmps101
      go_wp2_with (go_at_call 190; (with_reducible refine (HT.out _).mono ?_); rintro e w' ⟨rfl, rfl⟩)
      refine bodyPost_ret (res_cell rfl st_Fu rfl blk rfl) rfl ⟨rfl, Below.junk bel⟩
  cases L
  · obtain ⟨m, hm⟩ : ∃ m : Int, R = (m, 6) ∧ ((ty = 2 ∧ m = 1) ∨ (¬ ty = 2 ∧ m = 2)) := by
      rw [HF.out]
      by_cases ht : ty = 2
      · exact ⟨1, by rw [if_pos ht]; rfl, .inl ⟨ht, rfl⟩⟩
      · exact ⟨2, by rw [if_neg ht]; rfl, .inr ⟨ht, rfl⟩⟩
    obtain ⟨rfl, hm⟩ := hm
    clear HF
    rcases hm with ⟨rfl, rfl⟩ | ⟨ht, rfl⟩ <;> rcases hcs with ⟨rfl, rfl⟩ | ⟨rfl, hst⟩ | rfl
    all_goals
      go_enter Tryz.func101, Tryz.ntmps101
      go_wp2_with (first | (go_at_call 190; (with_reducible refine (HT.out _).mono ?_); rintro e w' ⟨rfl, rfl⟩) | (go_at_call 191; (with_reducible refine (HL.out _).mono ?_); rintro e w' ⟨rfl, j, rfl⟩))
      refine bodyPost_ret (res_cell rfl st_Fu rfl blk rfl) rfl ⟨rfl, Below.junk bel⟩
  by_cases hA : n < A
  · have hA2 : (n : Int) < (A : Int) := by omega
    obtain ⟨m, hm⟩ : ∃ m : Int, R = (m, 6) ∧ ((ty = 0 ∧ m = 1) ∨ (¬ ty = 0 ∧ m = 2)) := by
      rw [HF.out, if_pos hA]
      by_cases ht : ty = 0
      · exact ⟨1, by rw [if_pos ht]; rfl, .inl ⟨ht, rfl⟩⟩
      · exact ⟨2, by rw [if_neg ht]; rfl, .inr ⟨ht, rfl⟩⟩
    obtain ⟨rfl, hm⟩ := hm
    clear HF ha1
    rcases hm with ⟨rfl, rfl⟩ | ⟨ht, rfl⟩ <;> rcases hcs with ⟨rfl, rfl⟩ | ⟨rfl, hst⟩ | rfl
    all_goals
      go_enter Tryz.func101, Tryz.ntmps101
      go_wp2_with (first | (go_at_call 190; (with_reducible refine (HT.out _).mono ?_); rintro e w' ⟨rfl, rfl⟩) | (go_at_call 191; (with_reducible refine (HL.out _).mono ?_); rintro e w' ⟨rfl, j, rfl⟩) | (go_at_call 192; (with_reducible refine (HA.out _).mono ?_); rintro e w' ⟨rfl, j, rfl⟩))
      refine bodyPost_ret (res_cell rfl st_Fu rfl blk rfl) rfl ⟨rfl, Below.junk bel⟩
  have hA2 : ¬ (n : Int) < (A : Int) := by omega
  have HF2 : Hid (R = if b = true ∧ n < (l.headD 0).toNat + A then (2, 1) else (0, 0)) := by show _ = _; rw [HF.out, if_neg hA]; rfl
  clear HF
  have HX : Hid (b = true → ∃ x r, l = x :: r) := fun e => by
    have := ha1 e
    have := HN.out
    cases l with
    | nil => simp at this; omega
    | cons x r => exact ⟨x, r, rfl⟩
  clear ha1
  rcases hcs with ⟨rfl, rfl⟩ | ⟨rfl, hst⟩ | rfl
  all_goals
    go_enter Tryz.func101, Tryz.ntmps101
    go_wp2_with (first | (go_at_call 190; (with_reducible refine (HT.out _).mono ?_); rintro e w' ⟨rfl, rfl⟩) | (go_at_call 191; (with_reducible refine (HL.out _).mono ?_); rintro e w' ⟨rfl, j, rfl⟩) | (go_at_call 192; (with_reducible refine (HA.out _).mono ?_); rintro e w' ⟨rfl, j, rfl⟩))
    refine wnm fun wz hwz => ?_
    have HB : Hid (Below w.heap.size w wz) := by show Below _ _ _; rw [hwz]; exact bel
    obtain ⟨sv, hk⟩ : ∃ sv, Blk wz w.heap.size 56 #[.int .i64 fr, .int .i64 ty, .int .i64 fl, sv, .bool rs, .slice a n c] := by rw [hwz]; exact ⟨_, blk⟩
    have d1 : wz.cell? ⟨w.heap.size, 1, none⟩ = some (.int .i64 ty) := hk.cell 1
    have d2 : wz.cell? ⟨w.heap.size, 2, none⟩ = some (.int .i64 fl) := hk.cell 2
    have d5 : wz.cell? ⟨w.heap.size, 5, none⟩ = some (.slice a n c) := hk.cell 5
    have lz := hk.lt
    have hkf : Blk wz (w.heap.size + 1) FuT #[.int .i64 0, .int .i64 0] := by rw [hwz]; exact blk
    have HKF := Lib.hid hkf
    clear hk hwz hkf
    cases b
    · obtain rfl : R = (0, 0) := by rw [HF2.out]; rfl
      clear HF2
      refine wp_region_more (by kernel_rfl) (by kernel_rfl) ?_
      repeat (go_big_quiet_step (first | (go_at_call 64; exact more_of_same (H8.out _))))
      refine wpQuiet_nil ?_
      intro w' hw'
      obtain ⟨j, rfl⟩ := hw'
      have f0 : wz.cell? ⟨w.heap.size + 1, 0, none⟩ = some (.int .i64 0) := HKF.out.cell 0
      have f1 : wz.cell? ⟨w.heap.size + 1, 1, none⟩ = some (.int .i64 0) := HKF.out.cell 1
      have g0 := HKF.out.frozen 0
      have g1 := HKF.out.frozen 1
      have gl := HKF.out.lt
      go_wp2_with fail
      refine bodyPost_ret (res_cell rfl st_Fu rfl (((HKF.out.set_ 0 _).set_ 1 _).more _) rfl) rfl ⟨rfl, Below.junk ?_⟩
      exact ((HB.out.setCell (p := ⟨w.heap.size + 1, 0, none⟩) (by simp) _).setCell (p := ⟨w.heap.size + 1, 1, none⟩) (by simp) _).ofMore (by have := HB.out.size; simpa using this) _
    · obtain ⟨x, r, rfl⟩ := HX.out rfl
      obtain ⟨bb, o, rfl, hbb, hcell⟩ := SlR.atB HS.out (k := 0) (by simp)
      have hcx : wz.cell? ⟨bb, o, none⟩ = some (.int .u8 (x.toNat : Int)) := (HB.out.cell (p := ⟨bb, o + 0, none⟩) hbb).trans hcell
      have hbz : bb < wz.heap.size := Nat.lt_of_lt_of_le hbb HB.out.size
      have hw1 : IntKind.i64.wrap (x.toNat : Int) = (x.toNat : Int) := IntWalk.i64_in _ (by have := x.toNat_lt; omega)
      have hw2 : IntKind.i64.wrap ((n : Int) - A) = (n : Int) - A := IntWalk.i64_in _ (by omega)
      have hn0 : (0 : Int) < n := by have := HN.out; simp at this; omega
      have HF3 : Hid (R = if n < x.toNat + A then (2, 1) else (0, 0)) := by show _ = _; rw [HF2.out]; simp
      clear hcell HF2
      rcases Decidable.em (n < x.toNat + A) with hx | hx
      · obtain rfl : R = (2, 1) := by rw [HF3.out, if_pos hx]
        have hx2 : (x.toNat : Int) > (n : Int) - A := by omega
        clear hx HF3
        refine wp_region_more (by kernel_rfl) (by kernel_rfl) ?_
        repeat (go_big_quiet_step (first | (go_at_call 64; exact more_of_same (H8.out _))))
        refine wpQuiet_nil ?_
        intro w' hw'
        obtain ⟨j, rfl⟩ := hw'
        have f0 : wz.cell? ⟨w.heap.size + 1, 0, none⟩ = some (.int .i64 0) := HKF.out.cell 0
        have f1 : wz.cell? ⟨w.heap.size + 1, 1, none⟩ = some (.int .i64 0) := HKF.out.cell 1
        have g0 := HKF.out.frozen 0
        have g1 := HKF.out.frozen 1
        have gl := HKF.out.lt
        go_wp2_with fail
        refine bodyPost_ret (res_cell rfl st_Fu rfl (((HKF.out.set_ 0 _).set_ 1 _).more _) rfl) rfl ⟨rfl, Below.junk ?_⟩
        exact ((HB.out.setCell (p := ⟨w.heap.size + 1, 0, none⟩) (by simp) _).setCell (p := ⟨w.heap.size + 1, 1, none⟩) (by simp) _).ofMore (by have := HB.out.size; simpa using this) _
      · obtain rfl : R = (0, 0) := by rw [HF3.out, if_neg hx]
        have hx2 : ¬ (x.toNat : Int) > (n : Int) - A := by omega
        clear hx HF3
        refine wp_region_more (by kernel_rfl) (by kernel_rfl) ?_
        repeat (go_big_quiet_step (first | (go_at_call 64; exact more_of_same (H8.out _))))
        refine wpQuiet_nil ?_
        intro w' hw'
        obtain ⟨j, rfl⟩ := hw'
        have f0 : wz.cell? ⟨w.heap.size + 1, 0, none⟩ = some (.int .i64 0) := HKF.out.cell 0
        have f1 : wz.cell? ⟨w.heap.size + 1, 1, none⟩ = some (.int .i64 0) := HKF.out.cell 1
        have g0 := HKF.out.frozen 0
        have g1 := HKF.out.frozen 1
        have gl := HKF.out.lt
        go_wp2_with fail
        refine bodyPost_ret (res_cell rfl st_Fu rfl (((HKF.out.set_ 0 _).set_ 1 _).more _) rfl) rfl ⟨rfl, Below.junk ?_⟩
        exact ((HB.out.setCell (p := ⟨w.heap.size + 1, 0, none⟩) (by simp) _).setCell (p := ⟨w.heap.size + 1, 1, none⟩) (by simp) _).ofMore (by have := HB.out.size; simpa using this) _
end Go.Proofs.YtfloijkagfabpaaGreatDoor
