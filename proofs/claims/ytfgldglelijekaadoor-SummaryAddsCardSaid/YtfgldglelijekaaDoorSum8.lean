/-
  Summaries: the document's lines, walked.
-/
import Derived.Test.YtfgldglelijekaaDoorSum7
import Derived.Deep.RegionLaw
import Derived.StillTailTactics
namespace Go.Proofs.YtfgldglelijekaaDoor
set_option linter.unusedSimpArgs false
set_option linter.unusedVariables false
set_option linter.unusedSectionVars false
open Go.ChangeShapes Go.WideShapes Go.ChangeAt Go.RowKit Go.Deep Go.Shelf

set_option maxHeartbeats 16000000 in
set_option maxRecDepth 100000 in
theorem ref44_Text (F : Nat → Int) (a : Option Addr) (R : List (List UInt8)) (cap : Nat) (hF : ∀ i, i < 20 → goodI (F i)) (hR : R.length ≤ 100) (hX : ∀ x ∈ R, x.length ≤ 1000) (w : World) (hS : SlX w w.heap.size a R) :
    Calls Tryd.prog 8 #[.agg (rowA F (.slice a R.length cap))] w (MoreX w.heap.size (linesS F R) w) := by
  have HF := Lib.hid hF
  have HX := Lib.hid hX
  have HS := Lib.hid hS
  have hsz := rowA_size F (.slice a R.length cap)
  clear hF hX hS
  go_enter Tryd.func8, Tryd.ntmps8
  go_wp2_with fail
  obtain ⟨wb, hwb⟩ : ∃ wb, wb = w.alloc (.cells (rowA F (.slice a R.length cap)) RsT) := ⟨_, rfl⟩
  rw [← hwb]
  have hg0 : Blk wb w.heap.size RsT (rowA F (.slice a R.length cap)) := by rw [hwb]; exact Blk.new _ _ _
  have hzb : wb.heap.size = w.heap.size + 1 := by rw [hwb]; simp
  have HBW : Hid (Below w.heap.size w wb) := by show Below _ _ _; rw [hwb]; exact (by repeat (first | (with_reducible exact Below.refl _ _) | (with_reducible refine Below.allocS ?_ _) | (with_reducible refine Below.moreS ?_ _) | (with_reducible refine Below.drew ?_) | (with_reducible refine below_drewN ?_ _)))
  obtain ⟨g0, hg0e⟩ : ∃ g0, g0 = w.heap.size := ⟨_, rfl⟩
  have HG0E := Lib.hid hg0e
  rw [← hg0e]
  have HG0' : Hid (Blk wb g0 RsT (rowA F (.slice a R.length cap))) := by show Blk _ _ _ _; rw [hg0e]; exact hg0
  have HZB' : Hid (wb.heap.size = g0 + 1) := by show _ = _; rw [hg0e]; exact hzb
  have hgb : g0 < wb.heap.size := by have := HZB'.out; omega
  clear hwb hg0 hzb hg0e hsz
  obtain ⟨LS, hls⟩ : ∃ LS, linesS F R = LS := ⟨_, rfl⟩
  have HEQ : Hid (LS = [sideL F 0, sideL F 1] ++ typesL F 10 ++ partL [111, 116, 104, 101, 114, 115] (F 14) ++ kindsL F 4 ++ secL R) := hls.symm
  have HEND : Hid (∀ v w', OwnX wb.heap.size w' v LS → Below w.heap.size w w' → MoreX w.heap.size (linesS F R) w (.returned v) w') := fun v w' h1 h2 => ⟨v, rfl, by rw [hls]; exact h1.low HBW.out.size, h2⟩
  clear hls
  have HRT : Hid (∀ (n : Int), goodI n → ∀ W, Calls Tryd.prog 17 #[.int .i64 n] W fun e w' => e = .returned (bstr (Lib.itoa n)) ∧ W = w') := fun n hn W => ref03_Text n hn.1 hn.2 W
  -- the two sides
  have c0 : wb.cell? ⟨g0, 0, none⟩ = some (.int .i64 (F 0)) := HG0'.out.rowGetT (by omega)
  have c1 : wb.cell? ⟨g0, 1, none⟩ = some (.int .i64 (F 1)) := HG0'.out.rowGetT (by omega)
  have c2 : wb.cell? ⟨g0, 2, none⟩ = some (.int .i64 (F 2)) := HG0'.out.rowGetT (by omega)
  have c3 : wb.cell? ⟨g0, 3, none⟩ = some (.int .i64 (F 3)) := HG0'.out.rowGetT (by omega)
  have HT0 := Lib.hid (HRT.out (F 0) (HF.out 0 (by omega)))
  have HT1 := Lib.hid (HRT.out (F 1) (HF.out 1 (by omega)))
  have HT2 := Lib.hid (HRT.out (F 2) (HF.out 2 (by omega)))
  have HT3 := Lib.hid (HRT.out (F 3) (HF.out 3 (by omega)))
  have hl0 := itoa_len (HF.out 0 (by omega)).1 (HF.out 0 (by omega)).2
  have hl1 := itoa_len (HF.out 1 (by omega)).1 (HF.out 1 (by omega)).2
  have hl2 := itoa_len (HF.out 2 (by omega)).1 (HF.out 2 (by omega)).2
  have hl3 := itoa_len (HF.out 3 (by omega)).1 (HF.out 3 (by omega)).2
  have hS0 := sideL_zero F
  have hS1 := sideL_one F
  have HS0 := Lib.hid hS0
  have HS1 := Lib.hid hS1
  clear hS0 hS1
  generalize sideL F 0 = S0 at HS0 HEQ
  generalize sideL F 1 = S1 at HS1 HEQ
  generalize Lib.itoa (F 0) = s0 at HT0 HS0 hl0
  generalize Lib.itoa (F 1) = s1 at HT1 HS1 hl1
  generalize Lib.itoa (F 2) = s2 at HT2 HS0 hl2
  generalize Lib.itoa (F 3) = s3 at HT3 HS1 hl3
  generalize F 0 = f0 at c0 HT0
  generalize F 1 = f1 at c1 HT1
  generalize F 2 = f2 at c2 HT2
  generalize F 3 = f3 at c3 HT3
  refine gb_start wb.heap.size (by kernel_rfl) ?_
  refine gb_take 0 (v := ?_) rfl (by kernel_rfl) (by kernel_rfl) (by kernel_rfl) (fun _ _ _ h => h) (Or.inl ⟨by first | kernel_rfl | rfl, ?_⟩) ?_
  rotate_left
  · intro wS hSw; have hSc := hSw.cell; clear hSw; go_simp; try with_reducible rfl
  try simp only [Act.put, List.getElem_toArray, List.getElem_cons_succ, List.getElem_cons_zero, List.setIfInBounds_toArray, List.set_cons_zero, List.set_cons_succ]
  refine gb_take 1 (v := ?_) rfl (by kernel_rfl) (by kernel_rfl) (by kernel_rfl) (fun _ _ _ h => h) (Or.inl ⟨by first | kernel_rfl | rfl, ?_⟩) ?_
  rotate_left
  · intro wS hSw; have hSc := hSw.cell; clear hSw; go_simp; try with_reducible rfl
  try simp only [Act.put, List.getElem_toArray, List.getElem_cons_succ, List.getElem_cons_zero, List.setIfInBounds_toArray, List.set_cons_zero, List.set_cons_succ]
  refine gb_take 2 (v := ?_) rfl (by kernel_rfl) (by kernel_rfl) (by kernel_rfl) (fun _ _ _ h => h) (Or.inl ⟨by first | kernel_rfl | rfl, ?_⟩) ?_
  rotate_left
  · intro wS hSw; have hSc := hSw.cell; clear hSw; go_simp; try with_reducible rfl
  try simp only [Act.put, List.getElem_toArray, List.getElem_cons_succ, List.getElem_cons_zero, List.setIfInBounds_toArray, List.set_cons_zero, List.set_cons_succ]
  refine gb_take 6 (v := ?_) rfl (by kernel_rfl) (by kernel_rfl) (by kernel_rfl) (fun _ _ _ h => h) (Or.inl ⟨by first | kernel_rfl | rfl, ?_⟩) ?_
  rotate_left
  · intro wS hSw; have hSc := hSw.cell; clear hSw; go_simp; try with_reducible rfl
  try simp only [Act.put, List.getElem_toArray, List.getElem_cons_succ, List.getElem_cons_zero, List.setIfInBounds_toArray, List.set_cons_zero, List.set_cons_succ]
  refine gb_take 7 (v := ?_) rfl (by kernel_rfl) (by kernel_rfl) (by kernel_rfl) (fun _ _ _ h => h) (Or.inl ⟨by first | kernel_rfl | rfl, ?_⟩) ?_
  rotate_left
  · intro wS hSw; have hSc := hSw.cell; clear hSw; go_simp; try with_reducible rfl
  try simp only [Act.put, List.getElem_toArray, List.getElem_cons_succ, List.getElem_cons_zero, List.setIfInBounds_toArray, List.set_cons_zero, List.set_cons_succ]
  refine gb_take 8 (v := ?_) rfl (by kernel_rfl) (by kernel_rfl) (by kernel_rfl) (fun _ _ _ h => h) (Or.inl ⟨by first | kernel_rfl | rfl, ?_⟩) ?_
  rotate_left
  · intro wS hSw; have hSc := hSw.cell; clear hSw; go_simp; try with_reducible rfl
  try simp only [Act.put, List.getElem_toArray, List.getElem_cons_succ, List.getElem_cons_zero, List.setIfInBounds_toArray, List.set_cons_zero, List.set_cons_succ]
  refine gb_take 11 (v := ?_) rfl (by kernel_rfl) (by kernel_rfl) (by kernel_rfl) (fun _ _ _ h => h) (Or.inl ⟨by first | kernel_rfl | rfl, ?_⟩) ?_
  rotate_left
  · intro wS hSw; have hSc := hSw.cell; clear hSw; go_simp; try with_reducible rfl
  try simp only [Act.put, List.getElem_toArray, List.getElem_cons_succ, List.getElem_cons_zero, List.setIfInBounds_toArray, List.set_cons_zero, List.set_cons_succ]
  refine gb_take 12 (v := ?_) rfl (by kernel_rfl) (by kernel_rfl) (by kernel_rfl) (fun _ _ _ h => h) (Or.inl ⟨by first | kernel_rfl | rfl, ?_⟩) ?_
  rotate_left
  · intro wS hSw; have hSc := hSw.cell; clear hSw; go_simp; try with_reducible rfl
  try simp only [Act.put, List.getElem_toArray, List.getElem_cons_succ, List.getElem_cons_zero, List.setIfInBounds_toArray, List.set_cons_zero, List.set_cons_succ]
  refine gb_take 13 (v := ?_) rfl (by kernel_rfl) (by kernel_rfl) (by kernel_rfl) (fun _ _ _ h => h) (Or.inl ⟨by first | kernel_rfl | rfl, ?_⟩) ?_
  rotate_left
  · intro wS hSw; have hSc := hSw.cell; clear hSw; go_simp; try with_reducible rfl
  try simp only [Act.put, List.getElem_toArray, List.getElem_cons_succ, List.getElem_cons_zero, List.setIfInBounds_toArray, List.set_cons_zero, List.set_cons_succ]
  refine gb_take 17 (v := ?_) rfl (by kernel_rfl) (by kernel_rfl) (by kernel_rfl) (fun _ _ _ h => h) (Or.inl ⟨by first | kernel_rfl | rfl, ?_⟩) ?_
  rotate_left
  · intro wS hSw; have hSc := hSw.cell; clear hSw; go_simp; try with_reducible rfl
  try simp only [Act.put, List.getElem_toArray, List.getElem_cons_succ, List.getElem_cons_zero, List.setIfInBounds_toArray, List.set_cons_zero, List.set_cons_succ]
  refine gb_take 18 (v := ?_) rfl (by kernel_rfl) (by kernel_rfl) (by kernel_rfl) (fun _ _ _ h => h) (Or.inl ⟨by first | kernel_rfl | rfl, ?_⟩) ?_
  rotate_left
  · intro wS hSw; have hSc := hSw.cell; clear hSw; go_simp; try with_reducible rfl
  try simp only [Act.put, List.getElem_toArray, List.getElem_cons_succ, List.getElem_cons_zero, List.setIfInBounds_toArray, List.set_cons_zero, List.set_cons_succ]
  refine gb_take 19 (v := ?_) rfl (by kernel_rfl) (by kernel_rfl) (by kernel_rfl) (fun _ _ _ h => h) (Or.inl ⟨by first | kernel_rfl | rfl, ?_⟩) ?_
  rotate_left
  · intro wS hSw; have hSc := hSw.cell; clear hSw; go_simp; try with_reducible rfl
  try simp only [Act.put, List.getElem_toArray, List.getElem_cons_succ, List.getElem_cons_zero, List.setIfInBounds_toArray, List.set_cons_zero, List.set_cons_succ]
  refine gb_step 3 (by kernel_rfl) rfl (fun K hK => ?_)
  go_simp
  go_wp2_with ((go_at_call 17; (with_reducible refine (HT0.out _).mono ?_); rintro e w' ⟨rfl, rfl⟩))
  refine hK.out _ _ (show Below _ _ _ from (by first | exact Below.refl _ _ | (refine Below.mono (B := wb.heap.size) ?_ (by exact Nat.le_refl _); (repeat (first | (with_reducible exact Below.refl _ _) | (with_reducible exact grown_merge _ _ _ _) | (with_reducible exact grown_merge2 _ _ _ _ _ _) | (with_reducible exact grown_merge3 _ _ _ _ _ _ _) | (with_reducible refine Below.allocS ?_ _) | (with_reducible refine Below.moreS ?_ _) | (with_reducible refine Below.drew ?_))); done) | (refine gb_undrew (Below.mono (B := wb.heap.size) ?_ (by exact Nat.le_refl _)); (repeat (first | (with_reducible exact Below.refl _ _) | (with_reducible exact grown_merge _ _ _ _) | (with_reducible exact grown_merge2 _ _ _ _ _ _) | (with_reducible exact grown_merge3 _ _ _ _ _ _ _) | (with_reducible refine Below.allocS ?_ _) | (with_reducible refine Below.moreS ?_ _) | (with_reducible refine Below.drew ?_))); done))) ?_
  clear hK K
  try simp only [Act.put, List.getElem_toArray, List.getElem_cons_succ, List.getElem_cons_zero, List.setIfInBounds_toArray, List.set_cons_zero, List.set_cons_succ]
  refine gb_take 4 (v := ?_) rfl (by kernel_rfl) (by kernel_rfl) (by kernel_rfl) (fun _ _ _ h => h) (Or.inl ⟨by first | kernel_rfl | rfl, ?_⟩) ?_
  rotate_left
  · intro wS hSw; have hSc := hSw.cell; clear hSw; go_simp; first | (with_reducible rfl) | (rw [if_neg (by first | omega | (simp only [List.length_append, List.length_cons, List.length_nil]; omega))])
  try simp only [Act.put, List.getElem_toArray, List.getElem_cons_succ, List.getElem_cons_zero, List.setIfInBounds_toArray, List.set_cons_zero, List.set_cons_succ]
  refine gb_take 5 (v := ?_) rfl (by kernel_rfl) (by kernel_rfl) (by kernel_rfl) (fun _ _ _ h => h) (Or.inl ⟨by first | kernel_rfl | rfl, ?_⟩) ?_
  rotate_left
  · intro wS hSw; have hSc := hSw.cell; clear hSw; go_simp; first | (with_reducible rfl) | (rw [if_neg (by first | omega | (simp only [List.length_append, List.length_cons, List.length_nil]; omega))])
  try simp only [Act.put, List.getElem_toArray, List.getElem_cons_succ, List.getElem_cons_zero, List.setIfInBounds_toArray, List.set_cons_zero, List.set_cons_succ]
  refine gb_step 9 (by kernel_rfl) rfl (fun K hK => ?_)
  go_simp
  go_wp2_with ((go_at_call 17; (with_reducible refine (HT2.out _).mono ?_); rintro e w' ⟨rfl, rfl⟩))
  refine hK.out _ _ (show Below _ _ _ from (by first | exact Below.refl _ _ | (refine Below.mono (B := wb.heap.size) ?_ (by exact Nat.le_refl _); (repeat (first | (with_reducible exact Below.refl _ _) | (with_reducible exact grown_merge _ _ _ _) | (with_reducible exact grown_merge2 _ _ _ _ _ _) | (with_reducible exact grown_merge3 _ _ _ _ _ _ _) | (with_reducible refine Below.allocS ?_ _) | (with_reducible refine Below.moreS ?_ _) | (with_reducible refine Below.drew ?_))); done) | (refine gb_undrew (Below.mono (B := wb.heap.size) ?_ (by exact Nat.le_refl _)); (repeat (first | (with_reducible exact Below.refl _ _) | (with_reducible exact grown_merge _ _ _ _) | (with_reducible exact grown_merge2 _ _ _ _ _ _) | (with_reducible exact grown_merge3 _ _ _ _ _ _ _) | (with_reducible refine Below.allocS ?_ _) | (with_reducible refine Below.moreS ?_ _) | (with_reducible refine Below.drew ?_))); done))) ?_
  clear hK K
  try simp only [Act.put, List.getElem_toArray, List.getElem_cons_succ, List.getElem_cons_zero, List.setIfInBounds_toArray, List.set_cons_zero, List.set_cons_succ]
  refine gb_take 10 (v := ?_) rfl (by kernel_rfl) (by kernel_rfl) (by kernel_rfl) (fun _ _ _ h => h) (Or.inl ⟨by first | kernel_rfl | rfl, ?_⟩) ?_
  rotate_left
  · intro wS hSw; have hSc := hSw.cell; clear hSw; go_simp; first | (with_reducible rfl) | (rw [if_neg (by first | omega | (simp only [List.length_append, List.length_cons, List.length_nil]; omega))])
  try simp only [Act.put, List.getElem_toArray, List.getElem_cons_succ, List.getElem_cons_zero, List.setIfInBounds_toArray, List.set_cons_zero, List.set_cons_succ]
  refine gb_step 14 (by kernel_rfl) rfl (fun K hK => ?_)
  go_simp
  go_wp2_with ((go_at_call 17; (with_reducible refine (HT1.out _).mono ?_); rintro e w' ⟨rfl, rfl⟩))
  refine hK.out _ _ (show Below _ _ _ from (by first | exact Below.refl _ _ | (refine Below.mono (B := wb.heap.size) ?_ (by exact Nat.le_refl _); (repeat (first | (with_reducible exact Below.refl _ _) | (with_reducible exact grown_merge _ _ _ _) | (with_reducible exact grown_merge2 _ _ _ _ _ _) | (with_reducible exact grown_merge3 _ _ _ _ _ _ _) | (with_reducible refine Below.allocS ?_ _) | (with_reducible refine Below.moreS ?_ _) | (with_reducible refine Below.drew ?_))); done) | (refine gb_undrew (Below.mono (B := wb.heap.size) ?_ (by exact Nat.le_refl _)); (repeat (first | (with_reducible exact Below.refl _ _) | (with_reducible exact grown_merge _ _ _ _) | (with_reducible exact grown_merge2 _ _ _ _ _ _) | (with_reducible exact grown_merge3 _ _ _ _ _ _ _) | (with_reducible refine Below.allocS ?_ _) | (with_reducible refine Below.moreS ?_ _) | (with_reducible refine Below.drew ?_))); done))) ?_
  clear hK K
  try simp only [Act.put, List.getElem_toArray, List.getElem_cons_succ, List.getElem_cons_zero, List.setIfInBounds_toArray, List.set_cons_zero, List.set_cons_succ]
  refine gb_take 15 (v := ?_) rfl (by kernel_rfl) (by kernel_rfl) (by kernel_rfl) (fun _ _ _ h => h) (Or.inl ⟨by first | kernel_rfl | rfl, ?_⟩) ?_
  rotate_left
  · intro wS hSw; have hSc := hSw.cell; clear hSw; go_simp; first | (with_reducible rfl) | (rw [if_neg (by first | omega | (simp only [List.length_append, List.length_cons, List.length_nil]; omega))])
  try simp only [Act.put, List.getElem_toArray, List.getElem_cons_succ, List.getElem_cons_zero, List.setIfInBounds_toArray, List.set_cons_zero, List.set_cons_succ]
  refine gb_take 16 (v := ?_) rfl (by kernel_rfl) (by kernel_rfl) (by kernel_rfl) (fun _ _ _ h => h) (Or.inl ⟨by first | kernel_rfl | rfl, ?_⟩) ?_
  rotate_left
  · intro wS hSw; have hSc := hSw.cell; clear hSw; go_simp; first | (with_reducible rfl) | (rw [if_neg (by first | omega | (simp only [List.length_append, List.length_cons, List.length_nil]; omega))])
  try simp only [Act.put, List.getElem_toArray, List.getElem_cons_succ, List.getElem_cons_zero, List.setIfInBounds_toArray, List.set_cons_zero, List.set_cons_succ]
  refine gb_step 20 (by kernel_rfl) rfl (fun K hK => ?_)
  go_simp
  go_wp2_with ((go_at_call 17; (with_reducible refine (HT3.out _).mono ?_); rintro e w' ⟨rfl, rfl⟩))
  refine hK.out _ _ (show Below _ _ _ from (by first | exact Below.refl _ _ | (refine Below.mono (B := wb.heap.size) ?_ (by exact Nat.le_refl _); (repeat (first | (with_reducible exact Below.refl _ _) | (with_reducible exact grown_merge _ _ _ _) | (with_reducible exact grown_merge2 _ _ _ _ _ _) | (with_reducible exact grown_merge3 _ _ _ _ _ _ _) | (with_reducible refine Below.allocS ?_ _) | (with_reducible refine Below.moreS ?_ _) | (with_reducible refine Below.drew ?_))); done) | (refine gb_undrew (Below.mono (B := wb.heap.size) ?_ (by exact Nat.le_refl _)); (repeat (first | (with_reducible exact Below.refl _ _) | (with_reducible exact grown_merge _ _ _ _) | (with_reducible exact grown_merge2 _ _ _ _ _ _) | (with_reducible exact grown_merge3 _ _ _ _ _ _ _) | (with_reducible refine Below.allocS ?_ _) | (with_reducible refine Below.moreS ?_ _) | (with_reducible refine Below.drew ?_))); done))) ?_
  clear hK K
  try simp only [Act.put, List.getElem_toArray, List.getElem_cons_succ, List.getElem_cons_zero, List.setIfInBounds_toArray, List.set_cons_zero, List.set_cons_succ]
  refine gb_take 21 (v := ?_) rfl (by kernel_rfl) (by kernel_rfl) (by kernel_rfl) (fun _ _ _ h => h) (Or.inl ⟨by first | kernel_rfl | rfl, ?_⟩) ?_
  rotate_left
  · intro wS hSw; have hSc := hSw.cell; clear hSw; go_simp; first | (with_reducible rfl) | (rw [if_neg (by first | omega | (simp only [List.length_append, List.length_cons, List.length_nil]; omega))])
  try simp only [Act.put, List.getElem_toArray, List.getElem_cons_succ, List.getElem_cons_zero, List.setIfInBounds_toArray, List.set_cons_zero, List.set_cons_succ]
  refine gb_step 22 (by kernel_rfl) rfl (fun K hK => ?_)
  go_simp
  go_wp2_with fail
  refine hK.out _ _ (show Below _ _ _ from (by first | exact Below.refl _ _ | (refine Below.mono (B := wb.heap.size) ?_ (by exact Nat.le_refl _); (repeat (first | (with_reducible exact Below.refl _ _) | (with_reducible exact grown_merge _ _ _ _) | (with_reducible exact grown_merge2 _ _ _ _ _ _) | (with_reducible exact grown_merge3 _ _ _ _ _ _ _) | (with_reducible refine Below.allocS ?_ _) | (with_reducible refine Below.moreS ?_ _) | (with_reducible refine Below.drew ?_))); done) | (refine gb_undrew (Below.mono (B := wb.heap.size) ?_ (by exact Nat.le_refl _)); (repeat (first | (with_reducible exact Below.refl _ _) | (with_reducible exact grown_merge _ _ _ _) | (with_reducible exact grown_merge2 _ _ _ _ _ _) | (with_reducible exact grown_merge3 _ _ _ _ _ _ _) | (with_reducible refine Below.allocS ?_ _) | (with_reducible refine Below.moreS ?_ _) | (with_reducible refine Below.drew ?_))); done))) ?_
  clear hK K
  try simp only [Act.put, List.getElem_toArray, List.getElem_cons_succ, List.getElem_cons_zero, List.setIfInBounds_toArray, List.set_cons_zero, List.set_cons_succ]
  refine gb_take 23 (v := ?_) rfl (by kernel_rfl) (by kernel_rfl) (by kernel_rfl) (fun _ _ _ h => h) (Or.inl ⟨by first | kernel_rfl | rfl, ?_⟩) ?_
  rotate_left
  · intro wS hSw; have hSc := hSw.cell; clear hSw; go_simp; try with_reducible rfl
  try simp only [Act.put, List.getElem_toArray, List.getElem_cons_succ, List.getElem_cons_zero, List.setIfInBounds_toArray, List.set_cons_zero, List.set_cons_succ]
  refine wpAnyH_done (by kernel_rfl) ?_ _
  clear c0 c1 c2 c3
  go_wp2_with fail
  have HEQ2 : Hid (LS = [S0, S1] ++ typesD F 11 ++ kindsL F 4 ++ secL R) := by show _ = _; rw [HEQ.out, typesD_all]; simp only [List.append_assoc]
  clear HEQ HT0 HT1 HT2 HT3
  go_loopg [3, 4] 11 (fun g v i wr => ∃ k : Nat, k + g = 11 ∧ i = .int .i64 k ∧ OwnX wb.heap.size wr v ([S0, S1] ++ typesD F k) ∧ Below wb.heap.size wb wr)
  case atStart => exact ⟨0, rfl, rfl, by rw [show typesD F 0 = [] from rfl, List.append_nil, HS0.out, HS1.out]; exact OwnX.of_two (by first | exact Blk.new _ _ _ | exact (Blk.new _ _ _).drew) (Nat.le_refl _), (by repeat (first | (with_reducible exact Below.refl _ _) | (with_reducible refine Below.allocS ?_ _) | (with_reducible refine Below.moreS ?_ _) | (with_reducible refine Below.drew ?_) | (with_reducible refine below_drewN ?_ _)))⟩
  case round =>
    obtain ⟨k, hkg, rfl, ho, hb⟩ := hrel
    have HK := Lib.hid hkg
    have HO := Lib.hid ho
    have HB := Lib.hid hb
    have hbz := hb.size
    have hgx : g0 < wr.heap.size := Nat.lt_of_lt_of_le hgb hbz
    have htl := typesD_len F k
    by_cases hlt : k < 11
    · have k0 : (0 : Int) ≤ k := by omega
      have k1 : (k : Int) ≤ 10 := by omega
      have k2 : (k : Int) < 11 := by omega
      have hgr := HG0'.out.below hb hgb
      have c0 : wr.cell? ⟨g0, 4 + k, none⟩ = some (.int .i64 (F (4 + k))) := hgr.rowGetT (by omega)
      have hU : [S0, S1] ++ typesD F (k + 1) = ([S0, S1] ++ typesD F k) ++ partL (nameD k) (F (4 + k)) := by rw [typesD_step, List.append_assoc]
      have hgd := HF.out (4 + k) (by omega)
      have HTT := Lib.hid (HRT.out (F (4 + k)) hgd)
      have hlT := itoa_len hgd.1 hgd.2
      have hLN : ([S0, S1] ++ typesD F k).length + 1 ≤ 1048576 := by simp; omega
      have hln : (nameD k).length ≤ 30 := by
        unfold nameD
        split
        · have := nameF_len (t := (k : Int)) (by omega) (by omega)
          have e : nameF (k : Int) = tyName k := by unfold nameF; rw [if_neg (by omega), if_pos (by omega)]; rfl
          rw [← e]; exact this
        · decide
      have HNM : Hid (∀ W, Calls Tryd.prog 18 #[] W (NamesPost 10 tyName W)) := ref08_Names
      have HNK : Hid (k < 10 → nameD k = tyName k) := fun h => by unfold nameD; rw [if_pos h]
      have HNO : Hid (¬ k < 10 → nameD k = [111, 116, 104, 101, 114, 115]) := fun h => by unfold nameD; rw [if_neg h]
      clear hgr ho hb hkg hgd htl
      generalize hFk : F (4 + k) = fk at c0 hU HTT hlT
      generalize nameD k = nm at hU hln HNK HNO
      have HLN := Lib.hid hLN
      generalize [S0, S1] ++ typesD F k = out at HO HLN hU
      have HU := Lib.hid hU
      clear hU hLN
      have hstep : ∀ (T : List UInt8), T = nm → ∃ tt, tt = T := fun T _ => ⟨T, rfl⟩
      clear hstep
      by_cases hpos : 0 < fk
      · have hU2 : [S0, S1] ++ typesD F (k + 1) = out ++ [nm ++ 32 :: Lib.itoa fk] := by rw [HU.out]; unfold partL; rw [if_pos hpos]
        have HU2 := Lib.hid hU2
        clear HU hU2
        generalize Lib.itoa fk = T at HTT hlT HU2
        by_cases h10 : k < 10
        · have hk10 : (k : Int) < 10 := by omega
          obtain rfl := HNK.out h10
          clear HNK HNO
          go_wp2_with fail
          refine (HNM.out _).mono ?_
          rintro e w3 ⟨g3, rfl, hc3, hg3, hb3⟩
          have d0 := hc3 k h10
          have hz3 := hb3.size
          have c03 : w3.cell? ⟨g0, 4 + k, none⟩ = some (.int .i64 fk) := (hb3.cell (p := ⟨g0, 4 + k, none⟩) hgx).trans c0
          have hgx3 : g0 < w3.heap.size := by omega
          have HO3 := Lib.hid (HO.out.below hb3 (Nat.le_refl _))
          have HB3 := Lib.hid (HB.out.trans (hb3.mono hbz))
          clear hc3 hb3 c0 HO HB
          generalize tyName k = nm at d0 hln HU2
          go_wp2_with (first
            | (go_at_call 17; (with_reducible refine (HTT.out _).mono ?_); rintro e w' ⟨rfl, rfl⟩)
            | (at_builtin; refine app_text (.tmp 47) (.tmp 56) rfl rfl rfl (HO3.out.alloc _) rfl (Blk.new _ _ _) HLN.out (by simp; omega) ?_; intro v' w2 hown hbw))
          have HB4 : Hid (Below wb.heap.size wb w2) := by
            refine HB3.out.trans (Below.trans ?_ hbw)
            exact Below.mono (B := w3.heap.size) (by repeat (first | (with_reducible exact Below.refl _ _) | (with_reducible refine Below.allocS ?_ _) | (with_reducible refine Below.moreS ?_ _) | (with_reducible refine Below.drew ?_) | (with_reducible refine below_drewN ?_ _))) (by omega)
          have HO4 := Lib.hid hown
          clear hown hbw
          go_wp2_with fail
          go_roundg (11 - (k + 1))
          case measure => have := HK.out; omega
          case rel => exact ⟨k + 1, by have := HK.out; omega, by go_num, by rw [HU2.out]; exact HO4.out, HB4.out⟩
        · have hk10 : ¬ (k : Int) < 10 := by omega
          obtain rfl := HNO.out h10
          clear HNK HNO HNM
          go_wp2_with (first
            | (go_at_call 17; (with_reducible refine (HTT.out _).mono ?_); rintro e w' ⟨rfl, rfl⟩)
            | (at_builtin; refine app_text (.tmp 47) (.tmp 56) rfl rfl rfl (HO.out.alloc _) rfl (Blk.new _ _ _) HLN.out (by simp; omega) ?_; intro v' w2 hown hbw))
          have HB4 : Hid (Below wb.heap.size wb w2) := by
            refine HB.out.trans (Below.trans ?_ hbw)
            exact Below.mono (B := wr.heap.size) (by repeat (first | (with_reducible exact Below.refl _ _) | (with_reducible refine Below.allocS ?_ _) | (with_reducible refine Below.moreS ?_ _) | (with_reducible refine Below.drew ?_) | (with_reducible refine below_drewN ?_ _))) (by omega)
          have HO4 := Lib.hid hown
          clear hown hbw
          go_wp2_with fail
          go_roundg (11 - (k + 1))
          case measure => have := HK.out; omega
          case rel => exact ⟨k + 1, by have := HK.out; omega, by go_num, by rw [HU2.out]; exact HO4.out, HB4.out⟩
      · have hU2 : [S0, S1] ++ typesD F (k + 1) = out := by rw [HU.out]; unfold partL; rw [if_neg hpos, List.append_nil]
        have HU2 := Lib.hid hU2
        clear HU hU2 HTT hlT
        by_cases h10 : k < 10
        · have hk10 : (k : Int) < 10 := by omega
          obtain rfl := HNK.out h10
          clear HNK HNO
          go_wp2_with fail
          refine (HNM.out _).mono ?_
          rintro e w3 ⟨g3, rfl, hc3, hg3, hb3⟩
          have d0 := hc3 k h10
          have hz3 := hb3.size
          have c03 : w3.cell? ⟨g0, 4 + k, none⟩ = some (.int .i64 fk) := (hb3.cell (p := ⟨g0, 4 + k, none⟩) hgx).trans c0
          have hgx3 : g0 < w3.heap.size := by omega
          have HO3 := Lib.hid (HO.out.below hb3 (Nat.le_refl _))
          have HB3 := Lib.hid (HB.out.trans (hb3.mono hbz))
          clear hc3 hb3 c0 HO HB
          go_wp2_with fail
          go_roundg (11 - (k + 1))
          case measure => have := HK.out; omega
          case rel => exact ⟨k + 1, by have := HK.out; omega, by go_num, by rw [HU2.out]; exact HO3.out, HB3.out⟩
        · have hk10 : ¬ (k : Int) < 10 := by omega
          clear HNK HNO HNM
          go_wp2_with fail
          go_roundg (11 - (k + 1))
          case measure => have := HK.out; omega
          case rel => exact ⟨k + 1, by have := HK.out; omega, by go_num, by rw [HU2.out]; exact HO.out, HB.out⟩
    · have hk11 : k = 11 := by omega
      subst hk11
      have HO6 := Lib.hid HO.out
      have HB6 := Lib.hid HB.out
      have hl6 : ([S0, S1] ++ typesD F 11).length ≤ 20 := by simp; omega
      have hnk11 : ¬ ((11 : Nat) : Int) ≤ 10 := by omega
      clear ho hb hkg HO HB hlt
      generalize [S0, S1] ++ typesD F 11 = L1 at HO6 HEQ2 hl6
      have HL1 := Lib.hid hl6
      clear hl6 htl
      go_wp2_with fail
      go_loopg [3, 6] 4 (fun g v i wr => ∃ k : Nat, k + g = 4 ∧ i = .int .i64 ((k : Int) + 1) ∧ OwnX wb.heap.size wr v (L1 ++ kindsL F k) ∧ Below wb.heap.size wb wr)
      case atStart => exact ⟨0, rfl, rfl, by rw [show kindsL F 0 = [] from rfl, List.append_nil]; exact HO6.out, HB6.out⟩
      case round =>
        obtain ⟨k, hkg, rfl, ho, hb⟩ := hrel
        have HK := Lib.hid hkg
        have HO := Lib.hid ho
        have HB2 := Lib.hid hb
        have hbz := hb.size
        have hgx : g0 < wr.heap.size := Nat.lt_of_lt_of_le hgb hbz
        have htl := kindsL_len F k
        by_cases hlt : k < 4
        · have k0 : (0 : Int) ≤ (k : Int) + 1 := by omega
          have k2 : (k : Int) + 1 ≤ 4 := by omega
          have k3 : (k : Int) + 1 < 5 := by omega
          have k4 : ((k : Int) + 1).toNat = k + 1 := by omega
          have hgr := HG0'.out.below hb hgb
          have c0 : wr.cell? ⟨g0, 15 + (k + 1), none⟩ = some (.int .i64 (F (16 + k))) := by rw [show 15 + (k + 1) = 16 + k by omega]; exact hgr.rowGetT (by omega)
          have hU : L1 ++ kindsL F (k + 1) = (L1 ++ kindsL F k) ++ partL (kindN k) (F (16 + k)) := by rw [kindsL_step, List.append_assoc, show kindF ((k : Int) + 1) = kindN k from kindN_at ⟨k, hlt⟩]
          have hln : (kindN k).length ≤ 30 := by rw [← show kindF ((k : Int) + 1) = kindN k from kindN_at ⟨k, hlt⟩]; exact kindF_len _
          have hgd := HF.out (16 + k) (by omega)
          have HTT := Lib.hid (HRT.out (F (16 + k)) hgd)
          have hlT := itoa_len hgd.1 hgd.2
          have hLN : (L1 ++ kindsL F k).length + 1 ≤ 1048576 := by rw [List.length_append]; have := HL1.out; omega
          have HKN : Hid (∀ W, Calls Tryd.prog 19 #[] W fun e w' => ∃ g j, e = .returned (.slice (some ⟨g, 0, none⟩) 4 4) ∧ w'.cell? ⟨g, k, none⟩ = some (bstr (kindN k)) ∧ g < w'.heap.size ∧ w' = W.more j) := fun W => (ref41_Kinds W).mono fun e w' ⟨g, h1, h2, h3, h4⟩ => by
            obtain ⟨j, hj⟩ := h4.junk
            exact ⟨g, j, h1, h2 k hlt, h3, hj⟩
          have hw1 : IntKind.i64.wrap ((k : Int) + 1 + 1) = (k : Int) + 1 + 1 := IntWalk.i64_in _ (by omega)
          have hw2 : IntKind.i64.wrap ((k : Int) + 1 - 1) = k := by rw [show (k : Int) + 1 - 1 = k by omega]; exact IntWalk.i64_in _ (by omega)
          have hw3 : IntKind.i64.wrap (k : Int) = k := IntWalk.i64_in _ (by omega)
          have k5 : (k : Int) < 4 := by omega
          clear hgr ho hb hkg hgd htl
          generalize F (16 + k) = fk at c0 hU HTT hlT
          generalize kindN k = nm at hU hln HKN
          have HLN := Lib.hid hLN
          generalize L1 ++ kindsL F k = out at HO HLN hU
          have HU := Lib.hid hU
          clear hU hLN
          by_cases hpos : 0 < fk
          · have hU2 : L1 ++ kindsL F (k + 1) = out ++ [nm ++ 32 :: Lib.itoa fk] := by rw [HU.out]; unfold partL; rw [if_pos hpos]
            have HU2 := Lib.hid hU2
            clear HU hU2
            generalize Lib.itoa fk = T at HTT hlT HU2
            go_wp2_with fail
            refine gb_start wb.heap.size (by kernel_rfl) ?_
            refine gb_take 0 (v := ?_) rfl (by kernel_rfl) (by kernel_rfl) (by kernel_rfl) (fun _ _ _ h => h) (Or.inl ⟨by first | kernel_rfl | rfl, ?_⟩) ?_
            rotate_left
            · intro wS hSw; have hSc := hSw.cell; clear hSw; go_simp; try with_reducible rfl
            try simp only [Act.put, List.getElem_toArray, List.getElem_cons_succ, List.getElem_cons_zero, List.setIfInBounds_toArray, List.set_cons_zero, List.set_cons_succ]
            refine gb_take 2 (v := ?_) rfl (by kernel_rfl) (by kernel_rfl) (by kernel_rfl) (fun _ _ _ h => h) (Or.inl ⟨by first | kernel_rfl | rfl, ?_⟩) ?_
            rotate_left
            · intro wS hSw; have hSc := hSw.cell; clear hSw; go_simp; try with_reducible rfl
            try simp only [Act.put, List.getElem_toArray, List.getElem_cons_succ, List.getElem_cons_zero, List.setIfInBounds_toArray, List.set_cons_zero, List.set_cons_succ]
            refine gb_take 3 (v := ?_) rfl (by kernel_rfl) (by kernel_rfl) (by kernel_rfl) (fun _ _ _ h => h) (Or.inl ⟨by first | kernel_rfl | rfl, ?_⟩) ?_
            rotate_left
            · intro wS hSw; have hSc := hSw.cell; clear hSw; go_simp; try with_reducible rfl
            try simp only [Act.put, List.getElem_toArray, List.getElem_cons_succ, List.getElem_cons_zero, List.setIfInBounds_toArray, List.set_cons_zero, List.set_cons_succ]
            refine gb_take 7 (v := ?_) rfl (by kernel_rfl) (by kernel_rfl) (by kernel_rfl) (fun _ _ _ h => h) (Or.inl ⟨by first | kernel_rfl | rfl, ?_⟩) ?_
            rotate_left
            · intro wS hSw; have hSc := hSw.cell; clear hSw; go_simp; try with_reducible rfl
            try simp only [Act.put, List.getElem_toArray, List.getElem_cons_succ, List.getElem_cons_zero, List.setIfInBounds_toArray, List.set_cons_zero, List.set_cons_succ]
            refine gb_take 8 (v := ?_) rfl (by kernel_rfl) (by kernel_rfl) (by kernel_rfl) (fun _ _ _ h => h) (Or.inl ⟨by first | kernel_rfl | rfl, ?_⟩) ?_
            rotate_left
            · intro wS hSw; have hSc := hSw.cell; clear hSw; go_simp; try with_reducible rfl
            try simp only [Act.put, List.getElem_toArray, List.getElem_cons_succ, List.getElem_cons_zero, List.setIfInBounds_toArray, List.set_cons_zero, List.set_cons_succ]
            refine gb_take 9 (v := ?_) rfl (by kernel_rfl) (by kernel_rfl) (by kernel_rfl) (fun _ _ _ h => h) (Or.inl ⟨by first | kernel_rfl | rfl, ?_⟩) ?_
            rotate_left
            · intro wS hSw; have hSc := hSw.cell; clear hSw; go_simp; try with_reducible rfl
            try simp only [Act.put, List.getElem_toArray, List.getElem_cons_succ, List.getElem_cons_zero, List.setIfInBounds_toArray, List.set_cons_zero, List.set_cons_succ]
            refine gb_take 10 (v := ?_) rfl (by kernel_rfl) (by kernel_rfl) (by kernel_rfl) (fun _ _ _ h => h) (Or.inl ⟨by first | kernel_rfl | rfl, ?_⟩) ?_
            rotate_left
            · intro wS hSw; have hSc := hSw.cell; clear hSw; go_simp; try with_reducible rfl
            try simp only [Act.put, List.getElem_toArray, List.getElem_cons_succ, List.getElem_cons_zero, List.setIfInBounds_toArray, List.set_cons_zero, List.set_cons_succ]
            refine gb_step 1 (by kernel_rfl) rfl (fun K hK => ?_)
            go_simp
            go_wp2_with fail
            refine (HKN.out _).mono ?_
            rintro e w3 ⟨g3, j3, rfl, hc3, hg3, rfl⟩
            try simp only [World.more_drew, World.more_more, World.size_more, World.size_drew] at hc3 hg3 ⊢
            go_wp2_with fail
            refine hK.out _ _ (show Below _ _ _ from (by first | exact Below.refl _ _ | (refine Below.mono (B := wr.heap.size) ?_ (by exact hbz); (repeat (first | (with_reducible exact Below.refl _ _) | (with_reducible exact grown_merge _ _ _ _) | (with_reducible exact grown_merge2 _ _ _ _ _ _) | (with_reducible exact grown_merge3 _ _ _ _ _ _ _) | (with_reducible refine Below.allocS ?_ _) | (with_reducible refine Below.moreS ?_ _) | (with_reducible refine Below.drew ?_))); done) | (refine gb_undrew (Below.mono (B := wr.heap.size) ?_ (by exact hbz)); (repeat (first | (with_reducible exact Below.refl _ _) | (with_reducible exact grown_merge _ _ _ _) | (with_reducible exact grown_merge2 _ _ _ _ _ _) | (with_reducible exact grown_merge3 _ _ _ _ _ _ _) | (with_reducible refine Below.allocS ?_ _) | (with_reducible refine Below.moreS ?_ _) | (with_reducible refine Below.drew ?_))); done))) ?_
            clear hK K
            try simp only [Act.put, List.getElem_toArray, List.getElem_cons_succ, List.getElem_cons_zero, List.setIfInBounds_toArray, List.set_cons_zero, List.set_cons_succ]
            refine gb_take 4 (v := ?_) rfl (by kernel_rfl) (by kernel_rfl) (by kernel_rfl) (fun _ _ _ h => h) (Or.inl ⟨by first | kernel_rfl | rfl, ?_⟩) ?_
            rotate_left
            · intro wS hSw; have hSc := hSw.cell; clear hSw; go_simp; try with_reducible rfl
            try simp only [Act.put, List.getElem_toArray, List.getElem_cons_succ, List.getElem_cons_zero, List.setIfInBounds_toArray, List.set_cons_zero, List.set_cons_succ]
            refine gb_two 5 11 (by kernel_rfl) rfl rfl (fun K hK => ?_) (fun K hK => ?_)
            · go_simp
              refine hK.out _ _ (show Below _ _ _ from (by first | exact Below.refl _ _ | (refine Below.mono (B := wr.heap.size) ?_ (by exact hbz); (repeat (first | (with_reducible exact Below.refl _ _) | (with_reducible exact grown_merge _ _ _ _) | (with_reducible exact grown_merge2 _ _ _ _ _ _) | (with_reducible exact grown_merge3 _ _ _ _ _ _ _) | (with_reducible refine Below.allocS ?_ _) | (with_reducible refine Below.moreS ?_ _) | (with_reducible refine Below.drew ?_))); done) | (refine gb_undrew (Below.mono (B := wr.heap.size) ?_ (by exact hbz)); (repeat (first | (with_reducible exact Below.refl _ _) | (with_reducible exact grown_merge _ _ _ _) | (with_reducible exact grown_merge2 _ _ _ _ _ _) | (with_reducible exact grown_merge3 _ _ _ _ _ _ _) | (with_reducible refine Below.allocS ?_ _) | (with_reducible refine Below.moreS ?_ _) | (with_reducible refine Below.drew ?_))); done))) ?_
              clear hK K
              try simp only [Act.put, List.getElem_toArray, List.getElem_cons_succ, List.getElem_cons_zero, List.setIfInBounds_toArray, List.set_cons_zero, List.set_cons_succ]
              refine gb_take 6 (v := ?_) rfl (by kernel_rfl) (by kernel_rfl) (by kernel_rfl) (fun _ _ _ h => h) (Or.inl ⟨by first | kernel_rfl | rfl, ?_⟩) ?_
              rotate_left
              · intro wS hSw; have hSc := hSw.cell; clear hSw; go_simp; first | (with_reducible rfl) | (rw [if_neg (by first | omega | (simp only [List.length_append, List.length_cons, List.length_nil]; omega))])
              try simp only [Act.put, List.getElem_toArray, List.getElem_cons_succ, List.getElem_cons_zero, List.setIfInBounds_toArray, List.set_cons_zero, List.set_cons_succ]
              refine gb_step 11 (by kernel_rfl) rfl (fun K hK => ?_)
              go_simp
              go_wp2_with ((go_at_call 17; (with_reducible refine (HTT.out _).mono ?_); rintro e w' ⟨rfl, rfl⟩))
              refine hK.out _ _ (show Below _ _ _ from (by first | exact Below.refl _ _ | (refine Below.mono (B := wr.heap.size) ?_ (by exact hbz); (repeat (first | (with_reducible exact Below.refl _ _) | (with_reducible exact grown_merge _ _ _ _) | (with_reducible exact grown_merge2 _ _ _ _ _ _) | (with_reducible exact grown_merge3 _ _ _ _ _ _ _) | (with_reducible refine Below.allocS ?_ _) | (with_reducible refine Below.moreS ?_ _) | (with_reducible refine Below.drew ?_))); done) | (refine gb_undrew (Below.mono (B := wr.heap.size) ?_ (by exact hbz)); (repeat (first | (with_reducible exact Below.refl _ _) | (with_reducible exact grown_merge _ _ _ _) | (with_reducible exact grown_merge2 _ _ _ _ _ _) | (with_reducible exact grown_merge3 _ _ _ _ _ _ _) | (with_reducible refine Below.allocS ?_ _) | (with_reducible refine Below.moreS ?_ _) | (with_reducible refine Below.drew ?_))); done))) ?_
              clear hK K
              try simp only [Act.put, List.getElem_toArray, List.getElem_cons_succ, List.getElem_cons_zero, List.setIfInBounds_toArray, List.set_cons_zero, List.set_cons_succ]
              refine gb_take 12 (v := ?_) rfl (by kernel_rfl) (by kernel_rfl) (by kernel_rfl) (fun _ _ _ h => h) (Or.inl ⟨by first | kernel_rfl | rfl, ?_⟩) ?_
              rotate_left
              · intro wS hSw; have hSc := hSw.cell; clear hSw; go_simp; first | (with_reducible rfl) | (rw [if_neg (by first | omega | (simp only [List.length_append, List.length_cons, List.length_nil]; omega))])
              try simp only [Act.put, List.getElem_toArray, List.getElem_cons_succ, List.getElem_cons_zero, List.setIfInBounds_toArray, List.set_cons_zero, List.set_cons_succ]
              refine gb_step 13 (by kernel_rfl) rfl (fun K hK => ?_)
              go_simp
              go_wp2_with fail
              refine hK.out _ _ (show Below _ _ _ from (by first | exact Below.refl _ _ | (refine Below.mono (B := (wr.more j3).heap.size) ?_ (by simp only [World.size_more]; omega); (repeat (first | (with_reducible exact Below.refl _ _) | (with_reducible exact grown_merge _ _ _ _) | (with_reducible exact grown_merge2 _ _ _ _ _ _) | (with_reducible exact grown_merge3 _ _ _ _ _ _ _) | (with_reducible refine Below.allocS ?_ _) | (with_reducible refine Below.moreS ?_ _) | (with_reducible refine Below.drew ?_))); done) | (refine gb_undrew (Below.mono (B := (wr.more j3).heap.size) ?_ (by simp only [World.size_more]; omega)); (repeat (first | (with_reducible exact Below.refl _ _) | (with_reducible exact grown_merge _ _ _ _) | (with_reducible exact grown_merge2 _ _ _ _ _ _) | (with_reducible exact grown_merge3 _ _ _ _ _ _ _) | (with_reducible refine Below.allocS ?_ _) | (with_reducible refine Below.moreS ?_ _) | (with_reducible refine Below.drew ?_))); done))) ?_
              clear hK K
              try simp only [Act.put, List.getElem_toArray, List.getElem_cons_succ, List.getElem_cons_zero, List.setIfInBounds_toArray, List.set_cons_zero, List.set_cons_succ]
              refine gb_step 14 (by kernel_rfl) rfl (fun K hK => ?_)
              refine step_text (B := wb.heap.size) (.tmp 67) (.tmp 80) rfl rfl rfl (HO.out.below (C := wr.heap.size) (by repeat (first | (with_reducible exact Below.refl _ _) | (with_reducible refine Below.allocS ?_ _) | (with_reducible refine Below.moreS ?_ _) | (with_reducible refine Below.drew ?_) | (with_reducible refine below_drewN ?_ _))) (Nat.le_refl _)) rfl (Blk.at_ _ _ _ (by simp)) HLN.out (by simp only [World.size_alloc, World.size_more]; omega) ?_
              intro v' w2 hown hbw
              have HB4 : Hid (Below wb.heap.size wb w2) := by
                refine HB2.out.trans (Below.trans ?_ hbw)
                exact Below.mono (B := wr.heap.size) (by repeat (first | (with_reducible exact Below.refl _ _) | (with_reducible refine Below.allocS ?_ _) | (with_reducible refine Below.moreS ?_ _) | (with_reducible refine Below.drew ?_) | (with_reducible refine below_drewN ?_ _))) hbz
              have HO4 := Lib.hid hown
              refine hK.out _ _ (show Below _ _ _ from hbw) ?_
              clear hK K hown hbw
              try simp only [Act.put, List.getElem_toArray, List.getElem_cons_succ, List.getElem_cons_zero, List.setIfInBounds_toArray, List.set_cons_zero, List.set_cons_succ]
              refine gb_take 15 (v := ?_) rfl (by kernel_rfl) (by kernel_rfl) (by kernel_rfl) (fun _ _ _ h => h) (Or.inl ⟨by first | kernel_rfl | rfl, ?_⟩) ?_
              rotate_left
              · intro wS hSw; have hSc := hSw.cell; clear hSw; go_simp; try with_reducible rfl
              try simp only [Act.put, List.getElem_toArray, List.getElem_cons_succ, List.getElem_cons_zero, List.setIfInBounds_toArray, List.set_cons_zero, List.set_cons_succ]
              refine wpAnyH_done (by kernel_rfl) ?_ _
              go_wp2_with fail
              go_roundg (4 - (k + 1))
              case measure => have := HK.out; omega
              case rel => exact ⟨k + 1, by have := HK.out; omega, by go_num, by rw [HU2.out]; exact HO4.out, HB4.out⟩
            · go_simp
              go_wp2_with ((go_at_call 17; (with_reducible refine (HTT.out _).mono ?_); rintro e w' ⟨rfl, rfl⟩))
              refine hK.out _ _ (show Below _ _ _ from (by first | exact Below.refl _ _ | (refine Below.mono (B := wr.heap.size) ?_ (by exact hbz); (repeat (first | (with_reducible exact Below.refl _ _) | (with_reducible exact grown_merge _ _ _ _) | (with_reducible exact grown_merge2 _ _ _ _ _ _) | (with_reducible exact grown_merge3 _ _ _ _ _ _ _) | (with_reducible refine Below.allocS ?_ _) | (with_reducible refine Below.moreS ?_ _) | (with_reducible refine Below.drew ?_))); done) | (refine gb_undrew (Below.mono (B := wr.heap.size) ?_ (by exact hbz)); (repeat (first | (with_reducible exact Below.refl _ _) | (with_reducible exact grown_merge _ _ _ _) | (with_reducible exact grown_merge2 _ _ _ _ _ _) | (with_reducible exact grown_merge3 _ _ _ _ _ _ _) | (with_reducible refine Below.allocS ?_ _) | (with_reducible refine Below.moreS ?_ _) | (with_reducible refine Below.drew ?_))); done))) ?_
              clear hK K
              try simp only [Act.put, List.getElem_toArray, List.getElem_cons_succ, List.getElem_cons_zero, List.setIfInBounds_toArray, List.set_cons_zero, List.set_cons_succ]
              refine gb_step 5 (by kernel_rfl) rfl (fun K hK => ?_)
              go_simp
              go_wp2_with fail
              refine hK.out _ _ (show Below _ _ _ from (by first | exact Below.refl _ _ | (refine Below.mono (B := wr.heap.size) ?_ (by exact hbz); (repeat (first | (with_reducible exact Below.refl _ _) | (with_reducible exact grown_merge _ _ _ _) | (with_reducible exact grown_merge2 _ _ _ _ _ _) | (with_reducible exact grown_merge3 _ _ _ _ _ _ _) | (with_reducible refine Below.allocS ?_ _) | (with_reducible refine Below.moreS ?_ _) | (with_reducible refine Below.drew ?_))); done) | (refine gb_undrew (Below.mono (B := wr.heap.size) ?_ (by exact hbz)); (repeat (first | (with_reducible exact Below.refl _ _) | (with_reducible exact grown_merge _ _ _ _) | (with_reducible exact grown_merge2 _ _ _ _ _ _) | (with_reducible exact grown_merge3 _ _ _ _ _ _ _) | (with_reducible refine Below.allocS ?_ _) | (with_reducible refine Below.moreS ?_ _) | (with_reducible refine Below.drew ?_))); done))) ?_
              clear hK K
              try simp only [Act.put, List.getElem_toArray, List.getElem_cons_succ, List.getElem_cons_zero, List.setIfInBounds_toArray, List.set_cons_zero, List.set_cons_succ]
              refine gb_take 6 (v := ?_) rfl (by kernel_rfl) (by kernel_rfl) (by kernel_rfl) (fun _ _ _ h => h) (Or.inl ⟨by first | kernel_rfl | rfl, ?_⟩) ?_
              rotate_left
              · intro wS hSw; have hSc := hSw.cell; clear hSw; go_simp; first | (with_reducible rfl) | (rw [if_neg (by first | omega | (simp only [List.length_append, List.length_cons, List.length_nil]; omega))])
              try simp only [Act.put, List.getElem_toArray, List.getElem_cons_succ, List.getElem_cons_zero, List.setIfInBounds_toArray, List.set_cons_zero, List.set_cons_succ]
              refine gb_take 12 (v := ?_) rfl (by kernel_rfl) (by kernel_rfl) (by kernel_rfl) (fun _ _ _ h => h) (Or.inl ⟨by first | kernel_rfl | rfl, ?_⟩) ?_
              rotate_left
              · intro wS hSw; have hSc := hSw.cell; clear hSw; go_simp; first | (with_reducible rfl) | (rw [if_neg (by first | omega | (simp only [List.length_append, List.length_cons, List.length_nil]; omega))])
              try simp only [Act.put, List.getElem_toArray, List.getElem_cons_succ, List.getElem_cons_zero, List.setIfInBounds_toArray, List.set_cons_zero, List.set_cons_succ]
              refine gb_step 13 (by kernel_rfl) rfl (fun K hK => ?_)
              go_simp
              go_wp2_with fail
              refine hK.out _ _ (show Below _ _ _ from (by first | exact Below.refl _ _ | (refine Below.mono (B := (wr.more j3).heap.size) ?_ (by simp only [World.size_more]; omega); (repeat (first | (with_reducible exact Below.refl _ _) | (with_reducible exact grown_merge _ _ _ _) | (with_reducible exact grown_merge2 _ _ _ _ _ _) | (with_reducible exact grown_merge3 _ _ _ _ _ _ _) | (with_reducible refine Below.allocS ?_ _) | (with_reducible refine Below.moreS ?_ _) | (with_reducible refine Below.drew ?_))); done) | (refine gb_undrew (Below.mono (B := (wr.more j3).heap.size) ?_ (by simp only [World.size_more]; omega)); (repeat (first | (with_reducible exact Below.refl _ _) | (with_reducible exact grown_merge _ _ _ _) | (with_reducible exact grown_merge2 _ _ _ _ _ _) | (with_reducible exact grown_merge3 _ _ _ _ _ _ _) | (with_reducible refine Below.allocS ?_ _) | (with_reducible refine Below.moreS ?_ _) | (with_reducible refine Below.drew ?_))); done))) ?_
              clear hK K
              try simp only [Act.put, List.getElem_toArray, List.getElem_cons_succ, List.getElem_cons_zero, List.setIfInBounds_toArray, List.set_cons_zero, List.set_cons_succ]
              refine gb_step 14 (by kernel_rfl) rfl (fun K hK => ?_)
              refine step_text (B := wb.heap.size) (.tmp 67) (.tmp 80) rfl rfl rfl (HO.out.below (C := wr.heap.size) (by repeat (first | (with_reducible exact Below.refl _ _) | (with_reducible refine Below.allocS ?_ _) | (with_reducible refine Below.moreS ?_ _) | (with_reducible refine Below.drew ?_) | (with_reducible refine below_drewN ?_ _))) (Nat.le_refl _)) rfl (Blk.at_ _ _ _ (by simp)) HLN.out (by simp only [World.size_alloc, World.size_more]; omega) ?_
              intro v' w2 hown hbw
              have HB4 : Hid (Below wb.heap.size wb w2) := by
                refine HB2.out.trans (Below.trans ?_ hbw)
                exact Below.mono (B := wr.heap.size) (by repeat (first | (with_reducible exact Below.refl _ _) | (with_reducible refine Below.allocS ?_ _) | (with_reducible refine Below.moreS ?_ _) | (with_reducible refine Below.drew ?_) | (with_reducible refine below_drewN ?_ _))) hbz
              have HO4 := Lib.hid hown
              refine hK.out _ _ (show Below _ _ _ from hbw) ?_
              clear hK K hown hbw
              try simp only [Act.put, List.getElem_toArray, List.getElem_cons_succ, List.getElem_cons_zero, List.setIfInBounds_toArray, List.set_cons_zero, List.set_cons_succ]
              refine gb_take 15 (v := ?_) rfl (by kernel_rfl) (by kernel_rfl) (by kernel_rfl) (fun _ _ _ h => h) (Or.inl ⟨by first | kernel_rfl | rfl, ?_⟩) ?_
              rotate_left
              · intro wS hSw; have hSc := hSw.cell; clear hSw; go_simp; try with_reducible rfl
              try simp only [Act.put, List.getElem_toArray, List.getElem_cons_succ, List.getElem_cons_zero, List.setIfInBounds_toArray, List.set_cons_zero, List.set_cons_succ]
              refine wpAnyH_done (by kernel_rfl) ?_ _
              go_wp2_with fail
              go_roundg (4 - (k + 1))
              case measure => have := HK.out; omega
              case rel => exact ⟨k + 1, by have := HK.out; omega, by go_num, by rw [HU2.out]; exact HO4.out, HB4.out⟩
          · have hU2 : L1 ++ kindsL F (k + 1) = out := by rw [HU.out]; unfold partL; rw [if_neg hpos, List.append_nil]
            have HU2 := Lib.hid hU2
            clear HU hU2 HTT hlT HKN
            go_wp2_with fail
            go_roundg (4 - (k + 1))
            case measure => have := HK.out; omega
            case rel => exact ⟨k + 1, by have := HK.out; omega, by go_num, by rw [HU2.out]; exact HO.out, HB2.out⟩
        · have hk4 : k = 4 := by omega
          subst hk4
          have hgr := HG0'.out.below hb hgb
          have c20 : wr.cell? ⟨g0, 20, none⟩ = some (.slice a R.length cap) := (hgr.cell 20).trans (rowA_sec _ _)
          have hk5 : ¬ ((4 : Nat) : Int) + 1 ≤ 4 := by omega
          have HBW2 : Hid (Below w.heap.size w wr) := HBW.out.trans (hb.mono HBW.out.size)
          have hg0e := HG0E.out
          subst hg0e
          clear hgr ho hb hkg hlt
          by_cases hR0 : R = []
          · have hS0 : secL R = [] := by rw [hR0]; rfl
            have hR1 : R.length = 0 := by rw [hR0]; rfl
            have hLS : LS = L1 ++ kindsL F 4 := by rw [HEQ2.out, hS0, List.append_nil]
            rw [hR1] at c20
            rw [← hLS] at HO
            clear HEQ2 hR0 hS0 hR1 hLS HS
            go_wp2_with fail
            go_ret
            exact HEND.out _ _ HO.out HBW2.out
          · have hS0 : secL R = [Lib.join ([115, 101, 99, 116, 105, 111, 110, 115] :: R) [32]] := by unfold secL; rw [if_neg hR0]
            have hLS : LS = L1 ++ kindsL F 4 ++ [Lib.join ([115, 101, 99, 116, 105, 111, 110, 115] :: R) [32]] := by rw [HEQ2.out, hS0]
            have hRp : 0 < R.length := List.length_pos_iff.2 hR0
            have hRp2 : (0 : Int) < R.length := by omega
            have HSR := Lib.hid ((HS.out.below HBW2.out (Nat.le_refl _)).mono HBW2.out.size (fun _ _ _ h => h))
            have HLEN : Hid ((L1 ++ kindsL F 4).length + 1 ≤ 1048576) := by show _ ≤ _; rw [List.length_append]; have := HL1.out; omega
            have HJ0 : Hid (Lib.join ([115, 101, 99, 116, 105, 111, 110, 115] :: R.take 0) [32] = [115, 101, 99, 116, 105, 111, 110, 115]) := by show _ = _; rw [List.take_zero, Lib.join_one]
            have HJS : Hid (∀ (q : Nat) (hq : q < R.length), Lib.join ([115, 101, 99, 116, 105, 111, 110, 115] :: R.take (q + 1)) [32] = Lib.join ([115, 101, 99, 116, 105, 111, 110, 115] :: R.take q) [32] ++ 32 :: R[q]) := fun q hq => by
              have := take_join_c 32 ([115, 101, 99, 116, 105, 111, 110, 115] :: R) (q + 1) (by simpa using hq)
              rw [if_neg (by omega)] at this
              simpa using this
            clear HEQ2 hR0 hS0 HS htl
            generalize L1 ++ kindsL F 4 = L2 at HO hLS HLEN
            go_wp2_with fail
            go_loopg [7, 8] R.length (fun g v i wq => ∃ (q : Nat) (acc : List UInt8), q + g = R.length ∧ i = .int .i64 q ∧ v = bstr acc ∧ acc.length ≤ 8 + 1001 * q ∧ wq = wr ∧ Hid (acc = Lib.join ([115, 101, 99, 116, 105, 111, 110, 115] :: R.take q) [32]))
            case atStart => exact ⟨0, [115, 101, 99, 116, 105, 111, 110, 115], by omega, rfl, rfl, by decide, rfl, HJ0.out.symm⟩
            case round =>
              obtain ⟨q, acc, hqg, rfl, rfl, hacc, rfl, HA⟩ := hrel
              have HQ := Lib.hid hqg
              by_cases hq : q < R.length
              · obtain ⟨b, off, ha, hbb, d0, hxl⟩ := HSR.out.atX hq
                subst ha
                have hxb := HX.out _ (List.getElem_mem hq)
                have HU : Hid (acc ++ 32 :: R[q] = Lib.join ([115, 101, 99, 116, 105, 111, 110, 115] :: R.take (q + 1)) [32]) := by show _ = _; rw [HJS.out q hq, HA.out]
                generalize R[q] = x at d0 hxb HU hxl
                have hq63 : q ≤ 100 := by omega
                clear HA hqg hxl
                go_wp2_with fail
                go_roundg (R.length - (q + 1))
                case measure => have := HQ.out; omega
                case rel => exact ⟨q + 1, acc ++ 32 :: x, by have := HQ.out; omega, by go_num, by simp, by simp; omega, rfl, HU⟩
              · have hA : acc = Lib.join ([115, 101, 99, 116, 105, 111, 110, 115] :: R) [32] := by rw [HA.out, List.take_of_length_le (by omega)]
                rw [← hA] at hLS
                clear HA hqg hA HJ0 HJS
                go_wp2_with (at_builtin; refine app_text (.tmp 101) (.tmp 103) rfl rfl rfl (HO.out.alloc _) rfl (Blk.new _ _ _) HLEN.out (by simp; omega) ?_; intro v7 w7 ho7 hb7)
                rw [← hLS] at ho7
                have HO7 := Lib.hid ho7
                have HB7 : Hid (Below w.heap.size w w7) := by
                  have h2 : Below w.heap.size _ w7 := hb7.mono HBW.out.size
                  refine HBW2.out.trans (Below.trans ?_ h2)
                  exact Below.mono (B := wr.heap.size) (by repeat (first | (with_reducible exact Below.refl _ _) | (with_reducible refine Below.allocS ?_ _) | (with_reducible refine Below.moreS ?_ _) | (with_reducible refine Below.drew ?_) | (with_reducible refine below_drewN ?_ _))) (by have := HBW2.out.size; omega)
                clear ho7 hb7 hLS
                go_wp2_with fail
                go_ret
                exact HEND.out _ _ HO7.out HB7.out
end Go.Proofs.YtfgldglelijekaaDoor
