/-
  Summaries: the walk of the program's lines.
-/
import Derived.Test.YtfgldglelijekaaGreatDoorSum5
import Derived.Test.YtfgldglelijekaaGreatDoorHeld
namespace Go.Proofs.YtfgldglelijekaaGreatDoor
set_option linter.unusedSimpArgs false
set_option linter.unusedVariables false
set_option linter.unusedSectionVars false
open Go.ChangeShapes Go.WideShapes Go.ChangeAt Go.RowKit Go.Deep Go.Shelf

theorem slX_three {w : World} {g : Nat} {t : TypeId} {x y z : List UInt8} (h : Blk w g t #[bstr x, bstr y, bstr z]) (hx : x.length ≤ 1000) (hy : y.length ≤ 1000) (hz : z.length ≤ 1000) : SlX w w.heap.size (some ⟨g, 0, none⟩) [x, y, z] :=
  (slX_new h rfl (by intro s hs; simp only [List.mem_cons, List.not_mem_nil, or_false] at hs; unfold maxLen; rcases hs with rfl | rfl | rfl <;> omega)).mono h.lt (fun _ _ _ h => h)
set_option maxHeartbeats 16000000 in
set_option maxRecDepth 100000 in
theorem summary_Text (F : Nat → Int) (a : Option Addr) (R : List (List UInt8)) (cap : Nat) (hF : ∀ i, i < 20 → goodI (F i)) (hR : R.length ≤ 100) (hX : ∀ x ∈ R, x.length ≤ 1000) (w : World) (hE : EnvK0 w) (hS : SlX w w.heap.size a R) :
    Calls Tryz.prog 10 #[.agg (rowA F (.slice a R.length cap))] w (MoreX w.heap.size (linesS F R) w) := by
  have HE := Lib.hid hE
  have HF := Lib.hid hF
  have HX := Lib.hid hX
  have HS := Lib.hid hS
  have hsz := rowA_size F (.slice a R.length cap)
  clear hE hF hX hS
  go_enter Tryz.func10, Tryz.ntmps10
  go_wp2_with fail
  obtain ⟨wb, hwb⟩ : ∃ wb, wb = w.alloc (.cells (rowA F (.slice a R.length cap)) SmT) := ⟨_, rfl⟩
  rw [← hwb]
  have hg0 : Blk wb w.heap.size SmT (rowA F (.slice a R.length cap)) := by rw [hwb]; exact Blk.new _ _ _
  have hzb : wb.heap.size = w.heap.size + 1 := by rw [hwb]; simp
  have HBW : Hid (Below w.heap.size w wb) := by show Below _ _ _; rw [hwb]; exact (by repeat (first | (with_reducible exact Below.refl _ _) | (with_reducible refine Below.allocS ?_ _) | (with_reducible refine Below.moreS ?_ _) | (with_reducible refine Below.drew ?_) | (with_reducible refine below_drewN ?_ _)))
  have HG0 := Lib.hid hg0
  have HZB := Lib.hid hzb
  obtain ⟨g0, hg0e⟩ : ∃ g0, g0 = w.heap.size := ⟨_, rfl⟩
  have HG0E := Lib.hid hg0e
  rw [← hg0e]
  have HG0' : Hid (Blk wb g0 SmT (rowA F (.slice a R.length cap))) := by show Blk _ _ _ _; rw [hg0e]; exact hg0
  have HZB' : Hid (wb.heap.size = g0 + 1) := by show _ = _; rw [hg0e]; exact hzb
  have HEB : Hid (EnvK0 wb) := HE.out.below HBW.out
  have hgb : g0 < wb.heap.size := by have := HZB'.out; omega
  clear hwb hg0 hzb hg0e HG0 HZB hsz HE
  go_loopg [3, 4] 2 (fun g v i wr => ∃ k : Nat, k + g = 2 ∧ i = .int .i64 k ∧ OwnX wb.heap.size wr v ((List.range k).map (sideL F)) ∧ Below wb.heap.size wb wr)
  case atStart => exact ⟨0, rfl, rfl, OwnX.nil _ _, Below.refl _ _⟩
  case round =>
    obtain ⟨k, hkg, rfl, ho, hb⟩ := hrel
    have HK := Lib.hid hkg
    have HO := Lib.hid ho
    have HB := Lib.hid hb
    by_cases hlt : k < 2
    · have k0 : (0 : Int) ≤ k := by omega
      have k1 : (k : Int) ≤ 1 := by omega
      have k2 : (k : Int) < 2 := by omega
      have hgr := HG0'.out.below hb hgb
      have c0 : wr.cell? ⟨g0, k, none⟩ = some (.int .i64 (F k)) := hgr.rowGet (by omega)
      have c2 : wr.cell? ⟨g0, 2 + k, none⟩ = some (.int .i64 (F (2 + k))) := hgr.rowGet (by omega)
      have HSD : Hid (∀ W, Calls Tryz.prog 17 #[.int .i64 k] W fun e w' => e = .returned (bstr (sideF k)) ∧ W = w') := record_Side k
      have HT1 : Hid (∀ W, EnvP W → Calls Tryz.prog 18 #[.int .i64 (F k)] W fun e w' => e = .returned (bstr (Lib.itoa (F k))) ∧ ∃ j, w' = W.more j) := fun W hW => digits_Text0 _ (HF.out k (by omega)).1 (HF.out k (by omega)).2 W hW
      have HT2 : Hid (∀ W, EnvP W → Calls Tryz.prog 18 #[.int .i64 (F (2 + k))] W fun e w' => e = .returned (bstr (Lib.itoa (F (2 + k)))) ∧ ∃ j, w' = W.more j) := fun W hW => digits_Text0 _ (HF.out (2 + k) (by omega)).1 (HF.out (2 + k) (by omega)).2 W hW
      have hl1 := itoa_len (HF.out k (by omega)).1 (HF.out k (by omega)).2
      have hl2 := itoa_len (HF.out (2 + k) (by omega)).1 (HF.out (2 + k) (by omega)).2
      have hl0 := sideF_len k
      have HLO : Hid (((List.range k).map (sideL F)).length + 1 ≤ 1048576) := by show _ ≤ _; simp; omega
      have hU : (List.range (k + 1)).map (sideL F) = (List.range k).map (sideL F) ++ [Lib.join [sideF (k : Int), Lib.itoa (F k), Lib.itoa (F (2 + k))] [32]] := by rw [List.range_succ, List.map_append]; rfl
      have HU := Lib.hid hU
      clear hU hgr ho hb hkg
      generalize sideF (k : Int) = s0 at HSD HU hl0
      generalize Lib.itoa (F k) = s1 at HT1 HU hl1
      generalize Lib.itoa (F (2 + k)) = s2 at HT2 HU hl2
      generalize F k = f1 at c0 HT1
      generalize F (2 + k) = f2 at c2 HT2
      generalize (List.range k).map (sideL F) = out at HO HU HLO
      have HJ : Hid (∀ W g, SlX W W.heap.size (some ⟨g, 0, none⟩) [s0, s1, s2] → Calls Tryz.prog 16 #[.slice (some ⟨g, 0, none⟩) 3 3, bstr [32]] W fun e w' => e = .returned (bstr (Lib.join [s0, s1, s2] [32])) ∧ Below W.heap.size W w') := fun W g h => strings_joinC 32 _ 3 [s0, s1, s2] W (by simp) (by simp; omega) (Nat.le_refl _) h
      have HER : Hid (EnvP wr) := (HEB.out.below HB.out).p
      have hbz := HB.out.size
      go_wp2_with fail
      refine gb_start wb.heap.size (by kernel_rfl) ?_
      refine gb_take 0 (v := ?_) rfl (by kernel_rfl) (by kernel_rfl) (by kernel_rfl) (fun _ _ _ h => h) (Or.inl ⟨by first | kernel_rfl | rfl, ?_⟩) ?_
      rotate_left
      · intro wS hSw; have hSc := hSw.cell; clear hSw; go_simp; try with_reducible rfl
      try simp only [Act.put, List.getElem_toArray, List.getElem_cons_succ, List.getElem_cons_zero, List.setIfInBounds_toArray, List.set_cons_zero, List.set_cons_succ]
      refine gb_take 1 (v := ?_) rfl (by kernel_rfl) (by kernel_rfl) (by kernel_rfl) (fun _ _ _ h => h) (Or.inl ⟨by first | kernel_rfl | rfl, ?_⟩) ?_
      rotate_left
      · intro wS hSw; have hSc := hSw.cell; clear hSw; go_simp; try with_reducible rfl
      try simp only [Act.put, List.getElem_toArray, List.getElem_cons_succ, List.getElem_cons_zero, List.setIfInBounds_toArray, List.set_cons_zero, List.set_cons_succ]
      refine gb_take 3 (v := ?_) rfl (by kernel_rfl) (by kernel_rfl) (by kernel_rfl) (fun _ _ _ h => h) (Or.inl ⟨by first | kernel_rfl | rfl, ?_⟩) ?_
      rotate_left
      · intro wS hSw; have hSc := hSw.cell; clear hSw; go_simp; try with_reducible rfl
      try simp only [Act.put, List.getElem_toArray, List.getElem_cons_succ, List.getElem_cons_zero, List.setIfInBounds_toArray, List.set_cons_zero, List.set_cons_succ]
      refine gb_take 4 (v := ?_) rfl (by kernel_rfl) (by kernel_rfl) (by kernel_rfl) (fun _ _ _ h => h) (Or.inl ⟨by first | kernel_rfl | rfl, ?_⟩) ?_
      rotate_left
      · intro wS hSw; have hSc := hSw.cell; clear hSw; go_simp; try with_reducible rfl
      try simp only [Act.put, List.getElem_toArray, List.getElem_cons_succ, List.getElem_cons_zero, List.setIfInBounds_toArray, List.set_cons_zero, List.set_cons_succ]
      refine gb_take 5 (v := ?_) rfl (by kernel_rfl) (by kernel_rfl) (by kernel_rfl) (fun _ _ _ h => h) (Or.inl ⟨by first | kernel_rfl | rfl, ?_⟩) ?_
      rotate_left
      · intro wS hSw; have hSc := hSw.cell; clear hSw; go_simp; try with_reducible rfl
      try simp only [Act.put, List.getElem_toArray, List.getElem_cons_succ, List.getElem_cons_zero, List.setIfInBounds_toArray, List.set_cons_zero, List.set_cons_succ]
      refine gb_take 6 (v := ?_) rfl (by kernel_rfl) (by kernel_rfl) (by kernel_rfl) (fun _ _ _ h => h) (Or.inl ⟨by first | kernel_rfl | rfl, ?_⟩) ?_
      rotate_left
      · intro wS hSw; have hSc := hSw.cell; clear hSw; go_simp; try with_reducible rfl
      try simp only [Act.put, List.getElem_toArray, List.getElem_cons_succ, List.getElem_cons_zero, List.setIfInBounds_toArray, List.set_cons_zero, List.set_cons_succ]
      refine gb_take 8 (v := ?_) rfl (by kernel_rfl) (by kernel_rfl) (by kernel_rfl) (fun _ _ _ h => h) (Or.inl ⟨by first | kernel_rfl | rfl, ?_⟩) ?_
      rotate_left
      · intro wS hSw; have hSc := hSw.cell; clear hSw; go_simp; try with_reducible rfl
      try simp only [Act.put, List.getElem_toArray, List.getElem_cons_succ, List.getElem_cons_zero, List.setIfInBounds_toArray, List.set_cons_zero, List.set_cons_succ]
      refine gb_take 9 (v := ?_) rfl (by kernel_rfl) (by kernel_rfl) (by kernel_rfl) (fun _ _ _ h => h) (Or.inl ⟨by first | kernel_rfl | rfl, ?_⟩) ?_
      rotate_left
      · intro wS hSw; have hSc := hSw.cell; clear hSw; go_simp; try with_reducible rfl
      try simp only [Act.put, List.getElem_toArray, List.getElem_cons_succ, List.getElem_cons_zero, List.setIfInBounds_toArray, List.set_cons_zero, List.set_cons_succ]
      refine gb_take 10 (v := ?_) rfl (by kernel_rfl) (by kernel_rfl) (by kernel_rfl) (fun _ _ _ h => h) (Or.inl ⟨by first | kernel_rfl | rfl, ?_⟩) ?_
      rotate_left
      · intro wS hSw; have hSc := hSw.cell; clear hSw; go_simp; try with_reducible rfl
      try simp only [Act.put, List.getElem_toArray, List.getElem_cons_succ, List.getElem_cons_zero, List.setIfInBounds_toArray, List.set_cons_zero, List.set_cons_succ]
      refine gb_take 11 (v := ?_) rfl (by kernel_rfl) (by kernel_rfl) (by kernel_rfl) (fun _ _ _ h => h) (Or.inl ⟨by first | kernel_rfl | rfl, ?_⟩) ?_
      rotate_left
      · intro wS hSw; have hSc := hSw.cell; clear hSw; go_simp; try with_reducible rfl
      try simp only [Act.put, List.getElem_toArray, List.getElem_cons_succ, List.getElem_cons_zero, List.setIfInBounds_toArray, List.set_cons_zero, List.set_cons_succ]
      refine gb_step 2 (by kernel_rfl) rfl (fun K hK => ?_)
      go_simp
      go_wp2_with ((go_at_call 17; (with_reducible refine (HSD.out _).mono ?_); rintro e w' ⟨rfl, rfl⟩))
      refine hK.out _ _ (show Below _ _ _ from (by first | exact Below.refl _ _ | (refine Below.mono (B := wr.heap.size) ?_ (by exact hbz); (repeat (first | (with_reducible exact Below.refl _ _) | (with_reducible exact grown_merge _ _ _ _) | (with_reducible exact grown_merge2 _ _ _ _ _ _) | (with_reducible exact grown_merge3 _ _ _ _ _ _ _) | (with_reducible refine Below.allocS ?_ _) | (with_reducible refine Below.moreS ?_ _) | (with_reducible refine Below.drew ?_))); done) | (refine gb_undrew (Below.mono (B := wr.heap.size) ?_ (by exact hbz)); (repeat (first | (with_reducible exact Below.refl _ _) | (with_reducible exact grown_merge _ _ _ _) | (with_reducible exact grown_merge2 _ _ _ _ _ _) | (with_reducible exact grown_merge3 _ _ _ _ _ _ _) | (with_reducible refine Below.allocS ?_ _) | (with_reducible refine Below.moreS ?_ _) | (with_reducible refine Below.drew ?_))); done))) ?_
      clear hK K
      try simp only [Act.put, List.getElem_toArray, List.getElem_cons_succ, List.getElem_cons_zero, List.setIfInBounds_toArray, List.set_cons_zero, List.set_cons_succ]
      refine gb_step 7 (by kernel_rfl) rfl (fun K hK => ?_)
      go_simp
      go_wp2_with fail
      refine (HT1.out _ (HER.out.below (by repeat (first | (with_reducible exact Below.refl _ _) | (with_reducible refine Below.allocS ?_ _) | (with_reducible refine Below.moreS ?_ _) | (with_reducible refine Below.drew ?_) | (with_reducible refine below_drewN ?_ _))))).mono ?_
      rintro e w' ⟨rfl, j1, rfl⟩
      go_wp2_with fail
      refine hK.out _ _ (show Below _ _ _ from (by first | exact Below.refl _ _ | (refine Below.mono (B := wr.heap.size) ?_ (by exact hbz); (repeat (first | (with_reducible exact Below.refl _ _) | (with_reducible exact grown_merge _ _ _ _) | (with_reducible exact grown_merge2 _ _ _ _ _ _) | (with_reducible exact grown_merge3 _ _ _ _ _ _ _) | (with_reducible refine Below.allocS ?_ _) | (with_reducible refine Below.moreS ?_ _) | (with_reducible refine Below.drew ?_))); done) | (refine gb_undrew (Below.mono (B := wr.heap.size) ?_ (by exact hbz)); (repeat (first | (with_reducible exact Below.refl _ _) | (with_reducible exact grown_merge _ _ _ _) | (with_reducible exact grown_merge2 _ _ _ _ _ _) | (with_reducible exact grown_merge3 _ _ _ _ _ _ _) | (with_reducible refine Below.allocS ?_ _) | (with_reducible refine Below.moreS ?_ _) | (with_reducible refine Below.drew ?_))); done))) ?_
      clear hK K
      try simp only [Act.put, List.getElem_toArray, List.getElem_cons_succ, List.getElem_cons_zero, List.setIfInBounds_toArray, List.set_cons_zero, List.set_cons_succ]
      refine gb_step 12 (by kernel_rfl) rfl (fun K hK => ?_)
      go_simp
      go_wp2_with fail
      refine (HT2.out _ (HER.out.below (by repeat (first | (with_reducible exact Below.refl _ _) | (with_reducible refine Below.allocS ?_ _) | (with_reducible refine Below.moreS ?_ _) | (with_reducible refine Below.drew ?_) | (with_reducible refine below_drewN ?_ _))))).mono ?_
      rintro e w' ⟨rfl, j2, rfl⟩
      go_wp2_with fail
      refine hK.out _ _ (show Below _ _ _ from (by first | exact Below.refl _ _ | (refine Below.mono (B := (wr.more j1).heap.size) ?_ (by simp only [World.size_more]; omega); (repeat (first | (with_reducible exact Below.refl _ _) | (with_reducible exact grown_merge _ _ _ _) | (with_reducible exact grown_merge2 _ _ _ _ _ _) | (with_reducible exact grown_merge3 _ _ _ _ _ _ _) | (with_reducible refine Below.allocS ?_ _) | (with_reducible refine Below.moreS ?_ _) | (with_reducible refine Below.drew ?_))); done) | (refine gb_undrew (Below.mono (B := (wr.more j1).heap.size) ?_ (by simp only [World.size_more]; omega)); (repeat (first | (with_reducible exact Below.refl _ _) | (with_reducible exact grown_merge _ _ _ _) | (with_reducible exact grown_merge2 _ _ _ _ _ _) | (with_reducible exact grown_merge3 _ _ _ _ _ _ _) | (with_reducible refine Below.allocS ?_ _) | (with_reducible refine Below.moreS ?_ _) | (with_reducible refine Below.drew ?_))); done))) ?_
      clear hK K
      try simp only [Act.put, List.getElem_toArray, List.getElem_cons_succ, List.getElem_cons_zero, List.setIfInBounds_toArray, List.set_cons_zero, List.set_cons_succ]
      refine gb_step 13 (by kernel_rfl) rfl (fun K hK => ?_)
      go_simp
      go_wp2_with fail
      refine hK.out _ _ (show Below _ _ _ from (by first | exact Below.refl _ _ | (refine Below.mono (B := (wr.more ⟨j1.heap ++ j2.heap, j2.drawn⟩).heap.size) ?_ (by simp only [World.size_more]; omega); (repeat (first | (with_reducible exact Below.refl _ _) | (with_reducible exact grown_merge _ _ _ _) | (with_reducible exact grown_merge2 _ _ _ _ _ _) | (with_reducible exact grown_merge3 _ _ _ _ _ _ _) | (with_reducible refine Below.allocS ?_ _) | (with_reducible refine Below.moreS ?_ _) | (with_reducible refine Below.drew ?_))); done) | (refine gb_undrew (Below.mono (B := (wr.more ⟨j1.heap ++ j2.heap, j2.drawn⟩).heap.size) ?_ (by simp only [World.size_more]; omega)); (repeat (first | (with_reducible exact Below.refl _ _) | (with_reducible exact grown_merge _ _ _ _) | (with_reducible exact grown_merge2 _ _ _ _ _ _) | (with_reducible exact grown_merge3 _ _ _ _ _ _ _) | (with_reducible refine Below.allocS ?_ _) | (with_reducible refine Below.moreS ?_ _) | (with_reducible refine Below.drew ?_))); done))) ?_
      clear hK K
      try simp only [Act.put, List.getElem_toArray, List.getElem_cons_succ, List.getElem_cons_zero, List.setIfInBounds_toArray, List.set_cons_zero, List.set_cons_succ]
      refine gb_step 14 (by kernel_rfl) rfl (fun K hK => ?_)
      go_simp
      go_wp2_with fail
      refine (HJ.out _ _ (slX_three (by repeat (first | ((with_reducible apply Blk.at_); (simp; done)) | (with_reducible apply Blk.alloc) | (with_reducible apply Blk.more) | (with_reducible apply Blk.drew))) (by omega) (by omega) (by omega))).mono ?_
      rintro e w3 ⟨rfl, hb3⟩
      have HB3w : Hid (Below wr.heap.size wr w3) := by
        have h2 : Below wr.heap.size _ w3 := hb3.mono (by simp only [World.size_more, World.size_alloc]; omega)
        refine Below.trans ?_ h2
        exact (by repeat (first | (with_reducible exact Below.refl _ _) | (with_reducible refine Below.allocS ?_ _) | (with_reducible refine Below.moreS ?_ _) | (with_reducible refine Below.drew ?_) | (with_reducible refine below_drewN ?_ _)))
      have HB3 : Hid (Below wb.heap.size wr w3) := HB3w.out.mono hbz
      have hz3 := HB3.out.size
      go_wp2_with fail
      refine hK.out _ _ (show Below _ _ _ from (hb3.mono (by simp only [World.size_more, World.size_alloc]; omega))) ?_
      clear hK K
      try simp only [Act.put, List.getElem_toArray, List.getElem_cons_succ, List.getElem_cons_zero, List.setIfInBounds_toArray, List.set_cons_zero, List.set_cons_succ]
      clear hb3
      refine gb_step 15 (by kernel_rfl) rfl (fun K hK => ?_)
      go_simp
      go_wp2_with fail
      refine hK.out _ _ (show Below _ _ _ from (by first | exact Below.refl _ _ | (refine Below.mono (B := w3.heap.size) ?_ (by omega); (repeat (first | (with_reducible exact Below.refl _ _) | (with_reducible exact grown_merge _ _ _ _) | (with_reducible exact grown_merge2 _ _ _ _ _ _) | (with_reducible exact grown_merge3 _ _ _ _ _ _ _) | (with_reducible refine Below.allocS ?_ _) | (with_reducible refine Below.moreS ?_ _) | (with_reducible refine Below.drew ?_))); done) | (refine gb_undrew (Below.mono (B := w3.heap.size) ?_ (by omega)); (repeat (first | (with_reducible exact Below.refl _ _) | (with_reducible exact grown_merge _ _ _ _) | (with_reducible exact grown_merge2 _ _ _ _ _ _) | (with_reducible exact grown_merge3 _ _ _ _ _ _ _) | (with_reducible refine Below.allocS ?_ _) | (with_reducible refine Below.moreS ?_ _) | (with_reducible refine Below.drew ?_))); done))) ?_
      clear hK K
      try simp only [Act.put, List.getElem_toArray, List.getElem_cons_succ, List.getElem_cons_zero, List.setIfInBounds_toArray, List.set_cons_zero, List.set_cons_succ]
      have HO3 := Lib.hid (HO.out.below HB3w.out (Nat.le_refl _))
      refine gb_step 16 (by kernel_rfl) rfl (fun K hK => ?_)
      refine step_text (.tmp 11) (.tmp 26) rfl rfl rfl (HO3.out.alloc _) rfl (Blk.new _ _ _) HLO.out (by simp; omega) ?_
      intro v4 w4 ho4 hb4
      have HO4 := Lib.hid ho4
      have HB4 : Hid (Below wb.heap.size wr w4) := by
        refine HB3.out.trans (Below.trans ?_ hb4)
        exact Below.mono (B := w3.heap.size) (by repeat (first | (with_reducible exact Below.refl _ _) | (with_reducible refine Below.allocS ?_ _) | (with_reducible refine Below.moreS ?_ _) | (with_reducible refine Below.drew ?_) | (with_reducible refine below_drewN ?_ _))) (by omega)
      refine hK.out _ _ (show Below _ _ _ from hb4) ?_
      clear hK K ho4 hb4
      try simp only [Act.put, List.getElem_toArray, List.getElem_cons_succ, List.getElem_cons_zero, List.setIfInBounds_toArray, List.set_cons_zero, List.set_cons_succ]
      refine gb_take 17 (v := ?_) rfl (by kernel_rfl) (by kernel_rfl) (by kernel_rfl) (fun _ _ _ h => h) (Or.inl ⟨by first | kernel_rfl | rfl, ?_⟩) ?_
      rotate_left
      · intro wS hSw; have hSc := hSw.cell; clear hSw; go_simp; try with_reducible rfl
      try simp only [Act.put, List.getElem_toArray, List.getElem_cons_succ, List.getElem_cons_zero, List.setIfInBounds_toArray, List.set_cons_zero, List.set_cons_succ]
      refine wpAnyH_done (by kernel_rfl) ?_ _
      go_wp2_with fail
      go_roundg (2 - (k + 1))
      case measure => have := HK.out; omega
      case rel => exact ⟨k + 1, by have := HK.out; omega, by go_num, by rw [HU.out]; exact HO4.out, HB.out.trans HB4.out⟩
    · have hk2 : k = 2 := by omega
      subst hk2
      have hbk1 : ¬ ((2 : Nat) : Int) ≤ 1 := by omega
      clear hkg ho hb
      have hO2 : OwnX wb.heap.size wr _ ([sideL F 0, sideL F 1] ++ typesL F 0) := HO.out
      have HO2 := Lib.hid hO2
      have HEQ : Hid (linesS F R = [sideL F 0, sideL F 1] ++ typesL F 10 ++ partL [111, 116, 104, 101, 114, 115] (F 14) ++ kindsL F 4 ++ secL R) := rfl
      have hl0 : [sideL F 0, sideL F 1].length = 2 := rfl
      generalize [sideL F 0, sideL F 1] = L0 at HO2 HEQ hl0
      have HL0 := Lib.hid hl0
      obtain ⟨LS, hls⟩ : ∃ LS, linesS F R = LS := ⟨_, rfl⟩
      rw [hls] at HEQ
      have HLS := Lib.hid hls
      clear hls
      clear hO2 HO hl0 hlt hbk1
      go_wp2_with fail
      go_loopg [3, 28] 10 (fun g v i wr => ∃ k : Nat, k + g = 10 ∧ i = .int .i64 k ∧ OwnX wb.heap.size wr v (L0 ++ typesL F k) ∧ Below wb.heap.size wb wr)
      case atStart => exact ⟨0, rfl, rfl, HO2.out, HB.out⟩
      case round =>
        obtain ⟨k, hkg, rfl, ho, hb⟩ := hrel
        have HK := Lib.hid hkg
        have HO := Lib.hid ho
        have HB2 := Lib.hid hb
        have hbz := hb.size
        by_cases hlt : k < 10
        · have k0 : (0 : Int) ≤ k := by omega
          have k2 : (k : Int) < 10 := by omega
          have k3 : (k : Int) < 11 := by omega
          have hgr := HG0'.out.below hb hgb
          have c0 : wr.cell? ⟨g0, 4 + k, none⟩ = some (.int .i64 (F (4 + k))) := hgr.rowGet (by omega)
          have hgx : g0 < wr.heap.size := Nat.lt_of_lt_of_le hgb hbz
          have hU := typesL_step F k
          have hln := nameF_len (t := (k : Int)) (by omega) (by omega)
          have htl := typesL_len F k
          have HNM : Hid (∀ W, EnvK0 W → Calls Tryz.prog 20 #[.int .i64 k] W fun e w' => e = .returned (bstr (nameF k)) ∧ ∃ j, w' = W.more j) := kinds_Name k
          have HEW : Hid (EnvK0 wr) := HEB.out.below hb
          have hgd := HF.out (4 + k) (by omega)
          generalize nameF (k : Int) = nm at HNM hU hln
          generalize F (4 + k) = fk at c0 hU hgd
          have HSM : Hid (∀ W v, wb.heap.size ≤ W.heap.size → OwnX wb.heap.size W v (L0 ++ typesL F k) → EnvP W → Calls Tryz.prog 19 #[v, bstr nm, .int .i64 fk] W (MoreX wb.heap.size (L0 ++ typesL F k ++ partL nm fk) W)) := fun W v h1 h2 h3 => summary_some wb.heap.size v _ nm fk (by omega) hgd (by rw [List.length_append]; have := HL0.out; omega) W h1 h2 h3
          have HU := Lib.hid hU
          clear hU hgr ho hb hkg hgd htl
          generalize typesL F k = out at HO HU HSM
          go_wp2_with fail
          go_region_with (first
            | (go_at_call 20; refine (HNM.out _ (HEW.out.below (by repeat (first | (with_reducible exact Below.refl _ _) | (with_reducible refine Below.allocS ?_ _) | (with_reducible refine Below.moreS ?_ _) | (with_reducible refine Below.drew ?_) | (with_reducible refine below_drewN ?_ _))))).mono ?_; rintro e w' ⟨rfl, j, rfl⟩)
            | (go_at_call 19; refine (HSM.out _ _ (by simp only [World.size_more, World.size_drew, World.size_alloc]; omega) (HO.out.below (C := wr.heap.size) (by repeat (first | (with_reducible exact Below.refl _ _) | (with_reducible refine Below.allocS ?_ _) | (with_reducible refine Below.moreS ?_ _) | (with_reducible refine Below.drew ?_) | (with_reducible refine below_drewN ?_ _))) (Nat.le_refl _)) (HEW.out.below (by repeat (first | (with_reducible exact Below.refl _ _) | (with_reducible refine Below.allocS ?_ _) | (with_reducible refine Below.moreS ?_ _) | (with_reducible refine Below.drew ?_) | (with_reducible refine below_drewN ?_ _)))).p).mono ?_; rintro e w' ⟨v2, rfl, ho2, hb2⟩))
          all_goals
            have HB3 : Hid (Below wb.heap.size wr w') := by
              refine Below.trans ?_ hb2
              exact Below.mono (B := wr.heap.size) (by repeat (first | (with_reducible exact Below.refl _ _) | (with_reducible refine Below.allocS ?_ _) | (with_reducible refine Below.moreS ?_ _) | (with_reducible refine Below.drew ?_) | (with_reducible refine below_drewN ?_ _))) hbz
            have HO3 := Lib.hid ho2
            clear hb2 ho2
            go_wp2_with fail
            go_roundg (10 - (k + 1))
            case measure => have := HK.out; omega
            case rel => exact ⟨k + 1, by have := HK.out; omega, by go_num, by rw [HU.out, ← List.append_assoc]; exact HO3.out, HB2.out.trans HB3.out⟩
        · have hk10 : k = 10 := by omega
          subst hk10
          have HO5 := Lib.hid HO.out
          have hgr := HG0'.out.below hb hgb
          have c0 : wr.cell? ⟨g0, 14, none⟩ = some (.int .i64 (F 14)) := hgr.rowGet (by omega)
          have hgx : g0 < wr.heap.size := Nat.lt_of_lt_of_le hgb hbz
          have htl := typesL_len F 10
          have hgd := HF.out 14 (by omega)
          generalize hf14 : F 14 = fk at c0 hgd
          have HSM : Hid (∀ W v, wb.heap.size ≤ W.heap.size → OwnX wb.heap.size W v (L0 ++ typesL F 10) → EnvP W → Calls Tryz.prog 19 #[v, bstr [111, 116, 104, 101, 114, 115], .int .i64 fk] W (MoreX wb.heap.size (L0 ++ typesL F 10 ++ partL [111, 116, 104, 101, 114, 115] fk) W)) := fun W v h1 h2 h3 => summary_some wb.heap.size v _ [111, 116, 104, 101, 114, 115] fk (by decide) hgd (by rw [List.length_append]; have := HL0.out; omega) W h1 h2 h3
          have HEW : Hid (EnvK0 wr) := HEB.out.below hb
          have hpl := partL_len [111, 116, 104, 101, 114, 115] fk
          have HEQ2 := HEQ
          rw [hf14] at HEQ2
          have hk11 : ¬ ((10 : Nat) : Int) < 10 := by omega
          clear hgr ho hb hkg hgd hf14 HO HEQ HO2 hlt
          generalize typesL F 10 = out at HO5 HEQ2 HSM htl
          go_wp2_with (go_at_call 19; refine (HSM.out _ _ hbz HO5.out HEW.out.p).mono ?_; rintro e w' ⟨v2, rfl, ho2, hb2⟩)
          have HB6 : Hid (Below wb.heap.size wb w') := HB2.out.trans hb2
          have hz6 := HB6.out.size
          have hl6 : (L0 ++ out ++ partL [111, 116, 104, 101, 114, 115] fk).length ≤ 20 := by simp only [List.length_append]; have := HL0.out; omega
          have ho2' : OwnX wb.heap.size w' v2 (L0 ++ out ++ partL [111, 116, 104, 101, 114, 115] fk ++ kindsL F 0) := by rw [show kindsL F 0 = [] from rfl, List.append_nil]; exact ho2
          have HO6 := Lib.hid ho2'
          clear ho2 ho2' hb2 HSM HO5 HB2 HEW htl hpl
          generalize L0 ++ out ++ partL [111, 116, 104, 101, 114, 115] fk = L1 at HO6 HEQ2 hl6
          have HL1 := Lib.hid hl6
          clear hl6
          go_wp2_with fail
          go_loopg [3, 6] 4 (fun g v i wr => ∃ k : Nat, k + g = 4 ∧ i = .int .i64 ((k : Int) + 1) ∧ OwnX wb.heap.size wr v (L1 ++ kindsL F k) ∧ Below wb.heap.size wb wr)
          case atStart => exact ⟨0, rfl, rfl, HO6.out, HB6.out⟩
          case round =>
            obtain ⟨k, hkg, rfl, ho, hb⟩ := hrel
            have HK := Lib.hid hkg
            have HO := Lib.hid ho
            have HB2 := Lib.hid hb
            have hbz := hb.size
            have hgx : g0 < wr.heap.size := Nat.lt_of_lt_of_le hgb hbz
            by_cases hlt : k < 4
            · have k0 : (0 : Int) ≤ (k : Int) + 1 := by omega
              have k2 : (k : Int) + 1 ≤ 4 := by omega
              have k3 : (k : Int) + 1 < 5 := by omega
              have k4 : ((k : Int) + 1).toNat = k + 1 := by omega
              have hgr := HG0'.out.below hb hgb
              have c0 : wr.cell? ⟨g0, 15 + (k + 1), none⟩ = some (.int .i64 (F (16 + k))) := by rw [show 15 + (k + 1) = 16 + k by omega]; exact hgr.rowGet (by omega)
              have hU := kindsL_step F k
              have hln := kindF_len ((k : Int) + 1)
              have htl := kindsL_len F k
              have HNM : Hid (∀ W, Calls Tryz.prog 21 #[.int .i64 ((k : Int) + 1)] W fun e w' => e = .returned (bstr (kindF ((k : Int) + 1))) ∧ W = w') := record_Kind _
              have HEW : Hid (EnvK0 wr) := HEB.out.below hb
              have hgd := HF.out (16 + k) (by omega)
              have hw1 : IntKind.i64.wrap ((k : Int) + 1 + 1) = (k : Int) + 1 + 1 := IntWalk.i64_in _ (by omega)
              generalize kindF ((k : Int) + 1) = nm at HNM hU hln
              generalize F (16 + k) = fk at c0 hU hgd
              have HSM : Hid (∀ W v, wb.heap.size ≤ W.heap.size → OwnX wb.heap.size W v (L1 ++ kindsL F k) → EnvP W → Calls Tryz.prog 19 #[v, bstr nm, .int .i64 fk] W (MoreX wb.heap.size (L1 ++ kindsL F k ++ partL nm fk) W)) := fun W v h1 h2 h3 => summary_some wb.heap.size v _ nm fk (by omega) hgd (by rw [List.length_append]; have := HL1.out; omega) W h1 h2 h3
              have HU := Lib.hid hU
              clear hU hgr ho hb hkg hgd htl
              generalize kindsL F k = out at HO HU HSM
              go_wp2_with fail
              go_region_with (first
                | (go_at_call 21; refine (HNM.out _).mono ?_; rintro e w' ⟨rfl, rfl⟩)
                | (go_at_call 19; refine (HSM.out _ _ (by first | exact hbz | (simp only [World.size_more, World.size_drew, World.size_alloc]; omega)) (HO.out.below (C := wr.heap.size) (by repeat (first | (with_reducible exact Below.refl _ _) | (with_reducible refine Below.allocS ?_ _) | (with_reducible refine Below.moreS ?_ _) | (with_reducible refine Below.drew ?_) | (with_reducible refine below_drewN ?_ _))) (Nat.le_refl _)) (HEW.out.below (by repeat (first | (with_reducible exact Below.refl _ _) | (with_reducible refine Below.allocS ?_ _) | (with_reducible refine Below.moreS ?_ _) | (with_reducible refine Below.drew ?_) | (with_reducible refine below_drewN ?_ _)))).p).mono ?_; rintro e w' ⟨v2, rfl, ho2, hb2⟩))
              all_goals
                have HB3 : Hid (Below wb.heap.size wr w') := by
                  refine Below.trans ?_ hb2
                  exact Below.mono (B := wr.heap.size) (by repeat (first | (with_reducible exact Below.refl _ _) | (with_reducible refine Below.allocS ?_ _) | (with_reducible refine Below.moreS ?_ _) | (with_reducible refine Below.drew ?_) | (with_reducible refine below_drewN ?_ _))) hbz
                have HO3 := Lib.hid ho2
                clear hb2 ho2
                go_wp2_with fail
                go_roundg (4 - (k + 1))
                case measure => have := HK.out; omega
                case rel => exact ⟨k + 1, by have := HK.out; omega, by go_num, by rw [HU.out, ← List.append_assoc]; exact HO3.out, HB2.out.trans HB3.out⟩
            · have hk4 : k = 4 := by omega
              subst hk4
              have hgr := HG0'.out.below hb hgb
              have c20 : wr.cell? ⟨g0, 20, none⟩ = some (.slice a R.length cap) := (hgr.cell 20).trans (rowA_sec _ _)
              have hk5 : ¬ ((4 : Nat) : Int) + 1 ≤ 4 := by omega
              have htl := kindsL_len F 4
              have HBW2 : Hid (Below w.heap.size w wr) := HBW.out.trans (hb.mono HBW.out.size)
              have HEND : Hid (∀ v w', OwnX wb.heap.size w' v LS → Below w.heap.size w w' → MoreX w.heap.size (linesS F R) w (.returned v) w') := fun v w' h1 h2 => ⟨v, rfl, by rw [HLS.out]; exact h1.low HBW.out.size, h2⟩
              have hg0e := HG0E.out
              subst hg0e
              clear hgr ho hb hkg hlt
              by_cases hR0 : R = []
              · have hS0 : secL R = [] := by rw [hR0]; rfl
                have hR1 : R.length = 0 := by rw [hR0]; rfl
                have hLS : LS = L1 ++ kindsL F 4 := by rw [HEQ2.out, hS0, List.append_nil]
                rw [hR1] at c20
                rw [← hLS] at HO
                clear HEQ2 hR0 hS0 hR1 hLS HS
                go_wp2_with fail
                go_ret
                exact HEND.out _ _ HO.out HBW2.out
              · have hS0 : secL R = [Lib.join ([115, 101, 99, 116, 105, 111, 110, 115] :: R) [32]] := by unfold secL; rw [if_neg hR0]
                have hLS : LS = L1 ++ kindsL F 4 ++ [Lib.join ([115, 101, 99, 116, 105, 111, 110, 115] :: R) [32]] := by rw [HEQ2.out, hS0]
                have hRp : 0 < R.length := List.length_pos_iff.2 hR0
                have hRp2 : (0 : Int) < R.length := by omega
                have HSR := Lib.hid ((HS.out.below HBW2.out (Nat.le_refl _)).mono HBW2.out.size (fun _ _ _ h => h))
                have hHX : ∀ x ∈ ([115, 101, 99, 116, 105, 111, 110, 115] :: R), x.length ≤ 1000 := fun x hx => by
                  rcases List.mem_cons.1 hx with rfl | hx
                  · decide
                  · exact HX.out x hx
                have HHX := Lib.hid hHX
                have HLEN : Hid ((L1 ++ kindsL F 4).length + 1 ≤ 1048576) := by show _ ≤ _; rw [List.length_append]; have := HL1.out; omega
                clear HEQ2 hR0 hS0 HS hHX
                generalize L1 ++ kindsL F 4 = L2 at HO hLS HLEN
                go_wp2_with (at_builtin; refine app_texts (B := wr.heap.size) (.tmp 62) (.tmp 64) rfl rfl rfl (OwnX.of_new (Blk.new _ _ _) (Nat.le_refl _)) rfl ((HSR.out.below (C := wr.heap.size) (by repeat (first | (with_reducible exact Below.refl _ _) | (with_reducible refine Below.allocS ?_ _) | (with_reducible refine Below.moreS ?_ _) | (with_reducible refine Below.drew ?_) | (with_reducible refine below_drewN ?_ _))) (Nat.le_refl _)).mono (by simp) (fun _ _ _ h => h)) (by simp; omega) (by simp) ?_; intro v4 w4 ho4 hb4)
                have HB4 : Hid (Below wr.heap.size wr w4) := by
                  refine Below.trans ?_ hb4
                  exact (by repeat (first | (with_reducible exact Below.refl _ _) | (with_reducible refine Below.allocS ?_ _) | (with_reducible refine Below.moreS ?_ _) | (with_reducible refine Below.drew ?_) | (with_reducible refine below_drewN ?_ _)))
                have hz4 := HB4.out.size
                obtain ⟨a4, cap4, rfl, hs4⟩ := ho4.read (fun x hx => by have := HHX.out x hx; unfold maxLen; omega)
                obtain ⟨_, _, hv, hcap4⟩ := ho4.cap
                injection hv with q1 q2 q3
                subst q3
                have HJ := Lib.hid (strings_joinC 32 a4 cap4 ([115, 101, 99, 116, 105, 111, 110, 115] :: R) w4 (by simp; omega) HHX.out hcap4 hs4)
                have HO5 := Lib.hid (HO.out.below HB4.out (Nat.le_refl _))
                clear ho4 hb4 hs4 hcap4 q1 HSR
                go_wp2_with fail
                refine HJ.out.mono ?_
                rintro e w5 ⟨rfl, hb5⟩
                have HO6 := Lib.hid (HO5.out.below hb5 (Nat.le_refl _))
                have HB5 : Hid (Below w.heap.size w w5) := (HBW2.out.trans (HB4.out.mono HBW2.out.size)).trans (hb5.mono (Nat.le_trans HBW2.out.size hz4))
                have hz5 := hb5.size
                clear hb5 HJ HO5
                go_wp2_with (at_builtin; refine app_text (.tmp 61) (.tmp 67) rfl rfl rfl (HO6.out.alloc _) rfl (Blk.new _ _ _) HLEN.out (by simp; omega) ?_; intro v7 w7 ho7 hb7)
                rw [← hLS] at ho7
                have HO7 := Lib.hid ho7
                have HB7 : Hid (Below w.heap.size w w7) := by
                  have h2 : Below w.heap.size _ w7 := hb7.mono HBW.out.size
                  refine HB5.out.trans (Below.trans ?_ h2)
                  exact Below.mono (B := w5.heap.size) (by repeat (first | (with_reducible exact Below.refl _ _) | (with_reducible refine Below.allocS ?_ _) | (with_reducible refine Below.moreS ?_ _) | (with_reducible refine Below.drew ?_) | (with_reducible refine below_drewN ?_ _))) (by have := HBW2.out.size; omega)
                clear ho7 hb7 hLS
                go_wp2_with fail
                go_ret
                exact HEND.out _ _ HO7.out HB7.out
end Go.Proofs.YtfgldglelijekaaGreatDoor
