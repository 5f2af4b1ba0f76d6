/-
  The frames of every kind: both roads.
-/
import Derived.Test.YtmlbomblbdbikaaGreatDoorMh
import Derived.Test.YtmlbomblbdbikaaGreatDoorInjP
namespace Go.Proofs.YtmlbomblbdbikaaGreatDoor
set_option linter.unusedSimpArgs false
set_option linter.unusedVariables false
set_option linter.unusedSectionVars false
open Go.ChangeShapes Go.WideShapes Go.ChangeAt Go.RowKit Go.Deep Go.Shelf

set_option maxHeartbeats 1600000 in
set_option maxRecDepth 100000 in
theorem rf_21 (s : Int) (w : World) : Calls Tryz.prog 14 #[.int .i64 21, .int .i64 s] w (RawsP [⟨1, 0, s, []⟩, ⟨6, 0, 0, nul 8⟩] w) := by
  have hmk : ∀ W, (Instr.makeSlice 38 (.int .i64 8) (.int .i64 8)).run Tryz.prog W = .ok (.slice (some ⟨W.heap.size, 0, none⟩) 8 8) (W.alloc (.cells z8 5)) := fun W => run_nul 8 (by omega) W
  unfold RawsP
  go_enter Tryz.func14, Tryz.ntmps14
  go_wp2_with fail
  refine gb_start w.heap.size (by kernel_rfl) ?_
  obtain ⟨w2, hw2⟩ : ∃ w2, w2 = w.drew := ⟨_, rfl⟩
  rw [← hw2]
  have HBD : Hid (Below w.heap.size w w2) := by show Below _ _ _; rw [hw2]; exact Below.drew (Below.refl _ _)
  have hs2 : w2.heap.size = w.heap.size := by rw [hw2]; rfl
  rw [← hs2]
  clear hw2 hs2
  refine tk 0 ?_
  refine gb_two 1 2 (by kernel_rfl) rfl rfl (fun K hK => ?_) (fun K hK => ?_)
  · go_simp
    go_wp2_with fail
    refine (ref46_oneX _ _ _ _ _ _ _).mono ?_
    rintro e w6 ⟨rfl, rfl⟩
    go_wp2_with fail
    refine hK.out _ _ (show Below w2.heap.size w2 (w2.alloc (.cells (rawC 1 0 s (.slice none 0 0)) RawT)) from below_two (w := w2) (by first | exact Below.refl _ _ | exact bel) bel (by simp)) ?_
    clear hK K
    try simp only [Act.put, nfa, nfb, nfc, nfd, List.set_cons_zero, List.set_cons_succ]
    refine gb_step 2 (by kernel_rfl) rfl (fun K hK => ?_)
    go_simp
    go_wp2_with fail
    refine hK.out _ _ (show Below w2.heap.size (w2.alloc (.cells (rawC 1 0 s (.slice none 0 0)) RawT)) ((w2.alloc (.cells (rawC 1 0 s (.slice none 0 0)) RawT)).alloc (.cells z8 5)) from below_two (w := w2) (by first | exact Below.refl _ _ | exact bel) bel (by simp)) ?_
    clear hK K
    try simp only [Act.put, nfa, nfb, nfc, nfd, List.set_cons_zero, List.set_cons_succ]
    refine gb_step 3 (by kernel_rfl) rfl (fun K hK => ?_)
    go_simp
    go_wp2_with fail
    refine (ref46_oneX _ _ _ _ _ _ _).mono ?_
    rintro e w6 ⟨rfl, rfl⟩
    go_wp2_with fail
    refine hK.out _ _ (show Below w2.heap.size ((w2.alloc (.cells (rawC 1 0 s (.slice none 0 0)) RawT)).alloc (.cells z8 5)) (((w2.alloc (.cells (rawC 1 0 s (.slice none 0 0)) RawT)).alloc (.cells z8 5)).alloc (.cells (rawC 6 0 0 (.slice (some ⟨w2.heap.size + 1, 0, none⟩) 8 8)) RawT)) from below_two (w := w2) bel bel (by simp)) ?_
    clear hK K
    try simp only [Act.put, nfa, nfb, nfc, nfd, List.set_cons_zero, List.set_cons_succ]
    have hown3 : (((w2.alloc (.cells (rawC 1 0 s (.slice none 0 0)) RawT)).alloc (.cells z8 5)).alloc (.cells (rawC 6 0 0 (.slice (some ⟨w2.heap.size + 1, 0, none⟩) 8 8)) RawT)).ownsRow w2.heap.size RawT 6 (.slice (some ⟨w2.heap.size, 0, none⟩) 1 1) 1 (rawC 1 0 s (.slice none 0 0)).toList := by
      have h := (own_below (World.ownsRow_lit (base := w2.heap.size) (size := 6) (e := RawT) w2 (rawC 1 0 s (.slice none 0 0)) 1 (by simp) (by decide) rfl) (show Below (w2.alloc (.cells (rawC 1 0 s (.slice none 0 0)) RawT)).heap.size _ (((w2.alloc (.cells (rawC 1 0 s (.slice none 0 0)) RawT)).alloc (.cells z8 5)).alloc (.cells (rawC 6 0 0 (.slice (some ⟨w2.heap.size + 1, 0, none⟩) 8 8)) RawT)) from bel) (Nat.le_refl _))
      simpa using h
    have hb8 : Blk (((w2.alloc (.cells (rawC 1 0 s (.slice none 0 0)) RawT)).alloc (.cells z8 5)).alloc (.cells (rawC 6 0 0 (.slice (some ⟨w2.heap.size + 1, 0, none⟩) 8 8)) RawT)) (w2.heap.size + 1) 5 z8 := blk
    have HOWN3 := Lib.hid hown3
    have HB8 := Lib.hid hb8
    clear hown3 hb8
    refine gb_step 4 (by kernel_rfl) rfl (fun K hK => ?_)
    refine step_app st_raw (.tmp 42) (.tmp 44) rfl rfl rfl HOWN3.out rfl (Blk.at_ _ _ _ (by simp)) rfl (raw_one _ _ _ _ _ _) (by decide) (by decide) (by simp only [World.size_alloc]; omega) ?_
    intro v' w' hown hgr
    have hbel : Below w2.heap.size (((w2.alloc (.cells (rawC 1 0 s (.slice none 0 0)) RawT)).alloc (.cells z8 5)).alloc (.cells (rawC 6 0 0 (.slice (some ⟨w2.heap.size + 1, 0, none⟩) 8 8)) RawT)) w' := own_grown (Below.refl _ _) HOWN3.out hgr (Nat.le_refl _) (by simp only [World.size_alloc]; omega)
    obtain ⟨g, cap, rfl, hq⟩ := raws_two (s := s) (gb := w2.heap.size + 1) (cb := 8) hown (HB8.out.grown hgr (fun e => by
      have : w2.heap.size + 1 = w2.heap.size := by injection e
      omega)) ((show Below w2.heap.size w2 (((w2.alloc (.cells (rawC 1 0 s (.slice none 0 0)) RawT)).alloc (.cells z8 5)).alloc (.cells (rawC 6 0 0 (.slice (some ⟨w2.heap.size + 1, 0, none⟩) 8 8)) RawT)) from bel).trans hbel)
    refine hK.out _ _ (show Below _ _ _ from hbel) ?_
    have HQ := Lib.hid hq
    clear hK K hown hgr hbel hq
    try simp only [Act.put, nfa, nfb, nfc, nfd, List.set_cons_zero, List.set_cons_succ]
    refine tk 5 ?_
    refine wpAnyH_done (by kernel_rfl) ?_ _
    go_wp2_with fail
    go_ret
    exact ⟨g, ⟨cap, rfl⟩, HQ.out.low HBD.out⟩
  · go_simp
    go_wp2_with fail
    refine hK.out _ _ (show Below w2.heap.size w2 (w2.alloc (.cells z8 5)) from below_two (w := w2) (by first | exact Below.refl _ _ | exact bel) bel (by simp)) ?_
    clear hK K
    try simp only [Act.put, nfa, nfb, nfc, nfd, List.set_cons_zero, List.set_cons_succ]
    refine gb_step 1 (by kernel_rfl) rfl (fun K hK => ?_)
    go_simp
    go_wp2_with fail
    refine (ref46_oneX _ _ _ _ _ _ _).mono ?_
    rintro e w6 ⟨rfl, rfl⟩
    go_wp2_with fail
    refine hK.out _ _ (show Below w2.heap.size (w2.alloc (.cells z8 5)) ((w2.alloc (.cells z8 5)).alloc (.cells (rawC 1 0 s (.slice none 0 0)) RawT)) from below_two (w := w2) (by first | exact Below.refl _ _ | exact bel) bel (by simp)) ?_
    clear hK K
    try simp only [Act.put, nfa, nfb, nfc, nfd, List.set_cons_zero, List.set_cons_succ]
    refine gb_step 3 (by kernel_rfl) rfl (fun K hK => ?_)
    go_simp
    go_wp2_with fail
    refine (ref46_oneX _ _ _ _ _ _ _).mono ?_
    rintro e w6 ⟨rfl, rfl⟩
    go_wp2_with fail
    refine hK.out _ _ (show Below w2.heap.size ((w2.alloc (.cells z8 5)).alloc (.cells (rawC 1 0 s (.slice none 0 0)) RawT)) (((w2.alloc (.cells z8 5)).alloc (.cells (rawC 1 0 s (.slice none 0 0)) RawT)).alloc (.cells (rawC 6 0 0 (.slice (some ⟨w2.heap.size, 0, none⟩) 8 8)) RawT)) from below_two (w := w2) bel bel (by simp)) ?_
    clear hK K
    try simp only [Act.put, nfa, nfb, nfc, nfd, List.set_cons_zero, List.set_cons_succ]
    have hown3 : (((w2.alloc (.cells z8 5)).alloc (.cells (rawC 1 0 s (.slice none 0 0)) RawT)).alloc (.cells (rawC 6 0 0 (.slice (some ⟨w2.heap.size, 0, none⟩) 8 8)) RawT)).ownsRow w2.heap.size RawT 6 (.slice (some ⟨w2.heap.size + 1, 0, none⟩) 1 1) 1 (rawC 1 0 s (.slice none 0 0)).toList := by
      have h := (own_below (World.ownsRow_lit (base := w2.heap.size) (size := 6) (e := RawT) (w2.alloc (.cells z8 5)) (rawC 1 0 s (.slice none 0 0)) 1 (by simp) (by decide) rfl) (show Below ((w2.alloc (.cells z8 5)).alloc (.cells (rawC 1 0 s (.slice none 0 0)) RawT)).heap.size _ (((w2.alloc (.cells z8 5)).alloc (.cells (rawC 1 0 s (.slice none 0 0)) RawT)).alloc (.cells (rawC 6 0 0 (.slice (some ⟨w2.heap.size, 0, none⟩) 8 8)) RawT)) from bel) (Nat.le_refl _))
      simpa using h
    have hb8 : Blk (((w2.alloc (.cells z8 5)).alloc (.cells (rawC 1 0 s (.slice none 0 0)) RawT)).alloc (.cells (rawC 6 0 0 (.slice (some ⟨w2.heap.size, 0, none⟩) 8 8)) RawT)) (w2.heap.size) 5 z8 := blk
    have HOWN3 := Lib.hid hown3
    have HB8 := Lib.hid hb8
    clear hown3 hb8
    refine gb_step 4 (by kernel_rfl) rfl (fun K hK => ?_)
    refine step_app st_raw (.tmp 42) (.tmp 44) rfl rfl rfl HOWN3.out rfl (Blk.at_ _ _ _ (by simp)) rfl (raw_one _ _ _ _ _ _) (by decide) (by decide) (by simp only [World.size_alloc]; omega) ?_
    intro v' w' hown hgr
    have hbel : Below w2.heap.size (((w2.alloc (.cells z8 5)).alloc (.cells (rawC 1 0 s (.slice none 0 0)) RawT)).alloc (.cells (rawC 6 0 0 (.slice (some ⟨w2.heap.size, 0, none⟩) 8 8)) RawT)) w' := own_grown (Below.refl _ _) HOWN3.out hgr (Nat.le_refl _) (by simp only [World.size_alloc]; omega)
    obtain ⟨g, cap, rfl, hq⟩ := raws_two (s := s) (gb := w2.heap.size) (cb := 8) hown (HB8.out.grown hgr (fun e => by
      have : w2.heap.size = w2.heap.size + 1 := by injection e
      omega)) ((show Below w2.heap.size w2 (((w2.alloc (.cells z8 5)).alloc (.cells (rawC 1 0 s (.slice none 0 0)) RawT)).alloc (.cells (rawC 6 0 0 (.slice (some ⟨w2.heap.size, 0, none⟩) 8 8)) RawT)) from bel).trans hbel)
    refine hK.out _ _ (show Below _ _ _ from hbel) ?_
    have HQ := Lib.hid hq
    clear hK K hown hgr hbel hq
    try simp only [Act.put, nfa, nfb, nfc, nfd, List.set_cons_zero, List.set_cons_succ]
    refine tk 5 ?_
    refine wpAnyH_done (by kernel_rfl) ?_ _
    go_wp2_with fail
    go_ret
    exact ⟨g, ⟨cap, rfl⟩, HQ.out.low HBD.out⟩
set_option maxHeartbeats 1000000 in
theorem rf_all (k : Nat) (h1 : 1 ≤ k) (h26 : k ≤ 26) (s : Int) (w : World) : Calls Tryz.prog 14 #[.int .i64 (k : Int), .int .i64 s] w (RawsP (wrL k s) w) := by
  have hk : k = 1 ∨ k = 2 ∨ k = 3 ∨ k = 4 ∨ k = 5 ∨ k = 6 ∨ k = 7 ∨ k = 8 ∨ k = 9 ∨ k = 10 ∨ k = 11 ∨ k = 12 ∨ k = 13 ∨ k = 14 ∨ k = 15 ∨ k = 16 ∨ k = 17 ∨ k = 18 ∨ k = 19 ∨ k = 20 ∨ k = 21 ∨ k = 22 ∨ k = 23 ∨ k = 24 ∨ k = 25 ∨ k = 26 := by omega
  clear h1 h26
  rcases hk with rfl | rfl | rfl | rfl | rfl | rfl | rfl | rfl | rfl | rfl | rfl | rfl | rfl | rfl | rfl | rfl | rfl | rfl | rfl | rfl | rfl | rfl | rfl | rfl | rfl | rfl
  · exact rf_pass 1 (by omega) (by omega) s _ w (rs_1 s w)
  · exact rf_pass 2 (by omega) (by omega) s _ w (rs_2 s w)
  · exact rf_pass 3 (by omega) (by omega) s _ w (rs_3 s w)
  · exact rf_pass 4 (by omega) (by omega) s _ w (rs_4 s w)
  · exact rf_pass 5 (by omega) (by omega) s _ w (rs_5 s w)
  · exact rf_pass 6 (by omega) (by omega) s _ w (rs_6 s w)
  · exact rf_pass 7 (by omega) (by omega) s _ w (rs_7 s w)
  · exact rf_pass 8 (by omega) (by omega) s _ w (rs_8 s w)
  · exact rf_pass 9 (by omega) (by omega) s _ w (rs_9 s w)
  · exact rf_pass 10 (by omega) (by omega) s _ w (rs_10 s w)
  · exact rf_pass 11 (by omega) (by omega) s _ w (rs_11 s w)
  · exact rf_pass 12 (by omega) (by omega) s _ w (rs_12 s w)
  · exact rf_pass 13 (by omega) (by omega) s _ w (rs_13 s w)
  · exact rf_pass 14 (by omega) (by omega) s _ w (rs_14 s w)
  · exact rf_pass 15 (by omega) (by omega) s _ w (rs_15 s w)
  · exact rf_16 s w
  · exact rf_17 s w
  · exact rf_18 s w
  · exact rf_19 s w
  · exact rf_20 s w
  · exact rf_21 s w
  · exact rf_22 s w
  · exact rf_23 s w
  · exact rf_24 s w
  · exact rf_25 s w
  · exact rf_26 s w
set_option maxHeartbeats 1000000 in
theorem il_all (k : Nat) (h1 : 1 ≤ k) (h26 : k ≤ 26) (s : Int) (w : World) (hG : GF w) : Calls Tryz.prog 11 #[bstr (injN (k : Int)), .int .i64 s] w (RawsP (wrL k s) w) := by
  have hk : k = 1 ∨ k = 2 ∨ k = 3 ∨ k = 4 ∨ k = 5 ∨ k = 6 ∨ k = 7 ∨ k = 8 ∨ k = 9 ∨ k = 10 ∨ k = 11 ∨ k = 12 ∨ k = 13 ∨ k = 14 ∨ k = 15 ∨ k = 16 ∨ k = 17 ∨ k = 18 ∨ k = 19 ∨ k = 20 ∨ k = 21 ∨ k = 22 ∨ k = 23 ∨ k = 24 ∨ k = 25 ∨ k = 26 := by omega
  clear h1 h26
  rcases hk with rfl | rfl | rfl | rfl | rfl | rfl | rfl | rfl | rfl | rfl | rfl | rfl | rfl | rfl | rfl | rfl | rfl | rfl | rfl | rfl | rfl | rfl | rfl | rfl | rfl | rfl
  · exact il_1 s w
  · exact il_2 s w
  · exact il_3 s w
  · exact il_4 s w
  · exact il_5 s w
  · exact il_6 s w
  · exact il_pass _ s _ w (is_7 s w) (by decide) (by decide) (by decide) (by decide) (by decide) (by decide) (by decide) (by decide) (by decide) (by decide)
  · exact il_pass _ s _ w (is_8 s w) (by decide) (by decide) (by decide) (by decide) (by decide) (by decide) (by decide) (by decide) (by decide) (by decide)
  · exact il_pass _ s _ w (is_9 s w) (by decide) (by decide) (by decide) (by decide) (by decide) (by decide) (by decide) (by decide) (by decide) (by decide)
  · exact il_pass _ s _ w (is_10 s w) (by decide) (by decide) (by decide) (by decide) (by decide) (by decide) (by decide) (by decide) (by decide) (by decide)
  · exact il_pass _ s _ w (is_11 s w) (by decide) (by decide) (by decide) (by decide) (by decide) (by decide) (by decide) (by decide) (by decide) (by decide)
  · exact il_12 s w
  · exact il_13 s w
  · exact il_pass _ s _ w (is_14 s w) (by decide) (by decide) (by decide) (by decide) (by decide) (by decide) (by decide) (by decide) (by decide) (by decide)
  · exact il_15 s w
  · exact il_pass _ s _ w (is_pass _ s _ w (ib_16 s w) (by decide) (by decide) (by decide) (by decide) (by decide) (by decide) (by decide) (by decide) (by decide) (by decide) (by decide)) (by decide) (by decide) (by decide) (by decide) (by decide) (by decide) (by decide) (by decide) (by decide) (by decide)
  · exact il_pass _ s _ w (is_pass _ s _ w (ib_17 s w hG) (by decide) (by decide) (by decide) (by decide) (by decide) (by decide) (by decide) (by decide) (by decide) (by decide) (by decide)) (by decide) (by decide) (by decide) (by decide) (by decide) (by decide) (by decide) (by decide) (by decide) (by decide)
  · exact il_pass _ s _ w (is_pass _ s _ w (ib_18 s w hG) (by decide) (by decide) (by decide) (by decide) (by decide) (by decide) (by decide) (by decide) (by decide) (by decide) (by decide)) (by decide) (by decide) (by decide) (by decide) (by decide) (by decide) (by decide) (by decide) (by decide) (by decide)
  · exact il_pass _ s _ w (is_pass _ s _ w (ib_19 s w hG) (by decide) (by decide) (by decide) (by decide) (by decide) (by decide) (by decide) (by decide) (by decide) (by decide) (by decide)) (by decide) (by decide) (by decide) (by decide) (by decide) (by decide) (by decide) (by decide) (by decide) (by decide)
  · exact il_pass _ s _ w (is_pass _ s _ w (ib_20 s w hG) (by decide) (by decide) (by decide) (by decide) (by decide) (by decide) (by decide) (by decide) (by decide) (by decide) (by decide)) (by decide) (by decide) (by decide) (by decide) (by decide) (by decide) (by decide) (by decide) (by decide) (by decide)
  · exact il_pass _ s _ w (is_21 s w) (by decide) (by decide) (by decide) (by decide) (by decide) (by decide) (by decide) (by decide) (by decide) (by decide)
  · exact il_pass _ s _ w (is_22 s w) (by decide) (by decide) (by decide) (by decide) (by decide) (by decide) (by decide) (by decide) (by decide) (by decide)
  · exact il_pass _ s _ w (is_23 s w) (by decide) (by decide) (by decide) (by decide) (by decide) (by decide) (by decide) (by decide) (by decide) (by decide)
  · exact il_pass _ s _ w (is_24 s w) (by decide) (by decide) (by decide) (by decide) (by decide) (by decide) (by decide) (by decide) (by decide) (by decide)
  · exact il_25 s w
  · exact il_pass _ s _ w (is_26 s w) (by decide) (by decide) (by decide) (by decide) (by decide) (by decide) (by decide) (by decide) (by decide) (by decide)
end Go.Proofs.YtmlbomblbdbikaaGreatDoor
