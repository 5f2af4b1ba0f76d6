/-
  Reports: the statement ReportTexts.
-/
import Derived.Test.YtbdmepidabnfkaaGreatDoorRepA
import Derived.Test.YtbdmepidabnfkaaGreatDoorRepT
import Derived.Test.YtbdmepidabnfkaaGreatDoorRepH
import Derived.Test.YtbdmepidabnfkaaGreatDoorOpenRq
namespace Go.Proofs.YtbdmepidabnfkaaGreatDoor
set_option linter.unusedSimpArgs false
set_option linter.unusedVariables false
set_option linter.unusedSectionVars false
open Go.ChangeShapes Go.WideShapes Go.ChangeAt Go.RowKit Go.Deep Go.Shelf

theorem envR_of {w : World} (hK : EnvK w) (hF : FN w) : EnvR w := ⟨hK.k0, hF⟩
set_option maxHeartbeats 16000000 in
set_option maxRecDepth 100000 in
theorem reportTexts_law (c0 c1 c2 c3 c4 c5 : Int) (a : Option Addr) (l : List Rec) (c : Nat) (v t : Int) (fa : Option Addr) (fs : List Fl) (fc : Nat) (ua : Option Addr) (us : List Int) (uc : Nat) (f0 f1 : Int) (m : Int) (w : World) (hK : EnvK w) (hF : FN w) (hM : w.cell? MaxA = some (.int .i64 m)) (hx : RpOk w a l c fa fs ua us) (hgt : goodI t) (hgf : goodI f0) (hgg : goodI f1) :
    Calls Tryz.prog 4 #[.agg #[.int .i64 c0, .int .i64 c1, .int .i64 c2, .int .i64 c3, .int .i64 c4, .int .i64 c5, .slice a l.length c, .int .i64 v, .int .i64 t, .slice fa fs.length fc, .slice ua us.length uc, .int .i64 f0, .int .i64 f1]] w fun e w' => e = .returned (.bool true) ∧ ∃ j, w' = w.more j := by
  have HA : Hid (∀ W, Below w.heap.size w W → Calls Tryz.prog 7 #[] W fun e w' => e = .returned (.bool true) ∧ ∃ j, w' = W.more j) := fun W hW => law43_alive m W ((envR_of hK hF).below hW) (max_keep hM hW)
  have HX : Hid (∀ W, Calls Tryz.prog 6 #[.agg #[.int .i64 c0, .int .i64 c1, .int .i64 c2, .int .i64 c3, .int .i64 c4, .int .i64 c5, .slice a l.length c, .int .i64 v, .int .i64 t, .slice fa fs.length fc, .slice ua us.length uc, .int .i64 f0, .int .i64 f1]] W fun e w' => e = .returned (.bool (lgB l.length fs.length us.length)) ∧ ∃ j, w' = W.more j) := ref43_Large c0 c1 c2 c3 c4 c5 a l c v t fa fs.length fc ua us uc f0 f1
  by_cases hlg : lgB l.length fs.length us.length = true
  · rw [hlg] at HX
    clear hK hF hM hx hgt hgf hgg
    generalize l.length = n at HX ⊢
    generalize fs.length = nf at HX ⊢
    generalize us.length = nu at HX ⊢
    go_enter Tryz.func4, Tryz.ntmps4
    go_wp2_with (first | (go_at_call 6; (with_reducible refine (HX.out _).mono ?_); rintro e w' ⟨rfl, j, rfl⟩) | (go_at_call 7; (with_reducible refine (HA.out _ (by repeat (first | (with_reducible exact Below.refl _ _) | (with_reducible refine Below.allocS ?_ _) | (with_reducible refine Below.moreS ?_ _) | (with_reducible refine Below.drew ?_) | (with_reducible refine below_drewN ?_ _)))).mono ?_); rintro e w' ⟨rfl, j, rfl⟩))
    go_ret
    exact ⟨rfl, Below.junk (by repeat (first | (with_reducible exact Below.refl _ _) | (with_reducible refine Below.allocS ?_ _) | (with_reducible refine Below.moreS ?_ _) | (with_reducible refine Below.drew ?_) | (with_reducible refine below_drewN ?_ _)))⟩
  have hlg : lgB l.length fs.length us.length = false := by simpa using hlg
  rw [hlg] at HX
  obtain ⟨hl1, hl2, hl3⟩ : l.length ≤ 60 ∧ fs.length ≤ 60 ∧ us.length ≤ 60 := by
    unfold lgB at hlg
    simp only [Bool.or_eq_false_iff, decide_eq_false_iff_not] at hlg
    omega
  have HRT : Hid (∀ W, Below w.heap.size w W → Calls Tryz.prog 11 #[.agg #[.int .i64 c0, .int .i64 c1, .int .i64 c2, .int .i64 c3, .int .i64 c4, .int .i64 c5, .slice a l.length c, .int .i64 v, .int .i64 t, .slice fa fs.length fc, .slice ua us.length uc, .int .i64 f0, .int .i64 f1]] W fun e w' => e = .returned (.bool (rightD ⟨c0, c1, c2, c3, c4, c5, l, v, t, fs, us, f0, f1⟩)) ∧ ∃ j, w' = W.more j) := fun W hW =>
    have ox := hx.keep hW
    report_Right c0 c1 c2 c3 c4 c5 a l c v t fa fs fc ua us uc f0 f1 (by omega) ox.cap (by omega) (by omega) m W (max_keep hM hW) ox.recs ox.flts ox.ruls
  have HRR : Hid (∀ W, Below w.heap.size w W → Calls Tryz.prog 12 #[.agg #[.int .i64 c0, .int .i64 c1, .int .i64 c2, .int .i64 c3, .int .i64 c4, .int .i64 c5, .slice a l.length c, .int .i64 v, .int .i64 t, .slice fa fs.length fc, .slice ua us.length uc, .int .i64 f0, .int .i64 f1]] W fun e w' => e = .returned (.bool (rightD ⟨c0, c1, c2, c3, c4, c5, l, v, t, fs, us, f0, f1⟩)) ∧ ∃ j, w' = W.more j) := fun W hW =>
    have ox := hx.keep hW
    ref43_Right c0 c1 c2 c3 c4 c5 a l c v t fa fs fc ua us uc f0 f1 (by omega) (by omega) (by omega) W ox.recs ox.flts ox.ruls
  cases hR : rightD ⟨c0, c1, c2, c3, c4, c5, l, v, t, fs, us, f0, f1⟩ with
  | false =>
    have HTX : Hid (∀ W, Below w.heap.size w W → Calls Tryz.prog 10 #[.agg #[.int .i64 c0, .int .i64 c1, .int .i64 c2, .int .i64 c3, .int .i64 c4, .int .i64 c5, .slice a l.length c, .int .i64 v, .int .i64 t, .slice fa fs.length fc, .slice ua us.length uc, .int .i64 f0, .int .i64 f1]] W fun e w' => e = .returned (.tuple #[bstr [], .int .i64 1]) ∧ ∃ j, w' = W.more j) := fun W hW =>
      have ox := hx.keep hW
      report_Text_no c0 c1 c2 c3 c4 c5 a l c v t fa fs fc ua us uc f0 f1 (by omega) ox.cap (by omega) (by omega) m W (max_keep hM hW) ox.recs ox.flts ox.ruls hR
    rw [hR] at HRT HRR
    clear hK hF hM hx hgt hgf hgg hlg hl1 hl2 hl3 hR
    generalize l.length = n at *
    generalize fs.length = nf at *
    generalize us.length = nu at *
    go_enter Tryz.func4, Tryz.ntmps4
    go_wp2_with (first | (go_at_call 6; (with_reducible refine (HX.out _).mono ?_); rintro e w' ⟨rfl, j1, rfl⟩) | (go_at_call 10; (with_reducible refine (HTX.out _ (by repeat (first | (with_reducible exact Below.refl _ _) | (with_reducible refine Below.allocS ?_ _) | (with_reducible refine Below.moreS ?_ _) | (with_reducible refine Below.drew ?_) | (with_reducible refine below_drewN ?_ _)))).mono ?_); rintro e w' ⟨rfl, j2, rfl⟩))
    obtain ⟨wk, hwk⟩ : ∃ wk, wk = (w.alloc (.cells #[.int .i64 c0, .int .i64 c1, .int .i64 c2, .int .i64 c3, .int .i64 c4, .int .i64 c5, .slice a n c, .int .i64 v, .int .i64 t, .slice fa nf fc, .slice ua nu uc, .int .i64 f0, .int .i64 f1] RpT)).more ⟨j1.heap ++ j2.heap, j2.drawn⟩ := ⟨_, rfl⟩
    rw [← hwk]
    have hbx : Blk wk w.heap.size RpT #[.int .i64 c0, .int .i64 c1, .int .i64 c2, .int .i64 c3, .int .i64 c4, .int .i64 c5, .slice a n c, .int .i64 v, .int .i64 t, .slice fa nf fc, .slice ua nu uc, .int .i64 f0, .int .i64 f1] := by rw [hwk]; exact (Blk.new _ _ _).more _
    have HBW : Hid (Below w.heap.size w wk) := by show Below _ _ _; rw [hwk]; exact (by repeat (first | (with_reducible exact Below.refl _ _) | (with_reducible refine Below.allocS ?_ _) | (with_reducible refine Below.moreS ?_ _) | (with_reducible refine Below.drew ?_) | (with_reducible refine below_drewN ?_ _)))
    have HBX := Lib.hid hbx
    have hg1 := hbx.lt
    clear hwk hbx HX HTX
    refine gb_start wk.heap.size (by kernel_rfl) ?_
    refine gb_load 0 rfl (by kernel_rfl) (by kernel_rfl) (by kernel_rfl) RpT (.tmp 1) #[.int .i64 c0, .int .i64 c1, .int .i64 c2, .int .i64 c3, .int .i64 c4, .int .i64 c5, .slice a n c, .int .i64 v, .int .i64 t, .slice fa nf fc, .slice ua nu uc, .int .i64 f0, .int .i64 f1] (fun _ _ _ h => h) (by kernel_rfl) rfl w.heap.size rfl (t := RpT) (HBX.out.drew) (by omega) _ Tryz.underlying29 rfl (by kernel_rfl) ?_
    try simp only [Act.put, List.getElem_toArray, List.getElem_cons_succ, List.getElem_cons_zero, List.setIfInBounds_toArray, List.set_cons_zero, List.set_cons_succ]
    refine gb_load 2 rfl (by kernel_rfl) (by kernel_rfl) (by kernel_rfl) RpT (.tmp 1) #[.int .i64 c0, .int .i64 c1, .int .i64 c2, .int .i64 c3, .int .i64 c4, .int .i64 c5, .slice a n c, .int .i64 v, .int .i64 t, .slice fa nf fc, .slice ua nu uc, .int .i64 f0, .int .i64 f1] (fun _ _ _ h => h) (by kernel_rfl) rfl w.heap.size rfl (t := RpT) (HBX.out.drew) (by omega) _ Tryz.underlying29 rfl (by kernel_rfl) ?_
    try simp only [Act.put, List.getElem_toArray, List.getElem_cons_succ, List.getElem_cons_zero, List.setIfInBounds_toArray, List.set_cons_zero, List.set_cons_succ]
    refine gb_step 1 (by kernel_rfl) rfl (fun K hK => ?_)
    go_simp
    go_wp2_with fail
    refine (HRT.out _ (by repeat (first | exact HBW.out | (with_reducible refine Below.allocS ?_ _) | (with_reducible refine Below.moreS ?_ _) | (with_reducible refine Below.drew ?_)))).mono ?_
    rintro e w' ⟨rfl, k1, rfl⟩
    go_wp2_with fail
    refine hK.out _ _ (show Below _ _ _ from (by first | exact Below.refl _ _ | (refine Below.mono (B := wk.heap.size) ?_ (by exact Nat.le_refl _); (repeat (first | (with_reducible exact Below.refl _ _) | (with_reducible exact grown_merge _ _ _ _) | (with_reducible exact grown_merge2 _ _ _ _ _ _) | (with_reducible exact grown_merge3 _ _ _ _ _ _ _) | (with_reducible refine Below.allocS ?_ _) | (with_reducible refine Below.moreS ?_ _) | (with_reducible refine Below.drew ?_))); done) | (refine gb_undrew (Below.mono (B := wk.heap.size) ?_ (by exact Nat.le_refl _)); (repeat (first | (with_reducible exact Below.refl _ _) | (with_reducible exact grown_merge _ _ _ _) | (with_reducible exact grown_merge2 _ _ _ _ _ _) | (with_reducible exact grown_merge3 _ _ _ _ _ _ _) | (with_reducible refine Below.allocS ?_ _) | (with_reducible refine Below.moreS ?_ _) | (with_reducible refine Below.drew ?_))); done))) ?_
    clear hK K
    try simp only [Act.put, List.getElem_toArray, List.getElem_cons_succ, List.getElem_cons_zero, List.setIfInBounds_toArray, List.set_cons_zero, List.set_cons_succ]
    refine gb_step 3 (by kernel_rfl) rfl (fun K hK => ?_)
    go_simp
    go_wp2_with fail
    refine (HRR.out _ (by repeat (first | exact HBW.out | (with_reducible refine Below.allocS ?_ _) | (with_reducible refine Below.moreS ?_ _) | (with_reducible refine Below.drew ?_)))).mono ?_
    rintro e w' ⟨rfl, k2, rfl⟩
    go_wp2_with fail
    refine hK.out _ _ (show Below _ _ _ from ((grown_merge wk k1 k2.heap k2.drawn).mono (by simp only [World.size_more]; omega))) ?_
    clear hK K
    try simp only [Act.put, List.getElem_toArray, List.getElem_cons_succ, List.getElem_cons_zero, List.setIfInBounds_toArray, List.set_cons_zero, List.set_cons_succ]
    refine gb_take 4 (v := ?_) rfl (by kernel_rfl) (by kernel_rfl) (by kernel_rfl) (fun _ _ _ h => h) (Or.inl ⟨by first | kernel_rfl | rfl, ?_⟩) ?_
    rotate_left
    · intro wS hSw; have hSc := hSw.cell; clear hSw; go_simp; try with_reducible rfl
    try simp only [Act.put, List.getElem_toArray, List.getElem_cons_succ, List.getElem_cons_zero, List.setIfInBounds_toArray, List.set_cons_zero, List.set_cons_succ]
    refine wpAnyH_done (by kernel_rfl) ?_ _
    have b0 : wk.cell? ⟨w.heap.size, 0, none⟩ = some (.int .i64 c0) := HBX.out.cell 0
    have b1 : wk.cell? ⟨w.heap.size, 1, none⟩ = some (.int .i64 c1) := HBX.out.cell 1
    have b2 : wk.cell? ⟨w.heap.size, 2, none⟩ = some (.int .i64 c2) := HBX.out.cell 2
    have b3 : wk.cell? ⟨w.heap.size, 3, none⟩ = some (.int .i64 c3) := HBX.out.cell 3
    have b4 : wk.cell? ⟨w.heap.size, 4, none⟩ = some (.int .i64 c4) := HBX.out.cell 4
    have b5 : wk.cell? ⟨w.heap.size, 5, none⟩ = some (.int .i64 c5) := HBX.out.cell 5
    have b6 : wk.cell? ⟨w.heap.size, 6, none⟩ = some (.slice a n c) := HBX.out.cell 6
    have b7 : wk.cell? ⟨w.heap.size, 7, none⟩ = some (.int .i64 v) := HBX.out.cell 7
    have b8 : wk.cell? ⟨w.heap.size, 8, none⟩ = some (.int .i64 t) := HBX.out.cell 8
    have b9 : wk.cell? ⟨w.heap.size, 9, none⟩ = some (.slice fa nf fc) := HBX.out.cell 9
    have b10 : wk.cell? ⟨w.heap.size, 10, none⟩ = some (.slice ua nu uc) := HBX.out.cell 10
    have b11 : wk.cell? ⟨w.heap.size, 11, none⟩ = some (.int .i64 f0) := HBX.out.cell 11
    have b12 : wk.cell? ⟨w.heap.size, 12, none⟩ = some (.int .i64 f1) := HBX.out.cell 12
    go_wp2_with (first | (go_at_call 12; (with_reducible refine (HRR.out _ (by repeat (first | exact HBW.out | (with_reducible refine Below.allocS ?_ _) | (with_reducible refine Below.moreS ?_ _) | (with_reducible refine Below.drew ?_)))).mono ?_); rintro e w' ⟨rfl, j, rfl⟩) | (go_at_call 7; (with_reducible refine (HA.out _ (by repeat (first | exact HBW.out | (with_reducible refine Below.allocS ?_ _) | (with_reducible refine Below.moreS ?_ _) | (with_reducible refine Below.drew ?_)))).mono ?_); rintro e w' ⟨rfl, j, rfl⟩))
    go_ret
    exact ⟨rfl, Below.junk (by repeat (first | exact HBW.out | (with_reducible refine Below.allocS ?_ _) | (with_reducible refine Below.moreS ?_ _) | (with_reducible refine Below.drew ?_)))⟩
  | true =>
    have HTX : Hid (∀ W, Below w.heap.size w W → Calls Tryz.prog 10 #[.agg #[.int .i64 c0, .int .i64 c1, .int .i64 c2, .int .i64 c3, .int .i64 c4, .int .i64 c5, .slice a l.length c, .int .i64 v, .int .i64 t, .slice fa fs.length fc, .slice ua us.length uc, .int .i64 f0, .int .i64 f1]] W fun e w' => e = .returned (.tuple #[bstr (textD ⟨c0, c1, c2, c3, c4, c5, l, v, t, fs, us, f0, f1⟩), .int .i64 0]) ∧ ∃ j, w' = W.more j) := fun W hW =>
      have ox := hx.keep hW
      report_Text_yes c0 c1 c2 c3 c4 c5 a l c v t fa fs fc ua us uc f0 f1 (by omega) ox.cap (by omega) (by omega) hgt hgf hgg m W ((envR_of hK hF).below hW) (max_keep hM hW) ox.recs ox.flts ox.ruls hR
    have HTT : Hid (∀ W, Below w.heap.size w W → Calls Tryz.prog 14 #[.agg #[.int .i64 c0, .int .i64 c1, .int .i64 c2, .int .i64 c3, .int .i64 c4, .int .i64 c5, .slice a l.length c, .int .i64 v, .int .i64 t, .slice fa fs.length fc, .slice ua us.length uc, .int .i64 f0, .int .i64 f1]] W fun e w' => e = .returned (bstr (textD ⟨c0, c1, c2, c3, c4, c5, l, v, t, fs, us, f0, f1⟩)) ∧ ∃ j, w' = W.more j) := fun W hW =>
      have ox := hx.keep hW
      ref43_Text c0 c1 c2 c3 c4 c5 a l c v t fa fs fc ua us uc f0 f1 (by omega) (by omega) (by omega) hgt hgf hgg W ox.recs ox.flts ox.ruls hR
    have hts := textD_small c0 c1 c2 c3 c4 c5 a l c v t fa fs fc ua us uc f0 f1 hR hl1 hl2 hl3 hgt hgf hgg
    have hrt := readRp_text hR ⟨hgt, hgf, hgg, by show l.length ≤ 100000; omega⟩
    have HRD : Hid (∀ W, Below w.heap.size w W → Calls Tryz.prog 13 #[bstr (textD ⟨c0, c1, c2, c3, c4, c5, l, v, t, fs, us, f0, f1⟩)] W (RpP (⟨c0, c1, c2, c3, c4, c5, l, v, t, fs, us, f0, f1⟩, true) W)) := fun W hW => by
      have := report_Read (textD ⟨c0, c1, c2, c3, c4, c5, l, v, t, fs, us, f0, f1⟩) (by omega) m W (hK.below hW) (hF.below hW) (max_keep hM hW)
      rw [hrt] at this
      exact this
    have HSM : Hid (∀ W ya yc yfa yfc yua yuc, Below w.heap.size w W → SlRc W W.heap.size ya l → SlFl W W.heap.size yfa fs → SlI W W.heap.size yua us → Calls Tryz.prog 9 #[.agg #[.int .i64 c0, .int .i64 c1, .int .i64 c2, .int .i64 c3, .int .i64 c4, .int .i64 c5, .slice a l.length c, .int .i64 v, .int .i64 t, .slice fa fs.length fc, .slice ua us.length uc, .int .i64 f0, .int .i64 f1], .agg #[.int .i64 c0, .int .i64 c1, .int .i64 c2, .int .i64 c3, .int .i64 c4, .int .i64 c5, .slice ya l.length yc, .int .i64 v, .int .i64 t, .slice yfa fs.length yfc, .slice yua us.length yuc, .int .i64 f0, .int .i64 f1]] W fun e w' => e = .returned (.bool true) ∧ ∃ j, w' = W.more j) := fun W ya yc yfa yfc yua yuc hW h1 h2 h3 => by
      have ox := hx.keep hW
      have := ref43_Same c0 c1 c2 c3 c4 c5 a l c v t fa fs fc ua us uc f0 f1 c0 c1 c2 c3 c4 c5 ya l yc v t yfa fs yfc yua us yuc f0 f1 (by omega) (by omega) (by omega) (by omega) (by omega) (by omega) W ox.recs ox.flts ox.ruls h1 h2 h3
      rw [sameRp_self] at this
      exact this
    rw [hR] at HRT HRR
    clear hK hF hM hx hgt hgf hgg hlg hl1 hl2 hl3 hR hts hrt
    generalize textD ⟨c0, c1, c2, c3, c4, c5, l, v, t, fs, us, f0, f1⟩ = T at HTX HTT HRD
    have eT : (T == T) = true := by simp
    go_enter Tryz.func4, Tryz.ntmps4
    go_wp2_with (first | (go_at_call 6; (with_reducible refine (HX.out _).mono ?_); rintro e w' ⟨rfl, j1, rfl⟩) | (go_at_call 10; (with_reducible refine (HTX.out _ (by repeat (first | (with_reducible exact Below.refl _ _) | (with_reducible refine Below.allocS ?_ _) | (with_reducible refine Below.moreS ?_ _) | (with_reducible refine Below.drew ?_) | (with_reducible refine below_drewN ?_ _)))).mono ?_); rintro e w' ⟨rfl, j2, rfl⟩))
    obtain ⟨wk, hwk⟩ : ∃ wk, wk = (w.alloc (.cells #[.int .i64 c0, .int .i64 c1, .int .i64 c2, .int .i64 c3, .int .i64 c4, .int .i64 c5, .slice a l.length c, .int .i64 v, .int .i64 t, .slice fa fs.length fc, .slice ua us.length uc, .int .i64 f0, .int .i64 f1] RpT)).more ⟨j1.heap ++ j2.heap, j2.drawn⟩ := ⟨_, rfl⟩
    rw [← hwk]
    have hbx : Blk wk w.heap.size RpT #[.int .i64 c0, .int .i64 c1, .int .i64 c2, .int .i64 c3, .int .i64 c4, .int .i64 c5, .slice a l.length c, .int .i64 v, .int .i64 t, .slice fa fs.length fc, .slice ua us.length uc, .int .i64 f0, .int .i64 f1] := by rw [hwk]; exact (Blk.new _ _ _).more _
    have HBW : Hid (Below w.heap.size w wk) := by show Below _ _ _; rw [hwk]; exact (by repeat (first | (with_reducible exact Below.refl _ _) | (with_reducible refine Below.allocS ?_ _) | (with_reducible refine Below.moreS ?_ _) | (with_reducible refine Below.drew ?_) | (with_reducible refine below_drewN ?_ _)))
    have HBX := Lib.hid hbx
    have hg1 := hbx.lt
    clear hwk hbx HX HTX
    refine gb_start wk.heap.size (by kernel_rfl) ?_
    refine gb_load 0 rfl (by kernel_rfl) (by kernel_rfl) (by kernel_rfl) RpT (.tmp 1) #[.int .i64 c0, .int .i64 c1, .int .i64 c2, .int .i64 c3, .int .i64 c4, .int .i64 c5, .slice a l.length c, .int .i64 v, .int .i64 t, .slice fa fs.length fc, .slice ua us.length uc, .int .i64 f0, .int .i64 f1] (fun _ _ _ h => h) (by kernel_rfl) rfl w.heap.size rfl (t := RpT) (HBX.out.drew) (by omega) _ Tryz.underlying29 rfl (by kernel_rfl) ?_
    try simp only [Act.put, List.getElem_toArray, List.getElem_cons_succ, List.getElem_cons_zero, List.setIfInBounds_toArray, List.set_cons_zero, List.set_cons_succ]
    refine gb_load 2 rfl (by kernel_rfl) (by kernel_rfl) (by kernel_rfl) RpT (.tmp 1) #[.int .i64 c0, .int .i64 c1, .int .i64 c2, .int .i64 c3, .int .i64 c4, .int .i64 c5, .slice a l.length c, .int .i64 v, .int .i64 t, .slice fa fs.length fc, .slice ua us.length uc, .int .i64 f0, .int .i64 f1] (fun _ _ _ h => h) (by kernel_rfl) rfl w.heap.size rfl (t := RpT) (HBX.out.drew) (by omega) _ Tryz.underlying29 rfl (by kernel_rfl) ?_
    try simp only [Act.put, List.getElem_toArray, List.getElem_cons_succ, List.getElem_cons_zero, List.setIfInBounds_toArray, List.set_cons_zero, List.set_cons_succ]
    refine gb_step 1 (by kernel_rfl) rfl (fun K hK => ?_)
    go_simp
    go_wp2_with fail
    refine (HRT.out _ (by repeat (first | exact HBW.out | (with_reducible refine Below.allocS ?_ _) | (with_reducible refine Below.moreS ?_ _) | (with_reducible refine Below.drew ?_)))).mono ?_
    rintro e w' ⟨rfl, k1, rfl⟩
    go_wp2_with fail
    refine hK.out _ _ (show Below _ _ _ from (by first | exact Below.refl _ _ | (refine Below.mono (B := wk.heap.size) ?_ (by exact Nat.le_refl _); (repeat (first | (with_reducible exact Below.refl _ _) | (with_reducible exact grown_merge _ _ _ _) | (with_reducible exact grown_merge2 _ _ _ _ _ _) | (with_reducible exact grown_merge3 _ _ _ _ _ _ _) | (with_reducible refine Below.allocS ?_ _) | (with_reducible refine Below.moreS ?_ _) | (with_reducible refine Below.drew ?_))); done) | (refine gb_undrew (Below.mono (B := wk.heap.size) ?_ (by exact Nat.le_refl _)); (repeat (first | (with_reducible exact Below.refl _ _) | (with_reducible exact grown_merge _ _ _ _) | (with_reducible exact grown_merge2 _ _ _ _ _ _) | (with_reducible exact grown_merge3 _ _ _ _ _ _ _) | (with_reducible refine Below.allocS ?_ _) | (with_reducible refine Below.moreS ?_ _) | (with_reducible refine Below.drew ?_))); done))) ?_
    clear hK K
    try simp only [Act.put, List.getElem_toArray, List.getElem_cons_succ, List.getElem_cons_zero, List.setIfInBounds_toArray, List.set_cons_zero, List.set_cons_succ]
    refine gb_step 3 (by kernel_rfl) rfl (fun K hK => ?_)
    go_simp
    go_wp2_with fail
    refine (HRR.out _ (by repeat (first | exact HBW.out | (with_reducible refine Below.allocS ?_ _) | (with_reducible refine Below.moreS ?_ _) | (with_reducible refine Below.drew ?_)))).mono ?_
    rintro e w' ⟨rfl, k2, rfl⟩
    go_wp2_with fail
    refine hK.out _ _ (show Below _ _ _ from ((grown_merge wk k1 k2.heap k2.drawn).mono (by simp only [World.size_more]; omega))) ?_
    clear hK K
    try simp only [Act.put, List.getElem_toArray, List.getElem_cons_succ, List.getElem_cons_zero, List.setIfInBounds_toArray, List.set_cons_zero, List.set_cons_succ]
    refine gb_take 4 (v := ?_) rfl (by kernel_rfl) (by kernel_rfl) (by kernel_rfl) (fun _ _ _ h => h) (Or.inl ⟨by first | kernel_rfl | rfl, ?_⟩) ?_
    rotate_left
    · intro wS hSw; have hSc := hSw.cell; clear hSw; go_simp; try with_reducible rfl
    try simp only [Act.put, List.getElem_toArray, List.getElem_cons_succ, List.getElem_cons_zero, List.setIfInBounds_toArray, List.set_cons_zero, List.set_cons_succ]
    refine wpAnyH_done (by kernel_rfl) ?_ _
    have b0 : wk.cell? ⟨w.heap.size, 0, none⟩ = some (.int .i64 c0) := HBX.out.cell 0
    have b1 : wk.cell? ⟨w.heap.size, 1, none⟩ = some (.int .i64 c1) := HBX.out.cell 1
    have b2 : wk.cell? ⟨w.heap.size, 2, none⟩ = some (.int .i64 c2) := HBX.out.cell 2
    have b3 : wk.cell? ⟨w.heap.size, 3, none⟩ = some (.int .i64 c3) := HBX.out.cell 3
    have b4 : wk.cell? ⟨w.heap.size, 4, none⟩ = some (.int .i64 c4) := HBX.out.cell 4
    have b5 : wk.cell? ⟨w.heap.size, 5, none⟩ = some (.int .i64 c5) := HBX.out.cell 5
    have b6 : wk.cell? ⟨w.heap.size, 6, none⟩ = some (.slice a l.length c) := HBX.out.cell 6
    have b7 : wk.cell? ⟨w.heap.size, 7, none⟩ = some (.int .i64 v) := HBX.out.cell 7
    have b8 : wk.cell? ⟨w.heap.size, 8, none⟩ = some (.int .i64 t) := HBX.out.cell 8
    have b9 : wk.cell? ⟨w.heap.size, 9, none⟩ = some (.slice fa fs.length fc) := HBX.out.cell 9
    have b10 : wk.cell? ⟨w.heap.size, 10, none⟩ = some (.slice ua us.length uc) := HBX.out.cell 10
    have b11 : wk.cell? ⟨w.heap.size, 11, none⟩ = some (.int .i64 f0) := HBX.out.cell 11
    have b12 : wk.cell? ⟨w.heap.size, 12, none⟩ = some (.int .i64 f1) := HBX.out.cell 12
    go_wp2_with (go_at_call 12; (with_reducible refine (HRR.out _ (by repeat (first | exact HBW.out | (with_reducible refine Below.allocS ?_ _) | (with_reducible refine Below.moreS ?_ _) | (with_reducible refine Below.drew ?_)))).mono ?_); rintro e w' ⟨rfl, j, rfl⟩)
    refine (HRD.out _ (by repeat (first | exact HBW.out | (with_reducible refine Below.allocS ?_ _) | (with_reducible refine Below.moreS ?_ _) | (with_reducible refine Below.drew ?_)))).mono ?_
    rintro e w8 ⟨ya, yc, yfa, yfc, yua, yuc, rfl, hys, hyf, hyu, hyc, hb8⟩
    simp only at hys hyf hyu hyc ⊢
    have HB8 : Hid (Below w.heap.size w w8) := Below.trans (by repeat (first | exact HBW.out | (with_reducible refine Below.allocS ?_ _) | (with_reducible refine Below.moreS ?_ _) | (with_reducible refine Below.drew ?_))) (hb8.mono (by simp only [World.size_more]; omega))
    have hbx8 : Blk w8 w.heap.size RpT #[.int .i64 c0, .int .i64 c1, .int .i64 c2, .int .i64 c3, .int .i64 c4, .int .i64 c5, .slice a l.length c, .int .i64 v, .int .i64 t, .slice fa fs.length fc, .slice ua us.length uc, .int .i64 f0, .int .i64 f1] := (HBX.out.more _).below hb8 (by simp only [World.size_more]; omega)
    have HYS : Hid (∀ W, Below w8.heap.size w8 W → Calls Tryz.prog 9 #[.agg #[.int .i64 c0, .int .i64 c1, .int .i64 c2, .int .i64 c3, .int .i64 c4, .int .i64 c5, .slice a l.length c, .int .i64 v, .int .i64 t, .slice fa fs.length fc, .slice ua us.length uc, .int .i64 f0, .int .i64 f1], .agg #[.int .i64 c0, .int .i64 c1, .int .i64 c2, .int .i64 c3, .int .i64 c4, .int .i64 c5, .slice ya l.length yc, .int .i64 v, .int .i64 t, .slice yfa fs.length yfc, .slice yua us.length yuc, .int .i64 f0, .int .i64 f1]] W fun e w' => e = .returned (.bool true) ∧ ∃ j, w' = W.more j) := fun W hW =>
      HSM.out W ya yc yfa yfc yua yuc (HB8.out.trans (hW.mono HB8.out.size)) (SlRc.keep hys hW) (SlFl.keep hyf hW) ((hyu.below hW (Nat.le_refl _)).mono hW.size (fun _ _ _ h => h))
    have hg8 := hbx8.lt
    clear b0 b1 b2 b3 b4 b5 b6 b7 b8 b9 b10 b11 b12 hb8 hys hyf hyu HBX HBW HSM HRD HRR HRT
    have p0 : w8.cell? ⟨w.heap.size, 0, none⟩ = some (.int .i64 c0) := hbx8.cell 0
    have p1 : w8.cell? ⟨w.heap.size, 1, none⟩ = some (.int .i64 c1) := hbx8.cell 1
    have p2 : w8.cell? ⟨w.heap.size, 2, none⟩ = some (.int .i64 c2) := hbx8.cell 2
    have p3 : w8.cell? ⟨w.heap.size, 3, none⟩ = some (.int .i64 c3) := hbx8.cell 3
    have p4 : w8.cell? ⟨w.heap.size, 4, none⟩ = some (.int .i64 c4) := hbx8.cell 4
    have p5 : w8.cell? ⟨w.heap.size, 5, none⟩ = some (.int .i64 c5) := hbx8.cell 5
    have p6 : w8.cell? ⟨w.heap.size, 6, none⟩ = some (.slice a l.length c) := hbx8.cell 6
    have p7 : w8.cell? ⟨w.heap.size, 7, none⟩ = some (.int .i64 v) := hbx8.cell 7
    have p8 : w8.cell? ⟨w.heap.size, 8, none⟩ = some (.int .i64 t) := hbx8.cell 8
    have p9 : w8.cell? ⟨w.heap.size, 9, none⟩ = some (.slice fa fs.length fc) := hbx8.cell 9
    have p10 : w8.cell? ⟨w.heap.size, 10, none⟩ = some (.slice ua us.length uc) := hbx8.cell 10
    have p11 : w8.cell? ⟨w.heap.size, 11, none⟩ = some (.int .i64 f0) := hbx8.cell 11
    have p12 : w8.cell? ⟨w.heap.size, 12, none⟩ = some (.int .i64 f1) := hbx8.cell 12
    clear hbx8
    go_wp2_with (first | (go_at_call 14; (with_reducible refine (HTT.out _ (by repeat (first | exact HB8.out | (with_reducible refine Below.allocS ?_ _) | (with_reducible refine Below.moreS ?_ _) | (with_reducible refine Below.drew ?_)))).mono ?_); rintro e w' ⟨rfl, j, rfl⟩) | (go_at_call 9; (with_reducible refine (HYS.out _ (by repeat (first | (with_reducible exact Below.refl _ _) | (with_reducible refine Below.allocS ?_ _) | (with_reducible refine Below.moreS ?_ _) | (with_reducible refine Below.drew ?_) | (with_reducible refine below_drewN ?_ _)))).mono ?_); rintro e w' ⟨rfl, j, rfl⟩) | (go_at_call 7; (with_reducible refine (HA.out _ (by repeat (first | exact HB8.out | (with_reducible refine Below.allocS ?_ _) | (with_reducible refine Below.moreS ?_ _) | (with_reducible refine Below.drew ?_)))).mono ?_); rintro e w' ⟨rfl, j, rfl⟩))
    go_ret
    exact ⟨rfl, Below.junk (by repeat (first | exact HB8.out | (with_reducible refine Below.allocS ?_ _) | (with_reducible refine Below.moreS ?_ _) | (with_reducible refine Below.drew ?_)))⟩
theorem reportTexts_of (x : Rq) (m : Int) (w : World) (hK : EnvK w) (hF : FN w) (hx : x.Ok w) (hM : w.cell? MaxA = some (.int .i64 m)) :
    Calls Tryz.prog 4 #[x.val] w fun e w' => e = .returned (.bool true) ∧ ∃ j, w' = w.more j :=
  reportTexts_law x.c0 x.c1 x.c2 x.c3 x.c4 x.c5 x.a x.l x.c x.v x.t x.fa x.fs x.fc x.ua x.us x.uc x.f0 x.f1 m w hK hF hM hx.ok hx.gt hx.g0 hx.g1
end Go.Proofs.YtbdmepidabnfkaaGreatDoor
