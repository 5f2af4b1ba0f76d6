/-
  Reports: the statement ReportReads. (Printed by mk_repj.py.)
-/
import Derived.Test.YtbdmepidabnfkaaGreatDoorRepA
import Derived.Test.YtbdmepidabnfkaaGreatDoorRepI
import Derived.Test.YtbdmepidabnfkaaGreatDoorRepH
namespace Go.Proofs.YtbdmepidabnfkaaGreatDoor
set_option linter.unusedSimpArgs false
set_option linter.unusedVariables false
set_option linter.unusedSectionVars false
open Go.ChangeShapes Go.WideShapes Go.ChangeAt Go.RowKit Go.Deep Go.Shelf

theorem zRpt_right : rightD zRpt = false := by decide
set_option maxHeartbeats 16000000 in
set_option maxRecDepth 100000 in
theorem reportReads_of (s : List UInt8) (m : Int) (w : World) (hK : EnvK w) (hF : FN w) (hmx : s.length ≤ maxLen) (hM : w.cell? MaxA = some (.int .i64 m)) :
    Calls Tryz.prog 5 #[bstr s] w fun e w' => e = .returned (.bool true) ∧ ∃ j, w' = w.more j := by
  have HA : Hid (∀ W, Below w.heap.size w W → Calls Tryz.prog 7 #[] W fun e w' => e = .returned (.bool true) ∧ ∃ j, w' = W.more j) := fun W hW => law43_alive m W (EnvR.below ⟨hK.k0, hF⟩ hW) (max_keep hM hW)
  by_cases hlen : 3000 < s.length
  · have h3 : (3000 : Int) < (s.length : Int) := by omega
    clear hK hF hM
    go_enter Tryz.func5, Tryz.ntmps5
    go_wp2_with (go_at_call 7; (with_reducible refine (HA.out _ (by repeat (first | (with_reducible exact Below.refl _ _) | (with_reducible refine Below.allocS ?_ _) | (with_reducible refine Below.moreS ?_ _) | (with_reducible refine Below.drew ?_) | (with_reducible refine below_drewN ?_ _)))).mono ?_); rintro e w' ⟨rfl, j, rfl⟩)
    go_ret
    exact ⟨rfl, Below.junk (by repeat (first | (with_reducible exact Below.refl _ _) | (with_reducible refine Below.allocS ?_ _) | (with_reducible refine Below.moreS ?_ _) | (with_reducible refine Below.drew ?_) | (with_reducible refine below_drewN ?_ _)))⟩
  have h3 : ¬ (3000 : Int) < (s.length : Int) := by omega
  have HRP : Hid (∀ W, Below w.heap.size w W → Calls Tryz.prog 13 #[bstr s] W (RpP (readRp s) W)) := fun W hW => report_Read s (by omega) m W (hK.below hW) (hF.below hW) (max_keep hM hW)
  have HRQ : Hid (∀ W, Calls Tryz.prog 15 #[bstr s] W (RqP (readRp s) W)) := fun W => by
    rw [read_ref (by omega)]
    exact ref43_Read s (by omega) W
  obtain ⟨R, hR⟩ : ∃ R, R = readRp s := ⟨_, rfl⟩
  rw [← hR] at HRP HRQ
  have hyes : R.2 = true → rightD R.1 = true ∧ textD R.1 = s ∧ goodR R.1 := fun h => by
    rw [hR] at h ⊢
    exact ⟨(readRp_yes h).1, (readRp_yes h).2.1, readRp_good (by omega) h⟩
  have hno : R.2 = false → R = (zRpt, false) := fun h => by
    rw [hR] at h ⊢
    exact readRp_no h
  clear hR
  obtain ⟨⟨c0, c1, c2, c3, c4, c5, l, v, t, fs, us, f0, f1⟩, ok⟩ := R
  simp only at hyes hno
  have hlens : l.length ≤ 100000 ∧ fs.length ≤ 3000 ∧ us.length ≤ 3000 := by
    cases ok with
    | true =>
      obtain ⟨h1, h2, h4⟩ := hyes rfl
      have h5 := textD_sets c0 c1 c2 c3 c4 c5 none l 0 v t none fs 0 none us 0 f0 f1 h1
      rw [h2] at h5
      exact ⟨h4.2.2.2, by omega, by omega⟩
    | false =>
      have := hno rfl
      unfold zRpt at this
      simp only [Prod.mk.injEq, Rpt.mk.injEq] at this
      obtain ⟨⟨_, _, _, _, _, _, rfl, _, _, rfl, rfl, _, _⟩, _⟩ := this
      simp
  obtain ⟨hl1, hl2, hl3⟩ := hlens
  have HTX : Hid (∀ W a c fa fc ua uc, Below w.heap.size w W → SlRc W W.heap.size a l → SlFl W W.heap.size fa fs → SlI W W.heap.size ua us → l.length ≤ c → Calls Tryz.prog 10 #[.agg #[.int .i64 c0, .int .i64 c1, .int .i64 c2, .int .i64 c3, .int .i64 c4, .int .i64 c5, .slice a l.length c, .int .i64 v, .int .i64 t, .slice fa fs.length fc, .slice ua us.length uc, .int .i64 f0, .int .i64 f1]] W fun e w' => e = .returned (.tuple #[bstr (if ok = true then s else []), .int .i64 (if ok = true then 0 else 1)]) ∧ ∃ j, w' = W.more j) := fun W a c fa fc ua uc hW h1 h2 h4 h5 => by
    cases ok with
    | true =>
      obtain ⟨g1, g2, gt, g0, gg, _⟩ := hyes rfl
      have := report_Text_yes c0 c1 c2 c3 c4 c5 a l c v t fa fs fc ua us uc f0 f1 (by omega) h5 (by omega) (by omega) gt g0 gg m W (EnvR.below ⟨hK.k0, hF⟩ hW) (max_keep hM hW) h1 h2 h4 g1
      rw [g2] at this
      exact this
    | false =>
      have hz := congrArg Prod.fst (hno rfl)
      simp only at hz
      exact report_Text_no c0 c1 c2 c3 c4 c5 a l c v t fa fs fc ua us uc f0 f1 (by omega) h5 (by omega) (by omega) m W (max_keep hM hW) h1 h2 h4 (by rw [hz]; exact zRpt_right)
  have HSM : Hid (∀ W a c fa fc ua uc ya yc yfa yfc yua yuc, SlRc W W.heap.size a l → SlFl W W.heap.size fa fs → SlI W W.heap.size ua us → SlRc W W.heap.size ya l → SlFl W W.heap.size yfa fs → SlI W W.heap.size yua us → Calls Tryz.prog 9 #[.agg #[.int .i64 c0, .int .i64 c1, .int .i64 c2, .int .i64 c3, .int .i64 c4, .int .i64 c5, .slice a l.length c, .int .i64 v, .int .i64 t, .slice fa fs.length fc, .slice ua us.length uc, .int .i64 f0, .int .i64 f1], .agg #[.int .i64 c0, .int .i64 c1, .int .i64 c2, .int .i64 c3, .int .i64 c4, .int .i64 c5, .slice ya l.length yc, .int .i64 v, .int .i64 t, .slice yfa fs.length yfc, .slice yua us.length yuc, .int .i64 f0, .int .i64 f1]] W fun e w' => e = .returned (.bool true) ∧ ∃ j, w' = W.more j) := fun W a c fa fc ua uc ya yc yfa yfc yua yuc h1 h2 h4 g1 g2 g4 => by
    have := ref43_Same c0 c1 c2 c3 c4 c5 a l c v t fa fs fc ua us uc f0 f1 c0 c1 c2 c3 c4 c5 ya l yc v t yfa fs yfc yua us yuc f0 f1 (by omega) (by omega) (by omega) (by omega) (by omega) (by omega) W h1 h2 h4 g1 g2 g4
    rw [sameRp_self] at this
    exact this
  have eS : (s == s) = true := by simp
  clear hK hF hM hyes hno hlen hl1 hl2 hl3
  cases ok
  case false =>
    go_enter Tryz.func5, Tryz.ntmps5
    go_wp2_with fail
    refine (HRP.out _ (by repeat (first | (with_reducible exact Below.refl _ _) | (with_reducible refine Below.allocS ?_ _) | (with_reducible refine Below.moreS ?_ _) | (with_reducible refine Below.drew ?_) | (with_reducible refine below_drewN ?_ _)))).mono ?_
    rintro e w1 ⟨a, c, fa, fc, ua, uc, rfl, hs1, hf1, hu1, hcp, hb1⟩
    simp only at hs1 hf1 hu1 hcp ⊢
    have HB1 : Hid (Below w.heap.size w w1) := hb1
    have HS1 := Lib.hid hs1
    have HF1 := Lib.hid hf1
    have HU1 := Lib.hid hu1
    have HCP := Lib.hid hcp
    clear hs1 hf1 hu1 hcp hb1 HRP
    go_wp2_with fail
    refine (HRQ.out _).mono ?_
    rintro e w2 ⟨ya, yc, yfa, yfc, yua, yuc, rfl, hs2, hf2, hu2, hb2⟩
    simp only at hs2 hf2 hu2 ⊢
    have hbx : Blk w2 w1.heap.size RpT #[.int .i64 c0, .int .i64 c1, .int .i64 c2, .int .i64 c3, .int .i64 c4, .int .i64 c5, .slice a l.length c, .int .i64 v, .int .i64 t, .slice fa fs.length fc, .slice ua us.length uc, .int .i64 f0, .int .i64 f1] := (Blk.new w1 RpT #[.int .i64 c0, .int .i64 c1, .int .i64 c2, .int .i64 c3, .int .i64 c4, .int .i64 c5, .slice a l.length c, .int .i64 v, .int .i64 t, .slice fa fs.length fc, .slice ua us.length uc, .int .i64 f0, .int .i64 f1]).below hb2 (by simp)
    have HB2 : Hid (Below w1.heap.size w1 w2) := Below.trans (by repeat (first | (with_reducible exact Below.refl _ _) | (with_reducible refine Below.allocS ?_ _) | (with_reducible refine Below.moreS ?_ _) | (with_reducible refine Below.drew ?_) | (with_reducible refine below_drewN ?_ _))) (hb2.mono (by simp))
    have HB3 : Hid (Below w.heap.size w w2) := HB1.out.trans (HB2.out.mono HB1.out.size)
    have HSS : Hid (∀ W, Below w2.heap.size w2 W → Calls Tryz.prog 9 #[.agg #[.int .i64 c0, .int .i64 c1, .int .i64 c2, .int .i64 c3, .int .i64 c4, .int .i64 c5, .slice a l.length c, .int .i64 v, .int .i64 t, .slice fa fs.length fc, .slice ua us.length uc, .int .i64 f0, .int .i64 f1], .agg #[.int .i64 c0, .int .i64 c1, .int .i64 c2, .int .i64 c3, .int .i64 c4, .int .i64 c5, .slice ya l.length yc, .int .i64 v, .int .i64 t, .slice yfa fs.length yfc, .slice yua us.length yuc, .int .i64 f0, .int .i64 f1]] W fun e w' => e = .returned (.bool true) ∧ ∃ j, w' = W.more j) := fun W hW =>
      have hW1 := HB2.out.trans (hW.mono HB2.out.size)
      HSM.out W a c fa fc ua uc ya yc yfa yfc yua yuc (SlRc.keep HS1.out hW1) (SlFl.keep HF1.out hW1) ((HU1.out.below hW1 (Nat.le_refl _)).mono hW1.size (fun _ _ _ h => h)) (SlRc.keep hs2 hW) (SlFl.keep hf2 hW) ((hu2.below hW (Nat.le_refl _)).mono hW.size (fun _ _ _ h => h))
    have HTT : Hid (∀ W, Below w2.heap.size w2 W → Calls Tryz.prog 10 #[.agg #[.int .i64 c0, .int .i64 c1, .int .i64 c2, .int .i64 c3, .int .i64 c4, .int .i64 c5, .slice a l.length c, .int .i64 v, .int .i64 t, .slice fa fs.length fc, .slice ua us.length uc, .int .i64 f0, .int .i64 f1]] W fun e w' => e = .returned (.tuple #[bstr (if false = true then s else []), .int .i64 (if false = true then 0 else 1)]) ∧ ∃ j, w' = W.more j) := fun W hW =>
      have hW1 := HB2.out.trans (hW.mono HB2.out.size)
      HTX.out W a c fa fc ua uc (HB3.out.trans (hW.mono HB3.out.size)) (SlRc.keep HS1.out hW1) (SlFl.keep HF1.out hW1) ((HU1.out.below hW1 (Nat.le_refl _)).mono hW1.size (fun _ _ _ h => h)) HCP.out
    have hg2 := hbx.lt
    have b0 : w2.cell? ⟨w1.heap.size, 0, none⟩ = some (.int .i64 c0) := hbx.cell 0
    have b1 : w2.cell? ⟨w1.heap.size, 1, none⟩ = some (.int .i64 c1) := hbx.cell 1
    have b2 : w2.cell? ⟨w1.heap.size, 2, none⟩ = some (.int .i64 c2) := hbx.cell 2
    have b3 : w2.cell? ⟨w1.heap.size, 3, none⟩ = some (.int .i64 c3) := hbx.cell 3
    have b4 : w2.cell? ⟨w1.heap.size, 4, none⟩ = some (.int .i64 c4) := hbx.cell 4
    have b5 : w2.cell? ⟨w1.heap.size, 5, none⟩ = some (.int .i64 c5) := hbx.cell 5
    have b6 : w2.cell? ⟨w1.heap.size, 6, none⟩ = some (.slice a l.length c) := hbx.cell 6
    have b7 : w2.cell? ⟨w1.heap.size, 7, none⟩ = some (.int .i64 v) := hbx.cell 7
    have b8 : w2.cell? ⟨w1.heap.size, 8, none⟩ = some (.int .i64 t) := hbx.cell 8
    have b9 : w2.cell? ⟨w1.heap.size, 9, none⟩ = some (.slice fa fs.length fc) := hbx.cell 9
    have b10 : w2.cell? ⟨w1.heap.size, 10, none⟩ = some (.slice ua us.length uc) := hbx.cell 10
    have b11 : w2.cell? ⟨w1.heap.size, 11, none⟩ = some (.int .i64 f0) := hbx.cell 11
    have b12 : w2.cell? ⟨w1.heap.size, 12, none⟩ = some (.int .i64 f1) := hbx.cell 12
    clear hbx hs2 hf2 hu2 hb2 HSM HTX HRQ
    have HT2 : Hid (∀ W, Below w2.heap.size w2 W → Calls Tryz.prog 10 #[.agg #[.int .i64 c0, .int .i64 c1, .int .i64 c2, .int .i64 c3, .int .i64 c4, .int .i64 c5, .slice a l.length c, .int .i64 v, .int .i64 t, .slice fa fs.length fc, .slice ua us.length uc, .int .i64 f0, .int .i64 f1]] W fun e w' => e = .returned (.tuple #[bstr [], .int .i64 1]) ∧ ∃ j, w' = W.more j) := HTT.out
    clear HTT
    go_wp2_with (first | (go_at_call 9; (with_reducible refine (HSS.out _ (by repeat (first | (with_reducible exact Below.refl _ _) | (with_reducible refine Below.allocS ?_ _) | (with_reducible refine Below.moreS ?_ _) | (with_reducible refine Below.drew ?_) | (with_reducible refine below_drewN ?_ _)))).mono ?_); rintro e w' ⟨rfl, j, rfl⟩) | (go_at_call 10; (with_reducible refine (HT2.out _ (by repeat (first | (with_reducible exact Below.refl _ _) | (with_reducible refine Below.allocS ?_ _) | (with_reducible refine Below.moreS ?_ _) | (with_reducible refine Below.drew ?_) | (with_reducible refine below_drewN ?_ _)))).mono ?_); rintro e w' ⟨rfl, j, rfl⟩) | (go_at_call 7; (with_reducible refine (HA.out _ (by repeat (first | exact HB3.out | (with_reducible refine Below.allocS ?_ _) | (with_reducible refine Below.moreS ?_ _) | (with_reducible refine Below.drew ?_)))).mono ?_); rintro e w' ⟨rfl, j, rfl⟩))
    go_ret
    exact ⟨rfl, Below.junk (by repeat (first | exact HB3.out | (with_reducible refine Below.allocS ?_ _) | (with_reducible refine Below.moreS ?_ _) | (with_reducible refine Below.drew ?_)))⟩
  case true =>
    go_enter Tryz.func5, Tryz.ntmps5
    go_wp2_with fail
    refine (HRP.out _ (by repeat (first | (with_reducible exact Below.refl _ _) | (with_reducible refine Below.allocS ?_ _) | (with_reducible refine Below.moreS ?_ _) | (with_reducible refine Below.drew ?_) | (with_reducible refine below_drewN ?_ _)))).mono ?_
    rintro e w1 ⟨a, c, fa, fc, ua, uc, rfl, hs1, hf1, hu1, hcp, hb1⟩
    simp only at hs1 hf1 hu1 hcp ⊢
    have HB1 : Hid (Below w.heap.size w w1) := hb1
    have HS1 := Lib.hid hs1
    have HF1 := Lib.hid hf1
    have HU1 := Lib.hid hu1
    have HCP := Lib.hid hcp
    clear hs1 hf1 hu1 hcp hb1 HRP
    go_wp2_with fail
    refine (HRQ.out _).mono ?_
    rintro e w2 ⟨ya, yc, yfa, yfc, yua, yuc, rfl, hs2, hf2, hu2, hb2⟩
    simp only at hs2 hf2 hu2 ⊢
    have hbx : Blk w2 w1.heap.size RpT #[.int .i64 c0, .int .i64 c1, .int .i64 c2, .int .i64 c3, .int .i64 c4, .int .i64 c5, .slice a l.length c, .int .i64 v, .int .i64 t, .slice fa fs.length fc, .slice ua us.length uc, .int .i64 f0, .int .i64 f1] := (Blk.new w1 RpT #[.int .i64 c0, .int .i64 c1, .int .i64 c2, .int .i64 c3, .int .i64 c4, .int .i64 c5, .slice a l.length c, .int .i64 v, .int .i64 t, .slice fa fs.length fc, .slice ua us.length uc, .int .i64 f0, .int .i64 f1]).below hb2 (by simp)
    have HB2 : Hid (Below w1.heap.size w1 w2) := Below.trans (by repeat (first | (with_reducible exact Below.refl _ _) | (with_reducible refine Below.allocS ?_ _) | (with_reducible refine Below.moreS ?_ _) | (with_reducible refine Below.drew ?_) | (with_reducible refine below_drewN ?_ _))) (hb2.mono (by simp))
    have HB3 : Hid (Below w.heap.size w w2) := HB1.out.trans (HB2.out.mono HB1.out.size)
    have HSS : Hid (∀ W, Below w2.heap.size w2 W → Calls Tryz.prog 9 #[.agg #[.int .i64 c0, .int .i64 c1, .int .i64 c2, .int .i64 c3, .int .i64 c4, .int .i64 c5, .slice a l.length c, .int .i64 v, .int .i64 t, .slice fa fs.length fc, .slice ua us.length uc, .int .i64 f0, .int .i64 f1], .agg #[.int .i64 c0, .int .i64 c1, .int .i64 c2, .int .i64 c3, .int .i64 c4, .int .i64 c5, .slice ya l.length yc, .int .i64 v, .int .i64 t, .slice yfa fs.length yfc, .slice yua us.length yuc, .int .i64 f0, .int .i64 f1]] W fun e w' => e = .returned (.bool true) ∧ ∃ j, w' = W.more j) := fun W hW =>
      have hW1 := HB2.out.trans (hW.mono HB2.out.size)
      HSM.out W a c fa fc ua uc ya yc yfa yfc yua yuc (SlRc.keep HS1.out hW1) (SlFl.keep HF1.out hW1) ((HU1.out.below hW1 (Nat.le_refl _)).mono hW1.size (fun _ _ _ h => h)) (SlRc.keep hs2 hW) (SlFl.keep hf2 hW) ((hu2.below hW (Nat.le_refl _)).mono hW.size (fun _ _ _ h => h))
    have HTT : Hid (∀ W, Below w2.heap.size w2 W → Calls Tryz.prog 10 #[.agg #[.int .i64 c0, .int .i64 c1, .int .i64 c2, .int .i64 c3, .int .i64 c4, .int .i64 c5, .slice a l.length c, .int .i64 v, .int .i64 t, .slice fa fs.length fc, .slice ua us.length uc, .int .i64 f0, .int .i64 f1]] W fun e w' => e = .returned (.tuple #[bstr (if true = true then s else []), .int .i64 (if true = true then 0 else 1)]) ∧ ∃ j, w' = W.more j) := fun W hW =>
      have hW1 := HB2.out.trans (hW.mono HB2.out.size)
      HTX.out W a c fa fc ua uc (HB3.out.trans (hW.mono HB3.out.size)) (SlRc.keep HS1.out hW1) (SlFl.keep HF1.out hW1) ((HU1.out.below hW1 (Nat.le_refl _)).mono hW1.size (fun _ _ _ h => h)) HCP.out
    have hg2 := hbx.lt
    have b0 : w2.cell? ⟨w1.heap.size, 0, none⟩ = some (.int .i64 c0) := hbx.cell 0
    have b1 : w2.cell? ⟨w1.heap.size, 1, none⟩ = some (.int .i64 c1) := hbx.cell 1
    have b2 : w2.cell? ⟨w1.heap.size, 2, none⟩ = some (.int .i64 c2) := hbx.cell 2
    have b3 : w2.cell? ⟨w1.heap.size, 3, none⟩ = some (.int .i64 c3) := hbx.cell 3
    have b4 : w2.cell? ⟨w1.heap.size, 4, none⟩ = some (.int .i64 c4) := hbx.cell 4
    have b5 : w2.cell? ⟨w1.heap.size, 5, none⟩ = some (.int .i64 c5) := hbx.cell 5
    have b6 : w2.cell? ⟨w1.heap.size, 6, none⟩ = some (.slice a l.length c) := hbx.cell 6
    have b7 : w2.cell? ⟨w1.heap.size, 7, none⟩ = some (.int .i64 v) := hbx.cell 7
    have b8 : w2.cell? ⟨w1.heap.size, 8, none⟩ = some (.int .i64 t) := hbx.cell 8
    have b9 : w2.cell? ⟨w1.heap.size, 9, none⟩ = some (.slice fa fs.length fc) := hbx.cell 9
    have b10 : w2.cell? ⟨w1.heap.size, 10, none⟩ = some (.slice ua us.length uc) := hbx.cell 10
    have b11 : w2.cell? ⟨w1.heap.size, 11, none⟩ = some (.int .i64 f0) := hbx.cell 11
    have b12 : w2.cell? ⟨w1.heap.size, 12, none⟩ = some (.int .i64 f1) := hbx.cell 12
    clear hbx hs2 hf2 hu2 hb2 HSM HTX HRQ
    have HT2 : Hid (∀ W, Below w2.heap.size w2 W → Calls Tryz.prog 10 #[.agg #[.int .i64 c0, .int .i64 c1, .int .i64 c2, .int .i64 c3, .int .i64 c4, .int .i64 c5, .slice a l.length c, .int .i64 v, .int .i64 t, .slice fa fs.length fc, .slice ua us.length uc, .int .i64 f0, .int .i64 f1]] W fun e w' => e = .returned (.tuple #[bstr s, .int .i64 0]) ∧ ∃ j, w' = W.more j) := HTT.out
    clear HTT
    go_wp2_with (first | (go_at_call 9; (with_reducible refine (HSS.out _ (by repeat (first | (with_reducible exact Below.refl _ _) | (with_reducible refine Below.allocS ?_ _) | (with_reducible refine Below.moreS ?_ _) | (with_reducible refine Below.drew ?_) | (with_reducible refine below_drewN ?_ _)))).mono ?_); rintro e w' ⟨rfl, j, rfl⟩) | (go_at_call 10; (with_reducible refine (HT2.out _ (by repeat (first | (with_reducible exact Below.refl _ _) | (with_reducible refine Below.allocS ?_ _) | (with_reducible refine Below.moreS ?_ _) | (with_reducible refine Below.drew ?_) | (with_reducible refine below_drewN ?_ _)))).mono ?_); rintro e w' ⟨rfl, j, rfl⟩) | (go_at_call 7; (with_reducible refine (HA.out _ (by repeat (first | exact HB3.out | (with_reducible refine Below.allocS ?_ _) | (with_reducible refine Below.moreS ?_ _) | (with_reducible refine Below.drew ?_)))).mono ?_); rintro e w' ⟨rfl, j, rfl⟩))
    go_ret
    exact ⟨rfl, Below.junk (by repeat (first | exact HB3.out | (with_reducible refine Below.allocS ?_ _) | (with_reducible refine Below.moreS ?_ _) | (with_reducible refine Below.drew ?_)))⟩
end Go.Proofs.YtbdmepidabnfkaaGreatDoor
