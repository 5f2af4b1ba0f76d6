/-
  Reports: a text is read: the program's. (Draft: one hole.)
-/
import Derived.Test.YtbdmepidabnfkaaGreatDoorRepK
namespace Go.Proofs.YtbdmepidabnfkaaGreatDoor
set_option linter.unusedSimpArgs false
set_option linter.unusedVariables false
set_option linter.unusedSectionVars false
open Go.ChangeShapes Go.WideShapes Go.ChangeAt Go.RowKit Go.Deep Go.Shelf

set_option maxHeartbeats 16000000 in
set_option maxRecDepth 100000 in
theorem report_Read (s : List UInt8) (hs : s.length ≤ 80000) (m : Int) (w : World) (hE : EnvK w) (hF : FN w) (hM : w.cell? MaxA = some (.int .i64 m)) :
    Calls Tryz.prog 13 #[bstr s] w (RpP (readRp s) w) := by
  have HLN : Hid (∀ W, Below w.heap.size w W → Calls Tryz.prog 38 #[bstr s] W fun e w' => ∃ a cap, e = .returned (.tuple #[.slice a (linesF s).1.length cap, .bool (linesF s).2]) ∧ (linesF s).1.length ≤ cap ∧ SlX w' w'.heap.size a (linesF s).1 ∧ Below W.heap.size W w') := fun W hW => words_LinesC s m W (by omega) ((hW.cell (p := MaxA) (cell_lt hM)).trans hM)
  have hll := linesF_le s
  have hlx : ∀ x ∈ (linesF s).1, x.length ≤ 90000 := fun x hx => by have := lines_short s x hx; omega
  unfold readRp
  generalize linesF s = P at HLN hll hlx ⊢
  obtain ⟨L, is⟩ := P
  simp only at HLN hll hlx ⊢
  obtain ⟨R, hR⟩ : ∃ R, R = readD2 L is := ⟨_, rfl⟩
  rw [← hR]
  have HR := Lib.hid hR
  have HE := Lib.hid hE
  have HF := Lib.hid hF
  have HLX := Lib.hid hlx
  clear hE hF hM hR hlx
  go_enter Tryz.func13, Tryz.ntmps13
  go_wp2_with fail
  refine (HLN.out _ (by repeat (first | (with_reducible exact Below.refl _ _) | (with_reducible refine Below.allocS ?_ _) | (with_reducible refine Below.moreS ?_ _) | (with_reducible refine Below.drew ?_) | (with_reducible refine below_drewN ?_ _)))).mono ?_
  rintro e w1 ⟨al, cl, rfl, hcl, hsl, hb1⟩
  have hrz : Blk w1 w.heap.size RpT rpZ := (Blk.new w RpT rpZ).below hb1 (by simp)
  obtain ⟨wz, hwz⟩ : ∃ wz, wz = w.alloc (.cells rpZ RpT) := ⟨_, rfl⟩
  have hb1 : Below wz.heap.size wz w1 := by rw [hwz]; exact hb1
  have hwz0 : Below w.heap.size w wz := by rw [hwz]; exact (by repeat (first | (with_reducible exact Below.refl _ _) | (with_reducible refine Below.allocS ?_ _) | (with_reducible refine Below.moreS ?_ _) | (with_reducible refine Below.drew ?_) | (with_reducible refine below_drewN ?_ _)))
  have hwz1 : wz.heap.size = w.heap.size + 1 := by rw [hwz]; simp
  have HEZ : Hid (EnvK wz) := HE.out.below hwz0
  have HFZ : Hid (FN wz) := HF.out.below hwz0
  have HWZ := Lib.hid hwz0
  have HZB : Hid (∀ W, Below wz.heap.size wz W → Blk W w.heap.size RpT rpZ) := fun W hW => by
    rw [hwz] at hW
    exact (Blk.new w RpT rpZ).below hW (by simp)
  have HB1 := Lib.hid hb1
  have HSL := Lib.hid hsl
  have HCL := Lib.hid hcl
  have hz1 : w.heap.size < w1.heap.size := hrz.lt
  have hz2 : wz.heap.size ≤ w1.heap.size := hb1.size
  clear hb1 hrz hsl hcl HLN hwz hwz0 HE HF
  obtain ⟨g, hge⟩ : ∃ g, g = w1.heap.size := ⟨_, rfl⟩
  have HT1 : Hid (∀ b : Bool, RxS wz g (g + 1) rpZ L b ((w1.alloc (.cells #[.slice al L.length cl, .bool b] RdT)).alloc (.cells rpZ RpT))) := fun b =>
    ⟨⟨HEZ.out.env, HB1.out.trans (Below.mono (B := w1.heap.size) (by repeat (first | (with_reducible exact Below.refl _ _) | (with_reducible refine Below.allocS ?_ _) | (with_reducible refine Below.moreS ?_ _) | (with_reducible refine Below.drew ?_) | (with_reducible refine below_drewN ?_ _))) HB1.out.size), by omega⟩,
      ⟨⟨al, cl, (Blk.at_ _ _ _ hge).alloc _, (HSL.out.below (C := w1.heap.size) (by repeat (first | (with_reducible exact Below.refl _ _) | (with_reducible refine Below.allocS ?_ _) | (with_reducible refine Below.moreS ?_ _) | (with_reducible refine Below.drew ?_) | (with_reducible refine below_drewN ?_ _))) (Nat.le_refl _)).mono (by simp; omega) (fun _ _ _ h => h), HCL.out⟩⟩,
      Blk.at_ _ _ _ (by simp; omega), rpZ_nt, by omega, by omega⟩
  have HR3 : Hid (R = readD3 (headD L is).1 (headD L is).2) := HR.out
  have hrg : w.heap.size < g := by omega
  clear HR
  have hLx := HLX.out
  cases is
  case' false =>
    have HR4 : Hid (R = readD3 L true) := HR3.out
    have HT4 := Lib.hid (HT1.out true)
    have HL4 : Hid (L.length ≤ 100000 ∧ ∀ x ∈ L, x.length ≤ 90000) := ⟨by omega, HLX.out⟩
    clear HR3 HT1 HLX hLx
    go_wp2_with fail
    rw [← hge]
    clear hge
    obtain ⟨W4, hW4⟩ : ∃ W4, W4 = (w1.alloc (.cells #[.slice al L.length cl, .bool true] RdT)).alloc (.cells rpZ RpT) := ⟨_, rfl⟩
    rw [← hW4] at HT4
    unfold rpZ at hW4
    rw [← hW4]
    clear hW4
    obtain ⟨b4, hb4⟩ : ∃ b4, b4 = true := ⟨_, rfl⟩
    rw [← hb4] at HR4 HT4
    clear hb4
    obtain ⟨L4, hL4⟩ : ∃ L4, L4 = L := ⟨_, rfl⟩
    rw [← hL4] at HR4 HT4 HL4
    clear hL4
  case' true =>
    have hnl : (nextD 1 [115, 116, 105, 99, 107, 108, 101, 114] L false).1.length = 1 := next_len _ _ _ _
    have hnf : (nextD 1 [115, 116, 105, 99, 107, 108, 101, 114] L false).2.2 = true → (nextD 1 [115, 116, 105, 99, 107, 108, 101, 114] L false).1 = List.replicate 1 [] := next_fail
    obtain ⟨hll1, hll2⟩ := next_lines (many := 1) (first := [115, 116, 105, 99, 107, 108, 101, 114]) (L := L) (b := false)
    have HNX : Hid (∀ W, RxS wz g (g + 1) rpZ L false W → Calls Tryz.prog 39 #[.pointer (some ⟨g, 0, none⟩), .int .i64 1, bstr [115, 116, 105, 99, 107, 108, 101, 114]] W (NxtP g 1 (nextD 1 [115, 116, 105, 99, 107, 108, 101, 114] L false).1 (nextD 1 [115, 116, 105, 99, 107, 108, 101, 114] L false).2.1 (nextD 1 [115, 116, 105, 99, 107, 108, 101, 114] L false).2.2 W)) := fun W hW => by
      obtain ⟨mm, hM⟩ := hW.rb.e.max
      exact reader_next g 1 [115, 116, 105, 99, 107, 108, 101, 114] L false (by omega) (by omega) HLX.out mm W hM hW.rd
    have hhd : headD L true = ((nextD 1 [115, 116, 105, 99, 107, 108, 101, 114] L false).2.1, (nextD 1 [115, 116, 105, 99, 107, 108, 101, 114] L false).2.2 || !(atD (nextD 1 [115, 116, 105, 99, 107, 108, 101, 114] L false).1 0 == [49])) := rfl
    rw [hhd] at HR3
    generalize nextD 1 [115, 116, 105, 99, 107, 108, 101, 114] L false = N at HNX hnl hnf hll1 hll2 HR3
    obtain ⟨ws, L4, bn⟩ := N
    simp only at HNX hnl hnf hll1 hll2 HR3
    have HL4 : Hid (L4.length ≤ 100000 ∧ ∀ x ∈ L4, x.length ≤ 90000) := ⟨by omega, fun x hx => HLX.out x (hll1 x hx)⟩
    have hb4 : (bn || !(atD ws 0 == [49])) = !(atD ws 0 == [49]) := by
      cases bn with
      | false => simp
      | true => rw [hnf rfl]; rfl
    rw [hb4] at HR3
    clear hhd hnf hll1 hll2 hb4 HLX hLx
    go_wp2_with fail
    rw [← hge]
    clear hge
    refine (HNX.out _ (HT1.out false)).mono ?_
    rintro e w2 ⟨aw, cw, rfl, hsw, hrd, hgm⟩
    obtain ⟨bw, off, haw, hbw, hwg, hcl⟩ := words_cells hrd hsw hnl (by omega)
    subst haw
    have d0 := hcl 0 (by omega)
    simp only [Nat.add_zero] at d0
    have ht2 := (HT1.out false).gm hgm hrd
    have HT2 := Lib.hid ht2
    obtain ⟨a2, c2, hg2, hs2, hc2⟩ := hrd.st
    have k1 : w2.cell? ⟨g, 1, none⟩ = some (.bool bn) := hg2.cell 1
    have f1 : w2.frozen? ⟨g, 1, none⟩ = false := hg2.frozen 1
    have hgl2 := hg2.lt
    have FIN : Hid (∀ b4 : Bool, RxS wz g (g + 1) rpZ L4 b4 (w2.setCell ⟨g, 1, none⟩ (.bool b4))) := fun b4 => HT2.out.gm (gm_set _) ⟨⟨a2, c2, hg2.set_ 1 _, slX_gm hg2 hs2 (gm_set _), hc2⟩⟩
    generalize atD ws 0 = s0 at d0 HR3
    have HR4 := HR3
    clear HT1 HNX hsw hrd hgm hcl hnl ht2 HT2 hg2 hs2 hc2 HR3
    go_wp2_with fail
    have HT4 := Lib.hid (FIN.out (!(s0 == [49])))
    obtain ⟨W4, hW4⟩ : ∃ W4, W4 = w2.setCell ⟨g, 1, none⟩ (.bool (!(s0 == [49]))) := ⟨_, rfl⟩
    rw [← hW4] at HT4 ⊢
    generalize (!(s0 == [49])) = b4 at HT4 HR4
    clear FIN hW4 k1 f1 hgl2 d0 hbw hwg
  all_goals
    -- behind the head: the lines L4, whether one was none b4, the world W4
    have HCF : Hid (Calls Tryz.prog 40 #[.pointer (some ⟨g, 0, none⟩)] W4 (CfgP g (configD L4 b4) W4)) := reader_config g L4 b4 HL4.out.1 HL4.out.2 wz W4 HT4.out.rb HT4.out.rd
    unfold readD3 at HR4
    simp only at HR4
    refine HCF.out.mono ?_
    rintro e w5 ⟨rfl, hr5, hg5⟩
    have ht5 := HT4.out.gm hg5 hr5
    have hl5 : LOk (configD L4 b4).2.1 := config_ok HL4.out
    generalize configD L4 b4 = s2 at HR4 ht5 hl5
    obtain ⟨⟨k0, k1, k2, k3, k4, k5⟩, L5, b5⟩ := s2
    simp only at HR4 ht5 hl5
    have HL5 := Lib.hid hl5
    clear hl5 HL4
    have HT5 := Lib.hid ht5
    clear hr5 hg5 ht5 HCF HT4
    have z0 : w5.cell? ⟨g + 1, 0, none⟩ = some (.int .i64 0) := HT5.out.bx.cell 0
    have z1 : w5.cell? ⟨g + 1, 1, none⟩ = some (.int .i64 0) := HT5.out.bx.cell 1
    have z2 : w5.cell? ⟨g + 1, 2, none⟩ = some (.int .i64 0) := HT5.out.bx.cell 2
    have z3 : w5.cell? ⟨g + 1, 3, none⟩ = some (.int .i64 0) := HT5.out.bx.cell 3
    have z4 : w5.cell? ⟨g + 1, 4, none⟩ = some (.int .i64 0) := HT5.out.bx.cell 4
    have z5 : w5.cell? ⟨g + 1, 5, none⟩ = some (.int .i64 0) := HT5.out.bx.cell 5
    have y0 := HT5.out.bx.frozen 0
    have y1 := HT5.out.bx.frozen 1
    have y2 := HT5.out.bx.frozen 2
    have y3 := HT5.out.bx.frozen 3
    have y4 := HT5.out.bx.frozen 4
    have y5 := HT5.out.bx.frozen 5
    have hxl := HT5.out.bx.lt
    go_wp2_with fail
    have HT6 : Hid (RxS wz g (g + 1) #[.int .i64 k0, .int .i64 k1, .int .i64 k2, .int .i64 k3, .int .i64 k4, .int .i64 k5, .slice none 0 0, .int .i64 0, .int .i64 0, .slice none 0 0, .slice none 0 0, .int .i64 0, .int .i64 0] L5 b5 ((((((w5.setCell ⟨g + 1, 0, none⟩ (.int .i64 k0)).setCell ⟨g + 1, 1, none⟩ (.int .i64 k1)).setCell ⟨g + 1, 2, none⟩ (.int .i64 k2)).setCell ⟨g + 1, 3, none⟩ (.int .i64 k3)).setCell ⟨g + 1, 4, none⟩ (.int .i64 k4)).setCell ⟨g + 1, 5, none⟩ (.int .i64 k5))) :=
      (((((HT5.out.set 0 (v := .int .i64 k0) nofun).set 1 (v := .int .i64 k1) nofun).set 2 (v := .int .i64 k2) nofun).set 3 (v := .int .i64 k3) nofun).set 4 (v := .int .i64 k4) nofun).set 5 (v := .int .i64 k5) nofun
    obtain ⟨w6, hw6⟩ : ∃ w6, w6 = (((((w5.setCell ⟨g + 1, 0, none⟩ (.int .i64 k0)).setCell ⟨g + 1, 1, none⟩ (.int .i64 k1)).setCell ⟨g + 1, 2, none⟩ (.int .i64 k2)).setCell ⟨g + 1, 3, none⟩ (.int .i64 k3)).setCell ⟨g + 1, 4, none⟩ (.int .i64 k4)).setCell ⟨g + 1, 5, none⟩ (.int .i64 k5) := ⟨_, rfl⟩
    rw [← hw6] at HT6
    try rw [← hw6]
    clear hw6 z0 z1 z2 z3 z4 z5 y0 y1 y2 y3 y4 y5 HT5 hxl
    have HRC : Hid (Calls Tryz.prog 41 #[.pointer (some ⟨g, 0, none⟩)] w6 (RecsP g (recordsD L5 b5) w6)) := reader_records g L5 b5 HL5.out.1 HL5.out.2 wz w6 HEZ.out HT6.out.rb HT6.out.rd
    have hl7 : LOk (recordsD L5 b5).2.1 := records_ok HL5.out
    have hrl7 : (recordsD L5 b5).1.length ≤ 100000 := records_len HL5.out
    generalize recordsD L5 b5 = s3 at HRC hl7 hrl7 HR4
    obtain ⟨rl, L7, b7⟩ := s3
    simp only at HRC hl7 hrl7 HR4
    refine HRC.out.mono ?_
    rintro e w7 ⟨a7, c7, rfl, hsl, hnw, hcp, hrd, hgm⟩
    have HT7 := Lib.hid (HT6.out.gm hgm hrd)
    have HSR := Lib.hid hsl
    have HNR := Lib.hid hnw
    have HCR := Lib.hid hcp
    have HL7 := Lib.hid hl7
    have hg6 : g < w6.heap.size := HT6.out.rd.lt
    have hx6 : g + 1 < w6.heap.size := HT6.out.bx.lt
    clear hsl hnw hcp hrd hgm hl7 HRC HL5 HT6
    have z6 : w7.cell? ⟨g + 1, 6, none⟩ = some (.slice none 0 0) := HT7.out.bx.cell 6
    have y6 := HT7.out.bx.frozen 6
    have hxl := HT7.out.bx.lt
    simp only
    go_wp2_with fail
    have HT8 : Hid (RxS wz g (g + 1) #[.int .i64 k0, .int .i64 k1, .int .i64 k2, .int .i64 k3, .int .i64 k4, .int .i64 k5, .slice a7 rl.length c7, .int .i64 0, .int .i64 0, .slice none 0 0, .slice none 0 0, .int .i64 0, .int .i64 0] L7 b7 (w7.setCell ⟨g + 1, 6, none⟩ (.slice a7 rl.length c7))) := HT7.out.set 6 (v := .slice a7 rl.length c7) nofun
    have HS8 : Hid (SlRc (w7.setCell ⟨g + 1, 6, none⟩ (.slice a7 rl.length c7)) (w7.setCell ⟨g + 1, 6, none⟩ (.slice a7 rl.length c7)).heap.size a7 rl) := slR_stay HSR.out HNR.out (p2_lt hg6 hx6) (Gp.set _ (Or.inr rfl))
    obtain ⟨w8, hw8⟩ : ∃ w8, w8 = w7.setCell ⟨g + 1, 6, none⟩ (.slice a7 rl.length c7) := ⟨_, rfl⟩
    rw [← hw8] at HT8 HS8
    rw [← hw8]
    clear hw8 HT7 HSR z6 y6 hxl
    have HVD : Hid (Calls Tryz.prog 42 #[.pointer (some ⟨g, 0, none⟩), .pointer (some ⟨g + 1, 0, none⟩)] w8 (VerP g (g + 1) RpT #[.int .i64 k0, .int .i64 k1, .int .i64 k2, .int .i64 k3, .int .i64 k4, .int .i64 k5, .slice a7 rl.length c7, .int .i64 0, .int .i64 0, .slice none 0 0, .slice none 0 0, .int .i64 0, .int .i64 0] (verdictD L7 b7) w8)) := reader_verdict g (g + 1) RpT _ L7 b7 HL7.out.1 HL7.out.2 wz w8 HT8.out.rb HT8.out.ge HT8.out.rd HT8.out.bx rfl rfl HT8.out.nt HT8.out.ne
    have hl9 : LOk (verdictD L7 b7).2.2.1 := verdict_ok HL7.out
    generalize verdictD L7 b7 = s4 at HVD hl9 HR4
    obtain ⟨v9, t9, L9, b9⟩ := s4
    simp only at HVD hl9 HR4
    refine HVD.out.mono ?_
    rintro e w9 ⟨rfl, hrd, hbx, hgp⟩
    have hnt9 := no_text_set (i := 8) (n := t9) (no_text_set (i := 7) (n := v9) HT8.out.nt)
    have HT9 : Hid (RxS wz g (g + 1) #[.int .i64 k0, .int .i64 k1, .int .i64 k2, .int .i64 k3, .int .i64 k4, .int .i64 k5, .slice a7 rl.length c7, .int .i64 v9, .int .i64 t9, .slice none 0 0, .slice none 0 0, .int .i64 0, .int .i64 0] L9 b9 w9) := ⟨HT8.out.rb.gp (fun k hk => hk.elim (fun e => by rw [e]; exact HT8.out.rb.lo) (fun e => by rw [e]; exact HT8.out.ge)) hgp, hrd, hbx, hnt9, HT8.out.ge, HT8.out.ne⟩
    have HS9 : Hid (SlRc w9 w9.heap.size a7 rl) := slR_stay HS8.out HNR.out (p2_lt hg6 hx6) hgp
    have HL9 := Lib.hid hl9
    clear hrd hbx hgp hl9 hnt9 HVD HL7 HT8 HS8
    simp only
    go_wp2_with fail
    obtain ⟨gk, hgk⟩ : ∃ gk, gk = w9.heap.size := ⟨_, rfl⟩
    rw [← hgk]
    have HT10 : Hid (∀ o, RxS wz g (g + 1) #[.int .i64 k0, .int .i64 k1, .int .i64 k2, .int .i64 k3, .int .i64 k4, .int .i64 k5, .slice a7 rl.length c7, .int .i64 v9, .int .i64 t9, .slice none 0 0, .slice none 0 0, .int .i64 0, .int .i64 0] L9 b9 (w9.alloc o)) := fun o => HT9.out.below (by repeat (first | (with_reducible exact Below.refl _ _) | (with_reducible refine Below.allocS ?_ _) | (with_reducible refine Below.moreS ?_ _) | (with_reducible refine Below.drew ?_) | (with_reducible refine below_drewN ?_ _)))
    have HK10 : Hid (∀ cs t, Blk (w9.alloc (.cells cs t)) gk t cs) := fun cs t => Blk.at_ _ _ _ hgk
    have HS9g : Hid (SlRc w9 gk a7 rl) := by rw [hgk]; exact HS9.out
    have hgz : gk ≤ w9.heap.size := Nat.le_of_eq hgk
    have HGZ := Lib.hid hgz
    have HGK9 := Lib.hid hgk
    have hgk1 : g < gk ∧ g + 1 < gk := ⟨by have := HT9.out.rd.lt; omega, by have := HT9.out.bx.lt; omega⟩
    clear hgk
    have HN1 : Hid (∀ W, RxS wz g (g + 1) #[.int .i64 k0, .int .i64 k1, .int .i64 k2, .int .i64 k3, .int .i64 k4, .int .i64 k5, .slice a7 rl.length c7, .int .i64 v9, .int .i64 t9, .slice none 0 0, .slice none 0 0, .int .i64 0, .int .i64 0] L9 b9 W → Calls Tryz.prog 39 #[.pointer (some ⟨g, 0, none⟩), .int .i64 1, bstr [102, 97, 117, 108, 116, 115]] W (NxtP g 1 (nextD 1 [102, 97, 117, 108, 116, 115] L9 b9).1 (nextD 1 [102, 97, 117, 108, 116, 115] L9 b9).2.1 (nextD 1 [102, 97, 117, 108, 116, 115] L9 b9).2.2 W)) := fun W hW => by
      obtain ⟨mm, hM⟩ := hW.rb.e.max
      exact reader_next g 1 [102, 97, 117, 108, 116, 115] L9 b9 (by omega) HL9.out.1 HL9.out.2 mm W hM hW.rd
    have hl11 : LOk (nextD 1 [102, 97, 117, 108, 116, 115] L9 b9).2.1 := next_ok HL9.out
    have hn11 : (nextD 1 [102, 97, 117, 108, 116, 115] L9 b9).1.length = 1 := next_len _ _ _ _
    have hw11 : ∀ x ∈ (nextD 1 [102, 97, 117, 108, 116, 115] L9 b9).1, x.length ≤ 90000 := next_words HL9.out.2
    generalize nextD 1 [102, 97, 117, 108, 116, 115] L9 b9 = n5 at HN1 hl11 hn11 hw11 HR4
    obtain ⟨ws5, L11, b11⟩ := n5
    simp only at HN1 hl11 hn11 hw11 HR4
    refine (HN1.out _ (HT10.out _)).mono ?_
    rintro e w11 ⟨aw5, cw5, rfl, hsw, hrd, hgm⟩
    obtain ⟨bw5, off5, haw5, hbw5, hwg5, hcl5⟩ := words_cells hrd hsw hn11 (by omega)
    subst haw5
    have d5 := hcl5 0 (by omega)
    simp only [Nat.add_zero] at d5
    have HT11 := Lib.hid ((HT10.out _).gm hgm hrd)
    have HP11 : Hid (Gp (P3 g (g + 1) gk) w9 w11) := (Gp.of_below (by repeat (first | (with_reducible exact Below.refl _ _) | (with_reducible refine Below.allocS ?_ _) | (with_reducible refine Below.moreS ?_ _) | (with_reducible refine Below.drew ?_) | (with_reducible refine below_drewN ?_ _)))).trans (Gp.of_gm hgm (Or.inl rfl))
    have HK11 := Lib.hid ((HK10.out _ _).grown hgm (by simp; omega))
    have HL11 := Lib.hid hl11
    have HW11 := Lib.hid hw11
    have hgk11 : gk < w11.heap.size := HK11.out.lt
    clear hsw hrd hgm hl11 hw11 hn11 hcl5 HN1 HT10 HK10 HT9 HS9 HL9 hgz
    simp only
    go_wp2_with fail
    have hw5 : (atD ws5 0).length ≤ 90000 := atD_le HW11.out
    have HFS : Hid (Calls Tryz.prog 43 #[bstr (atD ws5 0)] w11 fun e w' => ∃ a cap, e = .returned (.tuple #[.slice a (setW (atD ws5 0)).1.length cap, .bool (setW (atD ws5 0)).2]) ∧ SlFl w' w'.heap.size a (setW (atD ws5 0)).1 ∧ (∀ p, a = some p → w11.heap.size ≤ p.block) ∧ Below w11.heap.size w11 w') := faults_ReadSetN _ (by omega) w11 HT11.out.rb.e (HFZ.out.below HT11.out.rb.bl)
    have hfl5 : (setW (atD ws5 0)).1.length ≤ 90001 := Nat.le_trans (setW_le _) (by omega)
    generalize atD ws5 0 = s5 at HFS HR4 d5 hw5 hfl5
    generalize setW s5 = S5 at HFS HR4 hfl5
    obtain ⟨fs, fb⟩ := S5
    simp only at HFS HR4 hfl5
    refine HFS.out.mono ?_
    rintro e w12 ⟨fa, fc, rfl, hsf, hnf, hb12⟩
    have HT12 := Lib.hid (HT11.out.below hb12)
    have HY12 : Hid (RyS wz g (g + 1) gk w12.heap.size 0 #[.int .i64 k0, .int .i64 k1, .int .i64 k2, .int .i64 k3, .int .i64 k4, .int .i64 k5, .slice a7 rl.length c7, .int .i64 v9, .int .i64 t9, .slice none 0 0, .slice none 0 0, .int .i64 0, .int .i64 0] L11 b11 false false a7 rl fa fs none [] w12) :=
      ⟨HT12.out, HK11.out.below hb12 HK11.out.lt, slR_stayQ HS9g.out HGZ.out (by
        rintro q hq hlt (e | e | e)
        · have := HNR.out q hq; omega
        · have := HNR.out q hq; omega
        · omega) (HP11.out.trans (Gp.of_below hb12)), hsf, .nil, Nat.le_refl _, Nat.zero_le _, fun q hq => by have := HNR.out q hq; omega, fun q hq => by have := hnf q hq; omega, nofun, hgk1.1, hgk1.2⟩
    clear hsf hnf hb12 hw5 HW11 HFS HT11 HS9g HGZ HP11 HK11 d5 hbw5 hwg5 HT12 HNR
    have z9 : w12.cell? ⟨g + 1, 9, none⟩ = some (.slice none 0 0) := HY12.out.s.bx.cell 9
    have y9 := HY12.out.s.bx.frozen 9
    have x0 : w12.cell? ⟨gk, 0, none⟩ = some (.bool false) := HY12.out.k.cell 0
    have u0 := HY12.out.k.frozen 0
    have hxl := HY12.out.s.bx.lt
    have hkl := HY12.out.k.lt
    have HN2 : Hid (∀ W, RdS W g L11 b11 → Rb wz g W → Calls Tryz.prog 39 #[.pointer (some ⟨g, 0, none⟩), .int .i64 1, bstr [114, 117, 108, 101, 115]] W (NxtP g 1 (nextD 1 [114, 117, 108, 101, 115] L11 b11).1 (nextD 1 [114, 117, 108, 101, 115] L11 b11).2.1 (nextD 1 [114, 117, 108, 101, 115] L11 b11).2.2 W)) := fun W hr hb => by
      obtain ⟨mm, hM⟩ := hb.e.max
      exact reader_next g 1 [114, 117, 108, 101, 115] L11 b11 (by omega) HL11.out.1 HL11.out.2 mm W hM hr
    have hl13 : LOk (nextD 1 [114, 117, 108, 101, 115] L11 b11).2.1 := next_ok HL11.out
    have hn13 : (nextD 1 [114, 117, 108, 101, 115] L11 b11).1.length = 1 := next_len _ _ _ _
    have hw13 : ∀ x ∈ (nextD 1 [114, 117, 108, 101, 115] L11 b11).1, x.length ≤ 90000 := next_words HL11.out.2
    generalize nextD 1 [114, 117, 108, 101, 115] L11 b11 = n6 at HN2 hl13 hn13 hw13 HR4
    obtain ⟨ws6, L13, b13⟩ := n6
    simp only at HN2 hl13 hn13 hw13 HR4
    simp only
    go_wp2_with fail
    have hy13 := (HY12.out.setx 9 (v := .slice fa fs.length fc) nofun).setk fb
    refine (HN2.out _ hy13.s.rd hy13.s.rb).mono ?_
    rintro e w13 ⟨aw6, cw6, rfl, hsw, hrd, hgm⟩
    obtain ⟨bw6, off6, haw6, hbw6, hwg6, hcl6⟩ := words_cells hrd hsw hn13 (by omega)
    subst haw6
    have d6 := hcl6 0 (by omega)
    simp only [Nat.add_zero] at d6
    have HY13 : Hid (RyS wz g (g + 1) gk w12.heap.size 0 #[.int .i64 k0, .int .i64 k1, .int .i64 k2, .int .i64 k3, .int .i64 k4, .int .i64 k5, .slice a7 rl.length c7, .int .i64 v9, .int .i64 t9, .slice fa fs.length fc, .slice none 0 0, .int .i64 0, .int .i64 0] L13 b13 fb false a7 rl fa fs none [] w13) := hy13.gm hgm hrd
    have HL13 := Lib.hid hl13
    have hw6 : (atD ws6 0).length ≤ 90000 := atD_le hw13
    clear hsw hrd hgm hl13 hw13 hn13 hcl6 HN2 hy13 HY12 HL11 z9 y9 x0 u0 hxl hkl
    simp only
    go_wp2_with fail
    have HUS : Hid (Calls Tryz.prog 44 #[bstr (atD ws6 0)] w13 fun e w' => ∃ a cap, e = .returned (.tuple #[.slice a (setRP (atD ws6 0)).1.length cap, .bool (setRP (atD ws6 0)).2]) ∧ SlI w' w'.heap.size a (setRP (atD ws6 0)).1 ∧ (∀ p, a = some p → w13.heap.size ≤ p.block) ∧ Below w13.heap.size w13 w') := by
      obtain ⟨mm, hM⟩ := HY13.out.s.rb.e.max
      exact rules_ReadSetN _ (by omega) mm w13 hM
    have hul6 : (setRP (atD ws6 0)).1.length ≤ 90001 := Nat.le_trans (setRP_le _) (by omega)
    generalize atD ws6 0 = s6 at HUS HR4 d6 hw6 hul6
    generalize setRP s6 = S6 at HUS HR4 hul6
    obtain ⟨us, ub⟩ := S6
    simp only at HUS HR4 hul6
    refine HUS.out.mono ?_
    rintro e w14 ⟨ua, uc, rfl, hsu, hnu, hb14⟩
    have h13 := HY13.out.below hb14
    have hkl13 := HY13.out.k.lt
    have HY14 : Hid (RyS wz g (g + 1) gk w12.heap.size w14.heap.size #[.int .i64 k0, .int .i64 k1, .int .i64 k2, .int .i64 k3, .int .i64 k4, .int .i64 k5, .slice a7 rl.length c7, .int .i64 v9, .int .i64 t9, .slice fa fs.length fc, .slice none 0 0, .int .i64 0, .int .i64 0] L13 b13 fb false a7 rl fa fs ua us w14) :=
      ⟨h13.s, h13.k, h13.rs, h13.fs, hsu, h13.zf, Nat.le_refl _, h13.nr, h13.nf, fun q hq => by have := hnu q hq; omega, h13.l1, h13.l2⟩
    clear hsu hnu hb14 hw6 HUS HY13 d6 hbw6 hwg6 h13 hkl13
    have z10 : w14.cell? ⟨g + 1, 10, none⟩ = some (.slice none 0 0) := HY14.out.s.bx.cell 10
    have y10 := HY14.out.s.bx.frozen 10
    have x1 : w14.cell? ⟨gk, 1, none⟩ = some (.bool false) := HY14.out.k.cell 1
    have u1 := HY14.out.k.frozen 1
    have hxl := HY14.out.s.bx.lt
    have hkl := HY14.out.k.lt
    have HN3 : Hid (∀ W, RdS W g L13 b13 → Rb wz g W → Calls Tryz.prog 39 #[.pointer (some ⟨g, 0, none⟩), .int .i64 2, bstr [108, 101, 102, 116]] W (NxtP g 2 (nextD 2 [108, 101, 102, 116] L13 b13).1 (nextD 2 [108, 101, 102, 116] L13 b13).2.1 (nextD 2 [108, 101, 102, 116] L13 b13).2.2 W)) := fun W hr hb => by
      obtain ⟨mm, hM⟩ := hb.e.max
      exact reader_next g 2 [108, 101, 102, 116] L13 b13 (by omega) HL13.out.1 HL13.out.2 mm W hM hr
    have hn15 : (nextD 2 [108, 101, 102, 116] L13 b13).1.length = 2 := next_len _ _ _ _
    have hw15 : ∀ x ∈ (nextD 2 [108, 101, 102, 116] L13 b13).1, x.length ≤ 90000 := next_words HL13.out.2
    have hll15 : (nextD 2 [108, 101, 102, 116] L13 b13).2.1.length ≤ 100000 := (next_ok HL13.out).1
    generalize nextD 2 [108, 101, 102, 116] L13 b13 = n7 at HN3 hn15 hw15 HR4 hll15
    obtain ⟨ws7, L15, b15⟩ := n7
    simp only at HN3 hn15 hw15 HR4 hll15
    simp only
    go_wp2_with fail
    have hy15 := (HY14.out.setx 10 (v := .slice ua us.length uc) nofun).setj ub
    refine (HN3.out _ hy15.s.rd hy15.s.rb).mono ?_
    rintro e w15 ⟨aw7, cw7, rfl, hsw, hrd, hgm⟩
    obtain ⟨bw, off7, haw7, hbw, hwg, hcl7⟩ := words_cells hrd hsw hn15 (by omega)
    subst haw7
    have d7 := hcl7 0 (by omega)
    have d8 := hcl7 1 (by omega)
    simp only [Nat.add_zero] at d7
    have HY15 : Hid (RyS wz g (g + 1) gk w12.heap.size w14.heap.size #[.int .i64 k0, .int .i64 k1, .int .i64 k2, .int .i64 k3, .int .i64 k4, .int .i64 k5, .slice a7 rl.length c7, .int .i64 v9, .int .i64 t9, .slice fa fs.length fc, .slice ua us.length uc, .int .i64 0, .int .i64 0] L15 b15 fb ub a7 rl fa fs ua us w15) := hy15.gm hgm hrd
    have hw7 : (atD ws7 0).length ≤ 90000 := atD_le hw15
    have hw8 : (atD ws7 1).length ≤ 90000 := atD_le hw15
    clear hsw hrd hgm hw15 hn15 hcl7 HN3 hy15 HY14 HL13 z10 y10 x1 u1 hxl hkl
    have HNA : Hid (∀ W, Rb wz g W → RdS W g L15 b15 → Calls Tryz.prog 45 #[.pointer (some ⟨g, 0, none⟩), bstr (atD ws7 0)] W fun e w' => e = .returned (.int .i64 (numD (atD ws7 0) b15).1) ∧ RdS w' g L15 (numD (atD ws7 0) b15).2 ∧ Gm g W w') := fun W hW hR => reader_number g L15 b15 _ (by omega) W hW.e hR
    generalize numD (atD ws7 0) b15 = p0 at HNA HR4
    obtain ⟨m0, q0⟩ := p0
    simp only at HNA HR4
    have HNB : Hid (∀ W, Rb wz g W → RdS W g L15 q0 → Calls Tryz.prog 45 #[.pointer (some ⟨g, 0, none⟩), bstr (atD ws7 1)] W fun e w' => e = .returned (.int .i64 (numD (atD ws7 1) q0).1) ∧ RdS w' g L15 (numD (atD ws7 1) q0).2 ∧ Gm g W w') := fun W hW hR => reader_number g L15 q0 _ (by omega) W hW.e hR
    generalize numD (atD ws7 1) q0 = p1 at HNB HR4
    obtain ⟨m1, q1⟩ := p1
    simp only at HNB HR4
    have hwc : bw ≠ g + 1 := fun e => by
      rw [e, HY15.out.s.bx.cell] at d7
      exact HY15.out.s.nt _ _ d7
    generalize atD ws7 0 = s7 at d7 HNA
    generalize atD ws7 1 = s8 at d8 HNB
    simp only
    go_wp2_with fail
    refine gp_start (P2 g (g + 1)) (by kernel_rfl) ?_
    refine gp_take 0 (v := ?_) rfl (by kernel_rfl) (by kernel_rfl) (by kernel_rfl) (fun _ _ _ h => h) (Or.inl ⟨by first | kernel_rfl | rfl, ?_⟩) ?_
    rotate_left
    · intro wS hSw; have hSc := fun o => hSw.cell2 bw o (by first | exact hbw | (simpa using hbw)) hwg hwc; clear hSw; go_simp; try with_reducible rfl
    try simp only [Act.put, List.getElem_toArray, List.getElem_cons_succ, List.getElem_cons_zero, List.setIfInBounds_toArray, List.set_cons_zero, List.set_cons_succ]
    refine gp_take 1 (v := ?_) rfl (by kernel_rfl) (by kernel_rfl) (by kernel_rfl) (fun _ _ _ h => h) (Or.inl ⟨by first | kernel_rfl | rfl, ?_⟩) ?_
    rotate_left
    · intro wS hSw; have hSc := fun o => hSw.cell2 bw o (by first | exact hbw | (simpa using hbw)) hwg hwc; clear hSw; go_simp; try with_reducible rfl
    try simp only [Act.put, List.getElem_toArray, List.getElem_cons_succ, List.getElem_cons_zero, List.setIfInBounds_toArray, List.set_cons_zero, List.set_cons_succ]
    refine gp_take 2 (v := ?_) rfl (by kernel_rfl) (by kernel_rfl) (by kernel_rfl) (fun _ _ _ h => h) (Or.inl ⟨by first | kernel_rfl | rfl, ?_⟩) ?_
    rotate_left
    · intro wS hSw; have hSc := fun o => hSw.cell2 bw o (by first | exact hbw | (simpa using hbw)) hwg hwc; clear hSw; go_simp; try with_reducible rfl
    try simp only [Act.put, List.getElem_toArray, List.getElem_cons_succ, List.getElem_cons_zero, List.setIfInBounds_toArray, List.set_cons_zero, List.set_cons_succ]
    refine gp_take 3 (v := ?_) rfl (by kernel_rfl) (by kernel_rfl) (by kernel_rfl) (fun _ _ _ h => h) (Or.inl ⟨by first | kernel_rfl | rfl, ?_⟩) ?_
    rotate_left
    · intro wS hSw; have hSc := fun o => hSw.cell2 bw o (by first | exact hbw | (simpa using hbw)) hwg hwc; clear hSw; go_simp; try with_reducible rfl
    try simp only [Act.put, List.getElem_toArray, List.getElem_cons_succ, List.getElem_cons_zero, List.setIfInBounds_toArray, List.set_cons_zero, List.set_cons_succ]
    refine gp_take 5 (v := ?_) rfl (by kernel_rfl) (by kernel_rfl) (by kernel_rfl) (fun _ _ _ h => h) (Or.inl ⟨by first | kernel_rfl | rfl, ?_⟩) ?_
    rotate_left
    · intro wS hSw; have hSc := fun o => hSw.cell2 bw o (by first | exact hbw | (simpa using hbw)) hwg hwc; clear hSw; go_simp; try with_reducible rfl
    try simp only [Act.put, List.getElem_toArray, List.getElem_cons_succ, List.getElem_cons_zero, List.setIfInBounds_toArray, List.set_cons_zero, List.set_cons_succ]
    refine gp_take 6 (v := ?_) rfl (by kernel_rfl) (by kernel_rfl) (by kernel_rfl) (fun _ _ _ h => h) (Or.inl ⟨by first | kernel_rfl | rfl, ?_⟩) ?_
    rotate_left
    · intro wS hSw; have hSc := fun o => hSw.cell2 bw o (by first | exact hbw | (simpa using hbw)) hwg hwc; clear hSw; go_simp; try with_reducible rfl
    try simp only [Act.put, List.getElem_toArray, List.getElem_cons_succ, List.getElem_cons_zero, List.setIfInBounds_toArray, List.set_cons_zero, List.set_cons_succ]
    refine gp_take 7 (v := ?_) rfl (by kernel_rfl) (by kernel_rfl) (by kernel_rfl) (fun _ _ _ h => h) (Or.inl ⟨by first | kernel_rfl | rfl, ?_⟩) ?_
    rotate_left
    · intro wS hSw; have hSc := fun o => hSw.cell2 bw o (by first | exact hbw | (simpa using hbw)) hwg hwc; clear hSw; go_simp; try with_reducible rfl
    try simp only [Act.put, List.getElem_toArray, List.getElem_cons_succ, List.getElem_cons_zero, List.setIfInBounds_toArray, List.set_cons_zero, List.set_cons_succ]
    refine gp_take 8 (v := ?_) rfl (by kernel_rfl) (by kernel_rfl) (by kernel_rfl) (fun _ _ _ h => h) (Or.inl ⟨by first | kernel_rfl | rfl, ?_⟩) ?_
    rotate_left
    · intro wS hSw; have hSc := fun o => hSw.cell2 bw o (by first | exact hbw | (simpa using hbw)) hwg hwc; clear hSw; go_simp; try with_reducible rfl
    try simp only [Act.put, List.getElem_toArray, List.getElem_cons_succ, List.getElem_cons_zero, List.setIfInBounds_toArray, List.set_cons_zero, List.set_cons_succ]
    refine gp_step 4 (by kernel_rfl) rfl (fun K hK => ?_)
    go_simp
    go_wp2_with fail
    refine (HNA.out _ (HY15.out.s.rb.gm (gm_below (by repeat (first | (with_reducible exact Below.refl _ _) | (with_reducible refine Below.allocS ?_ _) | (with_reducible refine Below.moreS ?_ _) | (with_reducible refine Below.drew ?_) | (with_reducible refine below_drewN ?_ _))))) (HY15.out.s.rd.grow (by repeat (first | (with_reducible exact Below.refl _ _) | (with_reducible refine Below.allocS ?_ _) | (with_reducible refine Below.moreS ?_ _) | (with_reducible refine Below.drew ?_) | (with_reducible refine below_drewN ?_ _))))).mono ?_
    rintro e w16 ⟨rfl, hr, hg⟩
    have hg : Gm g w15 w16 := (gm_below (by repeat (first | (with_reducible exact Below.refl _ _) | (with_reducible refine Below.allocS ?_ _) | (with_reducible refine Below.moreS ?_ _) | (with_reducible refine Below.drew ?_) | (with_reducible refine below_drewN ?_ _)))).trans hg
    have HY16 := Lib.hid (HY15.out.gm hg hr)
    have HG16 := Lib.hid hg
    go_wp2_with fail
    refine hK.out _ _ (show Gp _ _ _ from (gp_undrew (Gp.of_gm hg (Or.inl rfl)))) ?_
    clear hK K
    try simp only [Act.put, List.getElem_toArray, List.getElem_cons_succ, List.getElem_cons_zero, List.setIfInBounds_toArray, List.set_cons_zero, List.set_cons_succ]
    clear hr hg
    refine gp_step 9 (by kernel_rfl) rfl (fun K hK => ?_)
    go_simp
    go_wp2_with fail
    refine (HNB.out _ HY16.out.s.rb HY16.out.s.rd).mono ?_
    rintro e w17 ⟨rfl, hr, hg⟩
    have HY17 := Lib.hid (HY16.out.gm hg hr)
    have HG17 : Hid (Gm g w15 w17) := HG16.out.trans hg
    go_wp2_with fail
    refine hK.out _ _ (show Gp _ _ _ from (Gp.of_gm hg (Or.inl rfl))) ?_
    clear hK K
    try simp only [Act.put, List.getElem_toArray, List.getElem_cons_succ, List.getElem_cons_zero, List.setIfInBounds_toArray, List.set_cons_zero, List.set_cons_succ]
    clear hr hg
    have hbw := Nat.lt_of_lt_of_le hbw HG17.out.size
    refine gp_take 10 (v := ?_) rfl (by kernel_rfl) (by kernel_rfl) (by kernel_rfl) (fun _ _ _ h => h) (Or.inl ⟨by first | kernel_rfl | rfl, ?_⟩) ?_
    rotate_left
    · intro wS hSw; have hSc := fun o => hSw.cell2 bw o (by first | exact hbw | (simpa using hbw)) hwg hwc; clear hSw; go_simp; try with_reducible rfl
    try simp only [Act.put, List.getElem_toArray, List.getElem_cons_succ, List.getElem_cons_zero, List.setIfInBounds_toArray, List.set_cons_zero, List.set_cons_succ]
    refine gp_take 11 (v := ?_) rfl (by kernel_rfl) (by kernel_rfl) (by kernel_rfl) (fun _ _ _ h => h) (Or.inl ⟨by first | kernel_rfl | rfl, ?_⟩) ?_
    rotate_left
    · intro wS hSw; have hSc := fun o => hSw.cell2 bw o (by first | exact hbw | (simpa using hbw)) hwg hwc; clear hSw; go_simp; try with_reducible rfl
    try simp only [Act.put, List.getElem_toArray, List.getElem_cons_succ, List.getElem_cons_zero, List.setIfInBounds_toArray, List.set_cons_zero, List.set_cons_succ]
    have z11 : w17.cell? ⟨g + 1, 11, none⟩ = some (.int .i64 0) := HY17.out.s.bx.cell 11
    have z12 : w17.cell? ⟨g + 1, 12, none⟩ = some (.int .i64 0) := HY17.out.s.bx.cell 12
    have y11 := HY17.out.s.bx.frozen 11
    have y12 := HY17.out.s.bx.frozen 12
    have hxl := HY17.out.s.bx.lt
    refine gp_step 12 (by kernel_rfl) rfl (fun K hK => ?_)
    go_simp
    go_wp2_with fail
    refine hK.out _ _ (show Gp _ _ _ from ((Gp.set _ (Or.inr rfl)).trans (Gp.set _ (Or.inr rfl)))) ?_
    clear hK K
    try simp only [Act.put, List.getElem_toArray, List.getElem_cons_succ, List.getElem_cons_zero, List.setIfInBounds_toArray, List.set_cons_zero, List.set_cons_succ]
    refine wpAnyH_done (by kernel_rfl) ?_ _
    have HY18 : Hid (RyS wz g (g + 1) gk w12.heap.size w14.heap.size #[.int .i64 k0, .int .i64 k1, .int .i64 k2, .int .i64 k3, .int .i64 k4, .int .i64 k5, .slice a7 rl.length c7, .int .i64 v9, .int .i64 t9, .slice fa fs.length fc, .slice ua us.length uc, .int .i64 m0, .int .i64 m1] L15 q1 fb ub a7 rl fa fs ua us ((w17.setCell ⟨g + 1, 11, none⟩ (.int .i64 m0)).setCell ⟨g + 1, 12, none⟩ (.int .i64 m1))) := (HY17.out.setx 11 (v := .int .i64 m0) nofun).setx 12 (v := .int .i64 m1) nofun
    obtain ⟨w18, hw18⟩ : ∃ w18, w18 = (w17.setCell ⟨g + 1, 11, none⟩ (.int .i64 m0)).setCell ⟨g + 1, 12, none⟩ (.int .i64 m1) := ⟨_, rfl⟩
    rw [← hw18] at HY18 ⊢
    clear hw18 z11 z12 y11 y12 hxl HY15 HY16 HY17 HG16 HG17 HNA HNB d7 d8 hbw hwg hwc
    have HRT : Hid (∀ W, Below w18.heap.size w18 W → Calls Tryz.prog 11 #[.agg #[.int .i64 k0, .int .i64 k1, .int .i64 k2, .int .i64 k3, .int .i64 k4, .int .i64 k5, .slice a7 rl.length c7, .int .i64 v9, .int .i64 t9, .slice fa fs.length fc, .slice ua us.length uc, .int .i64 m0, .int .i64 m1]] W fun e w' => e = .returned (.bool (rightD ⟨k0, k1, k2, k3, k4, k5, rl, v9, t9, fs, us, m0, m1⟩)) ∧ ∃ j, w' = W.more j) := fun W hW => by
      have hy := HY18.out.below hW
      obtain ⟨mm, hM⟩ := hy.s.rb.e.max
      exact report_Right k0 k1 k2 k3 k4 k5 a7 rl c7 v9 t9 fa fs fc ua us uc m0 m1 (by omega) HCR.out (by omega) (by omega) mm W hM (hy.rs.mono (Nat.le_of_lt hy.k.lt) (fun _ _ _ h => h)) (hy.fs.mono hy.zf (fun _ _ _ h => h)) (hy.us.mono hy.zu (fun _ _ _ h => h))
    have HZ18 : Hid (Blk w18 w.heap.size RpT rpZ) := HZB.out _ HY18.out.s.rb.bl
    have hzl := HZ18.out.lt
    obtain ⟨a18, c18, hg18, hs18, hc18⟩ := HY18.out.s.rd.st
    have j0 : w18.cell? ⟨g, 0, none⟩ = some (.slice a18 L15.length c18) := hg18.cell 0
    have j1 : w18.cell? ⟨g, 1, none⟩ = some (.bool q1) := hg18.cell 1
    have o0 : w18.cell? ⟨gk, 0, none⟩ = some (.bool fb) := HY18.out.k.cell 0
    have o1 : w18.cell? ⟨gk, 1, none⟩ = some (.bool ub) := HY18.out.k.cell 1
    have hgl := hg18.lt
    have hkl := HY18.out.k.lt
    have hxl := HY18.out.s.bx.lt
    clear hg18 hs18 hc18
    generalize rightD ⟨k0, k1, k2, k3, k4, k5, rl, v9, t9, fs, us, m0, m1⟩ = rr at HRT HR4
    have x0 : w18.cell? ⟨g + 1, 0, none⟩ = some (.int .i64 k0) := HY18.out.s.bx.cell 0
    have x1 : w18.cell? ⟨g + 1, 1, none⟩ = some (.int .i64 k1) := HY18.out.s.bx.cell 1
    have x2 : w18.cell? ⟨g + 1, 2, none⟩ = some (.int .i64 k2) := HY18.out.s.bx.cell 2
    have x3 : w18.cell? ⟨g + 1, 3, none⟩ = some (.int .i64 k3) := HY18.out.s.bx.cell 3
    have x4 : w18.cell? ⟨g + 1, 4, none⟩ = some (.int .i64 k4) := HY18.out.s.bx.cell 4
    have x5 : w18.cell? ⟨g + 1, 5, none⟩ = some (.int .i64 k5) := HY18.out.s.bx.cell 5
    have x6 : w18.cell? ⟨g + 1, 6, none⟩ = some (.slice a7 rl.length c7) := HY18.out.s.bx.cell 6
    have x7 : w18.cell? ⟨g + 1, 7, none⟩ = some (.int .i64 v9) := HY18.out.s.bx.cell 7
    have x8 : w18.cell? ⟨g + 1, 8, none⟩ = some (.int .i64 t9) := HY18.out.s.bx.cell 8
    have x9 : w18.cell? ⟨g + 1, 9, none⟩ = some (.slice fa fs.length fc) := HY18.out.s.bx.cell 9
    have x10 : w18.cell? ⟨g + 1, 10, none⟩ = some (.slice ua us.length uc) := HY18.out.s.bx.cell 10
    have x11 : w18.cell? ⟨g + 1, 11, none⟩ = some (.int .i64 m0) := HY18.out.s.bx.cell 11
    have x12 : w18.cell? ⟨g + 1, 12, none⟩ = some (.int .i64 m1) := HY18.out.s.bx.cell 12
    have r0 : w18.cell? ⟨w.heap.size, 0, none⟩ = some (.int .i64 0) := HZ18.out.cell 0
    have e0 := HZ18.out.frozen 0
    have r1 : w18.cell? ⟨w.heap.size, 1, none⟩ = some (.int .i64 0) := HZ18.out.cell 1
    have e1 := HZ18.out.frozen 1
    have r2 : w18.cell? ⟨w.heap.size, 2, none⟩ = some (.int .i64 0) := HZ18.out.cell 2
    have e2 := HZ18.out.frozen 2
    have r3 : w18.cell? ⟨w.heap.size, 3, none⟩ = some (.int .i64 0) := HZ18.out.cell 3
    have e3 := HZ18.out.frozen 3
    have r4 : w18.cell? ⟨w.heap.size, 4, none⟩ = some (.int .i64 0) := HZ18.out.cell 4
    have e4 := HZ18.out.frozen 4
    have r5 : w18.cell? ⟨w.heap.size, 5, none⟩ = some (.int .i64 0) := HZ18.out.cell 5
    have e5 := HZ18.out.frozen 5
    have r6 : w18.cell? ⟨w.heap.size, 6, none⟩ = some (.slice none 0 0) := HZ18.out.cell 6
    have e6 := HZ18.out.frozen 6
    have r7 : w18.cell? ⟨w.heap.size, 7, none⟩ = some (.int .i64 0) := HZ18.out.cell 7
    have e7 := HZ18.out.frozen 7
    have r8 : w18.cell? ⟨w.heap.size, 8, none⟩ = some (.int .i64 0) := HZ18.out.cell 8
    have e8 := HZ18.out.frozen 8
    have r9 : w18.cell? ⟨w.heap.size, 9, none⟩ = some (.slice none 0 0) := HZ18.out.cell 9
    have e9 := HZ18.out.frozen 9
    have r10 : w18.cell? ⟨w.heap.size, 10, none⟩ = some (.slice none 0 0) := HZ18.out.cell 10
    have e10 := HZ18.out.frozen 10
    have r11 : w18.cell? ⟨w.heap.size, 11, none⟩ = some (.int .i64 0) := HZ18.out.cell 11
    have e11 := HZ18.out.frozen 11
    have r12 : w18.cell? ⟨w.heap.size, 12, none⟩ = some (.int .i64 0) := HZ18.out.cell 12
    have e12 := HZ18.out.frozen 12
    have HW18 : Hid (∀ W, Below w18.heap.size w18 W → Blk W w.heap.size RpT rpZ ∧ Below w.heap.size w W) := fun W hW =>
      ⟨HZ18.out.below hW hzl, (HWZ.out.trans (HY18.out.s.rb.bl.mono HWZ.out.size)).trans (hW.mono (by omega))⟩
    have nq := fun W => bk_neq fb ub W
    have hl15 : L15.length ≤ 100000 := hll15
    cases q1
    case true =>
      obtain rfl : R = (zRpt, false) := by rw [HR4.out]; simp
      clear HR4
      go_wp2_with fail
      refine bodyPost_ret (res_cell_tmp (cs := #[.int .i64 0, .int .i64 0, .int .i64 0, .int .i64 0, .int .i64 0, .int .i64 0, .slice none 0 0, .int .i64 0, .int .i64 0, .slice none 0 0, .slice none 0 0, .int .i64 0, .int .i64 0]) rfl st_Rp rfl (blk_put13 (HW18.out _ (by repeat (first | (with_reducible exact Below.refl _ _) | (with_reducible refine Below.allocS ?_ _) | (with_reducible refine Below.moreS ?_ _) | (with_reducible refine Below.drew ?_) | (with_reducible refine below_drewN ?_ _)))).1) rfl rfl) rfl ?_
      exact ⟨none, 0, none, 0, none, 0, rfl, .nil, .nil, .nil, Nat.le_refl _, below_put13 (HW18.out _ (by repeat (first | (with_reducible exact Below.refl _ _) | (with_reducible refine Below.allocS ?_ _) | (with_reducible refine Below.moreS ?_ _) | (with_reducible refine Below.drew ?_) | (with_reducible refine below_drewN ?_ _)))).2 (Nat.le_refl _)⟩
    cases hk : (fb && ub)
    case false =>
      simp only [hk] at nq HR4
      obtain rfl : R = (zRpt, false) := by rw [HR4.out]; simp
      clear HR4
      go_wp2_with fail
      refine bodyPost_ret (res_cell_tmp (cs := #[.int .i64 0, .int .i64 0, .int .i64 0, .int .i64 0, .int .i64 0, .int .i64 0, .slice none 0 0, .int .i64 0, .int .i64 0, .slice none 0 0, .slice none 0 0, .int .i64 0, .int .i64 0]) rfl st_Rp rfl (blk_put13 (HW18.out _ (by repeat (first | (with_reducible exact Below.refl _ _) | (with_reducible refine Below.allocS ?_ _) | (with_reducible refine Below.moreS ?_ _) | (with_reducible refine Below.drew ?_) | (with_reducible refine below_drewN ?_ _)))).1) rfl rfl) rfl ?_
      exact ⟨none, 0, none, 0, none, 0, rfl, .nil, .nil, .nil, Nat.le_refl _, below_put13 (HW18.out _ (by repeat (first | (with_reducible exact Below.refl _ _) | (with_reducible refine Below.allocS ?_ _) | (with_reducible refine Below.moreS ?_ _) | (with_reducible refine Below.drew ?_) | (with_reducible refine below_drewN ?_ _)))).2 (Nat.le_refl _)⟩
    simp only [hk] at nq HR4
    cases L15 with
    | cons y ys =>
      have hp : (0 : Int) < ((y :: ys).length : Int) := by simp
      have hp2 : 0 < (y :: ys).length := by simp
      obtain rfl : R = (zRpt, false) := by rw [HR4.out]; simp
      clear HR4
      go_wp2_with fail
      refine bodyPost_ret (res_cell_tmp (cs := #[.int .i64 0, .int .i64 0, .int .i64 0, .int .i64 0, .int .i64 0, .int .i64 0, .slice none 0 0, .int .i64 0, .int .i64 0, .slice none 0 0, .slice none 0 0, .int .i64 0, .int .i64 0]) rfl st_Rp rfl (blk_put13 (HW18.out _ (by repeat (first | (with_reducible exact Below.refl _ _) | (with_reducible refine Below.allocS ?_ _) | (with_reducible refine Below.moreS ?_ _) | (with_reducible refine Below.drew ?_) | (with_reducible refine below_drewN ?_ _)))).1) rfl rfl) rfl ?_
      exact ⟨none, 0, none, 0, none, 0, rfl, .nil, .nil, .nil, Nat.le_refl _, below_put13 (HW18.out _ (by repeat (first | (with_reducible exact Below.refl _ _) | (with_reducible refine Below.allocS ?_ _) | (with_reducible refine Below.moreS ?_ _) | (with_reducible refine Below.drew ?_) | (with_reducible refine below_drewN ?_ _)))).2 (Nat.le_refl _)⟩
    | nil =>
      cases rr
      case false =>
        obtain rfl : R = (zRpt, false) := by rw [HR4.out]; simp
        clear HR4
        go_wp2_with (go_at_call 11; (with_reducible refine (HRT.out _ (by repeat (first | (with_reducible exact Below.refl _ _) | (with_reducible refine Below.allocS ?_ _) | (with_reducible refine Below.moreS ?_ _) | (with_reducible refine Below.drew ?_) | (with_reducible refine below_drewN ?_ _)))).mono ?_); rintro e w' ⟨rfl, j, rfl⟩)
        refine bodyPost_ret (res_cell_tmp (cs := #[.int .i64 0, .int .i64 0, .int .i64 0, .int .i64 0, .int .i64 0, .int .i64 0, .slice none 0 0, .int .i64 0, .int .i64 0, .slice none 0 0, .slice none 0 0, .int .i64 0, .int .i64 0]) rfl st_Rp rfl ((blk_put13 (HW18.out w18 (Below.refl _ _)).1).more j) rfl rfl) rfl ?_
        exact ⟨none, 0, none, 0, none, 0, rfl, .nil, .nil, .nil, Nat.le_refl _, Below.moreS (below_put13 (HW18.out w18 (Below.refl _ _)).2 (Nat.le_refl _)) j⟩
      obtain rfl : R = (⟨k0, k1, k2, k3, k4, k5, rl, v9, t9, fs, us, m0, m1⟩, true) := by rw [HR4.out]; simp
      clear HR4
      go_wp2_with (go_at_call 11; (with_reducible refine (HRT.out _ (by repeat (first | (with_reducible exact Below.refl _ _) | (with_reducible refine Below.allocS ?_ _) | (with_reducible refine Below.moreS ?_ _) | (with_reducible refine Below.drew ?_) | (with_reducible refine below_drewN ?_ _)))).mono ?_); rintro e w' ⟨rfl, j, rfl⟩)
      have HG := gp_put13 (W := w18) (g := w.heap.size) (v0 := .int .i64 k0) (v1 := .int .i64 k1) (v2 := .int .i64 k2) (v3 := .int .i64 k3) (v4 := .int .i64 k4) (v5 := .int .i64 k5) (v6 := .slice a7 rl.length c7) (v7 := .int .i64 v9) (v8 := .int .i64 t9) (v9 := .slice fa fs.length fc) (v10 := .slice ua us.length uc) (v11 := .int .i64 m0) (v12 := .int .i64 m1)
      obtain ⟨g1, g2, g3⟩ := rows_put13 HY18.out hrg HG
      refine bodyPost_ret (res_cell_tmp (cs := #[.int .i64 k0, .int .i64 k1, .int .i64 k2, .int .i64 k3, .int .i64 k4, .int .i64 k5, .slice a7 rl.length c7, .int .i64 v9, .int .i64 t9, .slice fa fs.length fc, .slice ua us.length uc, .int .i64 m0, .int .i64 m1]) rfl st_Rp rfl ((blk_put13 (HW18.out w18 (Below.refl _ _)).1).more j) rfl rfl) rfl ?_
      exact ⟨a7, c7, fa, fc, ua, uc, rfl, SlRc.keep g1 (by repeat (first | (with_reducible exact Below.refl _ _) | (with_reducible refine Below.allocS ?_ _) | (with_reducible refine Below.moreS ?_ _) | (with_reducible refine Below.drew ?_) | (with_reducible refine below_drewN ?_ _))), SlFl.keep g2 (by repeat (first | (with_reducible exact Below.refl _ _) | (with_reducible refine Below.allocS ?_ _) | (with_reducible refine Below.moreS ?_ _) | (with_reducible refine Below.drew ?_) | (with_reducible refine below_drewN ?_ _))), (g3.below (by repeat (first | (with_reducible exact Below.refl _ _) | (with_reducible refine Below.allocS ?_ _) | (with_reducible refine Below.moreS ?_ _) | (with_reducible refine Below.drew ?_) | (with_reducible refine below_drewN ?_ _))) (Nat.le_refl _)).mono (by simp) (fun _ _ _ h => h), HCR.out, Below.moreS (below_put13 (HW18.out w18 (Below.refl _ _)).2 (Nat.le_refl _)) j⟩
end Go.Proofs.YtbdmepidabnfkaaGreatDoor
