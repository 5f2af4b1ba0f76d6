/-
  Scenarios: the program's words of a step: settings, headers.
-/
import Derived.Test.YtfcgdfcekpbliaaGreatDoorScu2
import Derived.Test.YtfcgdfcekpbliaaGreatDoorMi
import Derived.Test.YtfcgdfcekpbliaaGreatDoorMk
import Derived.Test.YtfcgdfcekpbliaaGreatDoorMd
namespace Go.Proofs.YtfcgdfcekpbliaaGreatDoor
set_option linter.unusedSimpArgs false
set_option linter.unusedVariables false
set_option linter.unusedSectionVars false
open Go.ChangeShapes Go.WideShapes Go.ChangeAt Go.RowKit Go.Deep Go.Shelf

abbrev SeT2 : TypeId := 95
set_option maxHeartbeats 16000000 in
set_option maxRecDepth 100000 in
theorem scene_step_set (ss : List (Int × Int)) (hss : ∀ p ∈ ss, goodI p.1 ∧ goodI p.2) (hl : ss.length ≤ 10) (fa sa : Option Addr) (fc sc : Nat) (w : World) (hd : Hd w) (hE : EnvP w) (hS : SlSe w w.heap.size sa ss) :
    Calls Tryz.prog 18 #[.agg #[.int .i64 3, .int .i64 0, .int .i64 0, .bool false, .slice fa 0 fc, .slice sa ss.length sc]] w (WdsP (headW 3 :: ss.flatMap seW) w) := by
  have HSS := Lib.hid hss
  have HS := Lib.hid hS
  clear hss hS
  have hhl := hd.lt
  have HE : Hid (∀ W, Below w.heap.size w W → EnvP W) := fun W hW => hE.below hW
  have q0 : w.cell? ⟨0, 3, none⟩ = some (bstr (headW 3)) := hd.c 3 (by omega)
  generalize headW 3 = T at q0 ⊢
  clear hd hE
  go_enter Tryz.func18, Tryz.ntmps18
  go_wp2_with fail
  obtain ⟨w2, hw2⟩ : ∃ w2, w2 = ((w.alloc (.cells #[.int .i64 3, .int .i64 0, .int .i64 0, .bool false, .slice fa 0 fc, .slice sa ss.length sc] PsT)).alloc (.cells #[bstr T] 9)).alloc (.cells #[.slice (some ⟨w.heap.size + 1, 0, none⟩) 1 1] WsT) := ⟨_, rfl⟩
  rw [← hw2]
  have hO2 : OutS (w.heap.size + 1) (w.heap.size + 1 + 1) w2 [T] := by rw [hw2]; exact ⟨_, OwnX.of_new blk (Nat.le_refl _), blk⟩
  have hbx2 : Blk w2 w.heap.size PsT #[.int .i64 3, .int .i64 0, .int .i64 0, .bool false, .slice fa 0 fc, .slice sa ss.length sc] := by rw [hw2]; exact blk
  have HB2 : Hid (Below w.heap.size w w2) := by show Below _ _ _; rw [hw2]; exact bel
  clear hw2
  have HOUT2 := Lib.hid hO2
  obtain ⟨v2, ho2, hg2⟩ := hO2.st
  have g2 : w2.cell? ⟨w.heap.size + 1 + 1, 0, none⟩ = some v2 := hg2.cell 0
  have gl2 : w.heap.size + 1 + 1 < w2.heap.size := hg2.lt
  have gm2 : w.heap.size + 1 < w2.heap.size := by omega
  have bl2 : w.heap.size < w2.heap.size := by omega
  have HBX2 := Lib.hid hbx2
  have b2_0 : w2.cell? ⟨w.heap.size, 0, none⟩ = some (.int .i64 3) := hbx2.cell 0
  have b2_1 : w2.cell? ⟨w.heap.size, 1, none⟩ = some (.int .i64 0) := hbx2.cell 1
  have b2_2 : w2.cell? ⟨w.heap.size, 2, none⟩ = some (.int .i64 0) := hbx2.cell 2
  have b2_3 : w2.cell? ⟨w.heap.size, 3, none⟩ = some (.bool false) := hbx2.cell 3
  have b2_4 : w2.cell? ⟨w.heap.size, 4, none⟩ = some (.slice fa 0 fc) := hbx2.cell 4
  have b2_5 : w2.cell? ⟨w.heap.size, 5, none⟩ = some (.slice sa ss.length sc) := hbx2.cell 5
  clear hO2 ho2 hg2 hbx2
  go_loopw [66] (fun i wx => i = .int .i64 0 ∧ w2 = wx) (fun _ _ => 0)
  case atStart => exact ⟨rfl, rfl⟩
  case round =>
    obtain ⟨rfl, rfl⟩ := hrel
    go_wp2_with fail
    have HNN : Hid (([T] ++ (ss.take ss.length).flatMap seW) = T :: ss.flatMap seW) := by show _ = _; rw [List.take_length]; rfl
    go_loopg [86] ss.length (fun g i wr => ∃ k : Nat, k + g = ss.length ∧ i = .int .i64 k ∧ OutS (w.heap.size + 1) (w.heap.size + 1 + 1) wr ([T] ++ (ss.take k).flatMap seW) ∧ Below (w.heap.size + 1) w2 wr)
    case atStart => exact ⟨0, by omega, rfl, HOUT2.out, Below.refl _ _⟩
    case round =>
      obtain ⟨k, hkg, rfl, ho, hb⟩ := hrel
      have HK := Lib.hid hkg
      clear hkg
      have hzr := hb.size
      have HBW : Hid (Below w.heap.size w wr) := HB2.out.trans (hb.mono (by omega))
      by_cases hlt : k < ss.length
      · obtain ⟨b, off, ha, hbb, c0, c1⟩ := SlR.atSe HS.out hlt
        subst ha
        have d0 := (HBW.out.cell (p := ⟨b, off + k * 2, none⟩) hbb).trans c0
        have d1 := (HBW.out.cell (p := ⟨b, off + k * 2 + 1, none⟩) hbb).trans c1
        have hbz : b < wr.heap.size := by omega
        have hkl : (k : Int) < (ss.length : Int) := by omega
        have hgood := HSS.out _ (List.getElem_mem hlt)
        have HU : Hid ([T] ++ (ss.take (k + 1)).flatMap seW = (([T] ++ (ss.take k).flatMap seW) ++ [Lib.itoa ss[k].1]) ++ [Lib.itoa ss[k].2]) := by
          show _ = _
          rw [List.take_succ_eq_append_getElem hlt, List.flatMap_append]
          simp [seW]
        have hll : ([T] ++ (ss.take k).flatMap seW).length ≤ 100 := by
          have : ∀ m : List (Int × Int), (m.flatMap seW).length = 2 * m.length := fun m => by induction m <;> simp_all [seW]; omega
          rw [List.length_append, this, List.length_take]
          simp
          omega
        generalize [T] ++ (ss.take k).flatMap seW = l at ho HU hll
        generalize ss[k] = x at d0 d1 c0 c1 HU hgood
        obtain ⟨x1, x2⟩ := x
        simp only at d0 d1 hgood HU
        obtain ⟨hg1, hg2⟩ := hgood
        have HO := Lib.hid ho
        have HB := Lib.hid hb
        clear c0 c1 ho hb
        go_wp2_with fail
        refine (scene_number x1 hg1 (w.heap.size + 1) (w.heap.size + 1 + 1) l (by omega) _ (by omega) (by simp only [World.size_alloc]; omega) (HO.out.grow (by exact bel)) (HE.out _ (HBW.out.trans (Below.mono (B := wr.heap.size) bel HBW.out.size)))).mono ?_
        rintro e w3 ⟨rfl, hO3, hb3, hs3⟩
        have hbt3 : Blk w3 wr.heap.size SeT2 #[.int .i64 x1, .int .i64 x2] := hs3 _ _ _ (Blk.new _ _ _) (by decide) (by omega)
        have HB3 : Hid (Below (w.heap.size + 1) w2 w3) := HB.out.trans (Below.trans (Below.mono (B := wr.heap.size) bel (by omega)) hb3)
        have HO3 := Lib.hid hO3
        have e0 : w3.cell? ⟨wr.heap.size, 0, none⟩ = some (.int .i64 x1) := hbt3.cell 0
        have e1 : w3.cell? ⟨wr.heap.size, 1, none⟩ = some (.int .i64 x2) := hbt3.cell 1
        have el : wr.heap.size < w3.heap.size := hbt3.lt
        clear hO3 hb3 hs3 hbt3 HO d0 d1
        go_wp2_with fail
        refine (scene_number x2 hg2 (w.heap.size + 1) (w.heap.size + 1 + 1) (l ++ [Lib.itoa x1]) (by simp; omega) w3 (by omega) (by omega) HO3.out (HE.out _ (HB2.out.trans (HB3.out.mono (by omega))))).mono ?_
        rintro e w4 ⟨rfl, hO4, hb4, _⟩
        have HB4 := Lib.hid (HB3.out.trans hb4)
        have HO4 := Lib.hid hO4
        clear hO4 hb4
        go_wp2_with fail
        go_roundg (ss.length - (k + 1))
        case measure => have := HK.out; omega
        case rel => exact ⟨k + 1, by have := HK.out; omega, by go_num, by rw [HU.out]; exact HO4.out, HB4.out⟩
      · obtain rfl : k = ss.length := by have := HK.out; omega
        rw [HNN.out] at ho
        obtain ⟨v, hov, hgv⟩ := ho.st
        have HOW : Hid (OwnX w.heap.size wr v (T :: ss.flatMap seW)) := OwnX.lower (B := w.heap.size + 1) hov (by omega)
        have gv : wr.cell? ⟨w.heap.size + 1 + 1, 0, none⟩ = some v := hgv.cell 0
        have gvl := hgv.lt
        have hkl : ¬ (ss.length : Int) < (ss.length : Int) := by omega
        clear hb ho hov hgv HS HSS
        go_wp2_with fail
        go_ret
        exact ⟨_, rfl, HOW.out, HBW.out⟩
set_option maxHeartbeats 16000000 in
set_option maxRecDepth 100000 in
theorem scene_step_headers (s : Int) (fin : Bool) (fs : List Fd) (h1 : goodI s) (hfs : ∀ f ∈ fs, fdR f = true) (hl : fs.length ≤ 20) (fa sa : Option Addr) (fc sc : Nat) (w : World) (hd : Hd w) (hE : EnvP w) (hF : SlF w w.heap.size fa fs) :
    Calls Tryz.prog 18 #[.agg #[.int .i64 1, .int .i64 s, .int .i64 0, .bool fin, .slice fa fs.length fc, .slice sa 0 sc]] w (WdsP (headW 1 :: Lib.itoa s :: endW fin :: fs.flatMap fdW) w) := by
  have HFS := Lib.hid hfs
  have HF := Lib.hid hF
  clear hfs hF
  have HPK : Hid (∀ W, Calls Tryz.prog 45 #[.bool fin, bstr [101, 110, 100], bstr [111, 112, 101, 110]] W fun e w' => e = .returned (bstr (endW fin)) ∧ W = w') := fun W => scene_pick fin [101, 110, 100] [111, 112, 101, 110] W
  generalize endW fin = EW at HPK ⊢
  have hhl := hd.lt
  have HE : Hid (∀ W, Below w.heap.size w W → EnvP W) := fun W hW => hE.below hW
  have q0 : w.cell? ⟨0, 1, none⟩ = some (bstr (headW 1)) := hd.c 1 (by omega)
  generalize headW 1 = T at q0 ⊢
  clear hd hE
  go_enter Tryz.func18, Tryz.ntmps18
  go_wp2_with fail
  refine (scene_number s h1 (w.heap.size + 1) (w.heap.size + 1 + 1) [T] (by simp) _ (by omega) (by simp only [World.size_alloc]; omega) ⟨_, OwnX.of_new blk (Nat.le_refl _), blk⟩ (HE.out _ bel)).mono ?_
  rintro e w2 ⟨rfl, hO2, hb2, _⟩
  have hbx2 : Blk w2 w.heap.size PsT #[.int .i64 1, .int .i64 s, .int .i64 0, .bool fin, .slice fa fs.length fc, .slice sa 0 sc] := Blk.below blk hb2 (by omega)
  have HB2 : Hid (Below w.heap.size w w2) := Below.trans bel (hb2.mono (by omega))
  have HOUT2 := Lib.hid hO2
  obtain ⟨v2, ho2, hg2⟩ := hO2.st
  have g2 : w2.cell? ⟨w.heap.size + 1 + 1, 0, none⟩ = some v2 := hg2.cell 0
  have gl2 : w.heap.size + 1 + 1 < w2.heap.size := hg2.lt
  have gm2 : w.heap.size + 1 < w2.heap.size := by omega
  have bl2 : w.heap.size < w2.heap.size := by omega
  have HBX2 := Lib.hid hbx2
  have b2_0 : w2.cell? ⟨w.heap.size, 0, none⟩ = some (.int .i64 1) := hbx2.cell 0
  have b2_1 : w2.cell? ⟨w.heap.size, 1, none⟩ = some (.int .i64 s) := hbx2.cell 1
  have b2_2 : w2.cell? ⟨w.heap.size, 2, none⟩ = some (.int .i64 0) := hbx2.cell 2
  have b2_3 : w2.cell? ⟨w.heap.size, 3, none⟩ = some (.bool fin) := hbx2.cell 3
  have b2_4 : w2.cell? ⟨w.heap.size, 4, none⟩ = some (.slice fa fs.length fc) := hbx2.cell 4
  have b2_5 : w2.cell? ⟨w.heap.size, 5, none⟩ = some (.slice sa 0 sc) := hbx2.cell 5
  clear hO2 ho2 hg2 hbx2
  clear hb2
  go_wp2_with fail
  refine cutV (S := fun W vv => OwnX (w.heap.size + 1) W vv ([T, Lib.itoa s] ++ [EW]) ∧ Blk W (w.heap.size + 1 + 1) WsT #[vv] ∧ Below (w.heap.size + 1) w2 W) (P := ?PP) (fun key => ?_) ?_
  rotate_left
  · obtain ⟨x, hx1, hx2⟩ := HOUT2.out.st
    obtain rfl : v2 = x := by
      have e := hx2.cell 0
      rw [g2] at e
      injection e
    have HOV := Lib.hid hx1
    have HCV := Lib.hid hx2
    clear hx1 hx2
    go_region_law (first
      | (refine step_wds (.tmp 57) (.tmp 61) rfl rfl rfl ((show OwnX (w.heap.size + 1) w2 v2 [T, Lib.itoa s] from HOV.out).below (C := w2.heap.size) bel (Nat.le_refl _)) (n := 1) (m := [EW]) rfl rfl (show Blk _ _ 9 #[bstr EW] from blk) (by simp) (by simp only [World.size_drew, World.size_alloc]; omega) ?_; intro v' x2 hown hbw ⟨hst, _⟩; obtain ⟨a2, c2, rfl, _⟩ := hown.cap; have hb2 := hst (w.heap.size + 1 + 1) WsT #[v2] (HCV.out.below (B := w2.heap.size) bel (by omega)) wsT_ne; have hgl2 := hb2.lt; have k2 : x2.cell? ⟨w.heap.size + 1 + 1, 0, none⟩ = some v2 := hb2.cell 0; have f2 : x2.frozen? ⟨w.heap.size + 1 + 1, 0, none⟩ = false := hb2.frozen 0; have HO2 := Lib.hid hown; have HB2 := Lib.hid hbw; have HC2 := Lib.hid hb2; clear hown hbw hst hb2)
      | (go_simp; (first | (go_at_call 45; (with_reducible refine (HPK.out _).mono ?_); rintro e w' ⟨rfl, rfl⟩))))
    all_goals
      have hS2 : OwnX (w.heap.size + 1) (x2.setCell ⟨w.heap.size + 1 + 1, 0, none⟩ (.slice a2 3 c2)) (.slice a2 3 c2) ([T, Lib.itoa s] ++ [EW]) ∧ Blk (x2.setCell ⟨w.heap.size + 1 + 1, 0, none⟩ (.slice a2 3 c2)) (w.heap.size + 1 + 1) WsT #[.slice a2 3 c2] ∧ Below (w.heap.size + 1) w2 (x2.setCell ⟨w.heap.size + 1 + 1, 0, none⟩ (.slice a2 3 c2)) :=
        ⟨HO2.out.far HC2.out wsT_ne, HC2.out.set_ 0 _, (Below.trans (Below.mono (B := w2.heap.size) bel (by omega)) HB2.out).setCell (p := ⟨w.heap.size + 1 + 1, 0, none⟩) (by simp) _⟩
      generalize x2.setCell ⟨w.heap.size + 1 + 1, 0, none⟩ (.slice a2 3 c2) = x3 at hS2 ⊢
      generalize (.slice a2 3 c2 : Value) = vv at hS2 ⊢
      exact key _ _ hS2
  intro w4 v4 hS4
  obtain ⟨ho4, hg4, hb4⟩ := hS4
  have hbx4 : Blk w4 w.heap.size PsT #[.int .i64 1, .int .i64 s, .int .i64 0, .bool fin, .slice fa fs.length fc, .slice sa 0 sc] := HBX2.out.below hb4 (by omega)
  have HB4 : Hid (Below w.heap.size w w4) := HB2.out.trans (hb4.mono (by omega))
  have HOUT4 : Hid (OutS (w.heap.size + 1) (w.heap.size + 1 + 1) w4 ([T, Lib.itoa s] ++ [EW])) := ⟨⟨_, ho4, hg4⟩⟩
  have g4 : w4.cell? ⟨w.heap.size + 1 + 1, 0, none⟩ = some v4 := hg4.cell 0
  have gl4 : w.heap.size + 1 + 1 < w4.heap.size := hg4.lt
  have gm4 : w.heap.size + 1 < w4.heap.size := by omega
  have bl4 : w.heap.size < w4.heap.size := by omega
  have HBX4 := Lib.hid hbx4
  have b4_0 : w4.cell? ⟨w.heap.size, 0, none⟩ = some (.int .i64 1) := hbx4.cell 0
  have b4_1 : w4.cell? ⟨w.heap.size, 1, none⟩ = some (.int .i64 s) := hbx4.cell 1
  have b4_2 : w4.cell? ⟨w.heap.size, 2, none⟩ = some (.int .i64 0) := hbx4.cell 2
  have b4_3 : w4.cell? ⟨w.heap.size, 3, none⟩ = some (.bool fin) := hbx4.cell 3
  have b4_4 : w4.cell? ⟨w.heap.size, 4, none⟩ = some (.slice fa fs.length fc) := hbx4.cell 4
  have b4_5 : w4.cell? ⟨w.heap.size, 5, none⟩ = some (.slice sa 0 sc) := hbx4.cell 5
  clear ho4 hg4 hbx4 hb4 g2 HOUT2 HBX2 b2_0 b2_1 b2_2 b2_3 b2_4 b2_5
  go_wp2_with fail
  have HNN : Hid (([T, Lib.itoa s, EW] ++ (fs.take fs.length).flatMap fdW) = T :: Lib.itoa s :: EW :: fs.flatMap fdW) := by show _ = _; rw [List.take_length]; rfl
  go_loopg [66] fs.length (fun g i wr => ∃ k : Nat, k + g = fs.length ∧ i = .int .i64 k ∧ OutS (w.heap.size + 1) (w.heap.size + 1 + 1) wr ([T, Lib.itoa s, EW] ++ (fs.take k).flatMap fdW) ∧ Below (w.heap.size + 1) w4 wr)
  case atStart => exact ⟨0, by omega, rfl, HOUT4.out, Below.refl _ _⟩
  case round =>
    obtain ⟨k, hkg, rfl, ho, hb⟩ := hrel
    have HK := Lib.hid hkg
    clear hkg
    have hzr := hb.size
    have HBW : Hid (Below w.heap.size w wr) := HB4.out.trans (hb.mono (by omega))
    by_cases hlt : k < fs.length
    · obtain ⟨b, off, ha, hbb, c0, c1, c2, _⟩ := SlR.atF HF.out hlt
      subst ha
      have d0 := (HBW.out.cell (p := ⟨b, off + k * 3, none⟩) hbb).trans c0
      have d1 := (HBW.out.cell (p := ⟨b, off + k * 3 + 1, none⟩) hbb).trans c1
      have d2 := (HBW.out.cell (p := ⟨b, off + k * 3 + 2, none⟩) hbb).trans c2
      have hbz : b < wr.heap.size := by omega
      have hkl : (k : Int) < (fs.length : Int) := by omega
      have hgood := HFS.out _ (List.getElem_mem hlt)
      have HU : Hid ([T, Lib.itoa s, EW] ++ (fs.take (k + 1)).flatMap fdW = ([T, Lib.itoa s, EW] ++ (fs.take k).flatMap fdW) ++ fdW fs[k]) := by
        show _ = _
        rw [List.take_succ_eq_append_getElem hlt, List.flatMap_append]
        simp
      have hll : ([T, Lib.itoa s, EW] ++ (fs.take k).flatMap fdW).length ≤ 100 := by
        have : ∀ m : List Fd, (m.flatMap fdW).length = 3 * m.length := fun m => by induction m <;> simp_all [fdW]; omega
        rw [List.length_append, this, List.length_take]
        simp
        omega
      generalize [T, Lib.itoa s, EW] ++ (fs.take k).flatMap fdW = l at ho HU hll
      generalize fs[k] = x at d0 d1 d2 c0 c1 c2 HU hgood
      obtain ⟨nm, vl, nv⟩ := x
      have hU2 : fdW ⟨nm, vl, nv⟩ = [nevW nv, quoteF nm, quoteF vl] := rfl
      rw [hU2] at HU
      simp only at d0 d1 d2
      have hsz : nm.length ≤ 200 ∧ vl.length ≤ 200 := by simpa [fdR] using hgood
      have HPV : Hid (∀ W, Calls Tryz.prog 45 #[.bool nv, bstr [33], bstr [43]] W fun e w' => e = .returned (bstr (nevW nv)) ∧ W = w') := fun W => scene_pick nv [33] [43] W
      have HQ1 : Hid (∀ W, Calls Tryz.prog 46 #[bstr nm] W fun e w' => e = .returned (bstr (quoteF nm)) ∧ ∃ j, w' = W.more j) := fun W => words_Quote nm (by omega) W
      have HQ2 : Hid (∀ W, Calls Tryz.prog 46 #[bstr vl] W fun e w' => e = .returned (bstr (quoteF vl)) ∧ ∃ j, w' = W.more j) := fun W => words_Quote vl (by omega) W
      generalize nevW nv = NV at HU HPV
      generalize quoteF nm = QN at HU HQ1
      generalize quoteF vl = QV at HU HQ2
      have HOR := Lib.hid ho
      have HB := Lib.hid hb
      clear c0 c1 c2 ho hb hU2 hgood hsz
      go_wp2_with fail
      obtain ⟨v, ho, hb⟩ := HOR.out.st
      refine gp_start (Pq (w.heap.size + 1 + 1) v) (by kernel_rfl) ?_
      obtain ⟨wd, hwd⟩ : ∃ wd, wd = (wr.alloc (.cells #[bstr nm, bstr vl, .bool nv] FdT2)).drew := ⟨_, rfl⟩
      rw [← hwd]
      have hwdz : wd.heap.size = wr.heap.size + 1 := by rw [hwd]; simp
      have hbt : Blk wd wr.heap.size FdT2 #[bstr nm, bstr vl, .bool nv] := by rw [hwd]; exact (Blk.new _ _ _).drew
      have HO : Hid (OwnX (w.heap.size + 1) wd v l) := by show OwnX _ _ _ _; rw [hwd]; exact ho.alloc _
      have HC : Hid (Blk wd (w.heap.size + 1 + 1) WsT #[v]) := by show Blk _ _ _ _; rw [hwd]; exact (hb.alloc _).drew
      have HBD : Hid (Below (w.heap.size + 1) w4 wd) := by show Below _ _ _; rw [hwd]; exact HB.out.trans (Below.mono (B := wr.heap.size) bel (by omega))
      have k0 : wd.cell? ⟨w.heap.size + 1 + 1, 0, none⟩ = some v := HC.out.cell 0
      have hgcd : w.heap.size + 1 + 1 < wd.heap.size := HC.out.lt
      have hgce : w.heap.size + 1 < wd.heap.size := by omega
      have a0 : wd.cell? ⟨wr.heap.size, 0, none⟩ = some (bstr nm) := hbt.cell 0
      have a1 : wd.cell? ⟨wr.heap.size, 1, none⟩ = some (bstr vl) := hbt.cell 1
      have a2 : wd.cell? ⟨wr.heap.size, 2, none⟩ = some (.bool nv) := hbt.cell 2
      have hbd : wr.heap.size < wd.heap.size := hbt.lt
      have hnb : ¬ Pq (w.heap.size + 1 + 1) v wr.heap.size := by
        have h1 := hb.lt
        rintro (h | h)
        · omega
        · have := (World.ownsRow.lt (show wr.ownsRow _ _ _ _ _ _ from ho) _ h.symm).2; omega
      have HZ : Hid (w.heap.size + 1 ≤ wd.heap.size) := by show _ ≤ _; omega
      clear hwd ho hb hbt d0 d1 d2 hwdz
      refine gp_take 1 (v := ?_) rfl (by kernel_rfl) (by kernel_rfl) (by kernel_rfl) (fun _ _ _ h => h) (Or.inl ⟨by first | kernel_rfl | rfl, ?_⟩) ?_
      rotate_left
      · intro wS hSw; have hSc := fun o => hSw.cell wr.heap.size o hbd hnb; clear hSw; go_simp; try with_reducible rfl
      try simp only [Act.put, List.getElem_toArray, List.getElem_cons_succ, List.getElem_cons_zero, List.setIfInBounds_toArray, List.set_cons_zero, List.set_cons_succ]
      refine gp_take 2 (v := ?_) rfl (by kernel_rfl) (by kernel_rfl) (by kernel_rfl) (fun _ _ _ h => h) (Or.inl ⟨by first | kernel_rfl | rfl, ?_⟩) ?_
      rotate_left
      · intro wS hSw; have hSc := fun o => hSw.cell wr.heap.size o hbd hnb; clear hSw; go_simp; try with_reducible rfl
      try simp only [Act.put, List.getElem_toArray, List.getElem_cons_succ, List.getElem_cons_zero, List.setIfInBounds_toArray, List.set_cons_zero, List.set_cons_succ]
      refine gp_take 4 (v := ?_) rfl (by kernel_rfl) (by kernel_rfl) (by kernel_rfl) (fun _ _ _ h => h) (Or.inl ⟨by first | kernel_rfl | rfl, ?_⟩) ?_
      rotate_left
      · intro wS hSw; have hSc := fun o => hSw.cell wr.heap.size o hbd hnb; clear hSw; go_simp; try with_reducible rfl
      try simp only [Act.put, List.getElem_toArray, List.getElem_cons_succ, List.getElem_cons_zero, List.setIfInBounds_toArray, List.set_cons_zero, List.set_cons_succ]
      refine gp_take 5 (v := ?_) rfl (by kernel_rfl) (by kernel_rfl) (by kernel_rfl) (fun _ _ _ h => h) (Or.inl ⟨by first | kernel_rfl | rfl, ?_⟩) ?_
      rotate_left
      · intro wS hSw; have hSc := fun o => hSw.cell wr.heap.size o hbd hnb; clear hSw; go_simp; try with_reducible rfl
      try simp only [Act.put, List.getElem_toArray, List.getElem_cons_succ, List.getElem_cons_zero, List.setIfInBounds_toArray, List.set_cons_zero, List.set_cons_succ]
      refine gp_take 7 (v := ?_) rfl (by kernel_rfl) (by kernel_rfl) (by kernel_rfl) (fun _ _ _ h => h) (Or.inl ⟨by first | kernel_rfl | rfl, ?_⟩) ?_
      rotate_left
      · intro wS hSw; have hSc := fun o => hSw.cell wr.heap.size o hbd hnb; clear hSw; go_simp; try with_reducible rfl
      try simp only [Act.put, List.getElem_toArray, List.getElem_cons_succ, List.getElem_cons_zero, List.setIfInBounds_toArray, List.set_cons_zero, List.set_cons_succ]
      refine gp_take 8 (v := ?_) rfl (by kernel_rfl) (by kernel_rfl) (by kernel_rfl) (fun _ _ _ h => h) (Or.inl ⟨by first | kernel_rfl | rfl, ?_⟩) ?_
      rotate_left
      · intro wS hSw; have hSc := fun o => hSw.cell wr.heap.size o hbd hnb; clear hSw; go_simp; try with_reducible rfl
      try simp only [Act.put, List.getElem_toArray, List.getElem_cons_succ, List.getElem_cons_zero, List.setIfInBounds_toArray, List.set_cons_zero, List.set_cons_succ]
      refine gp_two 0 3 (by kernel_rfl) rfl rfl (fun K' hK => ?_) (fun K' hK => ?_)
      · go_simp
        go_wp2_with fail
        refine hK.out _ _ (show Gp _ _ _ from (by first | exact Gp.refl _ | (refine Gp.of_below ?_; repeat (first | (with_reducible exact Below.refl _ _) | (with_reducible exact grown_merge _ _ _ _) | (with_reducible exact grown_merge2 _ _ _ _ _ _) | (with_reducible exact grown_merge3 _ _ _ _ _ _ _) | (with_reducible refine Below.allocS ?_ _) | (with_reducible refine Below.moreS ?_ _) | (with_reducible refine Below.drew ?_))))) ?_
        clear hK K'
        try simp only [Act.put, List.getElem_toArray, List.getElem_cons_succ, List.getElem_cons_zero, List.setIfInBounds_toArray, List.set_cons_zero, List.set_cons_succ]
        refine gp_step 3 (by kernel_rfl) rfl (fun K hK => ?_)
        go_simp
        go_wp2_with (go_at_call 45; (with_reducible refine (HPV.out _).mono ?_); rintro e w' ⟨rfl, rfl⟩)
        refine hK.out _ _ (show Gp _ _ _ from (by first | exact Gp.refl _ | (refine Gp.of_below ?_; repeat (first | (with_reducible exact Below.refl _ _) | (with_reducible exact grown_merge _ _ _ _) | (with_reducible exact grown_merge2 _ _ _ _ _ _) | (with_reducible exact grown_merge3 _ _ _ _ _ _ _) | (with_reducible refine Below.allocS ?_ _) | (with_reducible refine Below.moreS ?_ _) | (with_reducible refine Below.drew ?_))))) ?_
        clear hK K
        try simp only [Act.put, List.getElem_toArray, List.getElem_cons_succ, List.getElem_cons_zero, List.setIfInBounds_toArray, List.set_cons_zero, List.set_cons_succ]
        refine gp_step 6 (by kernel_rfl) rfl (fun K hK => ?_)
        go_simp
        go_wp2_with (go_at_call 46; (with_reducible refine (HQ1.out _).mono ?_); rintro e w' ⟨rfl, j, rfl⟩)
        refine hK.out _ _ (show Gp _ _ _ from (by first | exact Gp.refl _ | (refine Gp.of_below ?_; repeat (first | (with_reducible exact Below.refl _ _) | (with_reducible exact grown_merge _ _ _ _) | (with_reducible exact grown_merge2 _ _ _ _ _ _) | (with_reducible exact grown_merge3 _ _ _ _ _ _ _) | (with_reducible refine Below.allocS ?_ _) | (with_reducible refine Below.moreS ?_ _) | (with_reducible refine Below.drew ?_))))) ?_
        clear hK K
        try simp only [Act.put, List.getElem_toArray, List.getElem_cons_succ, List.getElem_cons_zero, List.setIfInBounds_toArray, List.set_cons_zero, List.set_cons_succ]
        refine gp_step 9 (by kernel_rfl) rfl (fun K hK => ?_)
        go_simp
        go_wp2_with (go_at_call 46; (with_reducible refine (HQ2.out _).mono ?_); rintro e w' ⟨rfl, j, rfl⟩)
        refine hK.out _ _ (show Gp _ _ _ from (by first | exact Gp.refl _ | (refine Gp.of_below ?_; repeat (first | (with_reducible exact Below.refl _ _) | (with_reducible exact grown_merge _ _ _ _) | (with_reducible exact grown_merge2 _ _ _ _ _ _) | (with_reducible exact grown_merge3 _ _ _ _ _ _ _) | (with_reducible refine Below.allocS ?_ _) | (with_reducible refine Below.moreS ?_ _) | (with_reducible refine Below.drew ?_))))) ?_
        clear hK K
        try simp only [Act.put, List.getElem_toArray, List.getElem_cons_succ, List.getElem_cons_zero, List.setIfInBounds_toArray, List.set_cons_zero, List.set_cons_succ]
        refine gp_step 10 (by kernel_rfl) rfl (fun K hK => ?_)
        go_simp
        go_wp2_with fail
        refine hK.out _ _ (show Gp _ _ _ from (by first | exact Gp.refl _ | (refine Gp.of_below ?_; repeat (first | (with_reducible exact Below.refl _ _) | (with_reducible exact grown_merge _ _ _ _) | (with_reducible exact grown_merge2 _ _ _ _ _ _) | (with_reducible exact grown_merge3 _ _ _ _ _ _ _) | (with_reducible refine Below.allocS ?_ _) | (with_reducible refine Below.moreS ?_ _) | (with_reducible refine Below.drew ?_))))) ?_
        clear hK K
        try simp only [Act.put, List.getElem_toArray, List.getElem_cons_succ, List.getElem_cons_zero, List.setIfInBounds_toArray, List.set_cons_zero, List.set_cons_succ]
        refine gp_step 11 (by kernel_rfl) rfl (fun K hK => ?_)
        refine step_wds (.tmp 70) (.tmp 80) rfl rfl rfl (HO.out.below (C := wd.heap.size) bel (Nat.le_refl _)) (n := 3) (m := [NV, QN, QV]) rfl rfl (show Blk _ _ 9 #[bstr NV, bstr QN, bstr QV] from blk) (by omega) (by have := HZ.out; simp only [World.size_more, World.size_alloc]; omega) ?_
        intro v' x2 hown hbw ⟨hst, hgr⟩
        obtain ⟨a2, c2, rfl, _⟩ := hown.cap
        have hb2 := hst (w.heap.size + 1 + 1) WsT #[v] (HC.out.below (B := wd.heap.size) bel hgcd) wsT_ne
        have hgl2 := hb2.lt
        have k2 : x2.cell? ⟨w.heap.size + 1 + 1, 0, none⟩ = some v := hb2.cell 0
        have f2 : x2.frozen? ⟨w.heap.size + 1 + 1, 0, none⟩ = false := hb2.frozen 0
        have HO2 := Lib.hid hown
        have HB2x : Hid (Below (w.heap.size + 1) wd x2) := Below.trans (Below.mono (B := wd.heap.size) bel HZ.out) hbw
        have HC2 := Lib.hid hb2
        refine hK.out _ _ (show Gp _ _ _ from gp_grown hgr) ?_
        clear hK K hown hbw hst hb2 hgr
        try simp only [Act.put, List.getElem_toArray, List.getElem_cons_succ, List.getElem_cons_zero, List.setIfInBounds_toArray, List.set_cons_zero, List.set_cons_succ]
        refine gp_step 12 (by kernel_rfl) rfl (fun K hK => ?_)
        go_simp
        go_wp2_with fail
        refine hK.out _ _ (show Gp _ _ _ from Gp.set _ (.inl rfl)) ?_
        clear hK K
        try simp only [Act.put, List.getElem_toArray, List.getElem_cons_succ, List.getElem_cons_zero, List.setIfInBounds_toArray, List.set_cons_zero, List.set_cons_succ]
        refine wpAnyH_done (by kernel_rfl) ?_ _
        go_wp2_with fail
        go_roundg (fs.length - (k + 1))
        case measure => have := HK.out; omega
        case rel => exact ⟨k + 1, by have := HK.out; omega, by go_num, by rw [HU.out]; exact OutS.store HO2.out HC2.out (by simp), (HBD.out.trans HB2x.out).setCell (p := ⟨w.heap.size + 1 + 1, 0, none⟩) (by simp) _⟩
      · go_simp
        go_wp2_with (go_at_call 45; (with_reducible refine (HPV.out _).mono ?_); rintro e w' ⟨rfl, rfl⟩)
        refine hK.out _ _ (show Gp _ _ _ from (by first | exact Gp.refl _ | (refine Gp.of_below ?_; repeat (first | (with_reducible exact Below.refl _ _) | (with_reducible exact grown_merge _ _ _ _) | (with_reducible exact grown_merge2 _ _ _ _ _ _) | (with_reducible exact grown_merge3 _ _ _ _ _ _ _) | (with_reducible refine Below.allocS ?_ _) | (with_reducible refine Below.moreS ?_ _) | (with_reducible refine Below.drew ?_))))) ?_
        clear hK K'
        try simp only [Act.put, List.getElem_toArray, List.getElem_cons_succ, List.getElem_cons_zero, List.setIfInBounds_toArray, List.set_cons_zero, List.set_cons_succ]
        refine gp_two 0 6 (by kernel_rfl) rfl rfl (fun K' hK => ?_) (fun K' hK => ?_)
        · go_simp
          go_wp2_with fail
          refine hK.out _ _ (show Gp _ _ _ from (by first | exact Gp.refl _ | (refine Gp.of_below ?_; repeat (first | (with_reducible exact Below.refl _ _) | (with_reducible exact grown_merge _ _ _ _) | (with_reducible exact grown_merge2 _ _ _ _ _ _) | (with_reducible exact grown_merge3 _ _ _ _ _ _ _) | (with_reducible refine Below.allocS ?_ _) | (with_reducible refine Below.moreS ?_ _) | (with_reducible refine Below.drew ?_))))) ?_
          clear hK K'
          try simp only [Act.put, List.getElem_toArray, List.getElem_cons_succ, List.getElem_cons_zero, List.setIfInBounds_toArray, List.set_cons_zero, List.set_cons_succ]
          refine gp_step 6 (by kernel_rfl) rfl (fun K hK => ?_)
          go_simp
          go_wp2_with (go_at_call 46; (with_reducible refine (HQ1.out _).mono ?_); rintro e w' ⟨rfl, j, rfl⟩)
          refine hK.out _ _ (show Gp _ _ _ from (by first | exact Gp.refl _ | (refine Gp.of_below ?_; repeat (first | (with_reducible exact Below.refl _ _) | (with_reducible exact grown_merge _ _ _ _) | (with_reducible exact grown_merge2 _ _ _ _ _ _) | (with_reducible exact grown_merge3 _ _ _ _ _ _ _) | (with_reducible refine Below.allocS ?_ _) | (with_reducible refine Below.moreS ?_ _) | (with_reducible refine Below.drew ?_))))) ?_
          clear hK K
          try simp only [Act.put, List.getElem_toArray, List.getElem_cons_succ, List.getElem_cons_zero, List.setIfInBounds_toArray, List.set_cons_zero, List.set_cons_succ]
          refine gp_step 9 (by kernel_rfl) rfl (fun K hK => ?_)
          go_simp
          go_wp2_with (go_at_call 46; (with_reducible refine (HQ2.out _).mono ?_); rintro e w' ⟨rfl, j, rfl⟩)
          refine hK.out _ _ (show Gp _ _ _ from (by first | exact Gp.refl _ | (refine Gp.of_below ?_; repeat (first | (with_reducible exact Below.refl _ _) | (with_reducible exact grown_merge _ _ _ _) | (with_reducible exact grown_merge2 _ _ _ _ _ _) | (with_reducible exact grown_merge3 _ _ _ _ _ _ _) | (with_reducible refine Below.allocS ?_ _) | (with_reducible refine Below.moreS ?_ _) | (with_reducible refine Below.drew ?_))))) ?_
          clear hK K
          try simp only [Act.put, List.getElem_toArray, List.getElem_cons_succ, List.getElem_cons_zero, List.setIfInBounds_toArray, List.set_cons_zero, List.set_cons_succ]
          refine gp_step 10 (by kernel_rfl) rfl (fun K hK => ?_)
          go_simp
          go_wp2_with fail
          refine hK.out _ _ (show Gp _ _ _ from (by first | exact Gp.refl _ | (refine Gp.of_below ?_; repeat (first | (with_reducible exact Below.refl _ _) | (with_reducible exact grown_merge _ _ _ _) | (with_reducible exact grown_merge2 _ _ _ _ _ _) | (with_reducible exact grown_merge3 _ _ _ _ _ _ _) | (with_reducible refine Below.allocS ?_ _) | (with_reducible refine Below.moreS ?_ _) | (with_reducible refine Below.drew ?_))))) ?_
          clear hK K
          try simp only [Act.put, List.getElem_toArray, List.getElem_cons_succ, List.getElem_cons_zero, List.setIfInBounds_toArray, List.set_cons_zero, List.set_cons_succ]
          refine gp_step 11 (by kernel_rfl) rfl (fun K hK => ?_)
          refine step_wds (.tmp 70) (.tmp 80) rfl rfl rfl (HO.out.below (C := wd.heap.size) bel (Nat.le_refl _)) (n := 3) (m := [NV, QN, QV]) rfl rfl (show Blk _ _ 9 #[bstr NV, bstr QN, bstr QV] from blk) (by omega) (by have := HZ.out; simp only [World.size_more, World.size_alloc]; omega) ?_
          intro v' x2 hown hbw ⟨hst, hgr⟩
          obtain ⟨a2, c2, rfl, _⟩ := hown.cap
          have hb2 := hst (w.heap.size + 1 + 1) WsT #[v] (HC.out.below (B := wd.heap.size) bel hgcd) wsT_ne
          have hgl2 := hb2.lt
          have k2 : x2.cell? ⟨w.heap.size + 1 + 1, 0, none⟩ = some v := hb2.cell 0
          have f2 : x2.frozen? ⟨w.heap.size + 1 + 1, 0, none⟩ = false := hb2.frozen 0
          have HO2 := Lib.hid hown
          have HB2x : Hid (Below (w.heap.size + 1) wd x2) := Below.trans (Below.mono (B := wd.heap.size) bel HZ.out) hbw
          have HC2 := Lib.hid hb2
          refine hK.out _ _ (show Gp _ _ _ from gp_grown hgr) ?_
          clear hK K hown hbw hst hb2 hgr
          try simp only [Act.put, List.getElem_toArray, List.getElem_cons_succ, List.getElem_cons_zero, List.setIfInBounds_toArray, List.set_cons_zero, List.set_cons_succ]
          refine gp_step 12 (by kernel_rfl) rfl (fun K hK => ?_)
          go_simp
          go_wp2_with fail
          refine hK.out _ _ (show Gp _ _ _ from Gp.set _ (.inl rfl)) ?_
          clear hK K
          try simp only [Act.put, List.getElem_toArray, List.getElem_cons_succ, List.getElem_cons_zero, List.setIfInBounds_toArray, List.set_cons_zero, List.set_cons_succ]
          refine wpAnyH_done (by kernel_rfl) ?_ _
          go_wp2_with fail
          go_roundg (fs.length - (k + 1))
          case measure => have := HK.out; omega
          case rel => exact ⟨k + 1, by have := HK.out; omega, by go_num, by rw [HU.out]; exact OutS.store HO2.out HC2.out (by simp), (HBD.out.trans HB2x.out).setCell (p := ⟨w.heap.size + 1 + 1, 0, none⟩) (by simp) _⟩
        · go_simp
          go_wp2_with (go_at_call 46; (with_reducible refine (HQ1.out _).mono ?_); rintro e w' ⟨rfl, j, rfl⟩)
          refine hK.out _ _ (show Gp _ _ _ from (by first | exact Gp.refl _ | (refine Gp.of_below ?_; repeat (first | (with_reducible exact Below.refl _ _) | (with_reducible exact grown_merge _ _ _ _) | (with_reducible exact grown_merge2 _ _ _ _ _ _) | (with_reducible exact grown_merge3 _ _ _ _ _ _ _) | (with_reducible refine Below.allocS ?_ _) | (with_reducible refine Below.moreS ?_ _) | (with_reducible refine Below.drew ?_))))) ?_
          clear hK K'
          try simp only [Act.put, List.getElem_toArray, List.getElem_cons_succ, List.getElem_cons_zero, List.setIfInBounds_toArray, List.set_cons_zero, List.set_cons_succ]
          refine gp_two 0 9 (by kernel_rfl) rfl rfl (fun K' hK => ?_) (fun K' hK => ?_)
          · go_simp
            go_wp2_with fail
            refine hK.out _ _ (show Gp _ _ _ from (by first | exact Gp.refl _ | (refine Gp.of_below ?_; repeat (first | (with_reducible exact Below.refl _ _) | (with_reducible exact grown_merge _ _ _ _) | (with_reducible exact grown_merge2 _ _ _ _ _ _) | (with_reducible exact grown_merge3 _ _ _ _ _ _ _) | (with_reducible refine Below.allocS ?_ _) | (with_reducible refine Below.moreS ?_ _) | (with_reducible refine Below.drew ?_))))) ?_
            clear hK K'
            try simp only [Act.put, List.getElem_toArray, List.getElem_cons_succ, List.getElem_cons_zero, List.setIfInBounds_toArray, List.set_cons_zero, List.set_cons_succ]
            refine gp_step 9 (by kernel_rfl) rfl (fun K hK => ?_)
            go_simp
            go_wp2_with (go_at_call 46; (with_reducible refine (HQ2.out _).mono ?_); rintro e w' ⟨rfl, j, rfl⟩)
            refine hK.out _ _ (show Gp _ _ _ from (by first | exact Gp.refl _ | (refine Gp.of_below ?_; repeat (first | (with_reducible exact Below.refl _ _) | (with_reducible exact grown_merge _ _ _ _) | (with_reducible exact grown_merge2 _ _ _ _ _ _) | (with_reducible exact grown_merge3 _ _ _ _ _ _ _) | (with_reducible refine Below.allocS ?_ _) | (with_reducible refine Below.moreS ?_ _) | (with_reducible refine Below.drew ?_))))) ?_
            clear hK K
            try simp only [Act.put, List.getElem_toArray, List.getElem_cons_succ, List.getElem_cons_zero, List.setIfInBounds_toArray, List.set_cons_zero, List.set_cons_succ]
            refine gp_step 10 (by kernel_rfl) rfl (fun K hK => ?_)
            go_simp
            go_wp2_with fail
            refine hK.out _ _ (show Gp _ _ _ from (by first | exact Gp.refl _ | (refine Gp.of_below ?_; repeat (first | (with_reducible exact Below.refl _ _) | (with_reducible exact grown_merge _ _ _ _) | (with_reducible exact grown_merge2 _ _ _ _ _ _) | (with_reducible exact grown_merge3 _ _ _ _ _ _ _) | (with_reducible refine Below.allocS ?_ _) | (with_reducible refine Below.moreS ?_ _) | (with_reducible refine Below.drew ?_))))) ?_
            clear hK K
            try simp only [Act.put, List.getElem_toArray, List.getElem_cons_succ, List.getElem_cons_zero, List.setIfInBounds_toArray, List.set_cons_zero, List.set_cons_succ]
            refine gp_step 11 (by kernel_rfl) rfl (fun K hK => ?_)
            refine step_wds (.tmp 70) (.tmp 80) rfl rfl rfl (HO.out.below (C := wd.heap.size) bel (Nat.le_refl _)) (n := 3) (m := [NV, QN, QV]) rfl rfl (show Blk _ _ 9 #[bstr NV, bstr QN, bstr QV] from blk) (by omega) (by have := HZ.out; simp only [World.size_more, World.size_alloc]; omega) ?_
            intro v' x2 hown hbw ⟨hst, hgr⟩
            obtain ⟨a2, c2, rfl, _⟩ := hown.cap
            have hb2 := hst (w.heap.size + 1 + 1) WsT #[v] (HC.out.below (B := wd.heap.size) bel hgcd) wsT_ne
            have hgl2 := hb2.lt
            have k2 : x2.cell? ⟨w.heap.size + 1 + 1, 0, none⟩ = some v := hb2.cell 0
            have f2 : x2.frozen? ⟨w.heap.size + 1 + 1, 0, none⟩ = false := hb2.frozen 0
            have HO2 := Lib.hid hown
            have HB2x : Hid (Below (w.heap.size + 1) wd x2) := Below.trans (Below.mono (B := wd.heap.size) bel HZ.out) hbw
            have HC2 := Lib.hid hb2
            refine hK.out _ _ (show Gp _ _ _ from gp_grown hgr) ?_
            clear hK K hown hbw hst hb2 hgr
            try simp only [Act.put, List.getElem_toArray, List.getElem_cons_succ, List.getElem_cons_zero, List.setIfInBounds_toArray, List.set_cons_zero, List.set_cons_succ]
            refine gp_step 12 (by kernel_rfl) rfl (fun K hK => ?_)
            go_simp
            go_wp2_with fail
            refine hK.out _ _ (show Gp _ _ _ from Gp.set _ (.inl rfl)) ?_
            clear hK K
            try simp only [Act.put, List.getElem_toArray, List.getElem_cons_succ, List.getElem_cons_zero, List.setIfInBounds_toArray, List.set_cons_zero, List.set_cons_succ]
            refine wpAnyH_done (by kernel_rfl) ?_ _
            go_wp2_with fail
            go_roundg (fs.length - (k + 1))
            case measure => have := HK.out; omega
            case rel => exact ⟨k + 1, by have := HK.out; omega, by go_num, by rw [HU.out]; exact OutS.store HO2.out HC2.out (by simp), (HBD.out.trans HB2x.out).setCell (p := ⟨w.heap.size + 1 + 1, 0, none⟩) (by simp) _⟩
          · go_simp
            go_wp2_with (go_at_call 46; (with_reducible refine (HQ2.out _).mono ?_); rintro e w' ⟨rfl, j, rfl⟩)
            refine hK.out _ _ (show Gp _ _ _ from (by first | exact Gp.refl _ | (refine Gp.of_below ?_; repeat (first | (with_reducible exact Below.refl _ _) | (with_reducible exact grown_merge _ _ _ _) | (with_reducible exact grown_merge2 _ _ _ _ _ _) | (with_reducible exact grown_merge3 _ _ _ _ _ _ _) | (with_reducible refine Below.allocS ?_ _) | (with_reducible refine Below.moreS ?_ _) | (with_reducible refine Below.drew ?_))))) ?_
            clear hK K'
            try simp only [Act.put, List.getElem_toArray, List.getElem_cons_succ, List.getElem_cons_zero, List.setIfInBounds_toArray, List.set_cons_zero, List.set_cons_succ]
            refine gp_two 0 10 (by kernel_rfl) rfl rfl (fun K' hK => ?_) (fun K' hK => ?_)
            · go_simp
              go_wp2_with fail
              refine hK.out _ _ (show Gp _ _ _ from (by first | exact Gp.refl _ | (refine Gp.of_below ?_; repeat (first | (with_reducible exact Below.refl _ _) | (with_reducible exact grown_merge _ _ _ _) | (with_reducible exact grown_merge2 _ _ _ _ _ _) | (with_reducible exact grown_merge3 _ _ _ _ _ _ _) | (with_reducible refine Below.allocS ?_ _) | (with_reducible refine Below.moreS ?_ _) | (with_reducible refine Below.drew ?_))))) ?_
              clear hK K'
              try simp only [Act.put, List.getElem_toArray, List.getElem_cons_succ, List.getElem_cons_zero, List.setIfInBounds_toArray, List.set_cons_zero, List.set_cons_succ]
              refine gp_step 10 (by kernel_rfl) rfl (fun K hK => ?_)
              go_simp
              go_wp2_with fail
              refine hK.out _ _ (show Gp _ _ _ from (by first | exact Gp.refl _ | (refine Gp.of_below ?_; repeat (first | (with_reducible exact Below.refl _ _) | (with_reducible exact grown_merge _ _ _ _) | (with_reducible exact grown_merge2 _ _ _ _ _ _) | (with_reducible exact grown_merge3 _ _ _ _ _ _ _) | (with_reducible refine Below.allocS ?_ _) | (with_reducible refine Below.moreS ?_ _) | (with_reducible refine Below.drew ?_))))) ?_
              clear hK K
              try simp only [Act.put, List.getElem_toArray, List.getElem_cons_succ, List.getElem_cons_zero, List.setIfInBounds_toArray, List.set_cons_zero, List.set_cons_succ]
              refine gp_step 11 (by kernel_rfl) rfl (fun K hK => ?_)
              refine step_wds (.tmp 70) (.tmp 80) rfl rfl rfl (HO.out.below (C := wd.heap.size) bel (Nat.le_refl _)) (n := 3) (m := [NV, QN, QV]) rfl rfl (show Blk _ _ 9 #[bstr NV, bstr QN, bstr QV] from blk) (by omega) (by have := HZ.out; simp only [World.size_more, World.size_alloc]; omega) ?_
              intro v' x2 hown hbw ⟨hst, hgr⟩
              obtain ⟨a2, c2, rfl, _⟩ := hown.cap
              have hb2 := hst (w.heap.size + 1 + 1) WsT #[v] (HC.out.below (B := wd.heap.size) bel hgcd) wsT_ne
              have hgl2 := hb2.lt
              have k2 : x2.cell? ⟨w.heap.size + 1 + 1, 0, none⟩ = some v := hb2.cell 0
              have f2 : x2.frozen? ⟨w.heap.size + 1 + 1, 0, none⟩ = false := hb2.frozen 0
              have HO2 := Lib.hid hown
              have HB2x : Hid (Below (w.heap.size + 1) wd x2) := Below.trans (Below.mono (B := wd.heap.size) bel HZ.out) hbw
              have HC2 := Lib.hid hb2
              refine hK.out _ _ (show Gp _ _ _ from gp_grown hgr) ?_
              clear hK K hown hbw hst hb2 hgr
              try simp only [Act.put, List.getElem_toArray, List.getElem_cons_succ, List.getElem_cons_zero, List.setIfInBounds_toArray, List.set_cons_zero, List.set_cons_succ]
              refine gp_step 12 (by kernel_rfl) rfl (fun K hK => ?_)
              go_simp
              go_wp2_with fail
              refine hK.out _ _ (show Gp _ _ _ from Gp.set _ (.inl rfl)) ?_
              clear hK K
              try simp only [Act.put, List.getElem_toArray, List.getElem_cons_succ, List.getElem_cons_zero, List.setIfInBounds_toArray, List.set_cons_zero, List.set_cons_succ]
              refine wpAnyH_done (by kernel_rfl) ?_ _
              go_wp2_with fail
              go_roundg (fs.length - (k + 1))
              case measure => have := HK.out; omega
              case rel => exact ⟨k + 1, by have := HK.out; omega, by go_num, by rw [HU.out]; exact OutS.store HO2.out HC2.out (by simp), (HBD.out.trans HB2x.out).setCell (p := ⟨w.heap.size + 1 + 1, 0, none⟩) (by simp) _⟩
            · go_simp
              go_wp2_with fail
              refine hK.out _ _ (show Gp _ _ _ from (by first | exact Gp.refl _ | (refine Gp.of_below ?_; repeat (first | (with_reducible exact Below.refl _ _) | (with_reducible exact grown_merge _ _ _ _) | (with_reducible exact grown_merge2 _ _ _ _ _ _) | (with_reducible exact grown_merge3 _ _ _ _ _ _ _) | (with_reducible refine Below.allocS ?_ _) | (with_reducible refine Below.moreS ?_ _) | (with_reducible refine Below.drew ?_))))) ?_
              clear hK K'
              try simp only [Act.put, List.getElem_toArray, List.getElem_cons_succ, List.getElem_cons_zero, List.setIfInBounds_toArray, List.set_cons_zero, List.set_cons_succ]
              refine gp_step 0 (by kernel_rfl) rfl (fun K hK => ?_)
              go_simp
              go_wp2_with fail
              refine hK.out _ _ (show Gp _ _ _ from (by first | exact Gp.refl _ | (refine Gp.of_below ?_; repeat (first | (with_reducible exact Below.refl _ _) | (with_reducible exact grown_merge _ _ _ _) | (with_reducible exact grown_merge2 _ _ _ _ _ _) | (with_reducible exact grown_merge3 _ _ _ _ _ _ _) | (with_reducible refine Below.allocS ?_ _) | (with_reducible refine Below.moreS ?_ _) | (with_reducible refine Below.drew ?_))))) ?_
              clear hK K
              try simp only [Act.put, List.getElem_toArray, List.getElem_cons_succ, List.getElem_cons_zero, List.setIfInBounds_toArray, List.set_cons_zero, List.set_cons_succ]
              refine gp_step 11 (by kernel_rfl) rfl (fun K hK => ?_)
              refine step_wds (.tmp 70) (.tmp 80) rfl rfl rfl (HO.out.below (C := wd.heap.size) bel (Nat.le_refl _)) (n := 3) (m := [NV, QN, QV]) rfl rfl (show Blk _ _ 9 #[bstr NV, bstr QN, bstr QV] from blk) (by omega) (by have := HZ.out; simp only [World.size_more, World.size_alloc]; omega) ?_
              intro v' x2 hown hbw ⟨hst, hgr⟩
              obtain ⟨a2, c2, rfl, _⟩ := hown.cap
              have hb2 := hst (w.heap.size + 1 + 1) WsT #[v] (HC.out.below (B := wd.heap.size) bel hgcd) wsT_ne
              have hgl2 := hb2.lt
              have k2 : x2.cell? ⟨w.heap.size + 1 + 1, 0, none⟩ = some v := hb2.cell 0
              have f2 : x2.frozen? ⟨w.heap.size + 1 + 1, 0, none⟩ = false := hb2.frozen 0
              have HO2 := Lib.hid hown
              have HB2x : Hid (Below (w.heap.size + 1) wd x2) := Below.trans (Below.mono (B := wd.heap.size) bel HZ.out) hbw
              have HC2 := Lib.hid hb2
              refine hK.out _ _ (show Gp _ _ _ from gp_grown hgr) ?_
              clear hK K hown hbw hst hb2 hgr
              try simp only [Act.put, List.getElem_toArray, List.getElem_cons_succ, List.getElem_cons_zero, List.setIfInBounds_toArray, List.set_cons_zero, List.set_cons_succ]
              refine gp_step 12 (by kernel_rfl) rfl (fun K hK => ?_)
              go_simp
              go_wp2_with fail
              refine hK.out _ _ (show Gp _ _ _ from Gp.set _ (.inl rfl)) ?_
              clear hK K
              try simp only [Act.put, List.getElem_toArray, List.getElem_cons_succ, List.getElem_cons_zero, List.setIfInBounds_toArray, List.set_cons_zero, List.set_cons_succ]
              refine wpAnyH_done (by kernel_rfl) ?_ _
              go_wp2_with fail
              go_roundg (fs.length - (k + 1))
              case measure => have := HK.out; omega
              case rel => exact ⟨k + 1, by have := HK.out; omega, by go_num, by rw [HU.out]; exact OutS.store HO2.out HC2.out (by simp), (HBD.out.trans HB2x.out).setCell (p := ⟨w.heap.size + 1 + 1, 0, none⟩) (by simp) _⟩
    · obtain rfl : k = fs.length := by have := HK.out; omega
      rw [HNN.out] at ho
      obtain ⟨v, hov, hgv⟩ := ho.st
      have HOW : Hid (OwnX w.heap.size wr v (T :: Lib.itoa s :: EW :: fs.flatMap fdW)) := OwnX.lower (B := w.heap.size + 1) hov (by omega)
      have gv : wr.cell? ⟨w.heap.size + 1 + 1, 0, none⟩ = some v := hgv.cell 0
      have gvl := hgv.lt
      have hkl : ¬ (fs.length : Int) < (fs.length : Int) := by omega
      have hbw := HBX4.out.below hb (by omega)
      have r5 : wr.cell? ⟨w.heap.size, 5, none⟩ = some (.slice sa 0 sc) := hbw.cell 5
      have rl : w.heap.size < wr.heap.size := by omega
      clear hb ho hov hgv HF HFS hbw
      go_wp2_with fail
      go_loopw [86] (fun i wx => i = .int .i64 0 ∧ wr = wx) (fun _ _ => 0)
      case atStart => exact ⟨rfl, rfl⟩
      case round =>
        obtain ⟨rfl, rfl⟩ := hrel
        go_wp2_with fail
        go_ret
        exact ⟨_, rfl, HOW.out, HBW.out⟩
end Go.Proofs.YtfcgdfcekpbliaaGreatDoor
