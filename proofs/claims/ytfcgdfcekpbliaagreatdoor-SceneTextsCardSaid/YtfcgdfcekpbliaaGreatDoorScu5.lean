/-
  Scenarios: the program's text.
-/
import Derived.Test.YtfcgdfcekpbliaaGreatDoorScu4
import Derived.Test.YtfcgdfcekpbliaaGreatDoorScr1
import Derived.Test.YtfcgdfcekpbliaaGreatDoorMi
import Derived.Test.YtfcgdfcekpbliaaGreatDoorMe
namespace Go.Proofs.YtfcgdfcekpbliaaGreatDoor
set_option linter.unusedSimpArgs false
set_option linter.unusedVariables false
set_option linter.unusedSectionVars false
open Go.ChangeShapes Go.WideShapes Go.ChangeAt Go.RowKit Go.Deep Go.Shelf

abbrev PcT : TypeId := 35
theorem quoteF_len3 (l : List UInt8) : (quoteF l).length ≤ 3 * l.length + 1 := by
  unfold quoteF
  split
  · simp
  · have := quB_len l l.length
    rw [List.take_length] at this
    omega
theorem words_short {x : St} (h : StOk x) : (wordsS x).length ≤ 63 ∧ ∀ y ∈ wordsS x, y.length ≤ 602 := by
  have hh := headW_len x.kd
  have he : ∀ b, (endW b).length ≤ 4 := by decide
  have hn : ∀ b, (nevW b).length ≤ 4 := by decide
  cases h with
  | headers s e fs h hf hl =>
    have l1 := itoa_len h.1 h.2
    refine ⟨?_, ?_⟩
    · have : ∀ m : List Fd, (m.flatMap fdW).length = 3 * m.length := fun m => by induction m <;> simp_all [fdW]; omega
      show (headW 1 :: Lib.itoa s :: endW e :: fs.flatMap fdW).length ≤ 63
      simp only [List.length_cons, this]
      omega
    · show ∀ y ∈ (headW 1 :: Lib.itoa s :: endW e :: fs.flatMap fdW), y.length ≤ 602
      intro y hy
      simp only [List.mem_cons, List.mem_flatMap] at hy
      rcases hy with rfl | rfl | rfl | ⟨f, hm, hy⟩
      · simp only at hh; omega
      · omega
      · have := he e; omega
      · have hr := hf f hm
        simp only [fdR, Bool.and_eq_true, decide_eq_true_eq] at hr
        unfold fdW at hy
        simp only [List.mem_cons, List.not_mem_nil, or_false] at hy
        rcases hy with rfl | rfl | rfl
        · have := hn f.never; omega
        · have := quoteF_len3 f.name; omega
        · have := quoteF_len3 f.value; omega
  | data s n e h h2 =>
    have l1 := itoa_len h.1 h.2
    have l2 := itoa_len h2.1 h2.2
    have l3 := he e
    refine ⟨by show ([headW 2, Lib.itoa s, Lib.itoa n, endW e]).length ≤ 63; simp, ?_⟩
    show ∀ y ∈ [headW 2, Lib.itoa s, Lib.itoa n, endW e], y.length ≤ 602
    simp only [List.forall_mem_cons, List.not_mem_nil, false_implies, implies_true, and_true]
    simp only at hh
    omega
  | set ss h hl =>
    refine ⟨?_, ?_⟩
    · have : ∀ m : List (Int × Int), (m.flatMap seW).length = 2 * m.length := fun m => by induction m <;> simp_all [seW]; omega
      show (headW 3 :: ss.flatMap seW).length ≤ 63
      simp only [List.length_cons, this]
      omega
    · show ∀ y ∈ (headW 3 :: ss.flatMap seW), y.length ≤ 602
      intro y hy
      simp only [List.mem_cons, List.mem_flatMap] at hy
      rcases hy with rfl | ⟨p, hm, hy⟩
      · simp only at hh; omega
      · obtain ⟨g1, g2⟩ := h p hm
        have l1 := itoa_len g1.1 g1.2
        have l2 := itoa_len g2.1 g2.2
        unfold seW at hy
        simp only [List.mem_cons, List.not_mem_nil, or_false] at hy
        rcases hy with rfl | rfl <;> omega
  | two k s n hk h h2 =>
    have l1 := itoa_len h.1 h.2
    have l2 := itoa_len h2.1 h2.2
    have e : wordsS ⟨k, s, n, false, [], []⟩ = [headW k, Lib.itoa s, Lib.itoa n] := by rcases hk with rfl | rfl <;> rfl
    rw [e]
    refine ⟨by simp, ?_⟩
    simp only [List.forall_mem_cons, List.not_mem_nil, false_implies, implies_true, and_true]
    simp only at hh
    omega
  | one k n hk h2 =>
    have l2 := itoa_len h2.1 h2.2
    have e : wordsS ⟨k, 0, n, false, [], []⟩ = [headW k, Lib.itoa n] := by rcases hk with rfl | rfl | rfl <;> rfl
    rw [e]
    refine ⟨by simp, ?_⟩
    simp only [List.forall_mem_cons, List.not_mem_nil, false_implies, implies_true, and_true]
    simp only at hh
    omega
/-- The words of the lines of a scenario. -/
def wordsScn (sd : Int) (xs : List St) (wk ws : Int) : List (List (List UInt8)) := ([[115, 99, 101, 110, 97, 114, 105, 111], sideF sd] :: xs.map wordsS) ++ [[[119, 114, 111, 110, 103], injN wk, Lib.itoa ws]]
theorem wordsScn_text (sd wk ws : Int) (xs : List St) : flatL ((wordsScn sd xs wk ws).map lineW) = textScn ⟨sd, xs, wk, ws⟩ := by
  unfold wordsScn textScn linesScn firstS lastS
  simp only [List.map_append, List.map_cons, List.map_map, List.map_nil, List.cons_append]
  rfl
theorem flatL_snoc (ls : List (List UInt8)) (l : List UInt8) : flatL (ls ++ [l]) = flatL ls ++ l ++ [10] := by
  unfold flatL
  simp
theorem wordsScn_short {sd wk ws : Int} {xs : List St} (h : ScnOk ⟨sd, xs, wk, ws⟩) : ∀ l ∈ wordsScn sd xs wk ws, l.length ≤ 100 ∧ ∀ y ∈ l, y.length ≤ 1000 := by
  obtain ⟨hsd, hxs, hwk, hws⟩ := h
  simp only at hsd hxs hwk hws
  intro l hl
  unfold wordsScn at hl
  simp only [List.mem_append, List.mem_cons, List.mem_map, List.not_mem_nil, or_false] at hl
  rcases hl with (rfl | ⟨x, hx, rfl⟩) | rfl
  · have : (sideF sd).length = 6 := by rcases hsd with rfl | rfl <;> decide
    refine ⟨by simp, ?_⟩
    simp only [List.forall_mem_cons, List.not_mem_nil, false_implies, implies_true, and_true, List.length_cons, List.length_nil]
    omega
  · have h := words_short (hxs x hx)
    exact ⟨by omega, fun y hy => by have := h.2 y hy; omega⟩
  · have h1 := injN_len wk
    have h2 := itoa_len hws.1 hws.2
    refine ⟨by simp, ?_⟩
    simp only [List.forall_mem_cons, List.not_mem_nil, false_implies, implies_true, and_true, List.length_cons, List.length_nil]
    omega
theorem flat_len {ls : List (List (List UInt8))} (h : ∀ l ∈ ls, l.length ≤ 100 ∧ ∀ y ∈ l, y.length ≤ 1000) : (flatL (ls.map lineW)).length ≤ 20000000 * ls.length := by
  induction ls with
  | nil => simp [flatL]
  | cons l r ih =>
    have ih := ih (fun m hm => h m (by simp [hm]))
    obtain ⟨h1, h2⟩ := h l (by simp)
    have h3 := join_le l (fun x hx => by have := h2 x hx; omega)
    have e : flatL ((l :: r).map lineW) = lineW l ++ [10] ++ flatL (r.map lineW) := by simp [flatL]
    have e2 : lineW l = Lib.join l [32] := rfl
    rw [e, e2]
    simp only [List.length_append, List.length_cons, List.length_nil]
    omega
set_option maxHeartbeats 16000000 in
set_option maxRecDepth 100000 in
theorem scene_Text_no (sd wk ws : Int) (xs : List St) (hr : rightScn ⟨sd, xs, wk, ws⟩ = false) (hsm : ∀ x ∈ xs, StSm x) (hl : xs.length ≤ 1000000) (a : Option Addr) (c : Nat) (w : World) (hS : SlSt w w w.heap.size a xs) :
    Calls Tryz.prog 7 #[.agg #[.int .i64 sd, .slice a xs.length c, .int .i64 wk, .int .i64 ws]] w fun e w' => e = .returned (.tuple #[bstr [], .int .i64 1]) ∧ ∃ j, w' = w.more j := by
  have HR : Hid (∀ W, Below w.heap.size w W → Calls Tryz.prog 16 #[.agg #[.int .i64 sd, .slice a xs.length c, .int .i64 wk, .int .i64 ws]] W fun e w' => e = .returned (.bool false) ∧ ∃ j, w' = W.more j) := fun W hW => by
    have := spec_Right sd wk ws xs hsm hl a c W (SlSt.low hS hW)
    rw [hr] at this
    exact this
  clear hr hsm hS
  generalize xs.length = n at hl HR ⊢
  go_enter Tryz.func7, Tryz.ntmps7
  go_wp2_with (go_at_call 16; (with_reducible refine (HR.out _ bel).mono ?_); rintro e w' ⟨rfl, j, rfl⟩)
  go_ret2
  exact ⟨rfl, Below.junk bel⟩
set_option maxHeartbeats 16000000 in
set_option maxRecDepth 100000 in
theorem scene_Text_yes (sd wk ws : Int) (xs : List St) (hr : rightScn ⟨sd, xs, wk, ws⟩ = true) (hsm : ∀ x ∈ xs, StSm x) (a : Option Addr) (c : Nat) (m : Int) (w : World) (hS : SlSt w w w.heap.size a xs) (hd : Hd w) (hE : EnvP w) (hM : w.cell? MaxA = some (.int .i64 m)) :
    Calls Tryz.prog 7 #[.agg #[.int .i64 sd, .slice a xs.length c, .int .i64 wk, .int .i64 ws]] w fun e w' => e = .returned (.tuple #[bstr (textScn ⟨sd, xs, wk, ws⟩), .int .i64 0]) ∧ ∃ j, w' = w.more j := by
  have hok := scn_ok hr
  have hl : xs.length ≤ 20 := by
    unfold rightScn at hr
    simp only [Bool.and_eq_true, decide_eq_true_eq] at hr
    exact hr.1
  have HR : Hid (∀ W, Below w.heap.size w W → Calls Tryz.prog 16 #[.agg #[.int .i64 sd, .slice a xs.length c, .int .i64 wk, .int .i64 ws]] W fun e w' => e = .returned (.bool true) ∧ ∃ j, w' = W.more j) := fun W hW => by
    have := spec_Right sd wk ws xs hsm (by omega) a c W (SlSt.low hS hW)
    rw [hr] at this
    exact this
  have HSD : Hid (∀ W, Calls Tryz.prog 17 #[.int .i64 sd] W fun e w' => e = .returned (bstr (sideF sd)) ∧ W = w') := fun W => record_Side sd W
  have HIN : Hid (∀ W, Below w.heap.size w W → Calls Tryz.prog 19 #[.int .i64 wk] W fun e w' => e = .returned (bstr (injN wk)) ∧ ∃ j, w' = W.more j) := fun W hW => inject_Name wk m W ((hW.cell (p := MaxA) (cell_lt hM)).trans hM)
  have HDT : Hid (∀ W, Below w.heap.size w W → Calls Tryz.prog 20 #[.int .i64 ws] W fun e w' => e = .returned (bstr (Lib.itoa ws)) ∧ ∃ j, w' = W.more j) := fun W hW => digits_Text0 ws hok.ws.1 hok.ws.2 W (hE.below hW)
  have HENV : Hid (∀ W, Below w.heap.size w W → Hd W ∧ EnvP W) := fun W hW => ⟨hd.below hW, hE.below hW⟩
  have HSX := Lib.hid hS
  have HOK := Lib.hid hok.xs
  have HTX := Lib.hid (wordsScn_text sd wk ws xs)
  have HSH := Lib.hid (wordsScn_short hok)
  have HLS : Hid (wordsScn sd xs wk ws = ([[115, 99, 101, 110, 97, 114, 105, 111], sideF sd] :: xs.map wordsS) ++ [[[119, 114, 111, 110, 103], injN wk, Lib.itoa ws]]) := rfl
  have HLEN : Hid ((wordsScn sd xs wk ws).length = xs.length + 2) := by show _ = _; rw [HLS.out]; simp
  generalize textScn ⟨sd, xs, wk, ws⟩ = TX at HTX ⊢
  generalize wordsScn sd xs wk ws = LS at HTX HSH HLS HLEN
  generalize sideF sd = SD at HSD HLS
  generalize injN wk = IN at HIN HLS
  generalize Lib.itoa ws = DT at HDT HLS
  clear hr hsm hok hS hd hE hM
  go_enter Tryz.func7, Tryz.ntmps7
  go_wp2_with fail
  obtain ⟨w1, hw1⟩ : ∃ w1, w1 = w.alloc (.cells #[.int .i64 sd, .slice a xs.length c, .int .i64 wk, .int .i64 ws] PcT) := ⟨_, rfl⟩
  rw [← hw1]
  have hbx : Blk w1 w.heap.size PcT #[.int .i64 sd, .slice a xs.length c, .int .i64 wk, .int .i64 ws] := by rw [hw1]; exact Blk.new _ _ _
  have HBW : Hid (Below w.heap.size w w1) := by show Below _ _ _; rw [hw1]; exact bel
  have HBX := Lib.hid hbx
  have hg1 := hbx.lt
  have b0 : w1.cell? ⟨w.heap.size, 0, none⟩ = some (.int .i64 sd) := hbx.cell 0
  have b1 : w1.cell? ⟨w.heap.size, 1, none⟩ = some (.slice a xs.length c) := hbx.cell 1
  clear hw1 hbx
  refine (HR.out w1 HBW.out).mono ?_
  rintro e w' ⟨rfl, j, rfl⟩
  go_wp2_with (go_at_call 17; (with_reducible refine (HSD.out _).mono ?_); rintro e w' ⟨rfl, rfl⟩)
  go_loopg [4, 21] xs.length (fun g v i wr => ∃ k : Nat, k + g = xs.length ∧ i = .int .i64 k ∧ OwnL w1.heap.size wr v ([[115, 99, 101, 110, 97, 114, 105, 111], SD] :: (xs.take k).map wordsS) ∧ Below w1.heap.size w1 wr)
  case atStart => exact ⟨0, by omega, rfl, OwnL.of_one blk (OwnX.of_lit (n := 2) (l := [[115, 99, 101, 110, 97, 114, 105, 111], SD]) (show Blk _ _ _ #[bstr [115, 99, 101, 110, 97, 114, 105, 111], bstr SD] from blk) rfl (Nat.zero_le _) (by omega)) (by omega), bel⟩
  case round =>
    obtain ⟨k, hkg, rfl, ho, hb⟩ := hrel
    have HK := Lib.hid hkg
    have HB := Lib.hid hb
    have HBB : Hid (Below w.heap.size w wr) := HBW.out.trans (hb.mono HBW.out.size)
    have hzr := hb.size
    clear hkg
    by_cases hlt : k < xs.length
    · obtain ⟨b, off, fa, fc, sa, sc, ha, hbb, c0, c1, c2, c3, c4, c5, hF, hSe⟩ := SlR.atSt HSX.out hlt
      subst ha
      have d0 := (HBB.out.cell (p := ⟨b, off + k * 6, none⟩) hbb).trans c0
      have d1 := (HBB.out.cell (p := ⟨b, off + k * 6 + 1, none⟩) hbb).trans c1
      have d2 := (HBB.out.cell (p := ⟨b, off + k * 6 + 2, none⟩) hbb).trans c2
      have d3 := (HBB.out.cell (p := ⟨b, off + k * 6 + 3, none⟩) hbb).trans c3
      have d4 := (HBB.out.cell (p := ⟨b, off + k * 6 + 4, none⟩) hbb).trans c4
      have d5 := (HBB.out.cell (p := ⟨b, off + k * 6 + 5, none⟩) hbb).trans c5
      have hbz : b < wr.heap.size := Nat.lt_of_lt_of_le hbb HBB.out.size
      have hkl : (k : Int) < (xs.length : Int) := by omega
      have hxok := HOK.out _ (List.getElem_mem hlt)
      have HST : Hid (∀ W, Below w.heap.size w W → Calls Tryz.prog 18 #[.agg #[.int .i64 xs[k].kd, .int .i64 xs[k].sm, .int .i64 xs[k].nn, .bool xs[k].fin, .slice fa xs[k].fs.length fc, .slice sa xs[k].ss.length sc]] W (WdsP (wordsS xs[k]) W)) := fun W hW =>
        scene_step xs[k] hxok fa sa fc sc W (HENV.out W hW).1 (HENV.out W hW).2 ((hF.below hW (Nat.le_refl _)).mono hW.size (fun _ _ _ h => h)) ((hSe.below hW (Nat.le_refl _)).mono hW.size (fun _ _ _ h => h))
      have HU : Hid ([[115, 99, 101, 110, 97, 114, 105, 111], SD] :: (xs.take (k + 1)).map wordsS = ([[115, 99, 101, 110, 97, 114, 105, 111], SD] :: (xs.take k).map wordsS) ++ [wordsS xs[k]]) := by
        show _ = _
        rw [List.take_succ_eq_append_getElem hlt, List.map_append]
        rfl
      have hll : ([[115, 99, 101, 110, 97, 114, 105, 111], SD] :: (xs.take k).map wordsS).length ≤ 100 := by simp; omega
      generalize [[115, 99, 101, 110, 97, 114, 105, 111], SD] :: (xs.take k).map wordsS = l at ho HU hll
      generalize wordsS xs[k] = nw at HU HST
      generalize xs[k].fs.length = nf at HST d4
      generalize xs[k].ss.length = ns at HST d5
      generalize xs[k].kd = y0 at HST d0
      generalize xs[k].sm = y1 at HST d1
      generalize xs[k].nn = y2 at HST d2
      generalize xs[k].fin = y3 at HST d3
      have HO := Lib.hid ho
      clear c0 c1 c2 c3 c4 c5 hF hSe hxok ho hb b0 b1
      go_wp2_with fail
      refine (HST.out _ (HBB.out.trans (Below.mono (B := wr.heap.size) bel HBB.out.size))).mono ?_
      rintro e w3 ⟨u, rfl, hou, hb3⟩
      have hb3w : Below wr.heap.size wr w3 := Below.trans bel (hb3.mono (by simp))
      have HO3 := Lib.hid (HO.out.below hb3w (Nat.le_refl _))
      have HU3 : Hid (OwnX 0 w3 u nw) := hou.lower (Nat.zero_le _)
      have HB3 := Lib.hid (HB.out.trans (hb3w.mono hzr))
      have hz3 := hb3w.size
      obtain ⟨au, cu, rfl, -⟩ := hou.cap
      clear hb3 hb3w hou HO

      go_wp2_with (at_builtin; refine app_line (.tmp 25) (.tmp 28) rfl rfl rfl (HO3.out.below (C := w3.heap.size) bel (Nat.le_refl _)) (HU3.out.below (C := w3.heap.size) bel (Nat.le_refl _)) rfl (Blk.at_ _ _ _ (by simp)) (by omega) (by simp only [World.size_alloc]; omega) ?_; intro v' w4 hown hbw)
      go_roundg (xs.length - (k + 1))
      case measure => have := HK.out; omega
      case rel => exact ⟨k + 1, by have := HK.out; omega, by go_num, by rw [HU.out]; exact hown, HB3.out.trans (Below.trans (Below.mono (B := w3.heap.size) bel (by omega)) hbw)⟩
    · obtain rfl : k = xs.length := by have := HK.out; omega
      rw [List.take_length] at ho
      have hkl : ¬ (xs.length : Int) < (xs.length : Int) := by omega
      have HO := Lib.hid ho
      have hll : ([[115, 99, 101, 110, 97, 114, 105, 111], SD] :: xs.map wordsS).length = xs.length + 1 := by simp
      generalize [[115, 99, 101, 110, 97, 114, 105, 111], SD] :: xs.map wordsS = l at HO HLS hll
      clear ho hb HSX HOK b0 b1
      go_wp2_with fail
      refine gb_start w1.heap.size (by kernel_rfl) ?_
      obtain ⟨wd, hwd⟩ : ∃ wd, wd = wr.drew := ⟨_, rfl⟩
      rw [← hwd]
      have HOD : Hid (OwnL w1.heap.size wd u4 l) := by show OwnL _ _ _ _; rw [hwd]; exact HO.out.drew
      have hbd : Blk wd w.heap.size PcT #[.int .i64 sd, .slice a xs.length c, .int .i64 wk, .int .i64 ws] := by rw [hwd]; exact (HBX.out.below HB.out hg1).drew
      have HBD : Hid (Below w1.heap.size w1 wd) := by show Below _ _ _; rw [hwd]; exact HB.out.drew
      have HBDD : Hid (Below w.heap.size w wd) := HBW.out.trans (HBD.out.mono HBW.out.size)
      have b2 : wd.cell? ⟨w.heap.size, 2, none⟩ = some (.int .i64 wk) := hbd.cell 2
      have b3 : wd.cell? ⟨w.heap.size, 3, none⟩ = some (.int .i64 ws) := hbd.cell 3
      have hzd := HBD.out.size
      have hgd := hbd.lt
      clear hwd hbd HO
      refine tk 0 ?_
      refine tk 1 ?_
      refine tk 2 ?_
      refine tk 3 ?_
      refine tk 5 ?_
      refine tk 6 ?_
      refine tk 7 ?_
      refine gb_step 4 (by kernel_rfl) rfl (fun K hK => ?_)
      go_simp
      go_wp2_with fail
      refine (HIN.out _ HBDD.out).mono ?_
      rintro e w' ⟨rfl, j1, rfl⟩
      go_wp2_with fail
      refine hK.out _ _ (gbb (B := wd.heap.size) (by exact hzd)) ?_
      clear hK K
      try simp only [Act.put, nfa, nfb, nfc, nfd, List.set_cons_zero, List.set_cons_succ]
      refine gb_step 8 (by kernel_rfl) rfl (fun K hK => ?_)
      go_simp
      go_wp2_with fail
      refine (HDT.out _ (HBDD.out.trans (Below.mono (B := wd.heap.size) bel HBDD.out.size))).mono ?_
      rintro e w' ⟨rfl, j2, rfl⟩
      go_wp2_with fail
      refine hK.out _ _ (gbb (B := (wd.more j1).heap.size) (by simp only [World.size_more]; omega)) ?_
      clear hK K
      try simp only [Act.put, nfa, nfb, nfc, nfd, List.set_cons_zero, List.set_cons_succ]
      refine gb_step 9 (by kernel_rfl) rfl (fun K hK => ?_)
      go_simp
      go_wp2_with fail
      refine hK.out _ _ (gbb (B := (wd.more ⟨j1.heap ++ j2.heap, j2.drawn⟩).heap.size) (by simp only [World.size_more]; omega)) ?_
      clear hK K
      try simp only [Act.put, nfa, nfb, nfc, nfd, List.set_cons_zero, List.set_cons_succ]
      refine gb_step 10 (by kernel_rfl) rfl (fun K hK => ?_)
      go_simp
      go_wp2_with fail
      refine hK.out _ _ (gbb (B := ((wd.more ⟨j1.heap ++ j2.heap, j2.drawn⟩).alloc (.cells #[.string ⟨#[119, 114, 111, 110, 103]⟩, bstr IN, bstr DT] 9)).heap.size) (by simp only [World.size_more, World.size_alloc]; omega)) ?_
      clear hK K
      try simp only [Act.put, nfa, nfb, nfc, nfd, List.set_cons_zero, List.set_cons_succ]
      refine gb_step 11 (by kernel_rfl) rfl (fun K hK => ?_)
      refine step_line (.tmp 31) (.tmp 41) (u := .slice (some ⟨wd.heap.size + (j1.heap.size + j2.heap.size), 0, none⟩) 3 3) rfl rfl rfl (HOD.out.below (C := wd.heap.size) bel (Nat.le_refl _)) (OwnX.of_lit (n := 3) (l := [[119, 114, 111, 110, 103], IN, DT]) (show Blk _ _ _ #[.string ⟨#[119, 114, 111, 110, 103]⟩, bstr IN, bstr DT] from blk) rfl (Nat.zero_le _) (by omega)) rfl blk (by omega) (by simp only [World.size_alloc, World.size_more]; omega) ?_
      intro v4 w4 ho4 hb4
      rw [← HLS.out] at ho4
      obtain ⟨aL, cL, rfl, hat⟩ := ho4.at_
      have HAT := Lib.hid hat
      have HB4 : Hid (Below w.heap.size w w4) := HBW.out.trans ((HBD.out.trans ((Below.mono (B := wd.heap.size) bel hzd).trans hb4)).mono HBW.out.size)
      refine hK.out _ _ (show Below _ _ _ from hb4) ?_
      clear hK K ho4 hb4 hat
      try simp only [Act.put, List.getElem_toArray, List.getElem_cons_succ, List.getElem_cons_zero, List.setIfInBounds_toArray, List.set_cons_zero, List.set_cons_succ]
      refine tk 12 ?_
      refine wpAnyH_done (by kernel_rfl) ?_ _
      clear HOD HBDD HBD HBX HB HBB HIN HDT HSD HR b2 b3 hgd hzd hzr hll
      have hLl : LS.length ≤ 22 := by have := HLEN.out; omega
      go_wp2_with fail
      go_loopg [45] LS.length (fun g i wr => ∃ k : Nat, k + g = LS.length ∧ i = .int .i64 k ∧ Below w4.heap.size w4 wr ∧ Lib.IsBuilder BT BytT w4.heap.size w4.heap.size (Lib.byteCells (flatL ((LS.take k).map lineW))) wr)
      case atStart => exact ⟨0, by omega, rfl, (Below.refl _ _).alloc (Nat.le_refl _) _, Lib.fresh_isBuilder BT BytT w4⟩
      case round =>
        obtain ⟨q, hqg, rfl, hb, hbd⟩ := hrel
        have HQ := Lib.hid hqg
        have HBR := Lib.hid hb
        have HBU := Lib.hid hbd
        have hzr := hb.size
        clear hqg hb hbd
        by_cases hql : q < LS.length
        · obtain ⟨b, u, hab, hblt, hcell, hux⟩ := HAT.out q hql
          obtain ⟨hs1, hs2⟩ := HSH.out _ (List.getElem_mem hql)
          have hac : (flatL ((LS.take q).map lineW)).length ≤ 20000000 * 22 := by
            have := flat_len (ls := LS.take q) (fun l hl => HSH.out l (List.mem_of_mem_take hl))
            rw [List.length_take] at this
            omega
          have HU : Hid (flatL ((LS.take (q + 1)).map lineW) = flatL ((LS.take q).map lineW) ++ lineW LS[q] ++ [10]) := by
            show _ = _
            rw [List.take_succ_eq_append_getElem hql, List.map_append]
            exact flatL_snoc _ _
          obtain ⟨au, cu, rfl, hcu, hsu⟩ := (hux.below HBR.out (Nat.le_refl _)).full (fun y hy => by have := hs2 y hy; unfold maxLen; omega)
          have hjl := join_le LS[q] (fun y hy => by have := hs2 y hy; omega)
          have HJ := Lib.hid (strings_join au cu LS[q] wr (by omega) (fun y hy => by have := hs2 y hy; omega) hcu hsu)
          have hjl2 : (lineW LS[q]).length ≤ 100001 * 100 := by unfold lineW; omega
          have d0 := (HBR.out.cell (p := ⟨b, q, none⟩) hblt).trans hcell
          have hbz : b < wr.heap.size := by omega
          have hkl2 : (q : Int) < (LS.length : Int) := by omega
          change Hid (Calls _ _ _ _ fun e w' => e = .returned (bstr (lineW LS[q])) ∧ _) at HJ
          generalize flatL ((LS.take q).map lineW) = ac at HU HBU hac
          generalize lineW LS[q] = tx at HU HJ hjl2
          generalize LS[q].length = nq at HJ d0
          clear hcell hux hs1 hs2 hjl hsu
          subst hab
          go_wp2_with fail
          refine HJ.out.mono ?_
          rintro e w5 ⟨rfl, hb5⟩
          have HB5 : Hid (Below w4.heap.size w4 w5) := HBR.out.trans (hb5.mono hzr)
          have hz5 := HB5.out.size
          have HU5 : Hid (Lib.IsBuilder BT BytT w4.heap.size w4.heap.size (Lib.byteCells ac) w5) := builder_below HBU.out hb5
          clear hb5 HJ HBU d0
          go_wp2_with fail
          refine (writeS w4.heap.size w4.heap.size ac tx w5 HU5.out (by omega) hz5).mono ?_
          rintro e w6 ⟨rfl, hu6, hb6⟩
          have HB6 : Hid (Below w4.heap.size w4 w6) := HB5.out.trans hb6
          have hz6 := HB6.out.size
          have HU6 := Lib.hid hu6
          clear hu6 hb6 HU5
          go_wp2_with fail
          refine (writeB w4.heap.size w4.heap.size (ac ++ tx) 10 w6 HU6.out (by simp only [List.length_append]; omega) hz6).mono ?_
          rintro e w7 ⟨rfl, hu7, hb7⟩
          rw [← HU.out] at hu7
          have HB7 : Hid (Below w4.heap.size w4 w7) := HB6.out.trans hb7
          have HU7 := Lib.hid hu7
          clear hu7 hb7 HU6
          go_wp2_with fail
          go_roundg (LS.length - (q + 1))
          case measure => have := HQ.out; omega
          case rel => exact ⟨q + 1, by have := HQ.out; omega, by go_num, HB7.out, HU7.out⟩
        · obtain rfl : q = LS.length := by have := HQ.out; omega
          have HU3 : Hid (Lib.IsBuilder BT BytT w4.heap.size w4.heap.size (Lib.byteCells TX) wr) := by
            have := HBU.out
            rw [List.take_length, HTX.out] at this
            exact this
          have hkl3 : ¬ (LS.length : Int) < (LS.length : Int) := by omega
          clear HBU HTX HAT HSH HLS
          go_wp2_with fail
          refine (Tryz.Builder_String_any w4.heap.size w4.heap.size TX wr HU3.out hzr).mono ?_
          rintro e w8 ⟨rfl, hb8⟩
          have HB8 := Lib.hid hb8
          clear hb8
          go_wp2_with fail
          go_ret2
          exact ⟨rfl, (HB4.out.trans ((HBR.out.trans HB8.out).mono HB4.out.size)).junk⟩
end Go.Proofs.YtfcgdfcekpbliaaGreatDoor
