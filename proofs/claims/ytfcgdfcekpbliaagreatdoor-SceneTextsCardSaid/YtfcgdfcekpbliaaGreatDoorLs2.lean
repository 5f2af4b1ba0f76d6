/-
  Scenarios: a scenario has a text, read again it is the scenario.
-/
import Derived.Test.YtfcgdfcekpbliaaGreatDoorLs1
import Derived.Test.YtfcgdfcekpbliaaGreatDoorSdo1
namespace Go.Proofs.YtfcgdfcekpbliaaGreatDoor
set_option linter.unusedSimpArgs false
set_option linter.unusedVariables false
set_option linter.unusedSectionVars false
open Go.ChangeShapes Go.WideShapes Go.ChangeAt Go.RowKit Go.Deep Go.Shelf

theorem join_leM (c : UInt8) (N : Nat) : ∀ l : List (List UInt8), (∀ x ∈ l, x.length ≤ N) → (Lib.join l [c]).length ≤ (N + 1) * l.length
  | [], _ => by simp [Lib.join_nil]
  | [a], h => by
    rw [Lib.join_one]
    have := h a (by simp)
    simp only [List.length_cons, List.length_nil]
    omega
  | a :: b :: r, h => by
    rw [join_two]
    have h1 := h a (by simp)
    have h2 := join_leM c N (b :: r) (fun x hx => h x (by simp only [List.mem_cons] at hx ⊢; exact .inr hx))
    rw [show (a :: b :: r).length = (b :: r).length + 1 from rfl, Nat.mul_succ]
    simp only [List.length_append, List.length_cons, List.length_nil] at h2 ⊢
    omega
theorem wordsScn_tight {sd wk ws : Int} {xs : List St} (h : ScnOk ⟨sd, xs, wk, ws⟩) : ∀ l ∈ wordsScn sd xs wk ws, l.length ≤ 63 ∧ ∀ y ∈ l, y.length ≤ 602 := by
  obtain ⟨hsd, hxs, hwk, hws⟩ := h
  simp only at hsd hxs hwk hws
  intro l hl
  unfold wordsScn at hl
  simp only [List.mem_append, List.mem_cons, List.mem_map, List.not_mem_nil, or_false] at hl
  rcases hl with (rfl | ⟨x, hx, rfl⟩) | rfl
  · have : (sideF sd).length = 6 := by rcases hsd with rfl | rfl <;> decide
    refine ⟨by simp, ?_⟩
    simp only [List.forall_mem_cons, List.not_mem_nil, false_implies, implies_true, and_true, List.length_cons, List.length_nil]
    omega
  · exact words_short (hxs x hx)
  · have h1 := injN_len wk
    have h2 := itoa_len hws.1 hws.2
    refine ⟨by simp, ?_⟩
    simp only [List.forall_mem_cons, List.not_mem_nil, false_implies, implies_true, and_true, List.length_cons, List.length_nil]
    omega
theorem flat_tight (N : Nat) : ∀ ls : List (List UInt8), (∀ l ∈ ls, l.length ≤ N) → (flatL ls).length ≤ (N + 1) * ls.length
  | [], _ => by simp [flatL]
  | a :: r, h => by
    rw [flatL_cons]
    have h1 := h a (by simp)
    have h2 := flat_tight N r (fun x hx => h x (by simp [hx]))
    rw [List.length_cons, Nat.mul_succ]
    simp only [List.length_append, List.length_cons]
    omega
theorem textScn_len {s : Scn} (h : rightScn s = true) : (textScn s).length ≤ 900000 ∧ ∀ x ∈ (linesF (textScn s)).1, x.length ≤ 90000 := by
  have hn : s.xs.length ≤ 20 := by
    unfold rightScn at h
    simp only [Bool.and_eq_true, decide_eq_true_eq] at h
    exact h.1
  obtain ⟨sd, xs, wk, ws⟩ := s
  simp only at hn
  have ho := scn_ok h
  have hw := wordsScn_tight ho
  have hl : ∀ x ∈ (wordsScn sd xs wk ws).map lineW, x.length ≤ 37989 := by
    intro x hx
    rw [List.mem_map] at hx
    obtain ⟨l, hl, rfl⟩ := hx
    have h0 := join_leM 32 602 l (hw l hl).2
    have h1 := (hw l hl).1
    unfold lineW
    omega
  have e : linesScn ⟨sd, xs, wk, ws⟩ = (wordsScn sd xs wk ws).map lineW := by
    unfold wordsScn linesScn firstS lastS
    simp only [List.map_append, List.map_cons, List.map_map, List.map_nil, List.cons_append]
    rfl
  refine ⟨?_, ?_⟩
  · have h0 := flat_tight 37989 _ hl
    rw [wordsScn_text] at h0
    have h1 : ((wordsScn sd xs wk ws).map lineW).length = xs.length + 2 := by simp [wordsScn]
    rw [h1] at h0
    omega
  · rw [lines_scn ho]
    intro x hx
    have := hl x (by rw [← e]; exact hx)
    omega
set_option maxHeartbeats 16000000 in
set_option maxRecDepth 100000 in
theorem sceneTexts_law (sd wk ws : Int) (xs : List St) (a : Option Addr) (c : Nat) (w : World) (hE : Env w) (hd : Hd w) (hS : SlSt w w w.heap.size a xs) :
    Calls Tryz.prog 3 #[.agg #[.int .i64 sd, .slice a xs.length c, .int .i64 wk, .int .i64 ws]] w (AlvP w) := by
  obtain ⟨m, hM⟩ := hE.max
  have HAL : Hid (∀ W, Below w.heap.size w W → Calls Tryz.prog 6 #[] W (AlvP W)) := fun W hW => law51_alive W (hE.below hW) (hd.below hW)
  have HEE : Hid (∀ W, Below w.heap.size w W → Env W ∧ Hd W ∧ W.cell? MaxA = some (.int .i64 m)) := fun W hW => ⟨hE.below hW, hd.below hW, (hW.cell (p := MaxA) (cell_lt hM)).trans hM⟩
  have HS := Lib.hid hS
  clear hE hd hS hM
  go_enter Tryz.func3, Tryz.ntmps3
  go_wp2_with fail
  obtain ⟨w1, hw1⟩ : ∃ w1, w1 = w.alloc (.cells #[.int .i64 sd, .slice a xs.length c, .int .i64 wk, .int .i64 ws] QdT) := ⟨_, rfl⟩
  rw [← hw1]
  have hk1 : Blk w1 w.heap.size QdT #[.int .i64 sd, .slice a xs.length c, .int .i64 wk, .int .i64 ws] := by rw [hw1]; exact Blk.new _ _ _
  have HB1 : Hid (Below w.heap.size w w1) := by show Below _ _ _; rw [hw1]; exact bel
  have HK1 := Lib.hid hk1
  clear hw1 hk1
  refine (ref45_Large sd wk ws xs a c w1 (SlSt.low HS.out HB1.out)).mono ?_
  rintro e w2 ⟨⟨r, rfl, hr⟩, j2, hj2⟩
  have hb2 : Below w1.heap.size w1 w2 := by subst hj2; exact bel
  have HB2 : Hid (Below w.heap.size w w2) := HB1.out.trans (hb2.mono HB1.out.size)
  have HK2 := Lib.hid (HK1.out.below hb2 HK1.out.lt)
  clear hj2 hb2
  cases r
  case true =>
    clear hr
    go_wp2_with fail
    refine (HAL.out _ HB2.out).mono ?_
    rintro e w9 ⟨rfl, j9, rfl⟩
    go_wp2_with fail
    go_ret
    exact ⟨rfl, Below.junk (HB2.out.trans (Below.mono (B := w2.heap.size) bel HB2.out.size))⟩
  have HSL : Hid (SmallS xs) := hr rfl
  have HSM : Hid (∀ x ∈ xs, StSm x) := fun x hx => by
    have h := HSL.out.2 x hx
    exact ⟨by omega, by omega⟩
  have hln := HSL.out.1
  have HLN : Hid (xs.length ≤ 1000000) := Nat.le_trans hln (by omega)
  clear hr hln
  have hl2 := HK2.out.lt
  have b0 : w2.cell? ⟨w.heap.size, 0, none⟩ = some (.int .i64 sd) := HK2.out.cell 0
  have b1 : w2.cell? ⟨w.heap.size, 1, none⟩ = some (.slice a xs.length c) := HK2.out.cell 1
  have b2 : w2.cell? ⟨w.heap.size, 2, none⟩ = some (.int .i64 wk) := HK2.out.cell 2
  have b3 : w2.cell? ⟨w.heap.size, 3, none⟩ = some (.int .i64 ws) := HK2.out.cell 3
  go_wp2_with fail
  refine (law45_Own sd wk ws xs HLN.out a c w2 (SlSt.low HS.out HB2.out)).mono ?_
  rintro e w3 ⟨a3, c3, rfl, hs3, hb3⟩
  clear hl2 b0 b1 b2 b3
  have HS3 := Lib.hid hs3
  have HB3 : Hid (Below w.heap.size w w3) := HB2.out.trans (hb3.mono HB2.out.size)
  have HK3 := Lib.hid (HK2.out.below hb3 HK2.out.lt)
  clear hs3 hb3
  have hl3 := HK3.out.lt
  have b0 : w3.cell? ⟨w.heap.size, 0, none⟩ = some (.int .i64 sd) := HK3.out.cell 0
  have b1 : w3.cell? ⟨w.heap.size, 1, none⟩ = some (.slice a xs.length c) := HK3.out.cell 1
  have b2 : w3.cell? ⟨w.heap.size, 2, none⟩ = some (.int .i64 wk) := HK3.out.cell 2
  have b3 : w3.cell? ⟨w.heap.size, 3, none⟩ = some (.int .i64 ws) := HK3.out.cell 3
  obtain ⟨R, hR⟩ : ∃ R, R = rightScn ⟨sd, xs, wk, ws⟩ := ⟨_, rfl⟩
  have HRG : Hid (∀ W, Below w.heap.size w W → Calls Tryz.prog 9 #[.agg #[.int .i64 sd, .slice a xs.length c, .int .i64 wk, .int .i64 ws]] W fun e w' => e = .returned (.bool R) ∧ ∃ j, w' = W.more j) := fun W hW => by
    rw [hR]
    exact ref45_Right sd wk ws xs HSM.out HLN.out a c W (SlSt.low HS.out hW)
  have HR := Lib.hid hR
  clear hR
  cases R
  case false =>
    go_wp2_with fail
    refine (scene_Text_no sd wk ws xs HR.out.symm HSM.out HLN.out a3 c3 w3 HS3.out).mono ?_
    rintro e w4 ⟨rfl, j4, rfl⟩
    go_wp2_with fail
    refine (HRG.out _ (HB3.out.trans (Below.mono (B := w3.heap.size) bel HB3.out.size))).mono ?_
    rintro e w5 ⟨rfl, j5, rfl⟩
    go_wp2_with fail
    refine (HAL.out _ (HB3.out.trans (Below.mono (B := w3.heap.size) bel HB3.out.size))).mono ?_
    rintro e w9 ⟨rfl, j9, rfl⟩
    go_wp2_with fail
    go_ret
    exact ⟨rfl, Below.junk (HB3.out.trans (Below.mono (B := w3.heap.size) bel HB3.out.size))⟩
  obtain ⟨TX, hTX⟩ : ∃ TX, TX = textScn ⟨sd, xs, wk, ws⟩ := ⟨_, rfl⟩
  have HPT : Hid (∀ W a c, Below w.heap.size w W → SlSt W W W.heap.size a xs → Calls Tryz.prog 7 #[.agg #[.int .i64 sd, .slice a xs.length c, .int .i64 wk, .int .i64 ws]] W fun e w' => e = .returned (.tuple #[bstr TX, .int .i64 0]) ∧ ∃ j, w' = W.more j) := fun W a c hW hS => by
    rw [hTX]
    exact scene_Text_yes sd wk ws xs HR.out.symm HSM.out a c m W hS (HEE.out W hW).2.1 (HEE.out W hW).1.pow (HEE.out W hW).2.2
  have HRT : Hid (∀ W a c, SlSt W W W.heap.size a xs → Calls Tryz.prog 11 #[.agg #[.int .i64 sd, .slice a xs.length c, .int .i64 wk, .int .i64 ws]] W fun e w' => e = .returned (bstr TX) ∧ ∃ j, w' = W.more j) := fun W a c hS => by
    rw [hTX]
    exact ref51_Text sd wk ws xs (scn_ok HR.out.symm) (by have := HSL.out.1; omega) a c W hS
  have HPR : Hid (∀ W, Below w.heap.size w W → Calls Tryz.prog 10 #[bstr TX] W (RdQ ⟨sd, xs, wk, ws⟩ (.int .i64 0) W)) := fun W hW => by
    rw [hTX]
    have h := scene_Read _ (textScn_len HR.out.symm).1 (textScn_len HR.out.symm).2 W (HEE.out W hW).1 (HEE.out W hW).2.1
    rw [readScn_text HR.out.symm] at h
    refine h.mono ?_
    rintro e w' ⟨a, c, h1, h2, _, h3⟩
    exact ⟨a, c, h1, h2, h3⟩
  clear hTX
  go_wp2_with fail
  refine (HPT.out w3 a3 c3 HB3.out HS3.out).mono ?_
  rintro e w4 ⟨rfl, j4, rfl⟩
  go_wp2_with fail
  refine (HRG.out _ (HB3.out.trans (Below.mono (B := w3.heap.size) bel HB3.out.size))).mono ?_
  rintro e w5 ⟨rfl, j5, rfl⟩
  go_wp2_with fail
  refine (HPR.out _ (HB3.out.trans (Below.mono (B := w3.heap.size) bel HB3.out.size))).mono ?_
  rintro e w6 ⟨a6, c6, rfl, hs6, hb6⟩
  have hb6' : Below w3.heap.size w3 w6 := Below.trans (Below.mono (B := w3.heap.size) bel (Nat.le_refl _)) (hb6.mono (by simp))
  have HS6 := Lib.hid hs6
  have HB6 : Hid (Below w.heap.size w w6) := HB3.out.trans (hb6'.mono HB3.out.size)
  have HK6 := Lib.hid (HK3.out.below hb6' HK3.out.lt)
  clear hs6 hb6 hb6' hl3 b0 b1 b2 b3
  have hl6 := HK6.out.lt
  go_wp2_with fail
  refine gb_start (w6.heap.size + 1) (by kernel_rfl) ?_
  obtain ⟨wd, hwd⟩ : ∃ wd, wd = (w6.alloc (.cells #[.int .i64 sd, .slice a6 xs.length c6, .int .i64 wk, .int .i64 ws] PdT)).drew := ⟨_, rfl⟩
  rw [← hwd]
  have hwz : wd.heap.size = w6.heap.size + 1 := by rw [hwd]; simp
  have hka : Blk wd w.heap.size QdT #[.int .i64 sd, .slice a xs.length c, .int .i64 wk, .int .i64 ws] := by rw [hwd]; exact (HK6.out.alloc _).drew
  have hkb : Blk wd w6.heap.size PdT #[.int .i64 sd, .slice a6 xs.length c6, .int .i64 wk, .int .i64 ws] := by rw [hwd]; exact (Blk.new _ _ _).drew
  have HBw : Hid (Below w6.heap.size w6 wd) := by show Below _ _ _; rw [hwd]; exact bel
  have HBa : Hid (Below w.heap.size w wd) := HB6.out.trans (HBw.out.mono HB6.out.size)
  have HSa : Hid (SlSt wd wd wd.heap.size a xs) := SlSt.low HS.out HBa.out
  have HSb : Hid (SlSt wd wd wd.heap.size a6 xs) := SlSt.low HS6.out HBw.out
  have HWZ := Lib.hid hwz
  have HKA := Lib.hid hka
  have HKB := Lib.hid hkb
  clear hwd hwz hka hkb
  refine tk 0 ?_
  refine gb_load 1 rfl (by kernel_rfl) (by kernel_rfl) (by kernel_rfl) 26 (.tmp 1) #[.int .i64 sd, .slice a xs.length c, .int .i64 wk, .int .i64 ws] (fun _ _ _ h => h) (by first | kernel_rfl | rfl) rfl w.heap.size rfl HKA.out (by omega) _ Tryz.underlying26 rfl (by kernel_rfl) ?_
  try simp only [Act.put, List.getElem_toArray, List.getElem_cons_succ, List.getElem_cons_zero, List.setIfInBounds_toArray, List.set_cons_zero, List.set_cons_succ]
  refine gb_step 2 (by kernel_rfl) rfl (fun K hK => ?_)
  go_simp
  go_wp2_with fail
  refine (HRT.out wd a c HSa.out).mono ?_
  rintro e w7 ⟨rfl, j7, hj7⟩
  have HB7 : Hid (Below wd.heap.size wd w7) := by show Below _ _ _; rw [hj7]; exact bel
  clear hj7
  go_wp2_with fail
  refine hK.out _ _ (show Below (w6.heap.size + 1) wd w7 from HB7.out.mono (Nat.le_of_eq HWZ.out.symm)) ?_
  clear hK K
  try simp only [Act.put, List.getElem_toArray, List.getElem_cons_succ, List.getElem_cons_zero, List.setIfInBounds_toArray, List.set_cons_zero, List.set_cons_succ]
  refine tk 3 ?_
  refine tk 4 ?_
  refine tk 5 ?_
  refine tk 6 ?_
  refine tk 7 ?_
  refine tk 8 ?_
  refine tk 9 ?_
  refine tk 10 ?_
  refine tk 11 ?_
  refine tk 12 ?_
  have HK7 : Hid (Blk w7 w.heap.size QdT #[.int .i64 sd, .slice a xs.length c, .int .i64 wk, .int .i64 ws]) := HKA.out.below HB7.out (by have := HWZ.out; omega)
  have HQ7 : Hid (Blk w7 w6.heap.size PdT #[.int .i64 sd, .slice a6 xs.length c6, .int .i64 wk, .int .i64 ws]) := HKB.out.below HB7.out (by have := HWZ.out; omega)
  refine gb_load 13 rfl (by kernel_rfl) (by kernel_rfl) (by kernel_rfl) 35 (.tmp 5) #[.int .i64 sd, .slice a6 xs.length c6, .int .i64 wk, .int .i64 ws] (fun _ _ _ h => h) (by first | kernel_rfl | rfl) rfl w6.heap.size rfl HQ7.out (by omega) _ Tryz.underlying35 rfl (by kernel_rfl) ?_
  try simp only [Act.put, List.getElem_toArray, List.getElem_cons_succ, List.getElem_cons_zero, List.setIfInBounds_toArray, List.set_cons_zero, List.set_cons_succ]
  refine gb_load 15 rfl (by kernel_rfl) (by kernel_rfl) (by kernel_rfl) 26 (.tmp 1) #[.int .i64 sd, .slice a xs.length c, .int .i64 wk, .int .i64 ws] (fun _ _ _ h => h) (by first | kernel_rfl | rfl) rfl w.heap.size rfl HK7.out (by omega) _ Tryz.underlying26 rfl (by kernel_rfl) ?_
  try simp only [Act.put, List.getElem_toArray, List.getElem_cons_succ, List.getElem_cons_zero, List.setIfInBounds_toArray, List.set_cons_zero, List.set_cons_succ]
  refine gb_step 14 (by kernel_rfl) rfl (fun K hK => ?_)
  go_simp
  go_wp2_with fail
  refine (law45_Doc sd wk ws xs HLN.out a6 c6 w7 (SlSt.low HSb.out HB7.out)).mono ?_
  rintro e w8 ⟨a8, c8, rfl, hs8, hb8⟩
  have HS8 := Lib.hid hs8
  have HB8 := Lib.hid hb8
  go_wp2_with fail
  refine hK.out _ _ (show Below (w6.heap.size + 1) w7 w8 from HB8.out.mono (by have := HB7.out.size; have := HWZ.out; omega)) ?_
  clear hK K hs8 hb8
  try simp only [Act.put, List.getElem_toArray, List.getElem_cons_succ, List.getElem_cons_zero, List.setIfInBounds_toArray, List.set_cons_zero, List.set_cons_succ]
  refine gb_step 16 (by kernel_rfl) rfl (fun K hK => ?_)
  go_simp
  go_wp2_with fail
  refine (ref45_Same sd wk ws sd wk ws xs xs HSM.out HSM.out HLN.out a8 a c8 c w8 HS8.out (SlSt.low (SlSt.low HSa.out HB7.out) HB8.out)).mono ?_
  rintro e w9 ⟨⟨r, rfl, hr⟩, j9, hj9⟩
  obtain rfl : r = true := hr.2 rfl
  have hb9 : Below w8.heap.size w8 w9 := by rw [hj9]; exact bel
  clear hj9
  have HZ9 : Hid (w6.heap.size + 1 ≤ w9.heap.size) := by
    show _ ≤ _
    have := HB7.out.size
    have := HB8.out.size
    have := HWZ.out
    have := hb9.size
    omega
  have HB9 : Hid (Below w.heap.size w w9) := HBa.out.trans ((HB7.out.trans ((HB8.out.trans (hb9.mono HB8.out.size)).mono HB7.out.size)).mono HBa.out.size)
  go_wp2_with fail
  refine hK.out _ _ (show Below (w6.heap.size + 1) w8 w9 from hb9.mono (by have := HB7.out.size; have := HB8.out.size; have := HWZ.out; omega)) ?_
  clear hK K hr hb9
  try simp only [Act.put, List.getElem_toArray, List.getElem_cons_succ, List.getElem_cons_zero, List.setIfInBounds_toArray, List.set_cons_zero, List.set_cons_succ]
  refine tk 17 ?_
  refine tk 18 ?_
  refine gb_step 19 (by kernel_rfl) rfl (fun K hK => ?_)
  go_simp
  go_wp2_with fail
  refine (HAL.out _ HB9.out).mono ?_
  rintro e wa ⟨rfl, ja, hja⟩
  have hba : Below w9.heap.size w9 wa := by rw [hja]; exact bel
  clear hja
  have HBA : Hid (Below w.heap.size w wa) := HB9.out.trans (hba.mono HB9.out.size)
  go_wp2_with fail
  refine hK.out _ _ (show Below (w6.heap.size + 1) w9 wa from hba.mono HZ9.out) ?_
  clear hK K hba
  try simp only [Act.put, List.getElem_toArray, List.getElem_cons_succ, List.getElem_cons_zero, List.setIfInBounds_toArray, List.set_cons_zero, List.set_cons_succ]
  refine tk 20 ?_
  refine tk 21 ?_
  refine wpAnyH_done (by kernel_rfl) ?_ _
  go_wp2_with fail
  go_ret
  exact ⟨rfl, Below.junk HBA.out⟩
end Go.Proofs.YtfcgdfcekpbliaaGreatDoor
