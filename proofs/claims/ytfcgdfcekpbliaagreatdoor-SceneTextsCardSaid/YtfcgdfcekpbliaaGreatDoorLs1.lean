/-
  Scenarios: the chapter's example; just the texts of scenarios are read.
-/
import Derived.Test.YtfcgdfcekpbliaaGreatDoorSdv9
import Derived.Test.YtfcgdfcekpbliaaGreatDoorSdo2
import Derived.Test.YtfcgdfcekpbliaaGreatDoorScu5
import Derived.Test.YtfcgdfcekpbliaaGreatDoorMh
namespace Go.Proofs.YtfcgdfcekpbliaaGreatDoor
set_option linter.unusedSimpArgs false
set_option linter.unusedVariables false
set_option linter.unusedSectionVars false
open Go.ChangeShapes Go.WideShapes Go.ChangeAt Go.RowKit Go.Deep Go.Shelf

def exSt : St := ⟨1, 1, 0, true, [⟨[58, 109, 101, 116, 104, 111, 100], [71, 69, 84], false⟩, ⟨[58, 115, 99, 104, 101, 109, 101], [104, 116, 116, 112], false⟩, ⟨[58, 112, 97, 116, 104], [47], false⟩], []⟩
def exScn : Scn := ⟨0, [exSt], 2, 1⟩
def exT : List UInt8 := [115, 99, 101, 110, 97, 114, 105, 111, 32, 99, 108, 105, 101, 110, 116] ++ [10] ++ [104, 101, 97, 100, 101, 114, 115, 32, 49, 32, 101, 110, 100, 32, 43, 32, 58, 109, 101, 116, 104, 111, 100, 32, 71, 69, 84, 32, 43, 32, 58, 115, 99, 104, 101, 109, 101, 32, 104, 116, 116, 112, 32, 43, 32, 58, 112, 97, 116, 104, 32, 47] ++ [10] ++ [119, 114, 111, 110, 103, 32, 112, 105, 110, 103, 55, 32, 49] ++ [10]
theorem ex_text : textScn exScn = exT := by decide +kernel
theorem ex_read : readScn exT = (exScn, true) := by
  rw [← ex_text]
  exact readScn_text (by decide +kernel)
def AlvP (w : World) (e : Ending) (w' : World) : Prop := e = .returned (.bool true) ∧ ∃ j, w' = w.more j
set_option maxHeartbeats 8000000 in
set_option maxRecDepth 100000 in
theorem law51_alive (w : World) (hE : Env w) (hd : Hd w) :
    Calls Tryz.prog 6 #[] w (AlvP w) := by
  have HRD : Hid (Calls Tryz.prog 10 #[bstr exT] w fun e w' => ∃ a c, e = .returned (.tuple #[.agg #[.int .i64 0, .slice a 1 c, .int .i64 2, .int .i64 1], .int .i64 0]) ∧ SlSt w' w' w'.heap.size a [exSt] ∧ Below w.heap.size w w') := by
    have hx : exT.length ≤ 3000 := by decide
    have h := scene_Read exT (by omega) (linesF_short hx).2 w hE hd
    rw [ex_read] at h
    refine h.mono ?_
    rintro e w' ⟨a, c, rfl, h1, _, h2⟩
    exact ⟨a, c, rfl, h1, h2⟩
  clear hE hd
  go_enter Tryz.func6, Tryz.ntmps6
  go_wp2_with fail
  refine HRD.out.mono ?_
  rintro e w1 ⟨a, c, rfl, hs, hb⟩
  obtain ⟨b, off, fa, fc, sa, sc, ha, hbb, c0, c1, c2, c3, c4, c5, -, -⟩ := SlR.atSt hs (k := 0) (by simp)
  subst ha
  have d3 : w1.cell? ⟨b, off + 3, none⟩ = some (.bool true) := by simpa [exSt] using c3
  have d4 : w1.cell? ⟨b, off + 4, none⟩ = some (.slice fa 3 fc) := by simpa [exSt] using c4
  have HB := Lib.hid hb
  clear hs c0 c1 c2 c3 c4 c5 hb HRD
  go_wp2_with fail
  go_ret
  exact ⟨rfl, Below.junk (HB.out.trans (Below.mono (B := w1.heap.size) bel HB.out.size))⟩
/-- What reading leaves, of a known answer. -/
def RdQ (s : Scn) (v : Value) (w : World) (e : Ending) (w' : World) : Prop :=
  ∃ a c, e = .returned (.tuple #[.agg #[.int .i64 s.sd, .slice a s.xs.length c, .int .i64 s.wk, .int .i64 s.ws], v]) ∧ SlSt w' w' w'.heap.size a s.xs ∧ Below w.heap.size w w'
set_option maxHeartbeats 16000000 in
set_option maxRecDepth 100000 in
theorem reads_core (t tt : List UInt8) (ht : t.length ≤ 3000) (sd wk ws : Int) (xs : List St) (hsm : ∀ x ∈ xs, StSm x) (hln : xs.length ≤ 1000000) (ok : Bool) (code tcode : Int) (h1 : ok = true → code = 0 ∧ tcode = 0 ∧ tt = t) (h2 : ok = false → code = 4 ∧ tcode = 1) (w : World) (hE : Env w) (hd : Hd w)
    (hR : ∀ W, Below w.heap.size w W → Calls Tryz.prog 10 #[bstr t] W (RdQ ⟨sd, xs, wk, ws⟩ (.int .i64 code) W))
    (hD : ∀ W, Below w.heap.size w W → Calls Tryz.prog 14 #[bstr t] W (RdQ ⟨sd, xs, wk, ws⟩ (.bool ok) W))
    (hT : ∀ W a c, Below w.heap.size w W → SlSt W W W.heap.size a xs → Calls Tryz.prog 7 #[.agg #[.int .i64 sd, .slice a xs.length c, .int .i64 wk, .int .i64 ws]] W fun e w' => e = .returned (.tuple #[bstr tt, .int .i64 tcode]) ∧ ∃ j, w' = W.more j) :
    Calls Tryz.prog 4 #[bstr t] w (AlvP w) := by
  have HR := Lib.hid hR
  have HD := Lib.hid hD
  have HT := Lib.hid hT
  have HSM := Lib.hid hsm
  have HAL : Hid (∀ W, Below w.heap.size w W → Calls Tryz.prog 6 #[] W (AlvP W)) := fun W hW => law51_alive W (hE.below hW) (hd.below hW)
  have hl3 : ¬ (3000 : Int) < (t.length : Int) := by omega
  have hl4 : ¬ 3000 < t.length := by omega
  clear hR hD hT hsm hE hd
  cases ok
  all_goals
    have HH1 := Lib.hid h1
    have HH2 := Lib.hid h2
    clear h1 h2
    go_enter Tryz.func4, Tryz.ntmps4
    go_wp2_with fail
    refine (HR.out w (Below.refl _ _)).mono ?_
    rintro e w1 ⟨a, c, rfl, hs1, hb1⟩
    have HS1 := Lib.hid hs1
    have HB1 := Lib.hid hb1
    clear hs1 hb1
    go_wp2_with fail
    obtain ⟨w2, hw2⟩ : ∃ w2, w2 = w1.alloc (.cells #[.int .i64 sd, .slice a xs.length c, .int .i64 wk, .int .i64 ws] PdT) := ⟨_, rfl⟩
    rw [← hw2]
    have hk2 : Blk w2 w1.heap.size PdT #[.int .i64 sd, .slice a xs.length c, .int .i64 wk, .int .i64 ws] := by rw [hw2]; exact Blk.new _ _ _
    have HB2 : Hid (Below w1.heap.size w1 w2) := by show Below _ _ _; rw [hw2]; exact bel
    have HK2 := Lib.hid hk2
    clear hw2 hk2
    refine (HD.out w2 (HB1.out.trans (HB2.out.mono HB1.out.size))).mono ?_
    rintro e w3 ⟨a2, c2, rfl, hs3, hb3⟩
    have HS3 := Lib.hid hs3
    have HB3 : Hid (Below w1.heap.size w1 w3) := HB2.out.trans (hb3.mono HB2.out.size)
    have HK3 := Lib.hid (HK2.out.below hb3 HK2.out.lt)
    clear hs3 hb3
    go_wp2_with fail
    refine gb_start (w3.heap.size + 1) (by kernel_rfl) ?_
    obtain ⟨wd, hwd⟩ : ∃ wd, wd = (w3.alloc (.cells #[.int .i64 sd, .slice a2 xs.length c2, .int .i64 wk, .int .i64 ws] QdT)).drew := ⟨_, rfl⟩
    rw [← hwd]
    have hwz : wd.heap.size = w3.heap.size + 1 := by rw [hwd]; simp
    have hka : Blk wd w1.heap.size PdT #[.int .i64 sd, .slice a xs.length c, .int .i64 wk, .int .i64 ws] := by rw [hwd]; exact (HK3.out.alloc _).drew
    have hkb : Blk wd w3.heap.size QdT #[.int .i64 sd, .slice a2 xs.length c2, .int .i64 wk, .int .i64 ws] := by rw [hwd]; exact (Blk.new _ _ _).drew
    have HBw : Hid (Below w3.heap.size w3 wd) := by show Below _ _ _; rw [hwd]; exact bel
    have HBa : Hid (Below w.heap.size w wd) := HB1.out.trans ((HB3.out.trans (HBw.out.mono HB3.out.size)).mono HB1.out.size)
    have HSa : Hid (SlSt wd wd wd.heap.size a xs) := SlSt.low HS1.out (HB3.out.trans (HBw.out.mono HB3.out.size))
    have HSb : Hid (SlSt wd wd wd.heap.size a2 xs) := SlSt.low HS3.out HBw.out
    have HWZ := Lib.hid hwz
    have hlt1 := HK3.out.lt
    have HKA := Lib.hid hka
    clear hwd hwz
    refine gb_load 0 rfl (by kernel_rfl) (by kernel_rfl) (by kernel_rfl) 35 (.tmp 3) #[.int .i64 sd, .slice a xs.length c, .int .i64 wk, .int .i64 ws] (fun _ _ _ h => h) (by first | kernel_rfl | rfl) rfl w1.heap.size rfl hka (by omega) _ Tryz.underlying35 rfl (by kernel_rfl) ?_
    try simp only [Act.put, List.getElem_toArray, List.getElem_cons_succ, List.getElem_cons_zero, List.setIfInBounds_toArray, List.set_cons_zero, List.set_cons_succ]
    refine gb_load 2 rfl (by kernel_rfl) (by kernel_rfl) (by kernel_rfl) 26 (.tmp 5) #[.int .i64 sd, .slice a2 xs.length c2, .int .i64 wk, .int .i64 ws] (fun _ _ _ h => h) (by first | kernel_rfl | rfl) rfl w3.heap.size rfl hkb (by omega) _ Tryz.underlying26 rfl (by kernel_rfl) ?_
    try simp only [Act.put, List.getElem_toArray, List.getElem_cons_succ, List.getElem_cons_zero, List.setIfInBounds_toArray, List.set_cons_zero, List.set_cons_succ]
    refine gb_step 1 (by kernel_rfl) rfl (fun K hK => ?_)
    go_simp
    go_wp2_with fail
    refine (law45_Doc sd wk ws xs hln a c wd HSa.out).mono ?_
    rintro e w5 ⟨a5, c5, rfl, hs5, hb5⟩
    have HS5 := Lib.hid hs5
    have HB5 := Lib.hid hb5
    go_wp2_with fail
    refine hK.out _ _ (show Below (w3.heap.size + 1) wd w5 from HB5.out.mono (Nat.le_of_eq HWZ.out.symm)) ?_
    clear hK K hs5 hb5
    try simp only [Act.put, List.getElem_toArray, List.getElem_cons_succ, List.getElem_cons_zero, List.setIfInBounds_toArray, List.set_cons_zero, List.set_cons_succ]
    refine gb_step 3 (by kernel_rfl) rfl (fun K hK => ?_)
    go_simp
    go_wp2_with fail
    refine (ref45_Same sd wk ws sd wk ws xs xs HSM.out HSM.out hln a5 a2 c5 c2 w5 HS5.out (SlSt.low HSb.out HB5.out)).mono ?_
    rintro e w6 ⟨⟨r, rfl, hr⟩, j6, rfl⟩
    obtain rfl : r = true := hr.2 rfl
    have HB6 : Hid (Below wd.heap.size wd (w5.more j6)) := HB5.out.trans (Below.mono (B := w5.heap.size) bel HB5.out.size)
    go_wp2_with fail
    refine hK.out _ _ (show Below (w3.heap.size + 1) w5 (w5.more j6) from Below.mono (B := w5.heap.size) bel (by have := HB5.out.size; have := HWZ.out; omega)) ?_
    clear hK K hr
    try simp only [Act.put, List.getElem_toArray, List.getElem_cons_succ, List.getElem_cons_zero, List.setIfInBounds_toArray, List.set_cons_zero, List.set_cons_succ]
    obtain ⟨w7, hw7⟩ : ∃ w7, w7 = w5.more j6 := ⟨_, rfl⟩
    rw [← hw7] at HB6 ⊢
    have HK7 : Hid (Blk w7 w1.heap.size PdT #[.int .i64 sd, .slice a xs.length c, .int .i64 wk, .int .i64 ws]) := HKA.out.below HB6.out (by have := HWZ.out; omega)
    have HS7 : Hid (SlSt w7 w7 w7.heap.size a xs) := SlSt.low HSa.out HB6.out
    have HB7 : Hid (Below w.heap.size w w7) := HBa.out.trans (HB6.out.mono HBa.out.size)
    have hl7 := HK7.out.lt
    have b0 : w7.cell? ⟨w1.heap.size, 0, none⟩ = some (.int .i64 sd) := HK7.out.cell 0
    have b1 : w7.cell? ⟨w1.heap.size, 1, none⟩ = some (.slice a xs.length c) := HK7.out.cell 1
    have b2 : w7.cell? ⟨w1.heap.size, 2, none⟩ = some (.int .i64 wk) := HK7.out.cell 2
    have b3 : w7.cell? ⟨w1.heap.size, 3, none⟩ = some (.int .i64 ws) := HK7.out.cell 3
    clear hw7
  · obtain ⟨rfl, rfl⟩ := HH2.out (by trivial)
    refine tk 4 ?_
    refine tk 5 ?_
    refine tk 6 ?_
    refine tk 7 ?_
    refine tk 8 ?_
    refine tk 9 ?_
    refine tk 10 ?_
    refine wpAnyH_done (by kernel_rfl) ?_ _
    go_wp2_with fail
    refine (HT.out w7 a c HB7.out HS7.out).mono ?_
    rintro e w8 ⟨rfl, j8, rfl⟩
    go_wp2_with fail
    refine (HAL.out _ (HB7.out.trans (Below.mono (B := w7.heap.size) bel HB7.out.size))).mono ?_
    rintro e w9 ⟨rfl, j9, rfl⟩
    go_wp2_with fail
    go_ret
    exact ⟨rfl, Below.junk (HB7.out.trans (Below.mono (B := w7.heap.size) bel HB7.out.size))⟩
  · obtain ⟨rfl, rfl, rfl⟩ := HH1.out (by trivial)
    refine tk 4 ?_
    refine tk 5 ?_
    refine tk 6 ?_
    refine tk 7 ?_
    refine tk 8 ?_
    refine tk 9 ?_
    refine tk 10 ?_
    refine wpAnyH_done (by kernel_rfl) ?_ _
    go_wp2_with fail
    refine (HT.out w7 a c HB7.out HS7.out).mono ?_
    rintro e w8 ⟨rfl, j8, rfl⟩
    go_wp2_with fail
    refine (HAL.out _ (HB7.out.trans (Below.mono (B := w7.heap.size) bel HB7.out.size))).mono ?_
    rintro e w9 ⟨rfl, j9, rfl⟩
    go_wp2_with fail
    go_ret
    exact ⟨rfl, Below.junk (HB7.out.trans (Below.mono (B := w7.heap.size) bel HB7.out.size))⟩
theorem sceneReads_law (t : List UInt8) (w : World) (hE : Env w) (hd : Hd w) :
    Calls Tryz.prog 4 #[bstr t] w (AlvP w) := by
  by_cases ht : t.length ≤ 3000
  case neg =>
    have h3 : (3000 : Int) < (t.length : Int) := by omega
    have h4 : 3000 < t.length := by omega
    have HAL : Hid (∀ W, Below w.heap.size w W → Calls Tryz.prog 6 #[] W (AlvP W)) := fun W hW => law51_alive W (hE.below hW) (hd.below hW)
    clear hE hd
    go_enter Tryz.func4, Tryz.ntmps4
    go_wp2_with fail
    refine (HAL.out w (Below.refl _ _)).mono ?_
    rintro e w9 ⟨rfl, j9, rfl⟩
    go_wp2_with fail
    go_ret
    exact ⟨rfl, Below.junk bel⟩
  obtain ⟨s, ok, hs⟩ : ∃ s ok, readScn t = (s, ok) := ⟨_, _, rfl⟩
  have hR : ∀ W, Below w.heap.size w W → Calls Tryz.prog 10 #[bstr t] W (ReadP (s, ok) W) := fun W hW => by
    have := scene_Read t (by omega) (linesF_short ht).2 W (hE.below hW) (hd.below hW)
    rwa [hs] at this
  have hD : ∀ W, Below w.heap.size w W → Calls Tryz.prog 14 #[bstr t] W (ReadD (s, ok) W) := fun W hW => by
    have := ref51_Read t ht W
    rwa [← read_refScn, hs] at this
  obtain ⟨m, hM⟩ := hE.max
  cases ok with
  | true =>
    have hy := readScn_yes (t := t) (by rw [hs])
    rw [hs] at hy
    simp only at hy
    obtain ⟨hr, htx⟩ := hy
    have hsm : ∀ x ∈ s.xs, StSm x := fun x hx => by
      have h0 := (scn_ok hr).xs x hx
      cases h0 with
      | headers a b c d e f => exact ⟨Nat.le_trans f (by omega), by simp⟩
      | data => exact ⟨by simp, by simp⟩
      | set a b c => exact ⟨by simp, Nat.le_trans c (by omega)⟩
      | two => exact ⟨by simp, by simp⟩
      | one => exact ⟨by simp, by simp⟩
    have hln : s.xs.length ≤ 20 := by
      unfold rightScn at hr
      simp only [Bool.and_eq_true, decide_eq_true_eq] at hr
      exact hr.1
    obtain ⟨sd, xs, wk, ws⟩ := s
    exact reads_core t t ht sd wk ws xs hsm (by simp only at hln; omega) true 0 0 (fun _ => ⟨rfl, rfl, rfl⟩) (fun h => by cases h) w hE hd
      (fun W hW => (hR W hW).mono fun e w' hx => by obtain ⟨a, c, h1, h2, _, h3⟩ := hx; exact ⟨a, c, h1, h2, h3⟩)
      (fun W hW => (hD W hW).mono fun e w' hx => by obtain ⟨a, c, h1, h2, _, h3⟩ := hx; exact ⟨a, c, h1, h2, h3⟩)
      (fun W a c hW hS => by
        have := scene_Text_yes sd wk ws xs hr hsm a c m W hS (hd.below hW) ((hE.below hW).pow) ((hW.cell (p := MaxA) (cell_lt hM)).trans hM)
        rwa [htx] at this)
  | false =>
    have hz := readScn_no (t := t) (by rw [hs])
    rw [hs] at hz
    obtain rfl : s = zScn := (Prod.mk.inj hz).1
    exact reads_core t [] ht 0 0 0 [] (fun x hx => by simp at hx) (by simp) false 4 1 (fun h => by cases h) (fun _ => ⟨rfl, rfl⟩) w hE hd
      (fun W hW => (hR W hW).mono fun e w' hx => by obtain ⟨a, c, h1, h2, _, h3⟩ := hx; exact ⟨a, c, h1, h2, h3⟩)
      (fun W hW => (hD W hW).mono fun e w' hx => by obtain ⟨a, c, h1, h2, _, h3⟩ := hx; exact ⟨a, c, h1, h2, h3⟩)
      (fun W a c hW hS => scene_Text_no 0 0 0 [] (by decide) (fun x hx => by simp at hx) (by simp) a c W hS)
end Go.Proofs.YtfcgdfcekpbliaaGreatDoor
