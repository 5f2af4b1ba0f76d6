/-
  Scenarios: the document's step of a line.
-/
import Derived.Test.YtfcgdfcekpbliaaGreatDoorSdv2
import Derived.Test.YtfcgdfcekpbliaaGreatDoorMi
namespace Go.Proofs.YtfcgdfcekpbliaaGreatDoor
set_option linter.unusedSimpArgs false
set_option linter.unusedVariables false
set_option linter.unusedSectionVars false
open Go.ChangeShapes Go.WideShapes Go.ChangeAt Go.RowKit Go.Deep Go.Shelf

set_option maxHeartbeats 32000000 in
set_option maxRecDepth 100000 in
theorem ref51_step_headers (a : Option Addr) (cap : Nat) (l : List (List UInt8)) (h0 : 0 < l.length) (hl : l.length ≤ 100000) (hll : ∀ x ∈ l, x.length ≤ 90000) (hx0 : atD l 0 = [104, 101, 97, 100, 101, 114, 115]) (w : World) (hS : SlX w w.heap.size a l) :
    Calls Tryz.prog 39 #[.slice a l.length cap] w (DstP (stepD l) w) := by
  have HAT : Hid (∀ (i : Nat) W, i ≤ 1000000 → Below w.heap.size w W → Calls Tryz.prog 40 #[.slice a l.length cap, .int .i64 (i : Int)] W fun e w' => e = .returned (.int .i64 (nmR l i)) ∧ ∃ j, w' = W.more j) := fun i W hi hW =>
    ref51_at a cap l i (by omega) (fun x hx => by have := hll x hx; omega) hi W ((hS.below hW (Nat.le_refl _)).mono hW.size (fun _ _ _ h => h))
  have HA1 : Hid (∀ W, Below w.heap.size w W → Calls Tryz.prog 40 #[.slice a l.length cap, .int .i64 1] W fun e w' => e = .returned (.int .i64 (nmR l 1)) ∧ ∃ j, w' = W.more j) := fun W hW => HAT.out 1 W (by omega) hW
  have HA2 : Hid (∀ W, Below w.heap.size w W → Calls Tryz.prog 40 #[.slice a l.length cap, .int .i64 2] W fun e w' => e = .returned (.int .i64 (nmR l 2)) ∧ ∃ j, w' = W.more j) := fun W hW => HAT.out 2 W (by omega) hW
  have HFL : Hid (∀ W, Below w.heap.size w W → Calls Tryz.prog 66 #[.slice a l.length cap, .int .i64 3] W fun e w' => ∃ v, e = .returned v ∧ OwnF W.heap.size w' v (fldsR (l.drop 3)) ∧ Below W.heap.size W w') := fun W hW =>
    ref51_fields a cap l hl hll W ((hS.below hW (Nat.le_refl _)).mono hW.size (fun _ _ _ h => h))
  obtain ⟨b, off, ha, hbb, c0, _⟩ := SlR.atX hS (k := 0) h0
  subst ha
  obtain ⟨b1, off1, ha1, _, c9, _⟩ := SlR.atX hS (k := l.length - 1) (by omega)
  injection ha1 with ha1
  injection ha1 with e1 e2
  subst e1 e2
  rw [Nat.add_zero] at c0
  have HC2 : Hid (∀ h : 2 < l.length, w.cell? ⟨b, off + 2, none⟩ = some (bstr l[2])) := fun h => by
    obtain ⟨b1, off1, ha1, _, c, _⟩ := SlR.atX hS (k := 2) h
    injection ha1 with ha1
    injection ha1 with e1 e2
    subst e1 e2
    exact c
  have hz0 : atD l 0 = l[0] := by unfold atD; rw [List.getD_eq_getElem?_getD, List.getElem?_eq_getElem h0]; rfl
  have hz2 : ∀ h : 2 < l.length, atD l 2 = l[2] := fun h => by unfold atD; rw [List.getD_eq_getElem?_getD, List.getElem?_eq_getElem h]; rfl
  have hz9 : l.getLast?.getD [] = l[l.length - 1] := by rw [List.getLast?_eq_getElem?, List.getElem?_eq_getElem (by omega)]; rfl
  have hsub : IntKind.i64.wrap ((l.length : Int) - 1) = (l.length : Int) - 1 := IntWalk.i64_in _ (by omega)
  have n3 : (0 : Int) ≤ (l.length : Int) - 1 := by omega
  have n4 : ((l.length : Int) - 1).toNat = l.length - 1 := by omega
  have n5 : (0 : Int) < (l.length : Int) := by omega
  have n6 : (l.length : Int) - 1 < (l.length : Int) := by omega
  have HST : Hid (stepD l = if l[0] = [104, 101, 97, 100, 101, 114, 115] then ⟨1, nmR l 1, 0, decide (2 < l.length) && (atD l 2 == [101, 110, 100]), fldsR (l.drop 3), []⟩
    else if l[0] = [100, 97, 116, 97] then ⟨2, nmR l 1, nmR l 2, (l[l.length - 1] == [101, 110, 100]), [], []⟩
    else if l[0] = [115, 101, 116] then ⟨3, 0, 0, false, [], setsR (l.drop 1)⟩
    else if l[0] = [103, 114, 111, 119] then ⟨4, nmR l 1, nmR l 2, false, [], []⟩
    else if l[0] = [99, 117, 116] then ⟨5, nmR l 1, nmR l 2, false, [], []⟩
    else if l[0] = [99, 97, 108, 108] then ⟨6, 0, nmR l 1, false, [], []⟩
    else if l[0] = [108, 101, 97, 118, 101] then ⟨7, 0, nmR l 1, false, [], []⟩
    else ⟨8, 0, nmR l 1, false, [], []⟩) := by show _ = _; unfold stepD; rw [hz0, hz9]
  have HZ2 := Lib.hid hz2
  generalize stepD l = ST at HST ⊢
  rw [hz0] at hx0
  generalize l[0] = x0 at c0 HST hx0
  generalize l[l.length - 1] = x9 at c9 HST
  clear hS hll hz0 hz2 hz9
  subst hx0
  obtain rfl : ST = ⟨1, nmR l 1, 0, decide (2 < l.length) && (atD l 2 == [101, 110, 100]), fldsR (l.drop 3), []⟩ := by rw [HST.out, if_pos rfl]
  clear HST
  generalize nmR l 1 = m1 at HA1 ⊢
  generalize fldsR (l.drop 3) = FS at HFL ⊢
  clear HA2 HAT
  by_cases hn2 : 2 < l.length
  · have m2 : (2 : Int) < (l.length : Int) := by omega
    have m5 : decide ((2 : Int) < (l.length : Int)) = true := decide_eq_true m2
    have hz := HZ2.out hn2
    have hc2 := HC2.out hn2
    generalize hx2 : l[2] = x2 at hz hc2
    cases he : (x2 == ([101, 110, 100] : List UInt8))
    · have HEE := Lib.hid he
      go_enter Tryz.func39, Tryz.ntmps39
      go_wp2_with fail
      refine gb_start w.heap.size (by kernel_rfl) ?_
      obtain ⟨wd, hwd⟩ : ∃ wd, wd = (w.alloc (.cells zQt QtT)).drew := ⟨_, rfl⟩
      rw [show (w.alloc (.cells #[.int .i64 0, .int .i64 0, .int .i64 0, .bool false, .slice none 0 0, .slice none 0 0] QtT)).drew = wd from hwd.symm]
      have HTd : Hid (Blk wd w.heap.size QtT zQt) := by show Blk _ _ _ _; rw [hwd]; exact (Blk.new _ _ _).drew
      have HBd : Hid (Below w.heap.size w wd) := by show Below _ _ _; rw [hwd]; exact bel
      have hbd := HBd.out.size
      have hbz : b < wd.heap.size := by omega
      have q2 := (HBd.out.cell (p := ⟨b, off + 2, none⟩) hbb).trans hc2
      have htl := HTd.out.lt
      clear hwd
      refine tk 0 ?_
      refine tk 2 ?_
      refine tk 3 ?_
      refine tk 4 ?_
      refine tk 11 ?_
      refine gb_step 1 (by kernel_rfl) rfl (fun K hK => ?_)
      go_simp
      go_wp2_with fail
      refine (HA1.out _ HBd.out).mono ?_
      rintro e w' ⟨rfl, j1, rfl⟩
      go_wp2_with fail
      refine hK.out _ _ (gbb (B := wd.heap.size) (by exact hbd)) ?_
      clear hK K
      try simp only [Act.put, nfa, nfb, nfc, nfd, List.set_cons_zero, List.set_cons_succ]
      refine tk 5 ?_
      refine tk 6 ?_
      refine tk 7 ?_
      refine tk 8 ?_
      refine tk 9 ?_
      refine tk 10 ?_
      refine gb_step 12 (by kernel_rfl) rfl (fun K hK => ?_)
      go_simp
      go_wp2_with fail
      refine (HFL.out _ (HBd.out.trans (Below.mono (B := wd.heap.size) bel hbd))).mono ?_
      rintro e w4 ⟨v4, rfl, hof, hb4⟩
      obtain ⟨fa, fc, rfl, -⟩ := own_slice hof
      have HB4 : Hid (Below wd.heap.size wd w4) := Below.trans bel (hb4.mono (by simp))
      have HOF : Hid (OwnF w.heap.size w4 (.slice fa FS.length fc) FS) := own_lower2 hof (by simp only [World.size_more]; omega)
      have HT4 : Hid (Blk w4 w.heap.size QtT zQt) := HTd.out.below HB4.out htl
      go_wp2_with fail
      refine hK.out _ _ (show Below _ _ _ from (hb4.mono (by simp only [World.size_more]; omega))) ?_
      clear hK K
      try simp only [Act.put, nfa, nfb, nfc, nfd, List.set_cons_zero, List.set_cons_succ]
      clear hb4 hof HFL HA1
      have r0 : w4.cell? ⟨w.heap.size, 0, none⟩ = some (.int .i64 0) := HT4.out.cell 0
      have r1 : w4.cell? ⟨w.heap.size, 1, none⟩ = some (.int .i64 0) := HT4.out.cell 1
      have r2 : w4.cell? ⟨w.heap.size, 2, none⟩ = some (.int .i64 0) := HT4.out.cell 2
      have r3 : w4.cell? ⟨w.heap.size, 3, none⟩ = some (.bool false) := HT4.out.cell 3
      have r4 : w4.cell? ⟨w.heap.size, 4, none⟩ = some (.slice none 0 0) := HT4.out.cell 4
      have r5 : w4.cell? ⟨w.heap.size, 5, none⟩ = some (.slice none 0 0) := HT4.out.cell 5
      have s0 := HT4.out.frozen 0
      have s1 := HT4.out.frozen 1
      have s2 := HT4.out.frozen 2
      have s3 := HT4.out.frozen 3
      have s4 := HT4.out.frozen 4
      have s5 := HT4.out.frozen 5
      have rl := HT4.out.lt
      refine gb_step 13 (by kernel_rfl) rfl (fun K hK => ?_)
      go_simp
      go_wp2_with fail
      refine hK.out _ _ (show Below _ _ _ from Below.refl _ _) ?_
      clear hK K
      try simp only [Act.put, List.getElem_toArray, List.getElem_cons_succ, List.getElem_cons_zero, List.setIfInBounds_toArray, List.set_cons_zero, List.set_cons_succ]
      refine gb_step 14 (by kernel_rfl) rfl (fun K hK => ?_)
      go_simp
      go_wp2_with fail
      refine hK.out _ _ (show Below w.heap.size w4 _ from below_sixB (Below.refl _ _) (Nat.le_refl _)) ?_
      clear hK K
      try simp only [Act.put, List.getElem_toArray, List.getElem_cons_succ, List.getElem_cons_zero, List.setIfInBounds_toArray, List.set_cons_zero, List.set_cons_succ]
      refine wpAnyH_done (by kernel_rfl) ?_ _
      go_wp2_with fail
      refine bodyPost_ret (res_cell rfl st_Qt rfl (HT4.out.put6) rfl) rfl ?_
      exact ⟨fa, fc, none, 0, by rw [decide_eq_true hn2, hz, HEE.out]; rfl, own_six HOF.out HT4.out (by decide), World.ownsRow_nil _ _ _ _, below_six (HBd.out.trans (HB4.out.mono hbd)) (Nat.le_refl _)⟩
    · have HEE := Lib.hid he
      go_enter Tryz.func39, Tryz.ntmps39
      go_wp2_with fail
      refine gb_start w.heap.size (by kernel_rfl) ?_
      obtain ⟨wd, hwd⟩ : ∃ wd, wd = (w.alloc (.cells zQt QtT)).drew := ⟨_, rfl⟩
      rw [show (w.alloc (.cells #[.int .i64 0, .int .i64 0, .int .i64 0, .bool false, .slice none 0 0, .slice none 0 0] QtT)).drew = wd from hwd.symm]
      have HTd : Hid (Blk wd w.heap.size QtT zQt) := by show Blk _ _ _ _; rw [hwd]; exact (Blk.new _ _ _).drew
      have HBd : Hid (Below w.heap.size w wd) := by show Below _ _ _; rw [hwd]; exact bel
      have hbd := HBd.out.size
      have hbz : b < wd.heap.size := by omega
      have q2 := (HBd.out.cell (p := ⟨b, off + 2, none⟩) hbb).trans hc2
      have htl := HTd.out.lt
      clear hwd
      refine tk 0 ?_
      refine tk 2 ?_
      refine tk 3 ?_
      refine tk 4 ?_
      refine tk 11 ?_
      refine gb_step 1 (by kernel_rfl) rfl (fun K hK => ?_)
      go_simp
      go_wp2_with fail
      refine (HA1.out _ HBd.out).mono ?_
      rintro e w' ⟨rfl, j1, rfl⟩
      go_wp2_with fail
      refine hK.out _ _ (gbb (B := wd.heap.size) (by exact hbd)) ?_
      clear hK K
      try simp only [Act.put, nfa, nfb, nfc, nfd, List.set_cons_zero, List.set_cons_succ]
      refine tk 5 ?_
      refine tk 6 ?_
      refine tk 7 ?_
      refine tk 8 ?_
      refine tk 9 ?_
      refine tk 10 ?_
      refine gb_step 12 (by kernel_rfl) rfl (fun K hK => ?_)
      go_simp
      go_wp2_with fail
      refine (HFL.out _ (HBd.out.trans (Below.mono (B := wd.heap.size) bel hbd))).mono ?_
      rintro e w4 ⟨v4, rfl, hof, hb4⟩
      obtain ⟨fa, fc, rfl, -⟩ := own_slice hof
      have HB4 : Hid (Below wd.heap.size wd w4) := Below.trans bel (hb4.mono (by simp))
      have HOF : Hid (OwnF w.heap.size w4 (.slice fa FS.length fc) FS) := own_lower2 hof (by simp only [World.size_more]; omega)
      have HT4 : Hid (Blk w4 w.heap.size QtT zQt) := HTd.out.below HB4.out htl
      go_wp2_with fail
      refine hK.out _ _ (show Below _ _ _ from (hb4.mono (by simp only [World.size_more]; omega))) ?_
      clear hK K
      try simp only [Act.put, nfa, nfb, nfc, nfd, List.set_cons_zero, List.set_cons_succ]
      clear hb4 hof HFL HA1
      have r0 : w4.cell? ⟨w.heap.size, 0, none⟩ = some (.int .i64 0) := HT4.out.cell 0
      have r1 : w4.cell? ⟨w.heap.size, 1, none⟩ = some (.int .i64 0) := HT4.out.cell 1
      have r2 : w4.cell? ⟨w.heap.size, 2, none⟩ = some (.int .i64 0) := HT4.out.cell 2
      have r3 : w4.cell? ⟨w.heap.size, 3, none⟩ = some (.bool false) := HT4.out.cell 3
      have r4 : w4.cell? ⟨w.heap.size, 4, none⟩ = some (.slice none 0 0) := HT4.out.cell 4
      have r5 : w4.cell? ⟨w.heap.size, 5, none⟩ = some (.slice none 0 0) := HT4.out.cell 5
      have s0 := HT4.out.frozen 0
      have s1 := HT4.out.frozen 1
      have s2 := HT4.out.frozen 2
      have s3 := HT4.out.frozen 3
      have s4 := HT4.out.frozen 4
      have s5 := HT4.out.frozen 5
      have rl := HT4.out.lt
      refine gb_step 13 (by kernel_rfl) rfl (fun K hK => ?_)
      go_simp
      go_wp2_with fail
      refine hK.out _ _ (show Below _ _ _ from Below.refl _ _) ?_
      clear hK K
      try simp only [Act.put, List.getElem_toArray, List.getElem_cons_succ, List.getElem_cons_zero, List.setIfInBounds_toArray, List.set_cons_zero, List.set_cons_succ]
      refine gb_step 14 (by kernel_rfl) rfl (fun K hK => ?_)
      go_simp
      go_wp2_with fail
      refine hK.out _ _ (show Below w.heap.size w4 _ from below_sixB (Below.refl _ _) (Nat.le_refl _)) ?_
      clear hK K
      try simp only [Act.put, List.getElem_toArray, List.getElem_cons_succ, List.getElem_cons_zero, List.setIfInBounds_toArray, List.set_cons_zero, List.set_cons_succ]
      refine wpAnyH_done (by kernel_rfl) ?_ _
      go_wp2_with fail
      refine bodyPost_ret (res_cell rfl st_Qt rfl (HT4.out.put6) rfl) rfl ?_
      exact ⟨fa, fc, none, 0, by rw [decide_eq_true hn2, hz, HEE.out]; rfl, own_six HOF.out HT4.out (by decide), World.ownsRow_nil _ _ _ _, below_six (HBd.out.trans (HB4.out.mono hbd)) (Nat.le_refl _)⟩
  · have m2 : ¬ (2 : Int) < (l.length : Int) := by omega
    have m3 : (l.length : Int) ≤ 2 := by omega
    have m5 : decide ((2 : Int) < (l.length : Int)) = false := decide_eq_false m2
    go_enter Tryz.func39, Tryz.ntmps39
    go_wp2_with fail
    refine gb_start w.heap.size (by kernel_rfl) ?_
    obtain ⟨wd, hwd⟩ : ∃ wd, wd = (w.alloc (.cells zQt QtT)).drew := ⟨_, rfl⟩
    rw [show (w.alloc (.cells #[.int .i64 0, .int .i64 0, .int .i64 0, .bool false, .slice none 0 0, .slice none 0 0] QtT)).drew = wd from hwd.symm]
    have HTd : Hid (Blk wd w.heap.size QtT zQt) := by show Blk _ _ _ _; rw [hwd]; exact (Blk.new _ _ _).drew
    have HBd : Hid (Below w.heap.size w wd) := by show Below _ _ _; rw [hwd]; exact bel
    have hbd := HBd.out.size
    have hbz : b < wd.heap.size := by omega
    have htl := HTd.out.lt
    clear hwd
    refine tk 0 ?_
    refine tk 2 ?_
    refine tk 3 ?_
    refine tk 4 ?_
    refine tk 11 ?_
    refine gb_step 1 (by kernel_rfl) rfl (fun K hK => ?_)
    go_simp
    go_wp2_with fail
    refine (HA1.out _ HBd.out).mono ?_
    rintro e w' ⟨rfl, j1, rfl⟩
    go_wp2_with fail
    refine hK.out _ _ (gbb (B := wd.heap.size) (by exact hbd)) ?_
    clear hK K
    try simp only [Act.put, nfa, nfb, nfc, nfd, List.set_cons_zero, List.set_cons_succ]
    refine tk 5 ?_
    refine tks 6 ?_
    refine tks 7 ?_
    refine tks 8 ?_
    refine tks 9 ?_
    refine tk 10 ?_
    refine gb_step 12 (by kernel_rfl) rfl (fun K hK => ?_)
    go_simp
    go_wp2_with fail
    refine (HFL.out _ (HBd.out.trans (Below.mono (B := wd.heap.size) bel hbd))).mono ?_
    rintro e w4 ⟨v4, rfl, hof, hb4⟩
    obtain ⟨fa, fc, rfl, -⟩ := own_slice hof
    have HB4 : Hid (Below wd.heap.size wd w4) := Below.trans bel (hb4.mono (by simp))
    have HOF : Hid (OwnF w.heap.size w4 (.slice fa FS.length fc) FS) := own_lower2 hof (by simp only [World.size_more]; omega)
    have HT4 : Hid (Blk w4 w.heap.size QtT zQt) := HTd.out.below HB4.out htl
    go_wp2_with fail
    refine hK.out _ _ (show Below _ _ _ from (hb4.mono (by simp only [World.size_more]; omega))) ?_
    clear hK K
    try simp only [Act.put, nfa, nfb, nfc, nfd, List.set_cons_zero, List.set_cons_succ]
    clear hb4 hof HFL HA1
    have r0 : w4.cell? ⟨w.heap.size, 0, none⟩ = some (.int .i64 0) := HT4.out.cell 0
    have r1 : w4.cell? ⟨w.heap.size, 1, none⟩ = some (.int .i64 0) := HT4.out.cell 1
    have r2 : w4.cell? ⟨w.heap.size, 2, none⟩ = some (.int .i64 0) := HT4.out.cell 2
    have r3 : w4.cell? ⟨w.heap.size, 3, none⟩ = some (.bool false) := HT4.out.cell 3
    have r4 : w4.cell? ⟨w.heap.size, 4, none⟩ = some (.slice none 0 0) := HT4.out.cell 4
    have r5 : w4.cell? ⟨w.heap.size, 5, none⟩ = some (.slice none 0 0) := HT4.out.cell 5
    have s0 := HT4.out.frozen 0
    have s1 := HT4.out.frozen 1
    have s2 := HT4.out.frozen 2
    have s3 := HT4.out.frozen 3
    have s4 := HT4.out.frozen 4
    have s5 := HT4.out.frozen 5
    have rl := HT4.out.lt
    refine gb_step 13 (by kernel_rfl) rfl (fun K hK => ?_)
    go_simp
    go_wp2_with fail
    refine hK.out _ _ (show Below _ _ _ from Below.refl _ _) ?_
    clear hK K
    try simp only [Act.put, List.getElem_toArray, List.getElem_cons_succ, List.getElem_cons_zero, List.setIfInBounds_toArray, List.set_cons_zero, List.set_cons_succ]
    refine gb_step 14 (by kernel_rfl) rfl (fun K hK => ?_)
    go_simp
    go_wp2_with fail
    refine hK.out _ _ (show Below w.heap.size w4 _ from below_sixB (Below.refl _ _) (Nat.le_refl _)) ?_
    clear hK K
    try simp only [Act.put, List.getElem_toArray, List.getElem_cons_succ, List.getElem_cons_zero, List.setIfInBounds_toArray, List.set_cons_zero, List.set_cons_succ]
    refine wpAnyH_done (by kernel_rfl) ?_ _
    go_wp2_with fail
    refine bodyPost_ret (res_cell rfl st_Qt rfl (HT4.out.put6) rfl) rfl ?_
    exact ⟨fa, fc, none, 0, by rw [decide_eq_false hn2]; rfl, own_six HOF.out HT4.out (by decide), World.ownsRow_nil _ _ _ _, below_six (HBd.out.trans (HB4.out.mono hbd)) (Nat.le_refl _)⟩
end Go.Proofs.YtfcgdfcekpbliaaGreatDoor
