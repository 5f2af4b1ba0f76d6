/-
  Scenarios: the program's road back from a text.
-/
import Derived.Test.YtfcgdfcekpbliaaGreatDoorScv7
import Derived.Test.YtfcgdfcekpbliaaGreatDoorMj
namespace Go.Proofs.YtfcgdfcekpbliaaGreatDoor
set_option linter.unusedSimpArgs false
set_option linter.unusedVariables false
set_option linter.unusedSectionVars false
open Go.ChangeShapes Go.WideShapes Go.ChangeAt Go.RowKit Go.Deep Go.Shelf

abbrev PdT : TypeId := 35
theorem st_Pd : StructTy Tryz.prog PdT 4 := ⟨_, Tryz.underlying35, rfl, by kernel_rfl⟩
abbrev zPd : Array Value := #[.int .i64 0, .slice none 0 0, .int .i64 0, .int .i64 0]
/-- What reading a text leaves. -/
def ReadP (r : Scn × Bool) (w : World) (e : Ending) (w' : World) : Prop :=
  ∃ a c, e = .returned (.tuple #[.agg #[.int .i64 r.1.sd, .slice a r.1.xs.length c, .int .i64 r.1.wk, .int .i64 r.1.ws], .int .i64 (if r.2 = true then 0 else 4)]) ∧ SlSt w' w' w'.heap.size a r.1.xs ∧ (∀ x ∈ r.1.xs, StLt x) ∧ Below w.heap.size w w'
theorem mid_len {L : List (List UInt8)} (h : 2 ≤ L.length) : (midL L).length = L.length - 2 := by
  unfold midL
  rw [List.length_take, List.length_drop]
  omega
theorem mid_at {L : List (List UInt8)} {k : Nat} (h : k < (midL L).length) (h2 : k + 1 < L.length) : (midL L)[k] = L[k + 1] := by
  have e : ∀ M : List (List UInt8), M = (L.drop 1).take (L.length - 2) → ∀ h : k < M.length, M[k] = L[k + 1] := fun M hM h => by
    subst hM
    rw [List.getElem_take, List.getElem_drop]
    congr 1
    omega
  exact e _ rfl h
theorem steps_small {L : List (List UInt8)} {x : St} (hL : ∀ s ∈ L, s.length ≤ 90000) {s : List UInt8} (hs : s ∈ L) (h : lineP s = some x) : StLt x := by
  unfold lineP at h
  split at h
  · injection h with h
    subst h
    have := split_short (hL s hs)
    exact step_small this.1 this.2
  · cases h
theorem own_lower {B n size : Nat} {w : World} {e : TypeId} {v : Value} {xs : List Value} (h : w.ownsRow B e size v n xs) : w.ownsRow 0 e size v n xs := by
  refine ⟨h.1, ?_⟩
  rcases h.2 with h2 | ⟨g, cap, cur, h1, hg, h3⟩
  · exact .inl h2
  · exact .inr ⟨g, cap, cur, h1, Nat.zero_le _, h3⟩
/-- The result's four cells are nothing's. -/
theorem nothing_blk {W : World} {r : Nat} (h : Blk W r PdT zPd) : Blk ((((W.setCell ⟨r, 0, none⟩ (.int .i64 0)).setCell ⟨r, 1, none⟩ (.slice none 0 0)).setCell ⟨r, 2, none⟩ (.int .i64 0)).setCell ⟨r, 3, none⟩ (.int .i64 0)) r PdT zPd := h.put4
theorem below_four {w W : World} {r : Nat} {y0 y1 y2 y3 : Value} (h : Below w.heap.size w W) (hr : w.heap.size ≤ r) : Below w.heap.size w ((((W.setCell ⟨r, 0, none⟩ y0).setCell ⟨r, 1, none⟩ y1).setCell ⟨r, 2, none⟩ y2).setCell ⟨r, 3, none⟩ y3) :=
  (((h.setCell (p := ⟨r, 0, none⟩) hr _).setCell (p := ⟨r, 1, none⟩) hr _).setCell (p := ⟨r, 2, none⟩) hr _).setCell (p := ⟨r, 3, none⟩) hr _
theorem four_far {e : TypeId} {B : Nat} {W : World} {v : Value} {xs : List St} {r : Nat} {y0 y1 y2 y3 : Value} {t : TypeId} {cs : Array Value} (h : OwnSt e B W v xs) (hb : Blk W r t cs) (h0 : t ≠ e) (h1 : t ≠ FlT3) (h2 : t ≠ SgT3) :
    OwnSt e B ((((W.setCell ⟨r, 0, none⟩ y0).setCell ⟨r, 1, none⟩ y1).setCell ⟨r, 2, none⟩ y2).setCell ⟨r, 3, none⟩ y3) v xs :=
  (((h.far hb h0 h1 h2).far (hb.set_ 0 y0) h0 h1 h2).far ((hb.set_ 0 y0).set_ 1 y1) h0 h1 h2).far (((hb.set_ 0 y0).set_ 1 y1).set_ 2 y2) h0 h1 h2
set_option maxHeartbeats 16000000 in
set_option maxRecDepth 100000 in
theorem scene_Read (t : List UInt8) (ht : t.length ≤ 900000) (hsh : ∀ x ∈ (linesF t).1, x.length ≤ 90000) (w : World) (hE : Env w) (hd : Hd w) :
    Calls Tryz.prog 10 #[bstr t] w (ReadP (readScn t) w) := by
  obtain ⟨m, hM⟩ := hE.max
  have HLI : Hid (∀ o, Calls Tryz.prog 28 #[bstr t] (w.alloc o) fun e w' => ∃ a cap, e = .returned (.tuple #[.slice a (linesF t).1.length cap, .bool (linesF t).2]) ∧ (linesF t).1.length ≤ cap ∧ SlX w' w'.heap.size a (linesF t).1 ∧ Below (w.alloc o).heap.size (w.alloc o) w') := fun o =>
    words_LinesC t m (w.alloc o) ht ((((Below.refl w.heap.size w).alloc (Nat.le_refl _) o).cell (p := MaxA) (cell_lt hM)).trans hM)
  have HRD : Hid (readScn t = if (linesF t).2 = false ∨ (linesF t).1.length < 2 then (zScn, false) else closeP (linesF t).1 (stepsP (midL (linesF t).1))) := rfl
  have hll : (linesF t).1.length ≤ 900001 := by
    unfold linesF
    split
    · have := cut_len 10 t
      simp only [List.length_dropLast]
      omega
    · simp
  obtain ⟨L, ok, hL⟩ : ∃ L ok, linesF t = (L, ok) := ⟨_, _, rfl⟩
  rw [hL] at HLI HRD hll hsh
  simp only at HLI HRD hll hsh
  generalize readScn t = R at HRD ⊢
  have HSH := Lib.hid hsh
  have HEN := Lib.hid hE
  have HDD := Lib.hid hd
  clear hL hsh hE hd hM
  by_cases hbad : ok = false ∨ L.length < 2
  · obtain rfl : R = (zScn, false) := by rw [HRD.out, if_pos hbad]
    clear HRD HSH
    go_enter Tryz.func10, Tryz.ntmps10
    go_wp2_with fail
    refine (HLI.out _).mono ?_
    rintro e w1 ⟨aL, cL, rfl, hc, -, hb1⟩
    have HT1 : Hid (Blk w1 w.heap.size PdT zPd) := (Blk.new w PdT zPd).below hb1 (by simp)
    have HB1 : Hid (Below w.heap.size w w1) := Below.trans bel (hb1.mono (by simp))
    have r0 : w1.cell? ⟨w.heap.size, 0, none⟩ = some (.int .i64 0) := HT1.out.cell 0
    have r1 : w1.cell? ⟨w.heap.size, 1, none⟩ = some (.slice none 0 0) := HT1.out.cell 1
    have r2 : w1.cell? ⟨w.heap.size, 2, none⟩ = some (.int .i64 0) := HT1.out.cell 2
    have r3 : w1.cell? ⟨w.heap.size, 3, none⟩ = some (.int .i64 0) := HT1.out.cell 3
    have s0 := HT1.out.frozen 0
    have s1 := HT1.out.frozen 1
    have s2 := HT1.out.frozen 2
    have s3 := HT1.out.frozen 3
    have rl := HT1.out.lt
    clear hb1 hc
    cases ok
    · go_wp2_with fail
      refine bodyPost_ret (res_cell_tmp rfl st_Pd rfl (nothing_blk HT1.out) rfl rfl) rfl ?_
      exact ⟨none, 0, rfl, .nil, fun x hx => by simp [zScn] at hx, below_four HB1.out (Nat.le_refl _)⟩
    · have hlt : (L.length : Int) < 2 := by have := hbad.resolve_left (by simp); omega
      have hltn : L.length < 2 := hbad.resolve_left (by simp)
      go_wp2_with fail
      refine bodyPost_ret (res_cell_tmp rfl st_Pd rfl (nothing_blk HT1.out) rfl rfl) rfl ?_
      exact ⟨none, 0, rfl, .nil, fun x hx => by simp [zScn] at hx, below_four HB1.out (Nat.le_refl _)⟩
  obtain ⟨hok, hl2⟩ := not_or.1 hbad
  obtain rfl : ok = true := by cases ok <;> simp_all
  have hl2 : 2 ≤ L.length := by omega
  have HR2 : Hid (R = closeP L (stepsP (midL L))) := by show _ = _; rw [HRD.out, if_neg hbad]
  clear HRD hbad hok
  have hml := mid_len hl2
  have hn2 : ¬ (L.length : Int) < 2 := by omega
  have hn2n : ¬ L.length < 2 := by omega
  go_enter Tryz.func10, Tryz.ntmps10
  go_wp2_with fail
  refine (HLI.out _).mono ?_
  rintro e w1 ⟨aL, cL, rfl, hcL, hsl, hb1⟩
  have HT1 : Hid (Blk w1 w.heap.size PdT zPd) := (Blk.new w PdT zPd).below hb1 (by simp)
  have HB1 : Hid (Below w.heap.size w w1) := Below.trans bel (hb1.mono (by simp))
  obtain ⟨b, off, ha, hbb, c0, _⟩ := SlR.atX hsl (k := 0) (by omega)
  subst ha
  rw [Nat.add_zero] at c0
  have HAT : Hid (∀ k (hk : k < L.length), w1.cell? ⟨b, off + k, none⟩ = some (bstr L[k])) := fun k hk => by
    obtain ⟨b2, off2, e2, _, h, _⟩ := SlR.atX hsl (k := k) hk
    injection e2 with e2
    injection e2 with e3 e4
    subst e3 e4
    exact h
  have hg1 := HT1.out.lt
  have hs0 : L[0].length ≤ 90000 := HSH.out _ (List.getElem_mem _)
  have HSI : Hid (∀ W, Calls Tryz.prog 29 #[bstr L[0]] W fun e w' => e = .returned (.tuple #[.int .i64 (sideP L[0]).1, .bool (sideP L[0]).2]) ∧ ∃ j, w' = W.more j) := fun W => scene_side L[0] (by omega) W
  have hz0 : atD L 0 = L[0] := by unfold atD; rw [List.getD_eq_getElem?_getD, List.getElem?_eq_getElem (by omega)]; rfl
  have hz9 : atD L (L.length - 1) = L[L.length - 1] := by unfold atD; rw [List.getD_eq_getElem?_getD, List.getElem?_eq_getElem (by omega)]; rfl
  have HZ0 := Lib.hid hz0
  have HZ9 := Lib.hid hz9
  have hsub : IntKind.i64.wrap ((L.length : Int) - 1) = (L.length : Int) - 1 := IntWalk.i64_in _ (by omega)
  have n1 : (1 : Int) ≤ (L.length : Int) - 1 := by omega
  have n2 : (L.length : Int) - 1 ≤ (cL : Int) := by omega
  have n3 : (0 : Int) ≤ (L.length : Int) - 1 := by omega
  have n4 : ((L.length : Int) - 1).toNat = L.length - 1 := by omega
  have n5 : ¬ cL = 1 := by omega
  have n6 : 1 ≤ L.length - 1 := by omega
  have n7 : L.length - 1 ≤ cL := by omega
  have n8 : ¬ cL - 1 = 0 := by omega
  have hT1k := HT1.out
  clear hb1 hsl hcL HT1 hz0 hz9
  generalize hsd : sideP L[0] = SD at HSI
  obtain ⟨sd, first⟩ := SD
  generalize hL0 : L[0] = s0 at c0 HSI
  simp only at HSI
  have HT1 := Lib.hid hT1k
  clear hT1k
  go_wp2_with fail
  refine (HSI.out _).mono ?_
  rintro e w' ⟨rfl, j1, rfl⟩
  go_wp2_with fail
  obtain ⟨w2, hw2⟩ : ∃ w2, w2 = (w1.alloc (.cells #[.int .i64 sd, .slice none 0 0, .int .i64 0, .int .i64 0] PdT)).more j1 := ⟨_, rfl⟩
  rw [← hw2]
  have hbk2 : Blk w2 w1.heap.size PdT #[.int .i64 sd, .slice none 0 0, .int .i64 0, .int .i64 0] := by rw [hw2]; exact (Blk.new _ _ _).more _
  have HB2 : Hid (Below w1.heap.size w1 w2) := by show Below _ _ _; rw [hw2]; exact bel
  clear hw2
  have hmd : (midL L).length = L.length - 1 - 1 := by omega
  go_loopg [40] (L.length - 1 - 1) (fun q i wr => ∃ (k : Nat) (acc : List St) (v : Value), k + q = L.length - 1 - 1 ∧ i = .int .i64 k ∧ acc.length = k ∧ OwnSt PtT w1.heap.size wr v acc ∧ Blk wr w1.heap.size PdT #[.int .i64 sd, v, .int .i64 0, .int .i64 0] ∧ Below w1.heap.size w1 wr ∧ Hid (stepsP (midL L) = (stepsP ((midL L).drop k)).map (acc ++ ·)) ∧ ∀ x ∈ acc, StLt x)
  case atStart => exact ⟨0, [], .slice none 0 0, by omega, rfl, rfl, OwnSt.nil _ _ _, hbk2, HB2.out, by show _ = _; simp, fun x hx => by simp at hx⟩
  case round =>
    obtain ⟨k, acc, v, hkq, rfl, hak, ho, hbk, hb, HS, hsm⟩ := hrel
    have HK := Lib.hid hkq
    have HAK := Lib.hid hak
    have HO := Lib.hid ho
    have HBK := Lib.hid hbk
    have HB := Lib.hid hb
    have HBB : Hid (Below w.heap.size w wr) := HB1.out.trans (hb.mono HB1.out.size)
    have HSM := Lib.hid hsm
    have hzr := hb.size
    have hsl := hbk.lt
    clear hkq hak ho hbk hsm hb hbk2
    by_cases hlt : k < L.length - 1 - 1
    · have hk1 : k + 1 < L.length := by omega
      have hkm : k < (midL L).length := by omega
      have hd1 : (midL L).drop k = L[k + 1] :: (midL L).drop (k + 1) := by rw [List.drop_eq_getElem_cons hkm, mid_at hkm hk1]
      rw [hd1] at HS
      have c1 : wr.cell? ⟨b, off + 1 + k, none⟩ = some (bstr L[k + 1]) := by
        have h := (HB.out.cell (p := ⟨b, off + (k + 1), none⟩) hbb).trans (HAT.out (k + 1) hk1)
        rwa [show off + (k + 1) = off + 1 + k by omega] at h
      have hbz : b < wr.heap.size := by omega
      have hs9 : L[k + 1].length ≤ 90000 := HSH.out _ (List.getElem_mem _)
      generalize L[k + 1] = s at hd1 HS c1 hs9
      have hst9 : ∀ x, lineP s = some x → StLt x := fun x h => steps_small (L := [s]) (s := s) (fun y hy => by simp at hy; subst hy; exact hs9) (by simp) h
      have hlp : lineP s = if (stepP (splitF s).1 (!(splitF s).2)).2.2 = false ∧ (stepP (splitF s).1 (!(splitF s).2)).2.1 = [] then some (stepP (splitF s).1 (!(splitF s).2)).1 else none := rfl
      have hsp := split_short hs9
      have HLN : Hid (∀ W, Below w.heap.size w W → Calls Tryz.prog 30 #[bstr s] W fun e w' => ∃ g, e = .returned (.pointer (some ⟨g, 0, none⟩)) ∧ W.heap.size ≤ g ∧ Rd w'.heap.size w' g (splitF s).1 (!(splitF s).2) ∧ Below W.heap.size W w') := fun W hW => by
        obtain ⟨m, hM⟩ := (HEN.out.below hW).max
        exact scene_line s hs9 m W hM
      generalize (splitF s).1 = l at HLN hlp hsp
      generalize (!(splitF s).2) = fl at HLN hlp
      have HRS : Hid (∀ (B g : Nat) W, Rb w g W → Rd B W g l fl → Calls Tryz.prog 31 #[.pointer (some ⟨g, 0, none⟩)] W (RsP B g (stepP l fl).1 (stepP l fl).2.1 (stepP l fl).2.2 W)) := fun B g W h1 h2 => rd_step g l fl (by omega) hsp.2 w W h1 HDD.out h2
      generalize stepP l fl = sp at HRS hlp
      obtain ⟨x, L4, b4⟩ := sp
      simp only at HRS hlp
      have HLP := Lib.hid hlp
      have HST9 := Lib.hid hst9
      have HSN : Hid (lineP s = none → R = (zScn, false)) := fun h => by
        rw [HR2.out, HS.out, stepsP, h]
        rfl
      have HSY : Hid (∀ y, lineP s = some y → stepsP (midL L) = (stepsP ((midL L).drop (k + 1))).map ((acc ++ [y]) ++ ·)) := fun y h => by
        show _ = _
        rw [HS.out, stepsP, h]
        simp only [Option.map_map]
        congr 1
        funext z
        simp
      clear hd1 hlp hst9 hsp HS
      go_wp2_with fail
      refine (HLN.out _ HBB.out).mono ?_
      rintro e w3 ⟨g, rfl, hgz, hr3, hb3⟩
      have HB3 := Lib.hid hb3
      have HR3 := Lib.hid hr3
      have hz3 := hb3.size
      clear hb3 hr3 c1 HLN
      go_wp2_with fail
      refine (HRS.out _ g w3 ⟨HEN.out, HBB.out.trans (HB3.out.mono HBB.out.size), by have := HBB.out.size; omega⟩ HR3.out).mono ?_
      rintro e w4 ⟨fa, fc, sa, sc, rfl, hof, hog, hr4, hg4⟩
      have HB4 : Hid (Below wr.heap.size wr w4) := HB3.out.trans (hg4.below hgz hz3)
      have hz4 := HB4.out.size
      have HSO : Hid (StO w4 x [.int .i64 x.kd, .int .i64 x.sm, .int .i64 x.nn, .bool x.fin, .slice fa x.fs.length fc, .slice sa x.ss.length sc]) := ⟨fa, fc, sa, sc, rfl, own_lower hof, own_lower hog⟩
      obtain ⟨ra, rc, hrb, -, -⟩ := hr4.st
      have u0 : w4.cell? ⟨g, 0, none⟩ = some (.slice ra L4.length rc) := hrb.cell 0
      have u1 : w4.cell? ⟨g, 1, none⟩ = some (.bool b4) := hrb.cell 1
      have ul := hrb.lt
      have HT4 : Hid (Blk w4 w.heap.size PdT zPd) := HT1.out.below (HB.out.trans (HB4.out.mono hzr)) hg1
      have HK4 : Hid (Blk w4 w1.heap.size PdT #[.int .i64 sd, v, .int .i64 0, .int .i64 0]) := HBK.out.below HB4.out hsl
      have HO4 : Hid (OwnSt PtT w1.heap.size w4 v acc) := HO.out.below HB4.out
      have HBB4 : Hid (Below w.heap.size w w4) := HBB.out.trans (HB4.out.mono HBB.out.size)
      have hsl4 := HK4.out.lt
      clear hof hog hr4 hg4 hrb HR3 HB3 hz3 HRS HO HBK
      by_cases hgo : b4 = false ∧ L4 = []
      · obtain ⟨rfl, rfl⟩ := hgo
        have hy := HLP.out
        rw [if_pos ⟨rfl, rfl⟩] at hy
        have HSY2 := Lib.hid (HSY.out x hy)
        have HX9 := Lib.hid (HST9.out x hy)
        simp only [List.length_nil] at u0
        have q1 : w4.cell? ⟨w1.heap.size, 1, none⟩ = some v := HK4.out.cell 1
        have hal : acc.length ≤ 900000 := by have := HAK.out; omega
        clear hy HSY HSN HLP HST9
        go_wp2_with (at_builtin; refine app_step st_steps (.tmp 62) (.tmp 64) (y := x) rfl rfl rfl (HO4.out.below bel) (by decide) (by decide) (cs := #[.int .i64 x.kd, .int .i64 x.sm, .int .i64 x.nn, .bool x.fin, .slice fa x.fs.length fc, .slice sa x.ss.length sc]) (HSO.out.keep (KeepT.below bel)) rfl blk (by omega) (by simp only [World.size_alloc]; omega) ?_; intro v' w5 ho5 hb5 hk5; have hk9 := hk5 w1.heap.size PdT #[.int .i64 sd, v, .int .i64 0, .int .i64 0] (HK4.out.below (B := w4.heap.size) bel hsl4) (by decide); have HK9 := Lib.hid hk9; have HO9 := Lib.hid ho5; have HB9 : Hid (Below w1.heap.size w4 w5) := Below.trans (Below.mono (B := w4.heap.size) bel (by omega)) hb5; have k9 : w5.cell? ⟨w1.heap.size, 1, none⟩ = some v := hk9.cell 1; have f9 : w5.frozen? ⟨w1.heap.size, 1, none⟩ = false := hk9.frozen 1; have l9 := hk9.lt; obtain ⟨a5, c5, rfl⟩ := ho5.slice; clear ho5 hb5 hk5 hk9)
        go_roundg (L.length - 1 - 1 - (k + 1))
        case measure => have := HK.out; omega
        case rel => exact ⟨k + 1, acc ++ [x], .slice a5 (acc ++ [x]).length c5, by have := HK.out; omega, by go_num, by have := HAK.out; simp; omega, by simpa using OwnSt.far (i := 1) (u := .slice a5 (acc ++ [x]).length c5) HO9.out HK9.out (by decide) (by decide) (by decide), by simpa using HK9.out.set_ 1 (.slice a5 (acc ++ [x]).length c5), (HB.out.trans ((HB4.out.mono hzr).trans HB9.out)).setCell (p := ⟨w1.heap.size, 1, none⟩) (Nat.le_refl _) _, HSY2, fun y hy => by
          rcases List.mem_append.1 hy with h | h
          · exact HSM.out y h
          · simp at h; subst h; exact HX9.out⟩
      · have hy := HLP.out
        rw [if_neg hgo] at hy
        obtain rfl := HSN.out hy
        clear hy HSY HSN HLP HST9
        have r0 : w4.cell? ⟨w.heap.size, 0, none⟩ = some (.int .i64 0) := HT4.out.cell 0
        have r1 : w4.cell? ⟨w.heap.size, 1, none⟩ = some (.slice none 0 0) := HT4.out.cell 1
        have r2 : w4.cell? ⟨w.heap.size, 2, none⟩ = some (.int .i64 0) := HT4.out.cell 2
        have r3 : w4.cell? ⟨w.heap.size, 3, none⟩ = some (.int .i64 0) := HT4.out.cell 3
        have s0 := HT4.out.frozen 0
        have s1 := HT4.out.frozen 1
        have s2 := HT4.out.frozen 2
        have s3 := HT4.out.frozen 3
        have rl := HT4.out.lt
        cases b4
        · have hne : L4 ≠ [] := fun h => hgo ⟨rfl, h⟩
          have hp1 : (0 : Int) < (L4.length : Int) := by have := List.length_pos_iff.2 hne; omega
          have hp2 : 0 < L4.length := List.length_pos_iff.2 hne
          clear hgo
          go_wp2_with fail
          refine bodyPost_ret (res_cell_tmp rfl st_Pd rfl ((nothing_blk HT4.out).alloc _) rfl rfl) rfl ?_
          exact ⟨none, 0, rfl, .nil, fun x hx => by simp [zScn] at hx, (below_four HBB4.out (Nat.le_refl _)).alloc (by have := HBB4.out.size; simp; omega) _⟩
        · clear hgo
          go_wp2_with fail
          refine bodyPost_ret (res_cell_tmp rfl st_Pd rfl ((nothing_blk HT4.out).alloc _) rfl rfl) rfl ?_
          exact ⟨none, 0, rfl, .nil, fun x hx => by simp [zScn] at hx, (below_four HBB4.out (Nat.le_refl _)).alloc (by have := HBB4.out.size; simp; omega) _⟩
    · obtain rfl : k = L.length - 1 - 1 := by have := HK.out; omega
      have hSA : stepsP (midL L) = some acc := by
        rw [HS.out, List.drop_of_length_le (by omega)]
        simp [stepsP]
      have hlz : L.length - 1 < L.length := by omega
      have c9 : wr.cell? ⟨b, off + (L.length - 1), none⟩ = some (bstr L[L.length - 1]) := (HB.out.cell (p := ⟨b, off + (L.length - 1), none⟩) hbb).trans (HAT.out _ hlz)
      have hs9 : L[L.length - 1].length ≤ 90000 := HSH.out _ (List.getElem_mem _)
      have HWR : Hid (∀ W, Below w.heap.size w W → Calls Tryz.prog 32 #[bstr L[L.length - 1]] W fun e w' => e = .returned (.tuple #[.agg #[.int .i64 (wrongP L[L.length - 1]).1, .int .i64 (wrongP L[L.length - 1]).2.1], .bool (wrongP L[L.length - 1]).2.2]) ∧ ∃ j, w' = W.more j) := fun W hW => scene_wrong _ hs9 W (HEN.out.below hW)
      have HR4 : Hid (R = if (first && ((wrongP L[L.length - 1]).2.2 && rightScn ⟨sd, acc, (wrongP L[L.length - 1]).1, (wrongP L[L.length - 1]).2.1⟩)) = true then (⟨sd, acc, (wrongP L[L.length - 1]).1, (wrongP L[L.length - 1]).2.1⟩, true) else (zScn, false)) := by
        show _ = _
        rw [HR2.out, hSA]
        unfold closeP
        rw [HZ0.out, HZ9.out, hsd]
      generalize wrongP L[L.length - 1] = WP at HWR HR4
      obtain ⟨kd, n, okw⟩ := WP
      simp only at HWR HR4
      generalize L[L.length - 1] = s9 at c9 HWR
      obtain ⟨av, cv, rfl⟩ := HO.out.slice
      have hal : acc.length ≤ 900001 := by have := HAK.out; omega
      have HRI : Hid (∀ W, SlSt W W W.heap.size av acc → Calls Tryz.prog 16 #[.agg #[.int .i64 sd, .slice av acc.length cv, .int .i64 kd, .int .i64 n]] W fun e w' => e = .returned (.bool (rightScn ⟨sd, acc, kd, n⟩)) ∧ ∃ j, w' = W.more j) := fun W h =>
        spec_Right sd kd n acc (fun x hx => (HSM.out x hx).sm) (by omega) av cv W h
      generalize rightScn ⟨sd, acc, kd, n⟩ = rg at HRI HR4
      have hne1 : w.heap.size ≠ w1.heap.size := by omega
      have hne2 : ¬ w1.heap.size = w.heap.size := by omega
      have hne3 : ¬ w.heap.size = w1.heap.size := by omega
      have HTr : Hid (Blk wr w.heap.size PdT zPd) := HT1.out.below HB.out hg1
      have HTs : Hid (Blk ((wr.setCell ⟨w1.heap.size, 2, none⟩ (.int .i64 kd)).setCell ⟨w1.heap.size, 3, none⟩ (.int .i64 n)) w.heap.size PdT zPd) := (HTr.out.far (p := ⟨w1.heap.size, 2, none⟩) hne1 _).far (p := ⟨w1.heap.size, 3, none⟩) hne1 _
      have HOs : Hid (OwnSt PtT w1.heap.size ((wr.setCell ⟨w1.heap.size, 2, none⟩ (.int .i64 kd)).setCell ⟨w1.heap.size, 3, none⟩ (.int .i64 n)) (.slice av acc.length cv) acc) := (HO.out.far HBK.out (by decide) (by decide) (by decide)).far (HBK.out.set_ 2 _) (by decide) (by decide) (by decide)
      have HBs : Hid (Below w.heap.size w ((wr.setCell ⟨w1.heap.size, 2, none⟩ (.int .i64 kd)).setCell ⟨w1.heap.size, 3, none⟩ (.int .i64 n))) := (HBB.out.setCell (p := ⟨w1.heap.size, 2, none⟩) (Nat.le_of_lt hg1) _).setCell (p := ⟨w1.heap.size, 3, none⟩) (Nat.le_of_lt hg1) _
      have k0 : wr.cell? ⟨w1.heap.size, 0, none⟩ = some (.int .i64 sd) := HBK.out.cell 0
      have k1 : wr.cell? ⟨w1.heap.size, 1, none⟩ = some (.slice av acc.length cv) := HBK.out.cell 1
      have k2 : wr.cell? ⟨w1.heap.size, 2, none⟩ = some (.int .i64 0) := HBK.out.cell 2
      have k3 : wr.cell? ⟨w1.heap.size, 3, none⟩ = some (.int .i64 0) := HBK.out.cell 3
      have f2 := HBK.out.frozen 2
      have f3 := HBK.out.frozen 3
      have r0 : wr.cell? ⟨w.heap.size, 0, none⟩ = some (.int .i64 0) := HTr.out.cell 0
      have r1 : wr.cell? ⟨w.heap.size, 1, none⟩ = some (.slice none 0 0) := HTr.out.cell 1
      have r2 : wr.cell? ⟨w.heap.size, 2, none⟩ = some (.int .i64 0) := HTr.out.cell 2
      have r3 : wr.cell? ⟨w.heap.size, 3, none⟩ = some (.int .i64 0) := HTr.out.cell 3
      have s0 := HTr.out.frozen 0
      have s1 := HTr.out.frozen 1
      have s2 := HTr.out.frozen 2
      have s3 := HTr.out.frozen 3
      have rl := HTr.out.lt
      have hbz : b < wr.heap.size := by omega
      clear hSA hs9 HS HR2 HTr HBK HO HSI HAT
      cases first
      · obtain rfl : R = (zScn, false) := HR4.out
        clear HR4 HRI
        go_wp2_with fail
        refine (HWR.out wr HBB.out).mono ?_
        rintro e w' ⟨rfl, j2, rfl⟩
        go_wp2_with fail
        refine bodyPost_ret (res_cell_tmp rfl st_Pd rfl ((nothing_blk HTs.out).more _) rfl rfl) rfl ?_
        exact ⟨none, 0, rfl, .nil, fun x hx => by simp [zScn] at hx, Below.ofMore (below_four HBs.out (Nat.le_refl _)) (below_four HBs.out (Nat.le_refl _)).size _⟩
      cases okw
      · obtain rfl : R = (zScn, false) := HR4.out
        clear HR4 HRI
        go_wp2_with fail
        refine (HWR.out wr HBB.out).mono ?_
        rintro e w' ⟨rfl, j2, rfl⟩
        go_wp2_with fail
        refine bodyPost_ret (res_cell_tmp rfl st_Pd rfl ((nothing_blk HTs.out).more _) rfl rfl) rfl ?_
        exact ⟨none, 0, rfl, .nil, fun x hx => by simp [zScn] at hx, Below.ofMore (below_four HBs.out (Nat.le_refl _)) (below_four HBs.out (Nat.le_refl _)).size _⟩
      go_wp2_with fail
      refine (HWR.out wr HBB.out).mono ?_
      rintro e w' ⟨rfl, j2, rfl⟩
      go_wp2_with fail
      refine (HRI.out _ (OwnSt.read (HOs.out.below (Below.moreS (Below.refl _ _) j2)) HSM.out)).mono ?_
      rintro e w' ⟨rfl, j3, rfl⟩
      cases rg
      · obtain rfl : R = (zScn, false) := HR4.out
        clear HR4 HRI
        go_wp2_with fail
        refine bodyPost_ret (res_cell_tmp rfl st_Pd rfl ((nothing_blk HTs.out).more _) rfl rfl) rfl ?_
        exact ⟨none, 0, rfl, .nil, fun x hx => by simp [zScn] at hx, Below.ofMore (below_four HBs.out (Nat.le_refl _)) (below_four HBs.out (Nat.le_refl _)).size _⟩
      · obtain rfl : R = (⟨sd, acc, kd, n⟩, true) := HR4.out
        clear HR4 HRI
        go_wp2_with fail
        refine bodyPost_ret (res_cell_tmp rfl st_Pd rfl ((HTs.out.put4).more _) rfl rfl) rfl ?_
        exact ⟨av, cv, rfl, OwnSt.read ((four_far HOs.out HTs.out (by decide) (by decide) (by decide)).below (Below.moreS (Below.refl _ _) _)) HSM.out, HSM.out, Below.ofMore (below_four HBs.out (Nat.le_refl _)) (below_four HBs.out (Nat.le_refl _)).size _⟩
end Go.Proofs.YtfcgdfcekpbliaaGreatDoor
