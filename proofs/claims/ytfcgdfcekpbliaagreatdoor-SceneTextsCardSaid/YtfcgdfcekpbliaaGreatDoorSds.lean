/-
  Scenarios: the document's comparison; which are too much to be looked at.
-/
import Derived.Test.YtfcgdfcekpbliaaGreatDoorMl
import Derived.Test.YtfcgdfcekpbliaaGreatDoorScr1
import Derived.Test.YtfcgdfcekpbliaaGreatDoorMa
namespace Go.Proofs.YtfcgdfcekpbliaaGreatDoor
set_option linter.unusedSimpArgs false
set_option linter.unusedVariables false
set_option linter.unusedSectionVars false
open Go.ChangeShapes Go.WideShapes Go.ChangeAt Go.RowKit Go.Deep Go.Shelf

abbrev QdT : TypeId := 26
def SamP (p : Prop) (w : World) (e : Ending) (w' : World) : Prop := (∃ r, e = .returned (.bool r) ∧ (r = true ↔ p)) ∧ ∃ j, w' = w.more j
set_option maxHeartbeats 16000000 in
set_option maxRecDepth 100000 in
theorem ref45_Same (sd wk ws sd2 wk2 ws2 : Int) (xs ys : List St) (hx : ∀ x ∈ xs, StSm x) (hy : ∀ x ∈ ys, StSm x) (hlx : xs.length ≤ 1000000) (a a2 : Option Addr) (c c2 : Nat) (w : World) (hS : SlSt w w w.heap.size a xs) (hT : SlSt w w w.heap.size a2 ys) :
    Calls Tryz.prog 12 #[.agg #[.int .i64 sd, .slice a xs.length c, .int .i64 wk, .int .i64 ws], .agg #[.int .i64 sd2, .slice a2 ys.length c2, .int .i64 wk2, .int .i64 ws2]] w (SamP ((⟨sd, xs, wk, ws⟩ : Scn) = ⟨sd2, ys, wk2, ws2⟩) w) := by
  have HEQ : Hid (((⟨sd, xs, wk, ws⟩ : Scn) = ⟨sd2, ys, wk2, ws2⟩) ↔ (sd = sd2 ∧ xs = ys ∧ wk = wk2 ∧ ws = ws2)) := by show _ ↔ _; rw [Scn.mk.injEq]
  generalize ((⟨sd, xs, wk, ws⟩ : Scn) = ⟨sd2, ys, wk2, ws2⟩) = PP at HEQ ⊢
  have HX := Lib.hid hx
  have HY := Lib.hid hy
  have HS := Lib.hid hS
  have HT := Lib.hid hT
  clear hx hy hS hT
  by_cases h1 : sd = sd2
  case neg =>
    have hn : ¬ PP := fun h => h1 (HEQ.out.1 h).1
    have HN := Lib.hid hn
    have e1 : (sd == sd2) = false := by simp [h1]
    have e2 : (sd != sd2) = true := by simp [h1]
    clear hn HX HY HS HT HEQ
    generalize xs.length = nx at hlx ⊢
    generalize ys.length = ny
    go_enter Tryz.func12, Tryz.ntmps12
    go_wp2_with fail
    go_ret
    exact ⟨⟨false, rfl, by simp [HN.out]⟩, Below.junk bel⟩
  by_cases h2 : wk = wk2
  case neg =>
    have hn : ¬ PP := fun h => h2 (HEQ.out.1 h).2.2.1
    have HN := Lib.hid hn
    have e1 : (wk == wk2) = false := by simp [h2]
    have e2 : (wk != wk2) = true := by simp [h2]
    clear hn HX HY HS HT HEQ
    generalize xs.length = nx at hlx ⊢
    generalize ys.length = ny
    subst h1
    go_enter Tryz.func12, Tryz.ntmps12
    go_wp2_with fail
    go_ret
    exact ⟨⟨false, rfl, by simp [HN.out]⟩, Below.junk bel⟩
  by_cases h3 : ws = ws2
  case neg =>
    have hn : ¬ PP := fun h => h3 (HEQ.out.1 h).2.2.2
    have HN := Lib.hid hn
    have e1 : (ws == ws2) = false := by simp [h3]
    have e2 : (ws != ws2) = true := by simp [h3]
    clear hn HX HY HS HT HEQ
    generalize xs.length = nx at hlx ⊢
    generalize ys.length = ny
    subst h1 h2
    go_enter Tryz.func12, Tryz.ntmps12
    go_wp2_with fail
    go_ret
    exact ⟨⟨false, rfl, by simp [HN.out]⟩, Below.junk bel⟩
  subst h1 h2 h3
  by_cases h4 : xs.length = ys.length
  case neg =>
    have hn : ¬ PP := fun h => h4 (by rw [(HEQ.out.1 h).2.1])
    have HN := Lib.hid hn
    have e1 : ((xs.length : Int) == (ys.length : Int)) = false := by rw [beq_eq_false_iff_ne]; omega
    have e2 : ((xs.length : Int) != (ys.length : Int)) = true := by rw [bne_iff_ne]; omega
    have e3 : ¬ ((xs.length : Int) = (ys.length : Int)) := by omega
    clear hn HX HY HS HT HEQ
    generalize xs.length = nx at hlx h4 e1 e2 e3 ⊢
    generalize ys.length = ny at h4 e1 e2 e3 ⊢
    go_enter Tryz.func12, Tryz.ntmps12
    go_wp2_with fail
    go_ret
    exact ⟨⟨false, rfl, by simp [HN.out]⟩, Below.junk bel⟩
  have HE2 : Hid (PP ↔ xs = ys) := by show _ ↔ _; rw [HEQ.out]; simp
  have H4 := Lib.hid h4
  have HYL : Hid (∀ k (h : k < xs.length), k < ys.length) := fun k h => by omega
  rw [← h4]
  clear HEQ h4
  go_enter Tryz.func12, Tryz.ntmps12
  go_wp2_with fail
  obtain ⟨w1, hw1⟩ : ∃ w1, w1 = (w.alloc (.cells #[.int .i64 sd, .slice a xs.length c, .int .i64 wk, .int .i64 ws] QdT)).alloc (.cells #[.int .i64 sd, .slice a2 xs.length c2, .int .i64 wk, .int .i64 ws] QdT) := ⟨_, rfl⟩
  rw [← hw1]
  have hbx : Blk w1 w.heap.size QdT #[.int .i64 sd, .slice a xs.length c, .int .i64 wk, .int .i64 ws] := by rw [hw1]; exact (Blk.new _ _ _).alloc _
  have hby : Blk w1 (w.heap.size + 1) QdT #[.int .i64 sd, .slice a2 xs.length c2, .int .i64 wk, .int .i64 ws] := by rw [hw1]; exact Blk.at_ _ _ _ (by simp)
  have HBW : Hid (Below w.heap.size w w1) := by show Below _ _ _; rw [hw1]; exact bel
  have HBM : ∀ j, Below w.heap.size w (w1.more j) := fun j => Below.moreS HBW.out j
  have hg1 := hbx.lt
  have hg2 := hby.lt
  have b1 : w1.cell? ⟨w.heap.size, 1, none⟩ = some (.slice a xs.length c) := hbx.cell 1
  have b2 : w1.cell? ⟨w.heap.size + 1, 1, none⟩ = some (.slice a2 xs.length c2) := hby.cell 1
  clear hw1 hbx hby
  go_loopw [5] (fun i wr => ∃ k : Nat, k ≤ xs.length ∧ i = .int .i64 k ∧ Hid (xs.take k = ys.take k) ∧ ∃ j, wr = w1.more j) (fun i _ => xs.length - (intOf i).toNat)
  case atStart => exact ⟨0, Nat.zero_le _, rfl, by show _ = _; simp, Below.junk bel⟩
  case round =>
    obtain ⟨k, hk, rfl, HTK, j, rfl⟩ := hrel
    by_cases hlt : k < xs.length
    · have hly := HYL.out k hlt
      obtain ⟨b, off, fa, fc, sa, sc, ha, hbb, c0, c1, c2, c3, c4, c5, hF, hSe⟩ := SlR.atSt HS.out hlt
      subst ha
      obtain ⟨b9, off9, fa2, fc2, sa2, sc2, ha2, hbb2, m0, m1, m2, m3, m4, m5, hF2, hSe2⟩ := SlR.atSt HT.out hly
      subst ha2
      have d0 := (HBW.out.cell (p := ⟨b, off + k * 6, none⟩) hbb).trans c0
      have d1 := (HBW.out.cell (p := ⟨b, off + k * 6 + 1, none⟩) hbb).trans c1
      have d2 := (HBW.out.cell (p := ⟨b, off + k * 6 + 2, none⟩) hbb).trans c2
      have d3 := (HBW.out.cell (p := ⟨b, off + k * 6 + 3, none⟩) hbb).trans c3
      have d4 := (HBW.out.cell (p := ⟨b, off + k * 6 + 4, none⟩) hbb).trans c4
      have d5 := (HBW.out.cell (p := ⟨b, off + k * 6 + 5, none⟩) hbb).trans c5
      have t0 := (HBW.out.cell (p := ⟨b9, off9 + k * 6, none⟩) hbb2).trans m0
      have t1 := (HBW.out.cell (p := ⟨b9, off9 + k * 6 + 1, none⟩) hbb2).trans m1
      have t2 := (HBW.out.cell (p := ⟨b9, off9 + k * 6 + 2, none⟩) hbb2).trans m2
      have t3 := (HBW.out.cell (p := ⟨b9, off9 + k * 6 + 3, none⟩) hbb2).trans m3
      have t4 := (HBW.out.cell (p := ⟨b9, off9 + k * 6 + 4, none⟩) hbb2).trans m4
      have t5 := (HBW.out.cell (p := ⟨b9, off9 + k * 6 + 5, none⟩) hbb2).trans m5
      have hbz : b < w1.heap.size := Nat.lt_of_lt_of_le hbb HBW.out.size
      have hbz2 : b9 < w1.heap.size := Nat.lt_of_lt_of_le hbb2 HBW.out.size
      have hkl : (k : Int) < (xs.length : Int) := by omega
      have hx1 := HX.out _ (List.getElem_mem hlt)
      have hy1 := HY.out _ (List.getElem_mem hly)
      have HSS : Hid (∀ W, Below w.heap.size w W → Calls Tryz.prog 36 #[.agg #[.int .i64 xs[k].kd, .int .i64 xs[k].sm, .int .i64 xs[k].nn, .bool xs[k].fin, .slice fa xs[k].fs.length fc, .slice sa xs[k].ss.length sc], .agg #[.int .i64 ys[k].kd, .int .i64 ys[k].sm, .int .i64 ys[k].nn, .bool ys[k].fin, .slice fa2 ys[k].fs.length fc2, .slice sa2 ys[k].ss.length sc2]] W fun x w' => x = .returned (.bool (sameSt xs[k] ys[k])) ∧ ∃ j, w' = W.more j) := fun W hW =>
        ref45_SameStep xs[k].kd xs[k].sm xs[k].nn ys[k].kd ys[k].sm ys[k].nn xs[k].fin ys[k].fin xs[k].fs ys[k].fs xs[k].ss ys[k].ss fa sa fa2 sa2 fc sc fc2 sc2 hx1.1 hy1.1 (by have := hx1.2; omega) (by have := hy1.2; omega) W ((hF.below hW (Nat.le_refl _)).mono hW.size (fun _ _ _ h => h)) ((hF2.below hW (Nat.le_refl _)).mono hW.size (fun _ _ _ h => h)) ((hSe.below hW (Nat.le_refl _)).mono hW.size (fun _ _ _ h => h)) ((hSe2.below hW (Nat.le_refl _)).mono hW.size (fun _ _ _ h => h))
      have HTK2 : Hid (sameSt xs[k] ys[k] = true → xs.take (k + 1) = ys.take (k + 1)) := fun h => by
        rw [List.take_succ_eq_append_getElem hlt, List.take_succ_eq_append_getElem hly, HTK.out, sameSt_iff.1 h]
      have HNO : Hid (sameSt xs[k] ys[k] = false → ¬ PP) := fun h hp => by
        have e := HE2.out.1 hp
        have : xs[k] = ys[k] := by subst e; rfl
        rw [sameSt_iff.2 this] at h
        cases h
      generalize sameSt xs[k] ys[k] = q at HSS HTK2 HNO
      generalize xs[k].fs.length = nf at HSS d4
      generalize xs[k].ss.length = ns at HSS d5
      generalize xs[k].kd = y0 at HSS d0
      generalize xs[k].sm = y1 at HSS d1
      generalize xs[k].nn = y2 at HSS d2
      generalize xs[k].fin = y3 at HSS d3
      generalize ys[k].fs.length = nf2 at HSS t4
      generalize ys[k].ss.length = ns2 at HSS t5
      generalize ys[k].kd = z0 at HSS t0
      generalize ys[k].sm = z1 at HSS t1
      generalize ys[k].nn = z2 at HSS t2
      generalize ys[k].fin = z3 at HSS t3
      clear c0 c1 c2 c3 c4 c5 m0 m1 m2 m3 m4 m5 hF hSe hF2 hSe2 hx1 hy1 hly
      go_wp2_with fail
      obtain ⟨wv, hwv⟩ : ∃ wv, wv = w1.more j := ⟨_, rfl⟩
      rw [← hwv]
      have HB1 : Hid (Below w1.heap.size w1 wv) := by show Below _ _ _; rw [hwv]; exact bel
      have HBV : Hid (Below w.heap.size w wv) := HBW.out.trans (HB1.out.mono HBW.out.size)
      have v1 := (HB1.out.cell (p := ⟨w.heap.size, 1, none⟩) hg1).trans b1
      have v2 := (HB1.out.cell (p := ⟨w.heap.size + 1, 1, none⟩) hg2).trans b2
      have vd0 := (HB1.out.cell (p := ⟨b, off + k * 6, none⟩) hbz).trans d0
      have vd1 := (HB1.out.cell (p := ⟨b, off + k * 6 + 1, none⟩) hbz).trans d1
      have vd2 := (HB1.out.cell (p := ⟨b, off + k * 6 + 2, none⟩) hbz).trans d2
      have vd3 := (HB1.out.cell (p := ⟨b, off + k * 6 + 3, none⟩) hbz).trans d3
      have vd4 := (HB1.out.cell (p := ⟨b, off + k * 6 + 4, none⟩) hbz).trans d4
      have vd5 := (HB1.out.cell (p := ⟨b, off + k * 6 + 5, none⟩) hbz).trans d5
      have vt0 := (HB1.out.cell (p := ⟨b9, off9 + k * 6, none⟩) hbz2).trans t0
      have vt1 := (HB1.out.cell (p := ⟨b9, off9 + k * 6 + 1, none⟩) hbz2).trans t1
      have vt2 := (HB1.out.cell (p := ⟨b9, off9 + k * 6 + 2, none⟩) hbz2).trans t2
      have vt3 := (HB1.out.cell (p := ⟨b9, off9 + k * 6 + 3, none⟩) hbz2).trans t3
      have vt4 := (HB1.out.cell (p := ⟨b9, off9 + k * 6 + 4, none⟩) hbz2).trans t4
      have vt5 := (HB1.out.cell (p := ⟨b9, off9 + k * 6 + 5, none⟩) hbz2).trans t5
      have hvz := HB1.out.size
      have vbz : b < wv.heap.size := by omega
      have vbz2 : b9 < wv.heap.size := by omega
      have vg1 : w.heap.size < wv.heap.size := by omega
      have vg2 : w.heap.size + 1 < wv.heap.size := by omega
      clear hwv d0 d1 d2 d3 d4 d5 t0 t1 t2 t3 t4 t5
      refine wp_region_more (by kernel_rfl) (by kernel_rfl) ?_
      repeat (quiet_step (first | (go_at_call 36; exact more_of (HSS.out _ (Below.moreS HBV.out _)))))
      refine wpQuiet_nil ?_
      intro w' hw'
      obtain ⟨j, rfl⟩ := hw'
      cases q
      · have HN := Lib.hid (HNO.out rfl)
        go_wp2_with fail
        go_ret
        exact ⟨⟨false, rfl, by simp [HN.out]⟩, Below.junk (by repeat (first | exact HBV.out | (with_reducible refine Below.allocS ?_ _) | (with_reducible refine Below.moreS ?_ _) | (with_reducible refine Below.drew ?_)))⟩
      · have HT9 := Lib.hid (HTK2.out rfl)
        go_wp2_with fail
        go_round
        case rel => exact ⟨k + 1, hlt, by go_num, HT9, Below.junk (by repeat (first | exact HB1.out | (with_reducible refine Below.allocS ?_ _) | (with_reducible refine Below.moreS ?_ _) | (with_reducible refine Below.drew ?_)))⟩
        case measure => simp [intOf]; omega
    · obtain rfl : k = xs.length := by omega
      have hp : PP := HE2.out.2 (by have h := HTK.out; rw [List.take_length] at h; rw [h, H4.out, List.take_length])
      have HP := Lib.hid hp
      have hkl : ¬ (xs.length : Int) < (xs.length : Int) := by omega
      clear hp HTK HS HT HX HY
      go_wp2_with fail
      go_ret
      exact ⟨⟨true, rfl, by simp [HP.out]⟩, Below.junk (by repeat (first | exact HBW.out | (with_reducible refine Below.allocS ?_ _) | (with_reducible refine Below.moreS ?_ _) | (with_reducible refine Below.drew ?_)))⟩
end Go.Proofs.YtfcgdfcekpbliaaGreatDoor
