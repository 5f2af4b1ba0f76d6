/-
  Scenarios: a scenario handed from one side to the other: the laws' own functions.
-/
import Derived.Test.YtfcgdfcekpbliaaGreatDoorSdo1
namespace Go.Proofs.YtfcgdfcekpbliaaGreatDoor
set_option linter.unusedSimpArgs false
set_option linter.unusedVariables false
set_option linter.unusedSectionVars false
open Go.ChangeShapes Go.WideShapes Go.ChangeAt Go.RowKit Go.Deep Go.Shelf

def HandP (sd wk ws : Int) (xs : List St) (w : World) (e : Ending) (w' : World) : Prop :=
  ∃ a c, e = .returned (.agg #[.int .i64 sd, .slice a xs.length c, .int .i64 wk, .int .i64 ws]) ∧ SlSt w' w' w'.heap.size a xs ∧ Below w.heap.size w w'
set_option maxHeartbeats 4000000 in
set_option maxRecDepth 100000 in
theorem law45_step (k s n : Int) (e : Bool) (fa sa : Option Addr) (nf fc ns sc : Nat) (w : World) :
    Calls Tryz.prog 25 #[.agg #[.int .i64 k, .int .i64 s, .int .i64 n, .bool e, .slice fa nf fc, .slice sa ns sc]] w fun y w' => y = .returned (.agg #[.int .i64 k, .int .i64 s, .int .i64 n, .bool e, .slice fa nf fc, .slice sa ns sc]) ∧ ∃ j, w' = w.more j := by
  go_enter Tryz.func25, Tryz.ntmps25
  go_wp2_with fail
  refine bodyPost_ret (res_cell rfl st_Pt rfl blk rfl) rfl ?_
  exact ⟨rfl, Below.junk bel⟩
set_option maxHeartbeats 16000000 in
set_option maxRecDepth 100000 in
theorem law45_Doc (sd wk ws : Int) (xs : List St) (hl : xs.length ≤ 1000000) (a : Option Addr) (c : Nat) (w : World) (hS : SlSt w w w.heap.size a xs) :
    Calls Tryz.prog 13 #[.agg #[.int .i64 sd, .slice a xs.length c, .int .i64 wk, .int .i64 ws]] w (HandP sd wk ws xs w) := by
  have HS := Lib.hid hS
  clear hS
  go_enter Tryz.func13, Tryz.ntmps13
  go_wp2_with fail
  obtain ⟨w1, hw1⟩ : ∃ w1, w1 = ((w.alloc (.cells #[.int .i64 sd, .slice a xs.length c, .int .i64 wk, .int .i64 ws] PdT)).alloc (.cells zPd QdT)).alloc (.cells #[.int .i64 sd, .slice none 0 0, .int .i64 wk, .int .i64 ws] QdT) := ⟨_, rfl⟩
  rw [show (((w.alloc (.cells #[.int .i64 sd, .slice a xs.length c, .int .i64 wk, .int .i64 ws] PdT)).alloc (.cells #[.int .i64 0, .slice none 0 0, .int .i64 0, .int .i64 0] QdT)).alloc (.cells #[.int .i64 sd, .slice none 0 0, .int .i64 wk, .int .i64 ws] QdT)) = w1 from hw1.symm]
  have hr1 : Blk w1 (w.heap.size + 1) QdT zPd := by rw [hw1]; exact (Blk.at_ _ _ _ (by simp)).alloc _
  have hk1 : Blk w1 (w.heap.size + 1 + 1) QdT #[.int .i64 sd, .slice none 0 0, .int .i64 wk, .int .i64 ws] := by rw [hw1]; exact Blk.at_ _ _ _ (by simp)
  have HB1 : Hid (Below w.heap.size w w1) := by show Below _ _ _; rw [hw1]; exact bel
  have hz1 : w1.heap.size = w.heap.size + 1 + 1 + 1 := by rw [hw1]; simp
  have HZ1 := Lib.hid hz1
  clear hw1 hz1
  go_loopg [19] xs.length (fun q i wr => ∃ (k : Nat) (acc : List St) (v : Value), k + q = xs.length ∧ i = .int .i64 k ∧ acc = xs.take k ∧ OwnW w QtT (w.heap.size + 1 + 1) wr v acc ∧ Blk wr (w.heap.size + 1 + 1) QdT #[.int .i64 sd, v, .int .i64 wk, .int .i64 ws] ∧ Blk wr (w.heap.size + 1) QdT zPd ∧ Below w.heap.size w wr)
  case atStart => exact ⟨0, [], .slice none 0 0, by omega, rfl, by simp, OwnW.nil, hk1, hr1, HB1.out⟩
  case round =>
    obtain ⟨k, acc, v, hkq, rfl, hac, ho, hk, hr, hb⟩ := hrel
    have HK := Lib.hid hkq
    have HAC := Lib.hid hac
    have HO := Lib.hid ho
    have HKK := Lib.hid hk
    have HR := Lib.hid hr
    have HB := Lib.hid hb
    have hkl := hk.lt
    have hkl2 := hr.lt
    have hzr := hb.size
    have hal : acc.length ≤ 1000000 := by rw [hac, List.length_take]; omega
    clear hkq hac ho hk hr hb
    by_cases hlt : k < xs.length
    · obtain ⟨b, off, fa, fc, sa, sc, ha, hbb, c0, c1, c2, c3, c4, c5, hF, hSe⟩ := SlR.atSt HS.out hlt
      subst ha
      have d0 := (HB.out.cell (p := ⟨b, off + k * 6, none⟩) hbb).trans c0
      have d1 := (HB.out.cell (p := ⟨b, off + k * 6 + 1, none⟩) hbb).trans c1
      have d2 := (HB.out.cell (p := ⟨b, off + k * 6 + 2, none⟩) hbb).trans c2
      have d3 := (HB.out.cell (p := ⟨b, off + k * 6 + 3, none⟩) hbb).trans c3
      have d4 := (HB.out.cell (p := ⟨b, off + k * 6 + 4, none⟩) hbb).trans c4
      have d5 := (HB.out.cell (p := ⟨b, off + k * 6 + 5, none⟩) hbb).trans c5
      have hbz : b < wr.heap.size := by omega
      have hkll : (k : Int) < (xs.length : Int) := by omega
      have hU : xs.take (k + 1) = acc ++ [xs[k]] := by rw [List.take_succ_eq_append_getElem hlt, HAC.out]
      have HSI : Hid (stIs w xs[k] [.int .i64 xs[k].kd, .int .i64 xs[k].sm, .int .i64 xs[k].nn, .bool xs[k].fin, .slice fa xs[k].fs.length fc, .slice sa xs[k].ss.length sc]) := ⟨fa, fc, sa, sc, rfl, hF, hSe⟩
      have HU := Lib.hid hU
      clear hU hF hSe c0 c1 c2 c3 c4 c5 HAC
      generalize hxk : xs[k] = x at HU HSI d0 d1 d2 d3 d4 d5
      clear hxk
      obtain ⟨y0, y1, y2, y3, yf, ys⟩ := x
      simp only at HSI d0 d1 d2 d3 d4 d5
      generalize hnf : yf.length = nf at HSI d4
      generalize hns : ys.length = ns at HSI d5
      have HNF := Lib.hid hnf
      have HNS := Lib.hid hns
      have q1 : wr.cell? ⟨w.heap.size + 1 + 1, 1, none⟩ = some v := HKK.out.cell 1
      have g1 : wr.frozen? ⟨w.heap.size + 1 + 1, 1, none⟩ = false := HKK.out.frozen 1
      clear hnf hns
      go_wp2_with (at_builtin; refine app_stepW st_qsteps (.tmp 24) (.tmp 38) (y := ⟨y0, y1, y2, y3, yf, ys⟩) rfl rfl rfl (HO.out.below bel) (cs := #[.int .i64 y0, .int .i64 y1, .int .i64 y2, .bool y3, .slice fa nf fc, .slice sa ns sc]) HSI.out rfl blk (by omega) (by simp only [World.size_alloc]; omega) ?_; intro v' w5 ho5 hb5 hk5; have HK5 := Lib.hid (hk5 (w.heap.size + 1 + 1) QdT #[.int .i64 sd, v, .int .i64 wk, .int .i64 ws] (HKK.out.below (B := wr.heap.size) bel hkl) (by decide)); have HR5 := Lib.hid (hk5 (w.heap.size + 1) QdT zPd (HR.out.below (B := wr.heap.size) bel hkl2) (by decide)); have HO5 := Lib.hid ho5; have HB5 : Hid (Below w.heap.size w w5) := HB.out.trans (Below.trans (Below.mono (B := wr.heap.size) bel hzr) (hb5.mono (by omega))); have k5 : w5.cell? ⟨w.heap.size + 1 + 1, 1, none⟩ = some v := HK5.out.cell 1; have f5 : w5.frozen? ⟨w.heap.size + 1 + 1, 1, none⟩ = false := HK5.out.frozen 1; have l5 := HK5.out.lt; obtain ⟨a5, c5, rfl⟩ := ho5.slice; clear ho5 hb5 hk5)
      go_roundg (xs.length - (k + 1))
      case measure => have := HK.out; omega
      case rel => exact ⟨k + 1, _, .slice a5 (acc ++ [(⟨y0, y1, y2, y3, yf, ys⟩ : St)]).length c5, by have := HK.out; omega, by go_num, HU.out.symm, by simpa using OwnW.far (i := 1) (u := .slice a5 (acc ++ [(⟨y0, y1, y2, y3, yf, ys⟩ : St)]).length c5) HO5.out HK5.out (by decide), by simpa using HK5.out.set_ 1 (.slice a5 (acc ++ [(⟨y0, y1, y2, y3, yf, ys⟩ : St)]).length c5), HR5.out.far (p := ⟨w.heap.size + 1 + 1, 1, none⟩) (by simp) _, HB5.out.setCell (p := ⟨w.heap.size + 1 + 1, 1, none⟩) (by simp; omega) _⟩
    · obtain rfl : k = xs.length := by have := HK.out; omega
      obtain rfl : acc = xs := by have := HAC.out; rwa [List.take_length] at this
      have hkll : ¬ (acc.length : Int) < (acc.length : Int) := by omega
      obtain ⟨av, cv, rfl⟩ := HO.out.slice
      have q0 : wr.cell? ⟨w.heap.size + 1 + 1, 0, none⟩ = some (.int .i64 sd) := HKK.out.cell 0
      have q1 : wr.cell? ⟨w.heap.size + 1 + 1, 1, none⟩ = some (.slice av acc.length cv) := HKK.out.cell 1
      have q2 : wr.cell? ⟨w.heap.size + 1 + 1, 2, none⟩ = some (.int .i64 wk) := HKK.out.cell 2
      have q3 : wr.cell? ⟨w.heap.size + 1 + 1, 3, none⟩ = some (.int .i64 ws) := HKK.out.cell 3
      have r0 : wr.cell? ⟨w.heap.size + 1, 0, none⟩ = some (.int .i64 0) := HR.out.cell 0
      have r1 : wr.cell? ⟨w.heap.size + 1, 1, none⟩ = some (.slice none 0 0) := HR.out.cell 1
      have r2 : wr.cell? ⟨w.heap.size + 1, 2, none⟩ = some (.int .i64 0) := HR.out.cell 2
      have r3 : wr.cell? ⟨w.heap.size + 1, 3, none⟩ = some (.int .i64 0) := HR.out.cell 3
      have s0 := HR.out.frozen 0
      have s1 := HR.out.frozen 1
      have s2 := HR.out.frozen 2
      have s3 := HR.out.frozen 3
      have hne : ¬ w.heap.size + 1 + 1 = w.heap.size + 1 := by omega
      have hne2 : ¬ w.heap.size + 1 = w.heap.size + 1 + 1 := by omega
      clear HS HAC
      go_wp2_with fail
      refine bodyPost_ret (res_cell rfl st_Qd rfl (HR.out.put4) rfl) rfl ?_
      have HF := ((((HO.out.far (i := 0) (u := .int .i64 sd) HR.out (by decide)).far (i := 1) (u := .slice av acc.length cv) (HR.out.set_ 0 _) (by decide)).far (i := 2) (u := .int .i64 wk) ((HR.out.set_ 0 _).set_ 1 _) (by decide)).far (i := 3) (u := .int .i64 ws) (((HR.out.set_ 0 _).set_ 1 _).set_ 2 _) (by decide))
      exact ⟨av, cv, rfl, HF.read (below_four HB.out (by omega)), below_four HB.out (by omega)⟩
set_option maxHeartbeats 16000000 in
set_option maxRecDepth 100000 in
theorem law45_Own (sd wk ws : Int) (xs : List St) (hl : xs.length ≤ 1000000) (a : Option Addr) (c : Nat) (w : World) (hS : SlSt w w w.heap.size a xs) :
    Calls Tryz.prog 8 #[.agg #[.int .i64 sd, .slice a xs.length c, .int .i64 wk, .int .i64 ws]] w (HandP sd wk ws xs w) := by
  have HS := Lib.hid hS
  clear hS
  go_enter Tryz.func8, Tryz.ntmps8
  go_wp2_with fail
  obtain ⟨w1, hw1⟩ : ∃ w1, w1 = ((w.alloc (.cells #[.int .i64 sd, .slice a xs.length c, .int .i64 wk, .int .i64 ws] QdT)).alloc (.cells zPd PdT)).alloc (.cells #[.int .i64 sd, .slice none 0 0, .int .i64 wk, .int .i64 ws] PdT) := ⟨_, rfl⟩
  rw [show (((w.alloc (.cells #[.int .i64 sd, .slice a xs.length c, .int .i64 wk, .int .i64 ws] QdT)).alloc (.cells #[.int .i64 0, .slice none 0 0, .int .i64 0, .int .i64 0] PdT)).alloc (.cells #[.int .i64 sd, .slice none 0 0, .int .i64 wk, .int .i64 ws] PdT)) = w1 from hw1.symm]
  have hr1 : Blk w1 (w.heap.size + 1) PdT zPd := by rw [hw1]; exact (Blk.at_ _ _ _ (by simp)).alloc _
  have hk1 : Blk w1 (w.heap.size + 1 + 1) PdT #[.int .i64 sd, .slice none 0 0, .int .i64 wk, .int .i64 ws] := by rw [hw1]; exact Blk.at_ _ _ _ (by simp)
  have HB1 : Hid (Below w.heap.size w w1) := by show Below _ _ _; rw [hw1]; exact bel
  have hz1 : w1.heap.size = w.heap.size + 1 + 1 + 1 := by rw [hw1]; simp
  have HZ1 := Lib.hid hz1
  clear hw1 hz1
  go_loopg [19] xs.length (fun q i wr => ∃ (k : Nat) (acc : List St) (v : Value), k + q = xs.length ∧ i = .int .i64 k ∧ acc = xs.take k ∧ OwnW w PtT (w.heap.size + 1 + 1) wr v acc ∧ Blk wr (w.heap.size + 1 + 1) PdT #[.int .i64 sd, v, .int .i64 wk, .int .i64 ws] ∧ Blk wr (w.heap.size + 1) PdT zPd ∧ Below w.heap.size w wr)
  case atStart => exact ⟨0, [], .slice none 0 0, by omega, rfl, by simp, OwnW.nil, hk1, hr1, HB1.out⟩
  case round =>
    obtain ⟨k, acc, v, hkq, rfl, hac, ho, hk, hr, hb⟩ := hrel
    have HK := Lib.hid hkq
    have HAC := Lib.hid hac
    have HO := Lib.hid ho
    have HKK := Lib.hid hk
    have HR := Lib.hid hr
    have HB := Lib.hid hb
    have hkl := hk.lt
    have hkl2 := hr.lt
    have hzr := hb.size
    have hal : acc.length ≤ 1000000 := by rw [hac, List.length_take]; omega
    clear hkq hac ho hk hr hb
    by_cases hlt : k < xs.length
    · obtain ⟨b, off, fa, fc, sa, sc, ha, hbb, c0, c1, c2, c3, c4, c5, hF, hSe⟩ := SlR.atSt HS.out hlt
      subst ha
      have d0 := (HB.out.cell (p := ⟨b, off + k * 6, none⟩) hbb).trans c0
      have d1 := (HB.out.cell (p := ⟨b, off + k * 6 + 1, none⟩) hbb).trans c1
      have d2 := (HB.out.cell (p := ⟨b, off + k * 6 + 2, none⟩) hbb).trans c2
      have d3 := (HB.out.cell (p := ⟨b, off + k * 6 + 3, none⟩) hbb).trans c3
      have d4 := (HB.out.cell (p := ⟨b, off + k * 6 + 4, none⟩) hbb).trans c4
      have d5 := (HB.out.cell (p := ⟨b, off + k * 6 + 5, none⟩) hbb).trans c5
      have hbz : b < wr.heap.size := by omega
      have hkll : (k : Int) < (xs.length : Int) := by omega
      have hU : xs.take (k + 1) = acc ++ [xs[k]] := by rw [List.take_succ_eq_append_getElem hlt, HAC.out]
      have HSI : Hid (stIs w xs[k] [.int .i64 xs[k].kd, .int .i64 xs[k].sm, .int .i64 xs[k].nn, .bool xs[k].fin, .slice fa xs[k].fs.length fc, .slice sa xs[k].ss.length sc]) := ⟨fa, fc, sa, sc, rfl, hF, hSe⟩
      have HU := Lib.hid hU
      clear hU hF hSe c0 c1 c2 c3 c4 c5 HAC
      generalize hxk : xs[k] = x at HU HSI d0 d1 d2 d3 d4 d5
      clear hxk
      obtain ⟨y0, y1, y2, y3, yf, ys⟩ := x
      simp only at HSI d0 d1 d2 d3 d4 d5
      generalize hnf : yf.length = nf at HSI d4
      generalize hns : ys.length = ns at HSI d5
      have HNF := Lib.hid hnf
      have HNS := Lib.hid hns
      have q1 : wr.cell? ⟨w.heap.size + 1 + 1, 1, none⟩ = some v := HKK.out.cell 1
      have g1 : wr.frozen? ⟨w.heap.size + 1 + 1, 1, none⟩ = false := HKK.out.frozen 1
      clear hnf hns
      have HSP : Hid (∀ W, Calls Tryz.prog 25 #[.agg #[.int .i64 y0, .int .i64 y1, .int .i64 y2, .bool y3, .slice fa nf fc, .slice sa ns sc]] W fun y w' => y = .returned (.agg #[.int .i64 y0, .int .i64 y1, .int .i64 y2, .bool y3, .slice fa nf fc, .slice sa ns sc]) ∧ ∃ j, w' = W.more j) := fun W => law45_step y0 y1 y2 y3 fa sa nf fc ns sc W
      go_wp2_with fail
      refine gp_start (Pv (w.heap.size + 1 + 1) v) (by kernel_rfl) ?_
      obtain ⟨wd, hwd⟩ : ∃ wd, wd = (wr.alloc (.cells #[.int .i64 y0, .int .i64 y1, .int .i64 y2, .bool y3, .slice fa nf fc, .slice sa ns sc] QtT)).drew := ⟨_, rfl⟩
      rw [← hwd]
      have hbd : Blk wd wr.heap.size QtT #[.int .i64 y0, .int .i64 y1, .int .i64 y2, .bool y3, .slice fa nf fc, .slice sa ns sc] := by rw [hwd]; exact (Blk.new _ _ _).drew
      have HOd : Hid (OwnW w PtT (w.heap.size + 1 + 1) wd v acc) := by show OwnW _ _ _ _ _ _; rw [hwd]; exact (HO.out.below bel)
      have HKd : Hid (Blk wd (w.heap.size + 1 + 1) PdT #[.int .i64 sd, v, .int .i64 wk, .int .i64 ws]) := by show Blk _ _ _ _; rw [hwd]; exact (HKK.out.alloc _).drew
      have HRd : Hid (Blk wd (w.heap.size + 1) PdT zPd) := by show Blk _ _ _ _; rw [hwd]; exact (HR.out.alloc _).drew
      have HBd : Hid (Below w.heap.size w wd) := by show Below _ _ _; rw [hwd]; exact HB.out.trans (Below.mono (B := wr.heap.size) bel hzr)
      have kd1 : wd.cell? ⟨w.heap.size + 1 + 1, 1, none⟩ = some v := HKd.out.cell 1
      have bd := HKd.out.lt
      have bd2 := HRd.out.lt
      have hzd := HBd.out.size
      have hnb : ¬ Pv (w.heap.size + 1 + 1) v wr.heap.size := by
        obtain ⟨ps, _, h2, _⟩ := HO.out.st
        rintro (h | h)
        · omega
        · have := (h2.lt _ h.symm).2; omega
      clear hwd d0 d1 d2 d3 d4 d5 q1 g1
      refine gp_take 0 (v := ?_) rfl (by kernel_rfl) (by kernel_rfl) (by kernel_rfl) (fun _ _ _ h => h) (Or.inl ⟨by first | kernel_rfl | rfl, ?_⟩) ?_
      rotate_left
      · intro wS hSw; clear hSw; go_simp; try with_reducible rfl
      try simp only [Act.put, List.getElem_toArray, List.getElem_cons_succ, List.getElem_cons_zero, List.setIfInBounds_toArray, List.set_cons_zero, List.set_cons_succ]
      refine gp_load 2 rfl (by kernel_rfl) (by kernel_rfl) (by kernel_rfl) 49 (.tmp 5) #[.int .i64 y0, .int .i64 y1, .int .i64 y2, .bool y3, .slice fa nf fc, .slice sa ns sc] (fun _ _ _ h => h) (by first | kernel_rfl | rfl) rfl wr.heap.size rfl hbd hnb _ Tryz.underlying49 rfl (by kernel_rfl) ?_
      try simp only [Act.put, List.getElem_toArray, List.getElem_cons_succ, List.getElem_cons_zero, List.setIfInBounds_toArray, List.set_cons_zero, List.set_cons_succ]
      refine gpv_two 1 3 (by kernel_rfl) rfl rfl (fun K' hK => ?_) (fun K' hK => ?_)
      · go_simp
        go_wp2_with fail
        refine hK.out _ _ (show Gp _ _ _ from (by first | exact Gp.refl _ | (refine Gp.of_below ?_; repeat (first | (with_reducible exact Below.refl _ _) | (with_reducible exact grown_merge _ _ _ _) | (with_reducible exact grown_merge2 _ _ _ _ _ _) | (with_reducible refine Below.allocS ?_ _) | (with_reducible refine Below.moreS ?_ _) | (with_reducible refine Below.drew ?_))))) ?_
        clear hK K'
        try simp only [Act.put, List.getElem_toArray, List.getElem_cons_succ, List.getElem_cons_zero, List.setIfInBounds_toArray, List.set_cons_zero, List.set_cons_succ]
        refine gp_step 3 (by kernel_rfl) rfl (fun K hK => ?_)
        go_simp
        go_wp2_with (go_at_call 25; (with_reducible refine (HSP.out _).mono ?_); rintro e w' ⟨rfl, j, rfl⟩)
        refine hK.out _ _ (show Gp _ _ _ from (by first | exact Gp.refl _ | (refine Gp.of_below ?_; repeat (first | (with_reducible exact Below.refl _ _) | (with_reducible exact grown_merge _ _ _ _) | (with_reducible exact grown_merge2 _ _ _ _ _ _) | (with_reducible refine Below.allocS ?_ _) | (with_reducible refine Below.moreS ?_ _) | (with_reducible refine Below.drew ?_))))) ?_
        clear hK K
        try simp only [Act.put, List.getElem_toArray, List.getElem_cons_succ, List.getElem_cons_zero, List.setIfInBounds_toArray, List.set_cons_zero, List.set_cons_succ]
        refine gp_step 4 (by kernel_rfl) rfl (fun K hK => ?_)
        go_simp
        go_wp2_with fail
        refine hK.out _ _ (show Gp _ _ _ from (by first | exact Gp.refl _ | (refine Gp.of_below ?_; repeat (first | (with_reducible exact Below.refl _ _) | (with_reducible exact grown_merge _ _ _ _) | (with_reducible exact grown_merge2 _ _ _ _ _ _) | (with_reducible refine Below.allocS ?_ _) | (with_reducible refine Below.moreS ?_ _) | (with_reducible refine Below.drew ?_))))) ?_
        clear hK K
        try simp only [Act.put, List.getElem_toArray, List.getElem_cons_succ, List.getElem_cons_zero, List.setIfInBounds_toArray, List.set_cons_zero, List.set_cons_succ]
        refine gp_step 5 (by kernel_rfl) rfl (fun K hK => ?_)
        refine step_stepW st_steps (.tmp 24) (.tmp 27) (y := ⟨y0, y1, y2, y3, yf, ys⟩) rfl rfl rfl (HOd.out.below bel) (cs := #[.int .i64 y0, .int .i64 y1, .int .i64 y2, .bool y3, .slice fa nf fc, .slice sa ns sc]) HSI.out rfl blk (by omega) (by simp only [World.size_alloc, World.size_more]; omega) ?_
        intro v' w5 ho5 hb5 hk5 hgr
        have HK5 := Lib.hid (hk5 (w.heap.size + 1 + 1) PdT #[.int .i64 sd, v, .int .i64 wk, .int .i64 ws] (HKd.out.below (B := wd.heap.size) bel bd) (by decide))
        have HR5 := Lib.hid (hk5 (w.heap.size + 1) PdT zPd (HRd.out.below (B := wd.heap.size) bel bd2) (by decide))
        have HO5 := Lib.hid ho5
        have HB5 : Hid (Below w.heap.size w w5) := HBd.out.trans (Below.trans (Below.mono (B := wd.heap.size) bel hzd) (hb5.mono (by omega)))
        have k5 : w5.cell? ⟨w.heap.size + 1 + 1, 1, none⟩ = some v := HK5.out.cell 1
        have f5 : w5.frozen? ⟨w.heap.size + 1 + 1, 1, none⟩ = false := HK5.out.frozen 1
        have l5 := HK5.out.lt
        obtain ⟨a5, c5, rfl⟩ := ho5.slice
        refine hK.out _ _ (show Gp _ _ _ from gpv_grown hgr) ?_
        clear hK K ho5 hb5 hk5 hgr
        try simp only [Act.put, List.getElem_toArray, List.getElem_cons_succ, List.getElem_cons_zero, List.setIfInBounds_toArray, List.set_cons_zero, List.set_cons_succ]
        refine gp_step 6 (by kernel_rfl) rfl (fun K hK => ?_)
        go_simp
        go_wp2_with fail
        refine hK.out _ _ (show Gp _ _ _ from Gp.refl _) ?_
        clear hK K
        try simp only [Act.put, List.getElem_toArray, List.getElem_cons_succ, List.getElem_cons_zero, List.setIfInBounds_toArray, List.set_cons_zero, List.set_cons_succ]
        refine gp_step 7 (by kernel_rfl) rfl (fun K hK => ?_)
        go_simp
        go_wp2_with fail
        refine hK.out _ _ (show Gp _ _ _ from Gp.set _ (.inl rfl)) ?_
        clear hK K
        try simp only [Act.put, List.getElem_toArray, List.getElem_cons_succ, List.getElem_cons_zero, List.setIfInBounds_toArray, List.set_cons_zero, List.set_cons_succ]
        refine wpAnyH_done (by kernel_rfl) ?_ _
        go_wp2_with fail
        go_roundg (xs.length - (k + 1))
        case measure => have := HK.out; omega
        case rel => exact ⟨k + 1, _, .slice a5 (acc ++ [(⟨y0, y1, y2, y3, yf, ys⟩ : St)]).length c5, by have := HK.out; omega, by go_num, HU.out.symm, by simpa using OwnW.far (i := 1) (u := .slice a5 (acc ++ [(⟨y0, y1, y2, y3, yf, ys⟩ : St)]).length c5) HO5.out HK5.out (by decide), by simpa using HK5.out.set_ 1 (.slice a5 (acc ++ [(⟨y0, y1, y2, y3, yf, ys⟩ : St)]).length c5), HR5.out.far (p := ⟨w.heap.size + 1 + 1, 1, none⟩) (by simp) _, HB5.out.setCell (p := ⟨w.heap.size + 1 + 1, 1, none⟩) (by simp; omega) _⟩
      · go_simp
        go_wp2_with (go_at_call 25; (with_reducible refine (HSP.out _).mono ?_); rintro e w' ⟨rfl, j, rfl⟩)
        refine hK.out _ _ (show Gp _ _ _ from (by first | exact Gp.refl _ | (refine Gp.of_below ?_; repeat (first | (with_reducible exact Below.refl _ _) | (with_reducible exact grown_merge _ _ _ _) | (with_reducible exact grown_merge2 _ _ _ _ _ _) | (with_reducible refine Below.allocS ?_ _) | (with_reducible refine Below.moreS ?_ _) | (with_reducible refine Below.drew ?_))))) ?_
        clear hK K'
        try simp only [Act.put, List.getElem_toArray, List.getElem_cons_succ, List.getElem_cons_zero, List.setIfInBounds_toArray, List.set_cons_zero, List.set_cons_succ]
        refine gpv_two 1 4 (by kernel_rfl) rfl rfl (fun K' hK => ?_) (fun K' hK => ?_)
        · go_simp
          go_wp2_with fail
          refine hK.out _ _ (show Gp _ _ _ from (by first | exact Gp.refl _ | (refine Gp.of_below ?_; repeat (first | (with_reducible exact Below.refl _ _) | (with_reducible exact grown_merge _ _ _ _) | (with_reducible exact grown_merge2 _ _ _ _ _ _) | (with_reducible refine Below.allocS ?_ _) | (with_reducible refine Below.moreS ?_ _) | (with_reducible refine Below.drew ?_))))) ?_
          clear hK K'
          try simp only [Act.put, List.getElem_toArray, List.getElem_cons_succ, List.getElem_cons_zero, List.setIfInBounds_toArray, List.set_cons_zero, List.set_cons_succ]
          refine gp_step 4 (by kernel_rfl) rfl (fun K hK => ?_)
          go_simp
          go_wp2_with fail
          refine hK.out _ _ (show Gp _ _ _ from (by first | exact Gp.refl _ | (refine Gp.of_below ?_; repeat (first | (with_reducible exact Below.refl _ _) | (with_reducible exact grown_merge _ _ _ _) | (with_reducible exact grown_merge2 _ _ _ _ _ _) | (with_reducible refine Below.allocS ?_ _) | (with_reducible refine Below.moreS ?_ _) | (with_reducible refine Below.drew ?_))))) ?_
          clear hK K
          try simp only [Act.put, List.getElem_toArray, List.getElem_cons_succ, List.getElem_cons_zero, List.setIfInBounds_toArray, List.set_cons_zero, List.set_cons_succ]
          refine gp_step 5 (by kernel_rfl) rfl (fun K hK => ?_)
          refine step_stepW st_steps (.tmp 24) (.tmp 27) (y := ⟨y0, y1, y2, y3, yf, ys⟩) rfl rfl rfl (HOd.out.below bel) (cs := #[.int .i64 y0, .int .i64 y1, .int .i64 y2, .bool y3, .slice fa nf fc, .slice sa ns sc]) HSI.out rfl blk (by omega) (by simp only [World.size_alloc, World.size_more]; omega) ?_
          intro v' w5 ho5 hb5 hk5 hgr
          have HK5 := Lib.hid (hk5 (w.heap.size + 1 + 1) PdT #[.int .i64 sd, v, .int .i64 wk, .int .i64 ws] (HKd.out.below (B := wd.heap.size) bel bd) (by decide))
          have HR5 := Lib.hid (hk5 (w.heap.size + 1) PdT zPd (HRd.out.below (B := wd.heap.size) bel bd2) (by decide))
          have HO5 := Lib.hid ho5
          have HB5 : Hid (Below w.heap.size w w5) := HBd.out.trans (Below.trans (Below.mono (B := wd.heap.size) bel hzd) (hb5.mono (by omega)))
          have k5 : w5.cell? ⟨w.heap.size + 1 + 1, 1, none⟩ = some v := HK5.out.cell 1
          have f5 : w5.frozen? ⟨w.heap.size + 1 + 1, 1, none⟩ = false := HK5.out.frozen 1
          have l5 := HK5.out.lt
          obtain ⟨a5, c5, rfl⟩ := ho5.slice
          refine hK.out _ _ (show Gp _ _ _ from gpv_grown hgr) ?_
          clear hK K ho5 hb5 hk5 hgr
          try simp only [Act.put, List.getElem_toArray, List.getElem_cons_succ, List.getElem_cons_zero, List.setIfInBounds_toArray, List.set_cons_zero, List.set_cons_succ]
          refine gp_step 6 (by kernel_rfl) rfl (fun K hK => ?_)
          go_simp
          go_wp2_with fail
          refine hK.out _ _ (show Gp _ _ _ from Gp.refl _) ?_
          clear hK K
          try simp only [Act.put, List.getElem_toArray, List.getElem_cons_succ, List.getElem_cons_zero, List.setIfInBounds_toArray, List.set_cons_zero, List.set_cons_succ]
          refine gp_step 7 (by kernel_rfl) rfl (fun K hK => ?_)
          go_simp
          go_wp2_with fail
          refine hK.out _ _ (show Gp _ _ _ from Gp.set _ (.inl rfl)) ?_
          clear hK K
          try simp only [Act.put, List.getElem_toArray, List.getElem_cons_succ, List.getElem_cons_zero, List.setIfInBounds_toArray, List.set_cons_zero, List.set_cons_succ]
          refine wpAnyH_done (by kernel_rfl) ?_ _
          go_wp2_with fail
          go_roundg (xs.length - (k + 1))
          case measure => have := HK.out; omega
          case rel => exact ⟨k + 1, _, .slice a5 (acc ++ [(⟨y0, y1, y2, y3, yf, ys⟩ : St)]).length c5, by have := HK.out; omega, by go_num, HU.out.symm, by simpa using OwnW.far (i := 1) (u := .slice a5 (acc ++ [(⟨y0, y1, y2, y3, yf, ys⟩ : St)]).length c5) HO5.out HK5.out (by decide), by simpa using HK5.out.set_ 1 (.slice a5 (acc ++ [(⟨y0, y1, y2, y3, yf, ys⟩ : St)]).length c5), HR5.out.far (p := ⟨w.heap.size + 1 + 1, 1, none⟩) (by simp) _, HB5.out.setCell (p := ⟨w.heap.size + 1 + 1, 1, none⟩) (by simp; omega) _⟩
        · go_simp
          go_wp2_with fail
          refine hK.out _ _ (show Gp _ _ _ from (by first | exact Gp.refl _ | (refine Gp.of_below ?_; repeat (first | (with_reducible exact Below.refl _ _) | (with_reducible exact grown_merge _ _ _ _) | (with_reducible exact grown_merge2 _ _ _ _ _ _) | (with_reducible refine Below.allocS ?_ _) | (with_reducible refine Below.moreS ?_ _) | (with_reducible refine Below.drew ?_))))) ?_
          clear hK K'
          try simp only [Act.put, List.getElem_toArray, List.getElem_cons_succ, List.getElem_cons_zero, List.setIfInBounds_toArray, List.set_cons_zero, List.set_cons_succ]
          refine gp_step 1 (by kernel_rfl) rfl (fun K hK => ?_)
          go_simp
          go_wp2_with fail
          refine hK.out _ _ (show Gp _ _ _ from (by first | exact Gp.refl _ | (refine Gp.of_below ?_; repeat (first | (with_reducible exact Below.refl _ _) | (with_reducible exact grown_merge _ _ _ _) | (with_reducible exact grown_merge2 _ _ _ _ _ _) | (with_reducible refine Below.allocS ?_ _) | (with_reducible refine Below.moreS ?_ _) | (with_reducible refine Below.drew ?_))))) ?_
          clear hK K
          try simp only [Act.put, List.getElem_toArray, List.getElem_cons_succ, List.getElem_cons_zero, List.setIfInBounds_toArray, List.set_cons_zero, List.set_cons_succ]
          refine gp_step 5 (by kernel_rfl) rfl (fun K hK => ?_)
          refine step_stepW st_steps (.tmp 24) (.tmp 27) (y := ⟨y0, y1, y2, y3, yf, ys⟩) rfl rfl rfl (HOd.out.below bel) (cs := #[.int .i64 y0, .int .i64 y1, .int .i64 y2, .bool y3, .slice fa nf fc, .slice sa ns sc]) HSI.out rfl blk (by omega) (by simp only [World.size_alloc, World.size_more]; omega) ?_
          intro v' w5 ho5 hb5 hk5 hgr
          have HK5 := Lib.hid (hk5 (w.heap.size + 1 + 1) PdT #[.int .i64 sd, v, .int .i64 wk, .int .i64 ws] (HKd.out.below (B := wd.heap.size) bel bd) (by decide))
          have HR5 := Lib.hid (hk5 (w.heap.size + 1) PdT zPd (HRd.out.below (B := wd.heap.size) bel bd2) (by decide))
          have HO5 := Lib.hid ho5
          have HB5 : Hid (Below w.heap.size w w5) := HBd.out.trans (Below.trans (Below.mono (B := wd.heap.size) bel hzd) (hb5.mono (by omega)))
          have k5 : w5.cell? ⟨w.heap.size + 1 + 1, 1, none⟩ = some v := HK5.out.cell 1
          have f5 : w5.frozen? ⟨w.heap.size + 1 + 1, 1, none⟩ = false := HK5.out.frozen 1
          have l5 := HK5.out.lt
          obtain ⟨a5, c5, rfl⟩ := ho5.slice
          refine hK.out _ _ (show Gp _ _ _ from gpv_grown hgr) ?_
          clear hK K ho5 hb5 hk5 hgr
          try simp only [Act.put, List.getElem_toArray, List.getElem_cons_succ, List.getElem_cons_zero, List.setIfInBounds_toArray, List.set_cons_zero, List.set_cons_succ]
          refine gp_step 6 (by kernel_rfl) rfl (fun K hK => ?_)
          go_simp
          go_wp2_with fail
          refine hK.out _ _ (show Gp _ _ _ from Gp.refl _) ?_
          clear hK K
          try simp only [Act.put, List.getElem_toArray, List.getElem_cons_succ, List.getElem_cons_zero, List.setIfInBounds_toArray, List.set_cons_zero, List.set_cons_succ]
          refine gp_step 7 (by kernel_rfl) rfl (fun K hK => ?_)
          go_simp
          go_wp2_with fail
          refine hK.out _ _ (show Gp _ _ _ from Gp.set _ (.inl rfl)) ?_
          clear hK K
          try simp only [Act.put, List.getElem_toArray, List.getElem_cons_succ, List.getElem_cons_zero, List.setIfInBounds_toArray, List.set_cons_zero, List.set_cons_succ]
          refine wpAnyH_done (by kernel_rfl) ?_ _
          go_wp2_with fail
          go_roundg (xs.length - (k + 1))
          case measure => have := HK.out; omega
          case rel => exact ⟨k + 1, _, .slice a5 (acc ++ [(⟨y0, y1, y2, y3, yf, ys⟩ : St)]).length c5, by have := HK.out; omega, by go_num, HU.out.symm, by simpa using OwnW.far (i := 1) (u := .slice a5 (acc ++ [(⟨y0, y1, y2, y3, yf, ys⟩ : St)]).length c5) HO5.out HK5.out (by decide), by simpa using HK5.out.set_ 1 (.slice a5 (acc ++ [(⟨y0, y1, y2, y3, yf, ys⟩ : St)]).length c5), HR5.out.far (p := ⟨w.heap.size + 1 + 1, 1, none⟩) (by simp) _, HB5.out.setCell (p := ⟨w.heap.size + 1 + 1, 1, none⟩) (by simp; omega) _⟩
    · obtain rfl : k = xs.length := by have := HK.out; omega
      obtain rfl : acc = xs := by have := HAC.out; rwa [List.take_length] at this
      have hkll : ¬ (acc.length : Int) < (acc.length : Int) := by omega
      obtain ⟨av, cv, rfl⟩ := HO.out.slice
      have q0 : wr.cell? ⟨w.heap.size + 1 + 1, 0, none⟩ = some (.int .i64 sd) := HKK.out.cell 0
      have q1 : wr.cell? ⟨w.heap.size + 1 + 1, 1, none⟩ = some (.slice av acc.length cv) := HKK.out.cell 1
      have q2 : wr.cell? ⟨w.heap.size + 1 + 1, 2, none⟩ = some (.int .i64 wk) := HKK.out.cell 2
      have q3 : wr.cell? ⟨w.heap.size + 1 + 1, 3, none⟩ = some (.int .i64 ws) := HKK.out.cell 3
      have r0 : wr.cell? ⟨w.heap.size + 1, 0, none⟩ = some (.int .i64 0) := HR.out.cell 0
      have r1 : wr.cell? ⟨w.heap.size + 1, 1, none⟩ = some (.slice none 0 0) := HR.out.cell 1
      have r2 : wr.cell? ⟨w.heap.size + 1, 2, none⟩ = some (.int .i64 0) := HR.out.cell 2
      have r3 : wr.cell? ⟨w.heap.size + 1, 3, none⟩ = some (.int .i64 0) := HR.out.cell 3
      have s0 := HR.out.frozen 0
      have s1 := HR.out.frozen 1
      have s2 := HR.out.frozen 2
      have s3 := HR.out.frozen 3
      have hne : ¬ w.heap.size + 1 + 1 = w.heap.size + 1 := by omega
      have hne2 : ¬ w.heap.size + 1 = w.heap.size + 1 + 1 := by omega
      clear HS HAC
      go_wp2_with fail
      refine bodyPost_ret (res_cell rfl st_Pd rfl (HR.out.put4) rfl) rfl ?_
      have HF := ((((HO.out.far (i := 0) (u := .int .i64 sd) HR.out (by decide)).far (i := 1) (u := .slice av acc.length cv) (HR.out.set_ 0 _) (by decide)).far (i := 2) (u := .int .i64 wk) ((HR.out.set_ 0 _).set_ 1 _) (by decide)).far (i := 3) (u := .int .i64 ws) (((HR.out.set_ 0 _).set_ 1 _).set_ 2 _) (by decide))
      exact ⟨av, cv, rfl, HF.read (below_four HB.out (by omega)), below_four HB.out (by omega)⟩
end Go.Proofs.YtfcgdfcekpbliaaGreatDoor
