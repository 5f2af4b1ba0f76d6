/-
  The statement SummaryAdds.
-/
import Derived.Test.YtfgldglelijekaaDoorSumC0
import Derived.Test.YtfgldglelijekaaDoorSumA
namespace Go.Proofs.YtfgldglelijekaaDoor
set_option linter.unusedSimpArgs false
set_option linter.unusedVariables false
set_option linter.unusedSectionVars false
open Go.ChangeShapes Go.WideShapes Go.ChangeAt Go.RowKit Go.Deep Go.Shelf

theorem OwnC.setCell {α : Type} {e : TypeId} {size : Nat} {c : α → List Value} {B : Nat} {w : World} {v : Value} {l : List α} (h : OwnC e size c B w v l) {p : Addr} (hp : p.block < B) (u : Value) : OwnC e size c B (w.setCell p u) v l := by
  have h0 : w.ownsRow B e size v l.length (l.flatMap c) := h
  refine World.ownsRow.kept (row := some p.block) h0 ⟨rfl, rfl, rfl, by simp, fun k _ hne => Below.heap_setCell w p u k (fun e => hne (by rw [e]))⟩ ?_
  rcases h0.2 with ⟨rfl, _⟩ | ⟨b, cap, cur, rfl, hb, _⟩
  · exact .inl rfl
  · refine .inr ?_
    simp only [Value.ownBlock]
    intro e
    injection e with e
    omega
theorem setRow_at {w : World} {g : Nat} {t : TypeId} {a b : Array Value} (hg : g = w.heap.size) : (w.alloc (.cells a t)).setRow g b = w.alloc (.cells b t) := hg ▸ setRow_new w t a b
theorem st_Rp : StructTy Tryd.prog RpT 13 := ⟨_, Tryd.underlying40, rfl, by kernel_rfl⟩
set_option maxHeartbeats 16000000 in
set_option maxRecDepth 100000 in
theorem summaryAdds_below (x0 x1 x2 x3 x4 x5 : Int) (xa : Option Addr) (xl : List Rec) (xc : Nat) (xv xt : Int) (xfa : Option Addr) (xfn xfc : Nat) (xua : Option Addr) (xu : List Int) (xuc : Nat) (xf0 xf1 : Int) (y0 y1 y2 y3 y4 y5 : Int) (ya : Option Addr) (yl : List Rec) (yc : Nat) (yv yt : Int) (yfa : Option Addr) (yfn yfc : Nat) (yua : Option Addr) (yu : List Int) (yuc : Nat) (yf0 yf1 : Int) (m : Int) (w : World) (hxs : SlRc w w.heap.size xa xl) (hxu : SlI w w.heap.size xua xu) (hys : SlRc w w.heap.size ya yl) (hyu : SlI w w.heap.size yua yu) (hxl63 : xl.length ≤ maxLen) (hyl63 : yl.length ≤ maxLen) (hE : EnvS m w) :
    Calls Tryd.prog 4 #[.agg #[.int .i64 x0, .int .i64 x1, .int .i64 x2, .int .i64 x3, .int .i64 x4, .int .i64 x5, .slice xa xl.length xc, .int .i64 xv, .int .i64 xt, .slice xfa xfn xfc, .slice xua xu.length xuc, .int .i64 xf0, .int .i64 xf1], .agg #[.int .i64 y0, .int .i64 y1, .int .i64 y2, .int .i64 y3, .int .i64 y4, .int .i64 y5, .slice ya yl.length yc, .int .i64 yv, .int .i64 yt, .slice yfa yfn yfc, .slice yua yu.length yuc, .int .i64 yf0, .int .i64 yf1]] w fun e w' => e = .returned (.bool true) ∧ Below w.heap.size w w' := by
  have HAL : Hid (∀ W, Below w.heap.size w W → Calls Tryd.prog 5 #[] W fun e w' => e = .returned (.bool true) ∧ Below W.heap.size W w') := fun W hW => law44_alive m W (hE.below hW)
  have HLX : Hid (∀ W, Calls Tryd.prog 9 #[.agg #[.int .i64 x0, .int .i64 x1, .int .i64 x2, .int .i64 x3, .int .i64 x4, .int .i64 x5, .slice xa xl.length xc, .int .i64 xv, .int .i64 xt, .slice xfa xfn xfc, .slice xua xu.length xuc, .int .i64 xf0, .int .i64 xf1]] W fun e w' => e = .returned (.bool (lgB xl.length xfn xu.length)) ∧ ∃ j, w' = W.more j) := ref43_Large x0 x1 x2 x3 x4 x5 xa xl xc xv xt xfa xfn xfc xua xu xuc xf0 xf1
  have HLY : Hid (∀ W, Calls Tryd.prog 9 #[.agg #[.int .i64 y0, .int .i64 y1, .int .i64 y2, .int .i64 y3, .int .i64 y4, .int .i64 y5, .slice ya yl.length yc, .int .i64 yv, .int .i64 yt, .slice yfa yfn yfc, .slice yua yu.length yuc, .int .i64 yf0, .int .i64 yf1]] W fun e w' => e = .returned (.bool (lgB yl.length yfn yu.length)) ∧ ∃ j, w' = W.more j) := ref43_Large y0 y1 y2 y3 y4 y5 ya yl yc yv yt yfa yfn yfc yua yu yuc yf0 yf1
  have HNX : Hid (lgB xl.length xfn xu.length = false → xl.length ≤ 60 ∧ xu.length ≤ 60) := fun h => by
    unfold lgB at h
    simp only [Bool.or_eq_false_iff, decide_eq_false_iff_not] at h
    omega
  have HNY : Hid (lgB yl.length yfn yu.length = false → yl.length ≤ 60 ∧ yu.length ≤ 60) := fun h => by
    unfold lgB at h
    simp only [Bool.or_eq_false_iff, decide_eq_false_iff_not] at h
    omega
  generalize lgB xl.length xfn xu.length = bx at HLX HNX
  generalize lgB yl.length yfn yu.length = by_ at HLY HNY
  have HE := Lib.hid hE
  have HXS := Lib.hid hxs
  have HYS := Lib.hid hys
  have HXU := Lib.hid hxu
  have HYU := Lib.hid hyu
  clear hE hxs hys hxu hyu hxl63 hyl63
  generalize hAX : (#[.int .i64 x0, .int .i64 x1, .int .i64 x2, .int .i64 x3, .int .i64 x4, .int .i64 x5, .slice xa xl.length xc, .int .i64 xv, .int .i64 xt, .slice xfa xfn xfc, .slice xua xu.length xuc, .int .i64 xf0, .int .i64 xf1] : Array Value) = AX at HLX ⊢
  generalize hAY : (#[.int .i64 y0, .int .i64 y1, .int .i64 y2, .int .i64 y3, .int .i64 y4, .int .i64 y5, .slice ya yl.length yc, .int .i64 yv, .int .i64 yt, .slice yfa yfn yfc, .slice yua yu.length yuc, .int .i64 yf0, .int .i64 yf1] : Array Value) = AY at HLY ⊢
  have hzX : AX.size = 13 := by rw [← hAX]; rfl
  have hzY : AY.size = 13 := by rw [← hAY]; rfl
  have hX6 : AX[6]? = some (.slice xa xl.length xc) := by rw [← hAX]; rfl
  have hY6 : AY[6]? = some (.slice ya yl.length yc) := by rw [← hAY]; rfl
  have hO1 : AX.all (·.oneCell') = true := by rw [← hAX]; simp [Value.oneCell']
  have HAX := Lib.hid hAX
  have HAY := Lib.hid hAY
  have hEX : (#[AX[0]'(by omega), AX[1]'(by omega), AX[2]'(by omega), AX[3]'(by omega), AX[4]'(by omega), AX[5]'(by omega), AX[6]'(by omega), AX[7]'(by omega), AX[8]'(by omega), AX[9]'(by omega), AX[10]'(by omega), AX[11]'(by omega), AX[12]'(by omega)] : Array Value) = AX := by
    have h : ∀ (h : AX.size = 13), (#[AX[0]'(by omega), AX[1]'(by omega), AX[2]'(by omega), AX[3]'(by omega), AX[4]'(by omega), AX[5]'(by omega), AX[6]'(by omega), AX[7]'(by omega), AX[8]'(by omega), AX[9]'(by omega), AX[10]'(by omega), AX[11]'(by omega), AX[12]'(by omega)] : Array Value) = AX := by subst hAX; intro h; rfl
    exact h hzX
  have hEY : (#[AY[0]'(by omega), AY[1]'(by omega), AY[2]'(by omega), AY[3]'(by omega), AY[4]'(by omega), AY[5]'(by omega), AY[6]'(by omega), AY[7]'(by omega), AY[8]'(by omega), AY[9]'(by omega), AY[10]'(by omega), AY[11]'(by omega), AY[12]'(by omega)] : Array Value) = AY := by
    have h : ∀ (h : AY.size = 13), (#[AY[0]'(by omega), AY[1]'(by omega), AY[2]'(by omega), AY[3]'(by omega), AY[4]'(by omega), AY[5]'(by omega), AY[6]'(by omega), AY[7]'(by omega), AY[8]'(by omega), AY[9]'(by omega), AY[10]'(by omega), AY[11]'(by omega), AY[12]'(by omega)] : Array Value) = AY := by subst hAY; intro h; rfl
    exact h hzY
  clear hAX hAY
  cases bx
  case true =>
    go_enter Tryd.func4, Tryd.ntmps4
    go_wp2_with ((go_at_call 9; (with_reducible refine (HLX.out _).mono ?_); rintro e w' ⟨rfl, j, rfl⟩))
    refine (HAL.out _ (by repeat (first | (with_reducible exact Below.refl _ _) | (with_reducible refine Below.allocS ?_ _) | (with_reducible refine Below.moreS ?_ _) | (with_reducible refine Below.drew ?_) | (with_reducible refine below_drewN ?_ _)))).mono ?_
    rintro e w1 ⟨rfl, hb1⟩
    have HB1 : Hid (Below w.heap.size w w1) := by
      have h2 : Below w.heap.size _ w1 := hb1.mono (by simp; omega)
      refine Below.trans ?_ h2
      exact (by repeat (first | (with_reducible exact Below.refl _ _) | (with_reducible refine Below.allocS ?_ _) | (with_reducible refine Below.moreS ?_ _) | (with_reducible refine Below.drew ?_) | (with_reducible refine below_drewN ?_ _)))
    clear hb1
    go_wp2_with fail
    go_ret
    exact ⟨rfl, HB1.out⟩
  cases by_
  case true =>
    go_enter Tryd.func4, Tryd.ntmps4
    go_wp2_with (first | (go_at_call 9; (with_reducible refine (HLX.out _).mono ?_); rintro e w' ⟨rfl, j, rfl⟩) | (go_at_call 9; (with_reducible refine (HLY.out _).mono ?_); rintro e w' ⟨rfl, j, rfl⟩))
    refine (HAL.out _ (by repeat (first | (with_reducible exact Below.refl _ _) | (with_reducible refine Below.allocS ?_ _) | (with_reducible refine Below.moreS ?_ _) | (with_reducible refine Below.drew ?_) | (with_reducible refine below_drewN ?_ _)))).mono ?_
    rintro e w1 ⟨rfl, hb1⟩
    have HB1 : Hid (Below w.heap.size w w1) := by
      have h2 : Below w.heap.size _ w1 := hb1.mono (by simp; omega)
      refine Below.trans ?_ h2
      exact (by repeat (first | (with_reducible exact Below.refl _ _) | (with_reducible refine Below.allocS ?_ _) | (with_reducible refine Below.moreS ?_ _) | (with_reducible refine Below.drew ?_) | (with_reducible refine below_drewN ?_ _)))
    clear hb1
    go_wp2_with fail
    go_ret
    exact ⟨rfl, HB1.out⟩
  obtain ⟨hxl, hxun⟩ := HNX.out rfl
  obtain ⟨hyl, hyun⟩ := HNY.out rfl
  clear HNX HNY
  go_enter Tryd.func4, Tryd.ntmps4
  have HO1 := Lib.hid hO1
  go_wp2_with (first
    | (go_at_call 9; (with_reducible refine (HLX.out _).mono ?_); rintro e w' ⟨rfl, j1, rfl⟩)
    | (go_at_call 9; (with_reducible refine (HLY.out _).mono ?_); rintro e w' ⟨rfl, j2, rfl⟩)
    | (refine wpList_store_row rfl RpT _ _ rfl _ AX rfl rfl RpT _ (Blk.at_ _ _ _ (by simp)) (by rw [hzX]; kernel_rfl) (by rw [hzX]; rfl) HO1.out ?_; rw [setRow_at (by simp <;> omega)]))
  obtain ⟨wx, hwx⟩ : ∃ wx, wx = (((w.alloc (.cells AX RpT)).alloc (.cells AY RpT)).more ⟨j1.heap ++ j2.heap, j2.drawn⟩).alloc (.cells AX RpT) := ⟨_, rfl⟩
  rw [← hwx]
  obtain ⟨gz, hgz⟩ : ∃ gz, gz = w.heap.size + 1 + 1 + (j1.heap.size + j2.heap.size) := ⟨_, rfl⟩
  rw [← hgz]
  have hbx : Blk wx w.heap.size RpT AX := by rw [hwx]; exact (((Blk.new w RpT AX).alloc _).more _).alloc _
  have hby : Blk wx (w.heap.size + 1) RpT AY := by rw [hwx]; exact ((Blk.at_ _ RpT AY (by simp)).more _).alloc _
  have hbz : Blk wx gz RpT AX := by rw [hwx]; exact Blk.at_ _ RpT AX (by rw [hgz]; simp)
  have hgz2 : w.heap.size + 2 ≤ gz := by omega
  have HBW : Hid (Below w.heap.size w wx) := by show Below _ _ _; rw [hwx]; exact (by repeat (first | (with_reducible exact Below.refl _ _) | (with_reducible refine Below.allocS ?_ _) | (with_reducible refine Below.moreS ?_ _) | (with_reducible refine Below.drew ?_) | (with_reducible refine below_drewN ?_ _)))
  have HBX := Lib.hid hbx
  have HBY := Lib.hid hby
  have HBZ := Lib.hid hbz
  have hgzx := hbz.lt
  clear hwx hgz hbx hby hbz HLX HLY hO1
  have c6 : wx.cell? ⟨w.heap.size, 6, none⟩ = some (.slice xa xl.length xc) := (HBX.out.cell 6).trans hX6
  have d6 : wx.cell? ⟨w.heap.size + 1, 6, none⟩ = some (.slice ya yl.length yc) := (HBY.out.cell 6).trans hY6
  refine gb_start (w.heap.size + 2) (by kernel_rfl) ?_
  refine gb_take 1 (v := ?_) rfl (by kernel_rfl) (by kernel_rfl) (by kernel_rfl) (fun _ _ _ h => h) (Or.inl ⟨by first | kernel_rfl | rfl, ?_⟩) ?_
  rotate_left
  · intro wS hSw; have hSc := hSw.cell; clear hSw; go_simp; try with_reducible rfl
  try simp only [Act.put, List.getElem_toArray, List.getElem_cons_succ, List.getElem_cons_zero, List.setIfInBounds_toArray, List.set_cons_zero, List.set_cons_succ]
  refine gb_take 2 (v := ?_) rfl (by kernel_rfl) (by kernel_rfl) (by kernel_rfl) (fun _ _ _ h => h) (Or.inl ⟨by first | kernel_rfl | rfl, ?_⟩) ?_
  rotate_left
  · intro wS hSw; have hSc := hSw.cell; clear hSw; go_simp; try with_reducible rfl
  try simp only [Act.put, List.getElem_toArray, List.getElem_cons_succ, List.getElem_cons_zero, List.setIfInBounds_toArray, List.set_cons_zero, List.set_cons_succ]
  refine gb_take 4 (v := ?_) rfl (by kernel_rfl) (by kernel_rfl) (by kernel_rfl) (fun _ _ _ h => h) (Or.inl ⟨by first | kernel_rfl | rfl, ?_⟩) ?_
  rotate_left
  · intro wS hSw; have hSc := hSw.cell; clear hSw; go_simp; try with_reducible rfl
  try simp only [Act.put, List.getElem_toArray, List.getElem_cons_succ, List.getElem_cons_zero, List.setIfInBounds_toArray, List.set_cons_zero, List.set_cons_succ]
  refine gb_take 5 (v := ?_) rfl (by kernel_rfl) (by kernel_rfl) (by kernel_rfl) (fun _ _ _ h => h) (Or.inl ⟨by first | kernel_rfl | rfl, ?_⟩) ?_
  rotate_left
  · intro wS hSw; have hSc := hSw.cell; clear hSw; go_simp; try with_reducible rfl
  try simp only [Act.put, List.getElem_toArray, List.getElem_cons_succ, List.getElem_cons_zero, List.setIfInBounds_toArray, List.set_cons_zero, List.set_cons_succ]
  refine gb_step 0 (by kernel_rfl) rfl (fun K hK => ?_)
  go_simp
  go_wp2_with fail
  refine hK.out _ _ (show Below _ _ _ from (by first | exact Below.refl _ _ | (refine Below.mono (B := wx.heap.size) ?_ (by omega); (repeat (first | (with_reducible exact Below.refl _ _) | (with_reducible exact grown_merge _ _ _ _) | (with_reducible exact grown_merge2 _ _ _ _ _ _) | (with_reducible exact grown_merge3 _ _ _ _ _ _ _) | (with_reducible refine Below.allocS ?_ _) | (with_reducible refine Below.moreS ?_ _) | (with_reducible refine Below.drew ?_))); done) | (refine gb_undrew (Below.mono (B := wx.heap.size) ?_ (by omega)); (repeat (first | (with_reducible exact Below.refl _ _) | (with_reducible exact grown_merge _ _ _ _) | (with_reducible exact grown_merge2 _ _ _ _ _ _) | (with_reducible exact grown_merge3 _ _ _ _ _ _ _) | (with_reducible refine Below.allocS ?_ _) | (with_reducible refine Below.moreS ?_ _) | (with_reducible refine Below.drew ?_))); done))) ?_
  clear hK K
  try simp only [Act.put, List.getElem_toArray, List.getElem_cons_succ, List.getElem_cons_zero, List.setIfInBounds_toArray, List.set_cons_zero, List.set_cons_succ]
  refine gb_step 3 (by kernel_rfl) rfl (fun K hK => ?_)
  refine step_recs (B := wx.heap.size) (.tmp 20) (.tmp 22) rfl rfl rfl (ownRc_zero (Blk.new _ _ _) (Nat.le_refl _)) rfl (SlRc.keep HXS.out (HBW.out.trans (Below.mono (B := wx.heap.size) (by repeat (first | (with_reducible exact Below.refl _ _) | (with_reducible refine Below.allocS ?_ _) | (with_reducible refine Below.moreS ?_ _) | (with_reducible refine Below.drew ?_) | (with_reducible refine below_drewN ?_ _))) HBW.out.size))) (by simp; omega) (by simp) ?_
  intro v3 w3 ho3 hb3
  rw [List.nil_append] at ho3
  have HO3 := Lib.hid ho3
  have HB3 : Hid (Below wx.heap.size wx w3) := by
    refine Below.trans ?_ hb3
    exact (by repeat (first | (with_reducible exact Below.refl _ _) | (with_reducible refine Below.allocS ?_ _) | (with_reducible refine Below.moreS ?_ _) | (with_reducible refine Below.drew ?_) | (with_reducible refine below_drewN ?_ _)))
  have hz3 := HB3.out.size
  have HW3 : Hid (Below w.heap.size w w3) := HBW.out.trans (HB3.out.mono HBW.out.size)
  refine hK.out _ _ (show Below _ _ _ from (hb3.mono (by omega))) ?_
  clear hK K
  try simp only [Act.put, List.getElem_toArray, List.getElem_cons_succ, List.getElem_cons_zero, List.setIfInBounds_toArray, List.set_cons_zero, List.set_cons_succ]
  clear ho3 hb3
  refine gb_step 6 (by kernel_rfl) rfl (fun K hK => ?_)
  refine step_recs (B := wx.heap.size) (.tmp 23) (.tmp 25) rfl rfl rfl HO3.out rfl (SlRc.keep HYS.out HW3.out) (by omega) hz3 ?_
  intro v4 w4 ho4 hb4
  have HB4 : Hid (Below wx.heap.size wx w4) := HB3.out.trans hb4
  have hz4 := HB4.out.size
  obtain ⟨a4, cap4, rfl, _⟩ := ho4.read (fun _ => rfl)
  have HO4 := Lib.hid ho4
  refine hK.out _ _ (show Below _ _ _ from (hb4.mono (by omega))) ?_
  clear hK K
  try simp only [Act.put, List.getElem_toArray, List.getElem_cons_succ, List.getElem_cons_zero, List.setIfInBounds_toArray, List.set_cons_zero, List.set_cons_succ]
  clear ho4 hb4 HO3
  refine gb_take 7 (v := ?_) rfl (by kernel_rfl) (by kernel_rfl) (by kernel_rfl) (fun _ _ _ h => h) (Or.inl ⟨by first | kernel_rfl | rfl, ?_⟩) ?_
  rotate_left
  · intro wS hSw; have hSc := hSw.cell; clear hSw; go_simp; try with_reducible rfl
  try simp only [Act.put, List.getElem_toArray, List.getElem_cons_succ, List.getElem_cons_zero, List.setIfInBounds_toArray, List.set_cons_zero, List.set_cons_succ]
  have hbz4 := HBZ.out.below HB4.out hgzx
  have e6 : w4.cell? ⟨gz, 6, none⟩ = some (.slice xa xl.length xc) := (hbz4.cell 6).trans hX6
  have f6 : w4.frozen? ⟨gz, 6, none⟩ = false := hbz4.frozen 6
  have hgz4 : gz < w4.heap.size := hbz4.lt
  have HBZ4 := Lib.hid hbz4
  clear hbz4
  refine gb_step 8 (by kernel_rfl) rfl (fun K hK => ?_)
  go_simp
  go_wp2_with fail
  refine hK.out _ _ (show Below _ _ _ from ((Below.refl _ w4).setCell (p := ⟨gz, 6, none⟩) hgz2 _)) ?_
  clear hK K
  try simp only [Act.put, List.getElem_toArray, List.getElem_cons_succ, List.getElem_cons_zero, List.setIfInBounds_toArray, List.set_cons_zero, List.set_cons_succ]
  refine wpAnyH_done (by kernel_rfl) ?_ _
  have HLEN : Hid ((xl ++ yl).length = xl.length + yl.length) := List.length_append
  have HO5 : Hid (OwnRc wx.heap.size (w4.setCell ⟨gz, 6, none⟩ (.slice a4 (xl.length + yl.length) cap4)) (.slice a4 (xl.length + yl.length) cap4) (xl ++ yl)) := by
    have := HO4.out.setCell (p := ⟨gz, 6, none⟩) hgzx (.slice a4 (xl.length + yl.length) cap4)
    rw [HLEN.out] at this
    exact this
  have HBZ5 : Hid (Blk (w4.setCell ⟨gz, 6, none⟩ (.slice a4 (xl.length + yl.length) cap4)) gz RpT (AX.setIfInBounds 6 (.slice a4 (xl.length + yl.length) cap4))) := HBZ4.out.set_ 6 _
  have HBX5 : Hid (Blk (w4.setCell ⟨gz, 6, none⟩ (.slice a4 (xl.length + yl.length) cap4)) w.heap.size RpT AX) := (HBX.out.below HB4.out HBX.out.lt).far (by show w.heap.size ≠ gz; omega) _
  have HBY5 : Hid (Blk (w4.setCell ⟨gz, 6, none⟩ (.slice a4 (xl.length + yl.length) cap4)) (w.heap.size + 1) RpT AY) := (HBY.out.below HB4.out HBY.out.lt).far (by show w.heap.size + 1 ≠ gz; omega) _
  have HW5 : Hid (Below w.heap.size w (w4.setCell ⟨gz, 6, none⟩ (.slice a4 (xl.length + yl.length) cap4))) := (HBW.out.trans (HB4.out.mono HBW.out.size)).setCell (p := ⟨gz, 6, none⟩) (by show w.heap.size ≤ gz; omega) _
  obtain ⟨AZ, hAZ⟩ : ∃ AZ, AX.setIfInBounds 6 (.slice a4 (xl.length + yl.length) cap4) = AZ := ⟨_, rfl⟩
  have hzZ : AZ.size = 13 := by rw [← hAZ]; simpa using hzX
  have HAZ : Hid ((#[.int .i64 x0, .int .i64 x1, .int .i64 x2, .int .i64 x3, .int .i64 x4, .int .i64 x5, .slice a4 (xl.length + yl.length) cap4, .int .i64 xv, .int .i64 xt, .slice xfa xfn xfc, .slice xua xu.length xuc, .int .i64 xf0, .int .i64 xf1] : Array Value) = AZ) := by show _ = _; rw [← hAZ, ← HAX.out]; rfl
  rw [hAZ] at HBZ5
  generalize w4.setCell ⟨gz, 6, none⟩ (.slice a4 (xl.length + yl.length) cap4) = w5 at HO5 HBZ5 HBX5 HBY5 HW5 ⊢
  clear hAZ HBZ4 HO4 e6 f6 c6 d6 HBX HBY HBZ HB4 HB3 HW3 hEX hEY hX6 hY6
  obtain ⟨F1, hF1⟩ : ∃ F1, (fun i => tot i xl) = F1 := ⟨_, rfl⟩
  obtain ⟨F2, hF2⟩ : ∃ F2, (fun i => tot i yl) = F2 := ⟨_, rfl⟩
  obtain ⟨F3, hF3⟩ : ∃ F3, (fun i => tot i (xl ++ yl)) = F3 := ⟨_, rfl⟩
  obtain ⟨S1, hS1⟩ : ∃ S1, secS xu = S1 := ⟨_, rfl⟩
  obtain ⟨S2, hS2⟩ : ∃ S2, secS yu = S2 := ⟨_, rfl⟩
  have HSL : Hid (S1.length ≤ 1048576) := by show _ ≤ _; rw [← hS1]; have := secS_len xu; omega
  have HOX : Hid (∀ W, Below w.heap.size w W → Calls Tryd.prog 10 #[.agg AX] W fun e w' => ∃ a cap, e = .returned (.agg (rowA F1 (.slice a S1.length cap))) ∧ SlX w' w'.heap.size a S1 ∧ S1.length ≤ cap ∧ Below W.heap.size W w') := fun W hW => by
    rw [← HAX.out, ← hF1, ← hS1]
    exact summary_Of x0 x1 x2 x3 x4 x5 xv xt xf0 xf1 xa xl xc xfa xfn xfc xua xu xuc (by omega) (by omega) m W (max_keep HE.out.mx hW) (SlRc.keep HXS.out hW) ((HXU.out.below hW (Nat.le_refl _)).mono hW.size (fun _ _ _ h => h))
  have HOY : Hid (∀ W, Below w.heap.size w W → Calls Tryd.prog 10 #[.agg AY] W fun e w' => ∃ a cap, e = .returned (.agg (rowA F2 (.slice a S2.length cap))) ∧ SlX w' w'.heap.size a S2 ∧ S2.length ≤ cap ∧ Below W.heap.size W w') := fun W hW => by
    rw [← HAY.out, ← hF2, ← hS2]
    exact summary_Of y0 y1 y2 y3 y4 y5 yv yt yf0 yf1 ya yl yc yfa yfn yfc yua yu yuc (by omega) (by omega) m W (max_keep HE.out.mx hW) (SlRc.keep HYS.out hW) ((HYU.out.below hW (Nat.le_refl _)).mono hW.size (fun _ _ _ h => h))
  have HOZ : Hid (∀ W, Below w5.heap.size w5 W → Calls Tryd.prog 10 #[.agg AZ] W fun e w' => ∃ a cap, e = .returned (.agg (rowA F3 (.slice a S1.length cap))) ∧ SlX w' w'.heap.size a S1 ∧ S1.length ≤ cap ∧ Below W.heap.size W w') := fun W hW => by
    have hWW : Below w.heap.size w W := HW5.out.trans (hW.mono HW5.out.size)
    obtain ⟨a5, cap5, hv5, hs5⟩ := HO5.out.read (fun _ => rfl)
    injection hv5 with z1 z2 z3
    subst z1 z3
    rw [← HAZ.out, ← hF3, ← hS1, ← HLEN.out]
    exact summary_Of x0 x1 x2 x3 x4 x5 xv xt xf0 xf1 a4 (xl ++ yl) cap4 xfa xfn xfc xua xu xuc (by rw [HLEN.out]; omega) (by omega) m W (max_keep HE.out.mx hWW) (SlRc.keep hs5 hW) ((HXU.out.below hWW (Nat.le_refl _)).mono hWW.size (fun _ _ _ h => h))
  have HF3 : Hid (∀ i, F3 i = F1 i + F2 i) := fun i => by rw [← hF1, ← hF2, ← hF3]; exact tot_app i xl yl
  have HFB : Hid (∀ i, 0 ≤ F1 i ∧ F1 i ≤ 1006633440 ∧ 0 ≤ F2 i ∧ F2 i ≤ 1006633440) := fun i => by
    have h1 := tot_bd i xl
    have h2 := tot_bd i yl
    rw [← hF1, ← hF2]
    show 0 ≤ tot i xl ∧ tot i xl ≤ _ ∧ 0 ≤ tot i yl ∧ tot i yl ≤ _
    omega
  have HFT : Hid (sumT (xl ++ yl) 11 = F3 0 + F3 1) := by
    show _ = _
    rw [← hF3]
    exact types_all (xl ++ yl)
  have HFS : Hid (∀ k, sumT (xl ++ yl) (k + 1) = sumT (xl ++ yl) k + F3 (4 + k)) := fun k => by rw [← hF3]; exact sumT_step _ k
  have HSB : Hid (∀ k, 0 ≤ sumT (xl ++ yl) k ∧ sumT (xl ++ yl) k ≤ 16777224000 * k) := sumT_bd (xl ++ yl) (by rw [HLEN.out]; omega)
  have HS0 : Hid (sumT (xl ++ yl) 0 = 0) := rfl
  generalize sumT (xl ++ yl) = ST at HFT HFS HSB HS0
  clear hF1 hF2 hF3 hS1 hS2
  go_wp2_with (refine wpList_load_row rfl RpT (.tmp 2) rfl w.heap.size rfl RpT AX (0, 0) _ HBX5.out Tryd.underlying40 rfl (by rw [hzX]; kernel_rfl) ?_)
  refine (HOX.out _ HW5.out).mono ?_
  rintro e q6 ⟨b6, k6, rfl, hs6, hk6, hb6⟩
  go_wp2_with (first | (refine wpList_store_row rfl SmT _ _ rfl q6.heap.size (rowA F1 (.slice b6 S1.length k6)) rfl rfl SmT _ (Blk.new _ _ _) (by rw [rowA_size]; kernel_rfl) (by rw [rowA_size]; rfl) (rowA_one _ _ _ _) ?_; rw [setRow_new]) | (refine wpList_load_row rfl RpT (.tmp 3) rfl (w.heap.size + 1) rfl RpT AY (0, 0) _ ((HBY5.out.below hb6 HBY5.out.lt).alloc _) Tryd.underlying40 rfl (by rw [hzY]; kernel_rfl) ?_))
  obtain ⟨g6, hg6⟩ : ∃ g, g = q6.heap.size := ⟨_, rfl⟩
  obtain ⟨r6, hr6⟩ : ∃ r, r = q6.alloc (.cells (rowA F1 (.slice b6 S1.length k6)) SmT) := ⟨_, rfl⟩
  rw [← hr6, ← hg6]
  have HR6 : Hid (Blk r6 g6 SmT (rowA F1 (.slice b6 S1.length k6))) := by show Blk _ _ _ _; rw [hr6, hg6]; exact Blk.new _ _ _
  have HQR6 : Hid (Below q6.heap.size q6 r6) := by show Below _ _ _; rw [hr6]; exact (by repeat (first | (with_reducible exact Below.refl _ _) | (with_reducible refine Below.allocS ?_ _) | (with_reducible refine Below.moreS ?_ _) | (with_reducible refine Below.drew ?_) | (with_reducible refine below_drewN ?_ _)))
  have HR56 : Hid (Below w5.heap.size w5 r6) := hb6.trans (HQR6.out.mono hb6.size)
  have HW6 : Hid (Below w.heap.size w r6) := HW5.out.trans (HR56.out.mono HW5.out.size)
  have HX6 : Hid (SlX r6 r6.heap.size b6 S1) := SlX.keep hs6 HQR6.out
  have HBY6 : Hid (Blk r6 (w.heap.size + 1) RpT AY) := HBY5.out.below HR56.out HBY5.out.lt
  have HBZ6 : Hid (Blk r6 gz RpT AZ) := HBZ5.out.below HR56.out HBZ5.out.lt
  clear hs6 hk6 hb6 hr6 hg6
  refine (HOY.out _ HW6.out).mono ?_
  rintro e q7 ⟨b7, k7, rfl, hs7, hk7, hb7⟩
  go_wp2_with (first | (refine wpList_store_row rfl SmT _ _ rfl q7.heap.size (rowA F2 (.slice b7 S2.length k7)) rfl rfl SmT _ (Blk.new _ _ _) (by rw [rowA_size]; kernel_rfl) (by rw [rowA_size]; rfl) (rowA_one _ _ _ _) ?_; rw [setRow_new]) | (refine wpList_load_row rfl RpT (.tmp 5) rfl gz rfl RpT AZ (0, 0) _ ((HBZ6.out.below hb7 HBZ6.out.lt).alloc _) Tryd.underlying40 rfl (by rw [hzZ]; kernel_rfl) ?_))
  obtain ⟨g7, hg7⟩ : ∃ g, g = q7.heap.size := ⟨_, rfl⟩
  obtain ⟨r7, hr7⟩ : ∃ r, r = q7.alloc (.cells (rowA F2 (.slice b7 S2.length k7)) SmT) := ⟨_, rfl⟩
  rw [← hr7, ← hg7]
  have HR7 : Hid (Blk r7 g7 SmT (rowA F2 (.slice b7 S2.length k7))) := by show Blk _ _ _ _; rw [hr7, hg7]; exact Blk.new _ _ _
  have HQR7 : Hid (Below q7.heap.size q7 r7) := by show Below _ _ _; rw [hr7]; exact (by repeat (first | (with_reducible exact Below.refl _ _) | (with_reducible refine Below.allocS ?_ _) | (with_reducible refine Below.moreS ?_ _) | (with_reducible refine Below.drew ?_) | (with_reducible refine below_drewN ?_ _)))
  have HR67 : Hid (Below r6.heap.size r6 r7) := hb7.trans (HQR7.out.mono hb7.size)
  have HW7 : Hid (Below w.heap.size w r7) := HW6.out.trans (HR67.out.mono HW6.out.size)
  have HR57 : Hid (Below w5.heap.size w5 r7) := HR56.out.trans (HR67.out.mono HR56.out.size)
  have HBZ7 : Hid (Blk r7 gz RpT AZ) := HBZ6.out.below HR67.out HBZ6.out.lt
  clear hs7 hk7 hb7 hr7 hg7
  refine (HOZ.out _ HR57.out).mono ?_
  rintro e q8 ⟨b8, k8, rfl, hs8, hk8, hb8⟩
  go_wp2_with (refine wpList_store_row rfl SmT _ _ rfl q8.heap.size (rowA F3 (.slice b8 S1.length k8)) rfl rfl SmT _ (Blk.new _ _ _) (by rw [rowA_size]; kernel_rfl) (by rw [rowA_size]; rfl) (rowA_one _ _ _ _) ?_; rw [setRow_new])
  obtain ⟨g8, hg8⟩ : ∃ g, g = q8.heap.size := ⟨_, rfl⟩
  obtain ⟨r8, hr8⟩ : ∃ r, r = q8.alloc (.cells (rowA F3 (.slice b8 S1.length k8)) SmT) := ⟨_, rfl⟩
  rw [← hr8, ← hg8]
  have HR8 : Hid (Blk r8 g8 SmT (rowA F3 (.slice b8 S1.length k8))) := by show Blk _ _ _ _; rw [hr8, hg8]; exact Blk.new _ _ _
  have HQR8 : Hid (Below q8.heap.size q8 r8) := by show Below _ _ _; rw [hr8]; exact (by repeat (first | (with_reducible exact Below.refl _ _) | (with_reducible refine Below.allocS ?_ _) | (with_reducible refine Below.moreS ?_ _) | (with_reducible refine Below.drew ?_) | (with_reducible refine below_drewN ?_ _)))
  have HR78 : Hid (Below r7.heap.size r7 r8) := hb8.trans (HQR8.out.mono hb8.size)
  have HW8 : Hid (Below w.heap.size w r8) := HW7.out.trans (HR78.out.mono HW7.out.size)
  have HR68 : Hid (Below r6.heap.size r6 r8) := HR67.out.trans (HR78.out.mono HR67.out.size)
  have HX8 : Hid (SlX r8 r8.heap.size b8 S1) := SlX.keep hs8 HQR8.out
  have HX68 : Hid (SlX r8 r8.heap.size b6 S1) := SlX.keep HX6.out HR68.out
  have hbR6 := HR6.out.below HR68.out HR6.out.lt
  have hbR7 := HR7.out.below HR78.out HR7.out.lt
  have HR6' := Lib.hid hbR6
  have HR7' := Lib.hid hbR7
  clear hs8 hk8 hb8 hr8 hg8 hbR6 hbR7 HBZ7 HBZ6 HBZ5 HBX5 HBY5 HBY6 HOX HOY HOZ HO5 HQR6 HQR7 HQR8 HR56 HR67 HR57 HR68 HR78 HW5 HW6 HW7 HX6 HR6 HR7 HAX HAY HAZ HXS HYS HXU HYU HE HO1 HBW
  have hz6 := HR6'.out.lt
  have hz7 := HR7'.out.lt
  have hz8 := HR8.out.lt
  go_loopg [9] 2 (fun g i wr => ∃ k : Nat, k + g = 2 ∧ i = .int .i64 k ∧ ∃ j, wr = r8.more j)
  case atStart => exact ⟨0, rfl, rfl, Below.junk (by repeat (first | (with_reducible exact Below.refl _ _) | (with_reducible refine Below.allocS ?_ _) | (with_reducible refine Below.moreS ?_ _) | (with_reducible refine Below.drew ?_) | (with_reducible refine below_drewN ?_ _)))⟩
  case round =>
    obtain ⟨k, hkg, rfl, j, rfl⟩ := hrel
    have HK := Lib.hid hkg
    by_cases hlt : k < 2
    · have k0 : (0 : Int) ≤ k := by omega
      have k2 : (k : Int) < 2 := by omega
      have c1 : (r8.more j).cell? ⟨g6, k, none⟩ = some (.int .i64 (F1 k)) := (HR6'.out.more j).rowGet (by omega)
      have c2 : (r8.more j).cell? ⟨g7, k, none⟩ = some (.int .i64 (F2 k)) := (HR7'.out.more j).rowGet (by omega)
      have c3 : (r8.more j).cell? ⟨g8, k, none⟩ = some (.int .i64 (F1 k + F2 k)) := by rw [← HF3.out]; exact (HR8.out.more j).rowGet (by omega)
      have d1 : (r8.more j).cell? ⟨g6, 2 + k, none⟩ = some (.int .i64 (F1 (2 + k))) := (HR6'.out.more j).rowGet (by omega)
      have d2 : (r8.more j).cell? ⟨g7, 2 + k, none⟩ = some (.int .i64 (F2 (2 + k))) := (HR7'.out.more j).rowGet (by omega)
      have d3 : (r8.more j).cell? ⟨g8, 2 + k, none⟩ = some (.int .i64 (F1 (2 + k) + F2 (2 + k))) := by rw [← HF3.out]; exact (HR8.out.more j).rowGet (by omega)
      have s1 : IntKind.i64.wrap (F1 k + F2 k) = F1 k + F2 k := IntWalk.i64_in _ (by have := HFB.out k; omega)
      have s2 : IntKind.i64.wrap (F1 (2 + k) + F2 (2 + k)) = F1 (2 + k) + F2 (2 + k) := IntWalk.i64_in _ (by have := HFB.out (2 + k); omega)
      simp only [World.cell?_more _ _ _ hz6, World.cell?_more _ _ _ hz7, World.cell?_more _ _ _ hz8] at c1 c2 c3 d1 d2 d3
      generalize F1 k = p at c1 c3 s1
      generalize F2 k = q at c2 c3 s1
      generalize F1 (2 + k) = p2 at d1 d3 s2
      generalize F2 (2 + k) = q2 at d2 d3 s2
      have v1 : (p + q != p + q) = false := by simp
      have v2 : (p2 + q2 != p2 + q2) = false := by simp
      clear hkg
      go_wp2_with fail
      go_region
      all_goals
        go_wp2_with fail
        go_roundg (2 - (k + 1))
        case measure => have := HK.out; omega
        case rel => exact ⟨k + 1, by have := HK.out; omega, by go_num, Below.junk (by repeat (first | (with_reducible exact Below.refl _ _) | (with_reducible refine Below.allocS ?_ _) | (with_reducible refine Below.moreS ?_ _) | (with_reducible refine Below.drew ?_) | (with_reducible refine below_drewN ?_ _)))⟩
    · have hk2 : k = 2 := by omega
      subst hk2
      clear hkg hlt
      go_wp2_with fail
      go_loopg [10, 11] 11 (fun g s i wr => ∃ k : Nat, k + g = 11 ∧ i = .int .i64 k ∧ s = .int .i64 (ST k) ∧ ∃ j, wr = r8.more j)
      case atStart => exact ⟨0, rfl, rfl, by rw [HS0.out], Below.junk (by repeat (first | (with_reducible exact Below.refl _ _) | (with_reducible refine Below.allocS ?_ _) | (with_reducible refine Below.moreS ?_ _) | (with_reducible refine Below.drew ?_) | (with_reducible refine below_drewN ?_ _)))⟩
      case round =>
        obtain ⟨k, hkg, rfl, rfl, j, rfl⟩ := hrel
        have HK := Lib.hid hkg
        by_cases hlt : k < 11
        · have k0 : (0 : Int) ≤ k := by omega
          have k2 : (k : Int) < 11 := by omega
          have c1 : (r8.more j).cell? ⟨g6, 4 + k, none⟩ = some (.int .i64 (F1 (4 + k))) := (HR6'.out.more j).rowGet (by omega)
          have c2 : (r8.more j).cell? ⟨g7, 4 + k, none⟩ = some (.int .i64 (F2 (4 + k))) := (HR7'.out.more j).rowGet (by omega)
          have c3 : (r8.more j).cell? ⟨g8, 4 + k, none⟩ = some (.int .i64 (F1 (4 + k) + F2 (4 + k))) := by rw [← HF3.out]; exact (HR8.out.more j).rowGet (by omega)
          have s1 : IntKind.i64.wrap (F1 (4 + k) + F2 (4 + k)) = F1 (4 + k) + F2 (4 + k) := IntWalk.i64_in _ (by have := HFB.out (4 + k); omega)
          have hst : ST (k + 1) = ST k + (F1 (4 + k) + F2 (4 + k)) := by rw [HFS.out, HF3.out]
          have s2 : IntKind.i64.wrap (ST k + (F1 (4 + k) + F2 (4 + k))) = ST k + (F1 (4 + k) + F2 (4 + k)) := IntWalk.i64_in _ (by have h1 := HFB.out (4 + k); have h2 := HSB.out k; omega)
          have HST := Lib.hid hst
          simp only [World.cell?_more _ _ _ hz6, World.cell?_more _ _ _ hz7, World.cell?_more _ _ _ hz8] at c1 c2 c3
          generalize F1 (4 + k) = p at c1 c3 s1 s2 HST
          generalize F2 (4 + k) = q at c2 c3 s1 s2 HST
          have v1 : (p + q != p + q) = false := by simp
          clear hkg hst
          go_wp2_with fail
          go_region
          all_goals
            go_wp2_with fail
            go_roundg (11 - (k + 1))
            case measure => have := HK.out; omega
            case rel => exact ⟨k + 1, by have := HK.out; omega, by go_num, by rw [HST.out], Below.junk (by repeat (first | (with_reducible exact Below.refl _ _) | (with_reducible refine Below.allocS ?_ _) | (with_reducible refine Below.moreS ?_ _) | (with_reducible refine Below.drew ?_) | (with_reducible refine below_drewN ?_ _)))⟩
        · have hk11 : k = 11 := by omega
          subst hk11
          have c0 : (r8.more j).cell? ⟨g8, 0, none⟩ = some (.int .i64 (F3 0)) := (HR8.out.more j).rowGet (by omega)
          have c1 : (r8.more j).cell? ⟨g8, 1, none⟩ = some (.int .i64 (F3 1)) := (HR8.out.more j).rowGet (by omega)
          have c6 : (r8.more j).cell? ⟨g6, 20, none⟩ = some (.slice b6 S1.length k6) := ((HR6'.out.more j).cell 20).trans (rowA_sec _ _)
          have c8 : (r8.more j).cell? ⟨g8, 20, none⟩ = some (.slice b8 S1.length k8) := ((HR8.out.more j).cell 20).trans (rowA_sec _ _)
          have s1 : IntKind.i64.wrap (F3 0 + F3 1) = F3 0 + F3 1 := IntWalk.i64_in _ (by have h0 := HFB.out 0; have h1 := HFB.out 1; have e0 := HF3.out 0; have e1 := HF3.out 1; omega)
          have hft := HFT.out
          simp only [World.cell?_more _ _ _ hz6, World.cell?_more _ _ _ hz8] at c0 c1 c6 c8
          rw [hft]
          have HSM : Hid (∀ W, Below r8.heap.size r8 W → Calls Tryd.prog 6 #[.slice b6 S1.length k6, .slice b8 S1.length k8] W fun e w' => e = .returned (.bool true) ∧ ∃ j, w' = W.more j) := fun W hW => by
            have := ref04_Same b6 b8 k6 k8 S1 S1 W W HSL.out HSL.out (Below.refl _ _) (SlX.keep HX68.out hW) (SlX.keep HX8.out hW)
            rw [sameX_self] at this
            exact this
          clear hkg hft HFT HFS HSB HS0 HFB HF3 hlt
          generalize F3 0 = p at c0 s1 ⊢
          generalize F3 1 = q at c1 s1 ⊢
          go_wp2_with (first
            | (go_at_call 6; (with_reducible refine (HSM.out _ (by repeat (first | (with_reducible exact Below.refl _ _) | (with_reducible refine Below.allocS ?_ _) | (with_reducible refine Below.moreS ?_ _) | (with_reducible refine Below.drew ?_) | (with_reducible refine below_drewN ?_ _)))).mono ?_); rintro e w' ⟨rfl, j9, rfl⟩))
          refine (HAL.out _ (HW8.out.trans (Below.mono (B := r8.heap.size) (by repeat (first | (with_reducible exact Below.refl _ _) | (with_reducible refine Below.allocS ?_ _) | (with_reducible refine Below.moreS ?_ _) | (with_reducible refine Below.drew ?_) | (with_reducible refine below_drewN ?_ _))) HW8.out.size))).mono ?_
          rintro e w9 ⟨rfl, hb9⟩
          have HB9 : Hid (Below w.heap.size w w9) := by
            have h2 : Below r8.heap.size _ w9 := hb9.mono (by simp)
            refine HW8.out.trans (Below.mono (Below.trans ?_ h2) HW8.out.size)
            exact (by repeat (first | (with_reducible exact Below.refl _ _) | (with_reducible refine Below.allocS ?_ _) | (with_reducible refine Below.moreS ?_ _) | (with_reducible refine Below.drew ?_) | (with_reducible refine below_drewN ?_ _)))
          clear hb9
          go_wp2_with fail
          go_ret
          exact ⟨rfl, HB9.out⟩
/-- A report's parts. -/
structure Rp where
  c0 : Int
  c1 : Int
  c2 : Int
  c3 : Int
  c4 : Int
  c5 : Int
  a : Option Addr
  l : List Rec
  c : Nat
  v : Int
  t : Int
  fa : Option Addr
  fn : Nat
  fc : Nat
  ua : Option Addr
  u : List Int
  uc : Nat
  f0 : Int
  f1 : Int
def Rp.val (r : Rp) : Value := .agg #[.int .i64 r.c0, .int .i64 r.c1, .int .i64 r.c2, .int .i64 r.c3, .int .i64 r.c4, .int .i64 r.c5, .slice r.a r.l.length r.c, .int .i64 r.v, .int .i64 r.t, .slice r.fa r.fn r.fc, .slice r.ua r.u.length r.uc, .int .i64 r.f0, .int .i64 r.f1]
structure Rp.Ok (W : World) (r : Rp) : Prop where
  recs : SlRc W W.heap.size r.a r.l
  rules : SlI W W.heap.size r.ua r.u
  len : r.l.length ≤ maxLen
theorem summaryAdds_law (x y : Rp) (m : Int) (w : World) (hK : EnvK0 w) (hx : x.Ok w) (hy : y.Ok w) (hM : w.cell? MaxA = some (.int .i64 m)) :
    Calls Tryd.prog 4 #[x.val, y.val] w fun e w' => e = .returned (.bool true) ∧ ∃ j, w' = w.more j :=
  (summaryAdds_below x.c0 x.c1 x.c2 x.c3 x.c4 x.c5 x.a x.l x.c x.v x.t x.fa x.fn x.fc x.ua x.u x.uc x.f0 x.f1 y.c0 y.c1 y.c2 y.c3 y.c4 y.c5 y.a y.l y.c y.v y.t y.fa y.fn y.fc y.ua y.u y.uc y.f0 y.f1 m w hx.recs hx.rules hy.recs hy.rules hx.len hy.len ⟨hK, hM⟩).mono fun _ _ ⟨he, hb⟩ => ⟨he, hb.junk⟩
end Go.Proofs.YtfgldglelijekaaDoor
