/-
  The statement SummaryCounts.
-/
import Derived.Test.YtfgldglelijekaaGreatDoorSumH
import Derived.Test.YtfgldglelijekaaGreatDoorSumA
import Derived.Test.YtfgldglelijekaaGreatDoorSumC0
import Derived.Test.YtfgldglelijekaaGreatDoorRp
namespace Go.Proofs.YtfgldglelijekaaGreatDoor
set_option linter.unusedSimpArgs false
set_option linter.unusedVariables false
set_option linter.unusedSectionVars false
open Go.ChangeShapes Go.WideShapes Go.ChangeAt Go.RowKit Go.Deep Go.Shelf

set_option maxHeartbeats 16000000 in
set_option maxRecDepth 100000 in
theorem law44_alike (F : Nat → Int) (a b : Option Addr) (ca cb : Nat) (R : List (List UInt8)) (w : World) (hR : R.length ≤ 100000) (hA : SlX w w.heap.size a R) (hB : SlX w w.heap.size b R) :
    Calls Tryz.prog 6 #[.agg (rowA F (.slice a R.length ca)), .agg (rowA F (.slice b R.length cb))] w fun e w' => e = .returned (.bool true) ∧ ∃ j, w' = w.more j := by
  have hla : rowA F (.slice a R.length ca) = #[.int .i64 (F 0), .int .i64 (F 1), .int .i64 (F 2), .int .i64 (F 3), .int .i64 (F 4), .int .i64 (F 5), .int .i64 (F 6), .int .i64 (F 7), .int .i64 (F 8), .int .i64 (F 9), .int .i64 (F 10), .int .i64 (F 11), .int .i64 (F 12), .int .i64 (F 13), .int .i64 (F 14), .int .i64 (F 15), .int .i64 (F 16), .int .i64 (F 17), .int .i64 (F 18), .int .i64 (F 19), .slice a R.length ca] := rfl
  have hlb : rowA F (.slice b R.length cb) = #[.int .i64 (F 0), .int .i64 (F 1), .int .i64 (F 2), .int .i64 (F 3), .int .i64 (F 4), .int .i64 (F 5), .int .i64 (F 6), .int .i64 (F 7), .int .i64 (F 8), .int .i64 (F 9), .int .i64 (F 10), .int .i64 (F 11), .int .i64 (F 12), .int .i64 (F 13), .int .i64 (F 14), .int .i64 (F 15), .int .i64 (F 16), .int .i64 (F 17), .int .i64 (F 18), .int .i64 (F 19), .slice b R.length cb] := rfl
  rw [hla, hlb]
  clear hla hlb
  generalize F 0 = f0
  generalize F 1 = f1
  generalize F 2 = f2
  generalize F 3 = f3
  generalize F 4 = f4
  generalize F 5 = f5
  generalize F 6 = f6
  generalize F 7 = f7
  generalize F 8 = f8
  generalize F 9 = f9
  generalize F 10 = f10
  generalize F 11 = f11
  generalize F 12 = f12
  generalize F 13 = f13
  generalize F 14 = f14
  generalize F 15 = f15
  generalize F 16 = f16
  generalize F 17 = f17
  generalize F 18 = f18
  generalize F 19 = f19
  obtain ⟨ii, hii⟩ : ∃ i, Tryz.prog.info? 3 = some i := Option.isSome_iff_exists.1 (by kernel_rfl)
  have e0 : ∀ w, (binOp .eql 27 (.agg #[.int .i64 f0, .int .i64 f1]) (.agg #[.int .i64 f0, .int .i64 f1])).run Tryz.prog w = .ok (.bool true) w := fun w => arr_self Tryz.underlying27 hii _ (fun j hj => by
    match j, hj with
    | 0, _ => exact ⟨_, rfl⟩
    | 1, _ => exact ⟨_, rfl⟩) w
  have e1 : ∀ w, (binOp .eql 27 (.agg #[.int .i64 f2, .int .i64 f3]) (.agg #[.int .i64 f2, .int .i64 f3])).run Tryz.prog w = .ok (.bool true) w := fun w => arr_self Tryz.underlying27 hii _ (fun j hj => by
    match j, hj with
    | 0, _ => exact ⟨_, rfl⟩
    | 1, _ => exact ⟨_, rfl⟩) w
  have e2 : ∀ w, (binOp .eql 33 (.agg #[.int .i64 f4, .int .i64 f5, .int .i64 f6, .int .i64 f7, .int .i64 f8, .int .i64 f9, .int .i64 f10, .int .i64 f11, .int .i64 f12, .int .i64 f13, .int .i64 f14]) (.agg #[.int .i64 f4, .int .i64 f5, .int .i64 f6, .int .i64 f7, .int .i64 f8, .int .i64 f9, .int .i64 f10, .int .i64 f11, .int .i64 f12, .int .i64 f13, .int .i64 f14])).run Tryz.prog w = .ok (.bool true) w := fun w => arr_self Tryz.underlying33 hii _ (fun j hj => by
    match j, hj with
    | 0, _ => exact ⟨_, rfl⟩
    | 1, _ => exact ⟨_, rfl⟩
    | 2, _ => exact ⟨_, rfl⟩
    | 3, _ => exact ⟨_, rfl⟩
    | 4, _ => exact ⟨_, rfl⟩
    | 5, _ => exact ⟨_, rfl⟩
    | 6, _ => exact ⟨_, rfl⟩
    | 7, _ => exact ⟨_, rfl⟩
    | 8, _ => exact ⟨_, rfl⟩
    | 9, _ => exact ⟨_, rfl⟩
    | 10, _ => exact ⟨_, rfl⟩) w
  have e3 : ∀ w, (binOp .eql 34 (.agg #[.int .i64 f15, .int .i64 f16, .int .i64 f17, .int .i64 f18, .int .i64 f19]) (.agg #[.int .i64 f15, .int .i64 f16, .int .i64 f17, .int .i64 f18, .int .i64 f19])).run Tryz.prog w = .ok (.bool true) w := fun w => arr_self Tryz.underlying34 hii _ (fun j hj => by
    match j, hj with
    | 0, _ => exact ⟨_, rfl⟩
    | 1, _ => exact ⟨_, rfl⟩
    | 2, _ => exact ⟨_, rfl⟩
    | 3, _ => exact ⟨_, rfl⟩
    | 4, _ => exact ⟨_, rfl⟩) w
  have HSM : Hid (∀ W, Below w.heap.size w W → Calls Tryz.prog 9 #[.slice a R.length ca, .slice b R.length cb] W fun e w' => e = .returned (.bool true) ∧ ∃ j, w' = W.more j) := fun W hW => by
    have := ref04_Same a b ca cb R R w W (by omega) (by omega) hW hA hB
    rw [sameX_self] at this
    exact this
  clear hA hB hR
  go_enter Tryz.func6, Tryz.ntmps6
  go_wp2_with (go_at_call 9; refine (HSM.out _ (by repeat (first | (with_reducible exact Below.refl _ _) | (with_reducible refine Below.allocS ?_ _) | (with_reducible refine Below.moreS ?_ _) | (with_reducible refine Below.drew ?_) | (with_reducible refine below_drewN ?_ _)))).mono ?_; rintro e w' ⟨rfl, j, rfl⟩)
  go_ret
  exact ⟨rfl, Below.junk (by repeat (first | (with_reducible exact Below.refl _ _) | (with_reducible refine Below.allocS ?_ _) | (with_reducible refine Below.moreS ?_ _) | (with_reducible refine Below.drew ?_) | (with_reducible refine below_drewN ?_ _)))⟩
theorem SlRc.keep2 {w w' : World} {a : Option Addr} {l : List Rec} (h : SlRc w w.heap.size a l) (hb : Below w.heap.size w w') : SlRc w' w'.heap.size a l := (h.below hb (Nat.le_refl _)).mono hb.size (fun _ _ _ h => h)
theorem SlI.keep2 {w w' : World} {a : Option Addr} {l : List Int} (h : SlI w w.heap.size a l) (hb : Below w.heap.size w w') : SlI w' w'.heap.size a l := (h.below hb (Nat.le_refl _)).mono hb.size (fun _ _ _ h => h)
theorem SlX.keep2 {w w' : World} {a : Option Addr} {l : List (List UInt8)} (h : SlX w w.heap.size a l) (hb : Below w.heap.size w w') : SlX w' w'.heap.size a l := (h.below hb (Nat.le_refl _)).mono hb.size (fun _ _ _ h => h)
set_option maxHeartbeats 16000000 in
set_option maxRecDepth 100000 in
theorem summaryCounts_below (x0 x1 x2 x3 x4 x5 : Int) (xa : Option Addr) (xl : List Rec) (xc : Nat) (xv xt : Int) (xfa : Option Addr) (xfn xfc : Nat) (xua : Option Addr) (xu : List Int) (xuc : Nat) (xf0 xf1 : Int) (m : Int) (w : World) (hxs : SlRc w w.heap.size xa xl) (hxu : SlI w w.heap.size xua xu) (hxl63 : xl.length ≤ maxLen) (hE : EnvS m w) :
    Calls Tryz.prog 3 #[.agg #[.int .i64 x0, .int .i64 x1, .int .i64 x2, .int .i64 x3, .int .i64 x4, .int .i64 x5, .slice xa xl.length xc, .int .i64 xv, .int .i64 xt, .slice xfa xfn xfc, .slice xua xu.length xuc, .int .i64 xf0, .int .i64 xf1]] w fun e w' => e = .returned (.bool true) ∧ Below w.heap.size w w' := by
  have HAL : Hid (∀ W, Below w.heap.size w W → Calls Tryz.prog 5 #[] W fun e w' => e = .returned (.bool true) ∧ Below W.heap.size W w') := fun W hW => law44_alive m W (hE.below hW)
  have HLX : Hid (∀ W, Calls Tryz.prog 4 #[.agg #[.int .i64 x0, .int .i64 x1, .int .i64 x2, .int .i64 x3, .int .i64 x4, .int .i64 x5, .slice xa xl.length xc, .int .i64 xv, .int .i64 xt, .slice xfa xfn xfc, .slice xua xu.length xuc, .int .i64 xf0, .int .i64 xf1]] W fun e w' => e = .returned (.bool (lgB xl.length xfn xu.length)) ∧ ∃ j, w' = W.more j) := ref43_Large x0 x1 x2 x3 x4 x5 xa xl xc xv xt xfa xfn xfc xua xu xuc xf0 xf1
  have HNX : Hid (lgB xl.length xfn xu.length = false → xl.length ≤ 60 ∧ xu.length ≤ 60) := fun h => by
    unfold lgB at h
    simp only [Bool.or_eq_false_iff, decide_eq_false_iff_not] at h
    omega
  generalize lgB xl.length xfn xu.length = bx at HLX HNX
  cases bx
  case true =>
    clear hxs hxu hE HNX
    go_enter Tryz.func3, Tryz.ntmps3
    go_wp2_with ((go_at_call 4; (with_reducible refine (HLX.out _).mono ?_); rintro e w' ⟨rfl, j, rfl⟩))
    refine (HAL.out _ (by repeat (first | (with_reducible exact Below.refl _ _) | (with_reducible refine Below.allocS ?_ _) | (with_reducible refine Below.moreS ?_ _) | (with_reducible refine Below.drew ?_) | (with_reducible refine below_drewN ?_ _)))).mono ?_
    rintro e w1 ⟨rfl, hb1⟩
    have HB1 : Hid (Below w.heap.size w w1) := by
      have h2 : Below w.heap.size _ w1 := hb1.mono (by simp; omega)
      refine Below.trans ?_ h2
      exact (by repeat (first | (with_reducible exact Below.refl _ _) | (with_reducible refine Below.allocS ?_ _) | (with_reducible refine Below.moreS ?_ _) | (with_reducible refine Below.drew ?_) | (with_reducible refine below_drewN ?_ _)))
    clear hb1
    go_wp2_with fail
    go_ret
    exact ⟨rfl, HB1.out⟩
  obtain ⟨hxl, hxun⟩ := HNX.out rfl
  have HOF : Hid (∀ W, Below w.heap.size w W → Calls Tryz.prog 7 #[.agg #[.int .i64 x0, .int .i64 x1, .int .i64 x2, .int .i64 x3, .int .i64 x4, .int .i64 x5, .slice xa xl.length xc, .int .i64 xv, .int .i64 xt, .slice xfa xfn xfc, .slice xua xu.length xuc, .int .i64 xf0, .int .i64 xf1]] W fun e w' => ∃ a cap, e = .returned (.agg (rowA (fun i => tot i xl) (.slice a (secS xu).length cap))) ∧ SlX w' w'.heap.size a (secS xu) ∧ (secS xu).length ≤ cap ∧ Below W.heap.size W w') := fun W hW => (summary_Of x0 x1 x2 x3 x4 x5 xv xt xf0 xf1 xa xl xc xfa xfn xfc xua xu xuc (by omega) (by omega) m W (max_keep hE.mx hW) (hxs.keep2 hW) (hxu.keep2 hW)).mono fun e w' h => h
  have HOR : Hid (∀ W, Below w.heap.size w W → Calls Tryz.prog 8 #[.agg #[.int .i64 x0, .int .i64 x1, .int .i64 x2, .int .i64 x3, .int .i64 x4, .int .i64 x5, .slice xa xl.length xc, .int .i64 xv, .int .i64 xt, .slice xfa xfn xfc, .slice xua xu.length xuc, .int .i64 xf0, .int .i64 xf1]] W fun e w' => ∃ a cap, e = .returned (.agg (rowA (fun i => tot i xl) (.slice a (secS xu).length cap))) ∧ SlX w' w'.heap.size a (secS xu) ∧ (secS xu).length ≤ cap ∧ Below W.heap.size W w') := fun W hW => (ref44_Of x0 x1 x2 x3 x4 x5 xv xt xf0 xf1 xa xl xc xfa xfn xfc xua xu xuc (by omega) (by omega) W (hxs.keep2 hW) (hxu.keep2 hW)).mono fun e w' h => h
  have hlen : (secS xu).length ≤ 100000 := by have := secS_len xu; omega
  have HAK : Hid (∀ W a b ca cb, SlX W W.heap.size a (secS xu) → SlX W W.heap.size b (secS xu) → Calls Tryz.prog 6 #[.agg (rowA (fun i => tot i xl) (.slice a (secS xu).length ca)), .agg (rowA (fun i => tot i xl) (.slice b (secS xu).length cb))] W fun e w' => e = .returned (.bool true) ∧ ∃ j, w' = W.more j) := fun W a b ca cb ha hb => law44_alike _ a b ca cb _ W hlen ha hb
  clear hlen hxs hxu hxl63 hE HNX hxl hxun
  generalize (fun i => tot i xl) = G at HOF HOR HAK
  generalize secS xu = R at HOF HOR HAK
  go_enter Tryz.func3, Tryz.ntmps3
  go_wp2_with ((go_at_call 4; (with_reducible refine (HLX.out _).mono ?_); rintro e w' ⟨rfl, j, rfl⟩))
  obtain ⟨wx, hwx⟩ : ∃ wx, wx = (w.alloc (.cells #[.int .i64 x0, .int .i64 x1, .int .i64 x2, .int .i64 x3, .int .i64 x4, .int .i64 x5, .slice xa xl.length xc, .int .i64 xv, .int .i64 xt, .slice xfa xfn xfc, .slice xua xu.length xuc, .int .i64 xf0, .int .i64 xf1] 29)).more j := ⟨_, rfl⟩
  rw [← hwx]
  have hbx : Blk wx w.heap.size RpT #[.int .i64 x0, .int .i64 x1, .int .i64 x2, .int .i64 x3, .int .i64 x4, .int .i64 x5, .slice xa xl.length xc, .int .i64 xv, .int .i64 xt, .slice xfa xfn xfc, .slice xua xu.length xuc, .int .i64 xf0, .int .i64 xf1] := by rw [hwx]; exact (Blk.new w RpT _).more _
  have HBW : Hid (Below w.heap.size w wx) := by show Below _ _ _; rw [hwx]; exact (by repeat (first | (with_reducible exact Below.refl _ _) | (with_reducible refine Below.allocS ?_ _) | (with_reducible refine Below.moreS ?_ _) | (with_reducible refine Below.drew ?_) | (with_reducible refine below_drewN ?_ _)))
  have hlx := hbx.lt
  have HBX := Lib.hid hbx
  clear hwx hbx HLX
  refine gb_start (w.heap.size + 1) (by kernel_rfl) ?_
  refine gb_load 0 rfl (by kernel_rfl) (by kernel_rfl) (by kernel_rfl) RpT (.tmp 1) #[.int .i64 x0, .int .i64 x1, .int .i64 x2, .int .i64 x3, .int .i64 x4, .int .i64 x5, .slice xa xl.length xc, .int .i64 xv, .int .i64 xt, .slice xfa xfn xfc, .slice xua xu.length xuc, .int .i64 xf0, .int .i64 xf1] (fun _ _ _ h => h) (by kernel_rfl) rfl w.heap.size rfl (t := RpT) HBX.out.drew (by omega) _ Tryz.underlying29 rfl (by kernel_rfl) ?_
  try simp only [Act.put, List.getElem_toArray, List.getElem_cons_succ, List.getElem_cons_zero, List.setIfInBounds_toArray, List.set_cons_zero, List.set_cons_succ]
  refine gb_load 2 rfl (by kernel_rfl) (by kernel_rfl) (by kernel_rfl) RpT (.tmp 1) #[.int .i64 x0, .int .i64 x1, .int .i64 x2, .int .i64 x3, .int .i64 x4, .int .i64 x5, .slice xa xl.length xc, .int .i64 xv, .int .i64 xt, .slice xfa xfn xfc, .slice xua xu.length xuc, .int .i64 xf0, .int .i64 xf1] (fun _ _ _ h => h) (by kernel_rfl) rfl w.heap.size rfl (t := RpT) HBX.out.drew (by omega) _ Tryz.underlying29 rfl (by kernel_rfl) ?_
  try simp only [Act.put, List.getElem_toArray, List.getElem_cons_succ, List.getElem_cons_zero, List.setIfInBounds_toArray, List.set_cons_zero, List.set_cons_succ]
  refine gb_step 1 (by kernel_rfl) rfl (fun K hK => ?_)
  go_simp
  go_wp2_with fail
  refine (HOF.out _ HBW.out.drew).mono ?_
  rintro e w1 ⟨a1, c1, rfl, hs1, _, hb1⟩
  have hb1' : Below (w.heap.size + 1) wx w1 := by
    have h2 : Below wx.heap.size wx.drew w1 := hb1
    have h3 : Below wx.heap.size wx w1 := ⟨h2.os, h2.tape, h2.output, h2.size, h2.block⟩
    exact h3.mono (by omega)
  have HB1 : Hid (Below w.heap.size w w1) := HBW.out.trans (hb1'.mono (by omega))
  have hz1 := hb1'.size
  have HS1 := Lib.hid hs1
  go_wp2_with fail
  refine hK.out _ _ (show Below _ _ _ from (⟨hb1'.os, hb1'.tape, hb1'.output, hb1'.size, hb1'.block⟩)) ?_
  clear hK K
  try simp only [Act.put, List.getElem_toArray, List.getElem_cons_succ, List.getElem_cons_zero, List.setIfInBounds_toArray, List.set_cons_zero, List.set_cons_succ]
  clear hs1 hb1 hb1'
  refine gb_step 3 (by kernel_rfl) rfl (fun K hK => ?_)
  go_simp
  go_wp2_with fail
  refine (HOR.out _ HB1.out).mono ?_
  rintro e w2 ⟨a2, c2, rfl, hs2, _, hb2⟩
  have HB2 : Hid (Below w.heap.size w w2) := HB1.out.trans (hb2.mono HB1.out.size)
  have HS2 := Lib.hid hs2
  have HS12 := Lib.hid (SlX.keep2 HS1.out hb2)
  have hz2 := hb2.size
  go_wp2_with fail
  refine hK.out _ _ (show Below _ _ _ from (hb2.mono (by omega))) ?_
  clear hK K
  try simp only [Act.put, List.getElem_toArray, List.getElem_cons_succ, List.getElem_cons_zero, List.setIfInBounds_toArray, List.set_cons_zero, List.set_cons_succ]
  clear hs2 hb2 HS1
  refine gb_step 4 (by kernel_rfl) rfl (fun K hK => ?_)
  go_simp
  go_wp2_with fail
  refine (HAK.out _ _ _ _ _ HS12.out HS2.out).mono ?_
  rintro e w3 ⟨rfl, j3, rfl⟩
  go_wp2_with fail
  refine hK.out _ _ (show Below _ _ _ from (by first | exact Below.refl _ _ | (refine Below.mono (B := w2.heap.size) ?_ (by omega); (repeat (first | (with_reducible exact Below.refl _ _) | (with_reducible exact grown_merge _ _ _ _) | (with_reducible exact grown_merge2 _ _ _ _ _ _) | (with_reducible exact grown_merge3 _ _ _ _ _ _ _) | (with_reducible refine Below.allocS ?_ _) | (with_reducible refine Below.moreS ?_ _) | (with_reducible refine Below.drew ?_))); done) | (refine gb_undrew (Below.mono (B := w2.heap.size) ?_ (by omega)); (repeat (first | (with_reducible exact Below.refl _ _) | (with_reducible exact grown_merge _ _ _ _) | (with_reducible exact grown_merge2 _ _ _ _ _ _) | (with_reducible exact grown_merge3 _ _ _ _ _ _ _) | (with_reducible refine Below.allocS ?_ _) | (with_reducible refine Below.moreS ?_ _) | (with_reducible refine Below.drew ?_))); done))) ?_
  clear hK K
  try simp only [Act.put, List.getElem_toArray, List.getElem_cons_succ, List.getElem_cons_zero, List.setIfInBounds_toArray, List.set_cons_zero, List.set_cons_succ]
  refine gb_take 5 (v := ?_) rfl (by kernel_rfl) (by kernel_rfl) (by kernel_rfl) (fun _ _ _ h => h) (Or.inl ⟨by first | kernel_rfl | rfl, ?_⟩) ?_
  rotate_left
  · intro wS hSw; have hSc := hSw.cell; clear hSw; go_simp; try with_reducible rfl
  try simp only [Act.put, List.getElem_toArray, List.getElem_cons_succ, List.getElem_cons_zero, List.setIfInBounds_toArray, List.set_cons_zero, List.set_cons_succ]
  refine gb_step 6 (by kernel_rfl) rfl (fun K hK => ?_)
  go_simp
  go_wp2_with fail
  have HB3 : Hid (Below w.heap.size w (w2.more j3)) := HB2.out.trans (Below.mono (B := w2.heap.size) (by repeat (first | (with_reducible exact Below.refl _ _) | (with_reducible refine Below.allocS ?_ _) | (with_reducible refine Below.moreS ?_ _) | (with_reducible refine Below.drew ?_) | (with_reducible refine below_drewN ?_ _))) HB2.out.size)
  refine (HAL.out _ HB3.out).mono ?_
  rintro e w4 ⟨rfl, hb4⟩
  have HB4 : Hid (Below w.heap.size w w4) := HB3.out.trans (hb4.mono HB3.out.size)
  go_wp2_with fail
  refine hK.out _ _ (show Below _ _ _ from (hb4.mono (by simp only [World.size_more]; omega))) ?_
  clear hK K
  try simp only [Act.put, List.getElem_toArray, List.getElem_cons_succ, List.getElem_cons_zero, List.setIfInBounds_toArray, List.set_cons_zero, List.set_cons_succ]
  clear hb4
  refine gb_take 7 (v := ?_) rfl (by kernel_rfl) (by kernel_rfl) (by kernel_rfl) (fun _ _ _ h => h) (Or.inl ⟨by first | kernel_rfl | rfl, ?_⟩) ?_
  rotate_left
  · intro wS hSw; have hSc := hSw.cell; clear hSw; go_simp; try with_reducible rfl
  try simp only [Act.put, List.getElem_toArray, List.getElem_cons_succ, List.getElem_cons_zero, List.setIfInBounds_toArray, List.set_cons_zero, List.set_cons_succ]
  refine gb_take 8 (v := ?_) rfl (by kernel_rfl) (by kernel_rfl) (by kernel_rfl) (fun _ _ _ h => h) (Or.inl ⟨by first | kernel_rfl | rfl, ?_⟩) ?_
  rotate_left
  · intro wS hSw; have hSc := hSw.cell; clear hSw; go_simp; try with_reducible rfl
  try simp only [Act.put, List.getElem_toArray, List.getElem_cons_succ, List.getElem_cons_zero, List.setIfInBounds_toArray, List.set_cons_zero, List.set_cons_succ]
  refine wpAnyH_done (by kernel_rfl) ?_ _
  go_wp2_with fail
  go_ret
  exact ⟨rfl, HB4.out⟩
theorem summaryCounts_law (x : Rp) (m : Int) (w : World) (hK : EnvK0 w) (hx : x.Ok w) (hM : w.cell? MaxA = some (.int .i64 m)) :
    Calls Tryz.prog 3 #[x.val] w fun e w' => e = .returned (.bool true) ∧ ∃ j, w' = w.more j :=
  (summaryCounts_below x.c0 x.c1 x.c2 x.c3 x.c4 x.c5 x.a x.l x.c x.v x.t x.fa x.fn x.fc x.ua x.u x.uc x.f0 x.f1 m w hx.recs hx.rules hx.len ⟨hK, hM⟩).mono fun _ _ ⟨he, hb⟩ => ⟨he, hb.junk⟩
end Go.Proofs.YtfgldglelijekaaGreatDoor
