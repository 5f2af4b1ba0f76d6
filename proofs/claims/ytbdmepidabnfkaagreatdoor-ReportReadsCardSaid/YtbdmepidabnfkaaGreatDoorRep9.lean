/-
  Reports: two that are the same, both roads. (Printed by mk_rep9.py.)
-/
import Derived.Test.YtbdmepidabnfkaaGreatDoorRep6
namespace Go.Proofs.YtbdmepidabnfkaaGreatDoor
set_option linter.unusedSimpArgs false
set_option linter.unusedVariables false
set_option linter.unusedSectionVars false
open Go.ChangeShapes Go.WideShapes Go.ChangeAt Go.RowKit Go.Deep Go.Shelf

theorem cf_fields : Tryz.prog.underlying 23 = some (.struct (Tryz.prog.fieldsOf 23)) := by kernel_rfl
theorem cf_plain : Tryz.prog.stoodInHeld 23 = false := by kernel_rfl
set_option maxRecDepth 100000 in
theorem cf_neq (a1 a2 a3 a4 a5 a6 b1 b2 b3 b4 b5 b6 : Int) (w : World) :
    (binOp .neq 23 (.agg #[.int .i64 a1, .int .i64 a2, .int .i64 a3, .int .i64 a4, .int .i64 a5, .int .i64 a6]) (.agg #[.int .i64 b1, .int .i64 b2, .int .i64 b3, .int .i64 b4, .int .i64 b5, .int .i64 b6])).run Tryz.prog w =
      .ok (.bool (!recEq a1 a2 a3 a4 a5 a6 b1 b2 b3 b4 b5 b6)) w := by
  have u3 := Tryz.underlying3
  have ag := Tryz.isAgg3
  have z3 := Tryz.sizeOf3
  rw [run_neq_struct, show (10000 : Nat) = 9999 + 1 from rfl, run_equalIn_agg w 9999 23 _ _ cf_fields cf_plain]
  simp only [Program.fieldsOf, Tryz.underlying23]
  go_simp
  unfold recEq
  repeat' split
  all_goals simp_all
def sameD (bc bl : Bool) (v yv t yt : Int) (bf bu be : Bool) : Bool := bc && (bl && (decide (v = yv) && (decide (t = yt) && (bf && (bu && be)))))
def sameRp (x y : Rpt) : Bool := sameD (recEq x.c0 x.c1 x.c2 x.c3 x.c4 x.c5 y.c0 y.c1 y.c2 y.c3 y.c4 y.c5) (decide (x.l = y.l)) x.v y.v x.t y.t (decide (x.fs = y.fs)) (decide (x.us = y.us)) (eq2 x.f0 x.f1 y.f0 y.f1)
theorem sameRp_self (x : Rpt) : sameRp x x = true := by unfold sameRp sameD recEq eq2; simp
set_option maxHeartbeats 8000000 in
set_option maxRecDepth 100000 in
theorem ref42_Same (c0 c1 c2 c3 c4 c5 : Int) (a : Option Addr) (l : List Rec) (c : Nat) (v t : Int) (fa : Option Addr) (fs : List Fl) (fc : Nat) (ua : Option Addr) (us : List Int) (uc : Nat) (f0 f1 : Int) (yc0 yc1 yc2 yc3 yc4 yc5 : Int) (ya : Option Addr) (yl : List Rec) (yc : Nat) (yv yt : Int) (yfa : Option Addr) (yfs : List Fl) (yfc : Nat) (yua : Option Addr) (yus : List Int) (yuc : Nat) (yf0 yf1 : Int) (hx1 : l.length ≤ 1000000) (hy1 : yl.length ≤ 1000000) (hx2 : fs.length ≤ 100000) (hy2 : yfs.length ≤ 100000) (hx3 : us.length ≤ 100000) (hy3 : yus.length ≤ 100000) (w : World) (hS : SlRc w w.heap.size a l) (hF : SlFl w w.heap.size fa fs) (hU : SlI w w.heap.size ua us) (hyS : SlRc w w.heap.size ya yl) (hyF : SlFl w w.heap.size yfa yfs) (hyU : SlI w w.heap.size yua yus) :
    Calls Tryz.prog 19 #[.agg #[.int .i64 c0, .int .i64 c1, .int .i64 c2, .int .i64 c3, .int .i64 c4, .int .i64 c5, .slice a l.length c, .int .i64 v, .int .i64 t, .slice fa fs.length fc, .slice ua us.length uc, .int .i64 f0, .int .i64 f1], .agg #[.int .i64 yc0, .int .i64 yc1, .int .i64 yc2, .int .i64 yc3, .int .i64 yc4, .int .i64 yc5, .slice ya yl.length yc, .int .i64 yv, .int .i64 yt, .slice yfa yfs.length yfc, .slice yua yus.length yuc, .int .i64 yf0, .int .i64 yf1]] w fun e w' => e = .returned (.bool (sameRp ⟨c0, c1, c2, c3, c4, c5, l, v, t, fs, us, f0, f1⟩ ⟨yc0, yc1, yc2, yc3, yc4, yc5, yl, yv, yt, yfs, yus, yf0, yf1⟩)) ∧ ∃ j, w' = w.more j := by
  have H2 : Hid (∀ W, Below w.heap.size w W → Calls Tryz.prog 34 #[.slice fa fs.length fc, .slice yfa yfs.length yfc] W fun e w' => e = .returned (.bool (decide (fs = yfs))) ∧ ∃ j, w' = W.more j) := fun W hW => ref09_Same fa yfa fs yfs fc yfc hx2 hy2 W (SlFl.keep hF hW) (SlFl.keep hyF hW)
  have hsI : sameI us yus = decide (us = yus) := by unfold sameI; rw [Bool.eq_iff_iff]; simp
  have H3 : Hid (∀ W, Below w.heap.size w W → Calls Tryz.prog 36 #[.slice ua us.length uc, .slice yua yus.length yuc] W fun e w' => e = .returned (.bool (decide (us = yus))) ∧ ∃ j, w' = W.more j) := fun W hW => by
    have := ref03_Same ua yua uc yuc us yus W W (by omega) (by omega) (Below.refl _ _) ((hU.below hW (Nat.le_refl _)).mono hW.size (fun _ _ _ h => h)) ((hyU.below hW (Nat.le_refl _)).mono hW.size (fun _ _ _ h => h))
    rw [hsI] at this
    exact this
  have HQ := fun W => cf_neq c0 c1 c2 c3 c4 c5 yc0 yc1 yc2 yc3 yc4 yc5 W
  have HL := fun W => neq2 f0 f1 yf0 yf1 W
  obtain ⟨R, hR⟩ : ∃ R, R = sameRp ⟨c0, c1, c2, c3, c4, c5, l, v, t, fs, us, f0, f1⟩ ⟨yc0, yc1, yc2, yc3, yc4, yc5, yl, yv, yt, yfs, yus, yf0, yf1⟩ := ⟨_, rfl⟩
  rw [← hR]
  have HR : Hid (R = (recEq c0 c1 c2 c3 c4 c5 yc0 yc1 yc2 yc3 yc4 yc5 && (decide (v = yv) && (decide (t = yt) && (eq2 f0 f1 yf0 yf1 && (decide (l = yl) && (decide (fs = yfs) && decide (us = yus)))))))) := by
    show _ = _
    rw [hR]
    unfold sameRp sameD
    simp only
    cases recEq c0 c1 c2 c3 c4 c5 yc0 yc1 yc2 yc3 yc4 yc5 <;> cases decide (l = yl) <;> cases decide (v = yv) <;> cases decide (t = yt) <;> cases decide (fs = yfs) <;> cases decide (us = yus) <;> cases eq2 f0 f1 yf0 yf1 <;> rfl
  have HS := Lib.hid hS
  have HS2 := Lib.hid hyS
  clear hR hS hF hU hyS hyF hyU hx2 hx3 hy2 hy3 hsI
  generalize decide (fs = yfs) = bf at H2 HR
  generalize decide (us = yus) = bu at H3 HR
  generalize recEq c0 c1 c2 c3 c4 c5 yc0 yc1 yc2 yc3 yc4 yc5 = bc at HQ HR
  generalize eq2 f0 f1 yf0 yf1 = be at HL HR
  generalize fs.length = xf at H2 ⊢
  generalize yfs.length = yf at H2 ⊢
  generalize us.length = xu at H3 ⊢
  generalize yus.length = yu at H3 ⊢
  obtain ⟨xn, hxn⟩ : ∃ xn, xn = l.length := ⟨_, rfl⟩
  obtain ⟨yn, hyn⟩ : ∃ yn, yn = yl.length := ⟨_, rfl⟩
  rw [← hxn] at hx1
  rw [← hyn] at hy1
  rw [← hxn, ← hyn]
  have HXN := Lib.hid hxn
  have HYN := Lib.hid hyn
  clear hxn hyn
  cases bc
  case false =>
    obtain rfl : R = false := HR.out
    clear HR HL
    clear H2 H3
    go_enter Tryz.func19, Tryz.ntmps19
    go_wp2_with fail
    go_ret
    exact ⟨rfl, Below.junk (by repeat (first | (with_reducible exact Below.refl _ _) | (with_reducible refine Below.allocS ?_ _) | (with_reducible refine Below.moreS ?_ _) | (with_reducible refine Below.drew ?_) | (with_reducible refine below_drewN ?_ _)))⟩
  by_cases hv : v = yv
  rotate_left
  · have e1 : (v != yv) = true := by simpa using hv
    obtain rfl : R = false := by rw [HR.out]; simp [hv]
    clear HR HL hv
    clear H2 H3
    go_enter Tryz.func19, Tryz.ntmps19
    go_wp2_with fail
    go_ret
    exact ⟨rfl, Below.junk (by repeat (first | (with_reducible exact Below.refl _ _) | (with_reducible refine Below.allocS ?_ _) | (with_reducible refine Below.moreS ?_ _) | (with_reducible refine Below.drew ?_) | (with_reducible refine below_drewN ?_ _)))⟩
  have e1 : (v != yv) = false := by simpa using hv
  by_cases ht : t = yt
  rotate_left
  · have e2 : (t != yt) = true := by simpa using ht
    obtain rfl : R = false := by rw [HR.out]; simp [ht]
    clear HR HL hv ht
    clear H2 H3
    go_enter Tryz.func19, Tryz.ntmps19
    go_wp2_with fail
    go_ret
    exact ⟨rfl, Below.junk (by repeat (first | (with_reducible exact Below.refl _ _) | (with_reducible refine Below.allocS ?_ _) | (with_reducible refine Below.moreS ?_ _) | (with_reducible refine Below.drew ?_) | (with_reducible refine below_drewN ?_ _)))⟩
  have e2 : (t != yt) = false := by simpa using ht
  cases be
  case false =>
    obtain rfl : R = false := by rw [HR.out]; simp
    clear HR hv ht
    try simp only [Bool.not_false] at HL
    clear H2 H3
    go_enter Tryz.func19, Tryz.ntmps19
    go_wp2_with fail
    go_ret
    exact ⟨rfl, Below.junk (by repeat (first | (with_reducible exact Below.refl _ _) | (with_reducible refine Below.allocS ?_ _) | (with_reducible refine Below.moreS ?_ _) | (with_reducible refine Below.drew ?_) | (with_reducible refine below_drewN ?_ _)))⟩
  try simp only [Bool.not_true] at HL
  have HR2 : Hid (R = (decide (l = yl) && (bf && bu))) := by show _ = _; rw [HR.out]; simp [hv, ht]
  clear HR hv ht
  by_cases hn : xn = yn
  rotate_left
  · have e3 : ((xn : Int) != (yn : Int)) = true := by simp; omega
    obtain rfl : R = false := by
      have h0 : l ≠ yl := by intro h; have := HXN.out; have := HYN.out; rw [h] at *; omega
      rw [HR2.out]; simp [h0]
    clear HR2 hn
    clear H2 H3
    go_enter Tryz.func19, Tryz.ntmps19
    go_wp2_with fail
    go_ret
    exact ⟨rfl, Below.junk (by repeat (first | (with_reducible exact Below.refl _ _) | (with_reducible refine Below.allocS ?_ _) | (with_reducible refine Below.moreS ?_ _) | (with_reducible refine Below.drew ?_) | (with_reducible refine below_drewN ?_ _)))⟩
  have e3 : ((xn : Int) != (yn : Int)) = false := by simp; omega
  subst hn
  have HR3 : Hid (R = (decide (l.drop 0 = yl.drop 0) && (bf && bu))) := HR2.out
  clear HR2
  go_enter Tryz.func19, Tryz.ntmps19
  go_wp2_with fail
  go_loopw [5] (fun i wr => ∃ k : Nat, k ≤ xn ∧ i = .int .i64 k ∧ Hid (R = (decide (l.drop k = yl.drop k) && (bf && bu))) ∧ ∃ j, wr = ((w.alloc (.cells #[.int .i64 c0, .int .i64 c1, .int .i64 c2, .int .i64 c3, .int .i64 c4, .int .i64 c5, .slice a xn c, .int .i64 v, .int .i64 t, .slice fa xf fc, .slice ua xu uc, .int .i64 f0, .int .i64 f1] RpT)).alloc (.cells #[.int .i64 yc0, .int .i64 yc1, .int .i64 yc2, .int .i64 yc3, .int .i64 yc4, .int .i64 yc5, .slice ya xn yc, .int .i64 yv, .int .i64 yt, .slice yfa yf yfc, .slice yua yu yuc, .int .i64 yf0, .int .i64 yf1] RpT)).more j) (fun i _ => xn - (intOf i).toNat)
  case atStart => exact ⟨0, Nat.zero_le _, rfl, HR3, Below.junk (by repeat (first | (with_reducible exact Below.refl _ _) | (with_reducible refine Below.allocS ?_ _) | (with_reducible refine Below.moreS ?_ _) | (with_reducible refine Below.drew ?_) | (with_reducible refine below_drewN ?_ _)))⟩
  case round =>
    clear HR3
    obtain ⟨k, hk, rfl, HU, jr, rfl⟩ := hrel
    by_cases hlt : k < xn
    · have hl := HXN.out
      have hl2 := HYN.out
      have hkl : k < l.length := by omega
      have hky : k < yl.length := by omega
      obtain ⟨b1, off1, ha, hbb, p0, p1, p2, p3, p4, p5⟩ := SlR.atRc HS.out hkl
      obtain ⟨b2, off2, ha2, hbb2, d0, d1, d2, d3, d4, d5⟩ := SlR.atRc HS2.out hky
      subst ha ha2
      have hd : l.drop k = l[k] :: l.drop (k + 1) := List.drop_eq_getElem_cons hkl
      have hd2 : yl.drop k = yl[k] :: yl.drop (k + 1) := List.drop_eq_getElem_cons hky
      have HF : Hid (l[k] ≠ yl[k] → R = false) := fun h => by rw [HU.out, hd, hd2, decide_eq_false (fun e => h (List.cons.inj e).1)]; rfl
      have HT : Hid (l[k] = yl[k] → R = (decide (l.drop (k + 1) = yl.drop (k + 1)) && (bf && bu))) := fun h => by
        rw [HU.out, hd, hd2, h]
        congr 1
        rw [decide_eq_decide]
        exact ⟨fun e => (List.cons.inj e).2, fun e => by rw [e]⟩
      clear hd hd2 HU
      generalize l[k] = x at p0 p1 p2 p3 p4 p5 HT HF
      generalize yl[k] = y at d0 d1 d2 d3 d4 d5 HT HF
      clear hl hl2 hkl hky
      obtain ⟨x0, x1, x2, x3, x4, x5⟩ := x
      obtain ⟨y0, y1, y2, y3, y4, y5⟩ := y
      simp only at p0 p1 p2 p3 p4 p5 d0 d1 d2 d3 d4 d5
      have HQR := fun W => rec_neq x0 x1 x2 x3 x4 x5 y0 y1 y2 y3 y4 y5 W
      have HE : Hid (recEq x0 x1 x2 x3 x4 x5 y0 y1 y2 y3 y4 y5 = true → (⟨x0, x1, x2, x3, x4, x5⟩ : Rec) = ⟨y0, y1, y2, y3, y4, y5⟩) := fun h => of_decide_eq_true h
      have HN : Hid (recEq x0 x1 x2 x3 x4 x5 y0 y1 y2 y3 y4 y5 = false → (⟨x0, x1, x2, x3, x4, x5⟩ : Rec) ≠ ⟨y0, y1, y2, y3, y4, y5⟩) := fun h => of_decide_eq_false h
      generalize recEq x0 x1 x2 x3 x4 x5 y0 y1 y2 y3 y4 y5 = e at HQR HE HN
      cases e
      · obtain rfl := HF.out (HN.out rfl)
        clear HT HF HE HN HQ HL H2 H3
        go_wp2_with fail
        refine wp_region_more (by kernel_rfl) (by kernel_rfl) ?_
        repeat (go_big_quiet_step (first | fail))
        refine wpQuiet_nil ?_
        intro w' hw'
        obtain ⟨j, rfl⟩ := hw'
        go_wp2_with fail
        go_ret
        exact ⟨rfl, Below.junk (by repeat (first | (with_reducible exact Below.refl _ _) | (with_reducible refine Below.allocS ?_ _) | (with_reducible refine Below.moreS ?_ _) | (with_reducible refine Below.drew ?_) | (with_reducible refine below_drewN ?_ _)))⟩
      · have HU2 := Lib.hid (HT.out (HE.out rfl))
        clear HT HF HE HN HQ HL H2 H3
        go_wp2_with fail
        refine wp_region_more (by kernel_rfl) (by kernel_rfl) ?_
        repeat (go_big_quiet_step (first | fail))
        refine wpQuiet_nil ?_
        intro w' hw'
        obtain ⟨j, rfl⟩ := hw'
        go_wp2_with fail
        go_round
        case rel => exact ⟨k + 1, hlt, by go_num, HU2.out, _, rfl⟩
        case measure => simp [intOf]; omega
    · obtain rfl : k = xn := by omega
      have HR4 : Hid (R = (bf && bu)) := by
        show _ = _
        rw [HU.out, List.drop_of_length_le (by have := HXN.out; omega), List.drop_of_length_le (by have := HYN.out; omega)]
        simp
      clear HU HQ HL hk
      cases bf
      · obtain rfl : R = false := HR4.out
        clear HR4
        go_wp2_with (go_at_call 34; (with_reducible refine (H2.out _ (by repeat (first | (with_reducible exact Below.refl _ _) | (with_reducible refine Below.allocS ?_ _) | (with_reducible refine Below.moreS ?_ _) | (with_reducible refine Below.drew ?_) | (with_reducible refine below_drewN ?_ _)))).mono ?_); rintro e w' ⟨rfl, j, rfl⟩)
        go_ret
        exact ⟨rfl, Below.junk (by repeat (first | (with_reducible exact Below.refl _ _) | (with_reducible refine Below.allocS ?_ _) | (with_reducible refine Below.moreS ?_ _) | (with_reducible refine Below.drew ?_) | (with_reducible refine below_drewN ?_ _)))⟩
      · obtain rfl : R = bu := by rw [HR4.out]; rfl
        clear HR4
        go_wp2_with (first | (go_at_call 34; (with_reducible refine (H2.out _ (by repeat (first | (with_reducible exact Below.refl _ _) | (with_reducible refine Below.allocS ?_ _) | (with_reducible refine Below.moreS ?_ _) | (with_reducible refine Below.drew ?_) | (with_reducible refine below_drewN ?_ _)))).mono ?_); rintro e w' ⟨rfl, j, rfl⟩) | (go_at_call 36; (with_reducible refine (H3.out _ (by repeat (first | (with_reducible exact Below.refl _ _) | (with_reducible refine Below.allocS ?_ _) | (with_reducible refine Below.moreS ?_ _) | (with_reducible refine Below.drew ?_) | (with_reducible refine below_drewN ?_ _)))).mono ?_); rintro e w' ⟨rfl, j, rfl⟩))
        go_ret
        exact ⟨rfl, Below.junk (by repeat (first | (with_reducible exact Below.refl _ _) | (with_reducible refine Below.allocS ?_ _) | (with_reducible refine Below.moreS ?_ _) | (with_reducible refine Below.drew ?_) | (with_reducible refine below_drewN ?_ _)))⟩
set_option maxHeartbeats 4000000 in
set_option maxRecDepth 100000 in
theorem ref43_Same (c0 c1 c2 c3 c4 c5 : Int) (a : Option Addr) (l : List Rec) (c : Nat) (v t : Int) (fa : Option Addr) (fs : List Fl) (fc : Nat) (ua : Option Addr) (us : List Int) (uc : Nat) (f0 f1 : Int) (yc0 yc1 yc2 yc3 yc4 yc5 : Int) (ya : Option Addr) (yl : List Rec) (yc : Nat) (yv yt : Int) (yfa : Option Addr) (yfs : List Fl) (yfc : Nat) (yua : Option Addr) (yus : List Int) (yuc : Nat) (yf0 yf1 : Int) (hx1 : l.length ≤ 1000000) (hy1 : yl.length ≤ 1000000) (hx2 : fs.length ≤ 100000) (hy2 : yfs.length ≤ 100000) (hx3 : us.length ≤ 100000) (hy3 : yus.length ≤ 100000) (w : World) (hS : SlRc w w.heap.size a l) (hF : SlFl w w.heap.size fa fs) (hU : SlI w w.heap.size ua us) (hyS : SlRc w w.heap.size ya yl) (hyF : SlFl w w.heap.size yfa yfs) (hyU : SlI w w.heap.size yua yus) :
    Calls Tryz.prog 9 #[.agg #[.int .i64 c0, .int .i64 c1, .int .i64 c2, .int .i64 c3, .int .i64 c4, .int .i64 c5, .slice a l.length c, .int .i64 v, .int .i64 t, .slice fa fs.length fc, .slice ua us.length uc, .int .i64 f0, .int .i64 f1], .agg #[.int .i64 yc0, .int .i64 yc1, .int .i64 yc2, .int .i64 yc3, .int .i64 yc4, .int .i64 yc5, .slice ya yl.length yc, .int .i64 yv, .int .i64 yt, .slice yfa yfs.length yfc, .slice yua yus.length yuc, .int .i64 yf0, .int .i64 yf1]] w fun e w' => e = .returned (.bool (sameRp ⟨c0, c1, c2, c3, c4, c5, l, v, t, fs, us, f0, f1⟩ ⟨yc0, yc1, yc2, yc3, yc4, yc5, yl, yv, yt, yfs, yus, yf0, yf1⟩)) ∧ ∃ j, w' = w.more j := by
  have H1 : Hid (∀ W, Below w.heap.size w W → Calls Tryz.prog 19 #[.agg #[.int .i64 c0, .int .i64 c1, .int .i64 c2, .int .i64 c3, .int .i64 c4, .int .i64 c5, .slice a l.length c, .int .i64 v, .int .i64 t, .slice fa fs.length fc, .slice ua us.length uc, .int .i64 f0, .int .i64 f1], .agg #[.int .i64 yc0, .int .i64 yc1, .int .i64 yc2, .int .i64 yc3, .int .i64 yc4, .int .i64 yc5, .slice ya yl.length yc, .int .i64 yv, .int .i64 yt, .slice yfa yfs.length yfc, .slice yua yus.length yuc, .int .i64 yf0, .int .i64 yf1]] W fun e w' => e = .returned (.bool (sameRp ⟨c0, c1, c2, c3, c4, c5, l, v, t, fs, us, f0, f1⟩ ⟨yc0, yc1, yc2, yc3, yc4, yc5, yl, yv, yt, yfs, yus, yf0, yf1⟩)) ∧ ∃ j, w' = W.more j) := fun W hW =>
    ref42_Same c0 c1 c2 c3 c4 c5 a l c v t fa fs fc ua us uc f0 f1 yc0 yc1 yc2 yc3 yc4 yc5 ya yl yc yv yt yfa yfs yfc yua yus yuc yf0 yf1 hx1 hy1 hx2 hy2 hx3 hy3 W (SlRc.keep hS hW) (SlFl.keep hF hW) ((hU.below hW (Nat.le_refl _)).mono hW.size (fun _ _ _ h => h)) (SlRc.keep hyS hW) (SlFl.keep hyF hW) ((hyU.below hW (Nat.le_refl _)).mono hW.size (fun _ _ _ h => h))
  generalize sameRp ⟨c0, c1, c2, c3, c4, c5, l, v, t, fs, us, f0, f1⟩ ⟨yc0, yc1, yc2, yc3, yc4, yc5, yl, yv, yt, yfs, yus, yf0, yf1⟩ = R at H1 ⊢
  clear hS hF hU hyS hyF hyU hx1 hx2 hx3 hy1 hy2 hy3
  generalize l.length = xn at H1 ⊢
  generalize yl.length = yn at H1 ⊢
  generalize fs.length = xf at H1 ⊢
  generalize yfs.length = yf at H1 ⊢
  generalize us.length = xu at H1 ⊢
  generalize yus.length = yu at H1 ⊢
  go_enter Tryz.func9, Tryz.ntmps9
  go_wp2_with (go_at_call 19; (with_reducible refine (H1.out _ (by repeat (first | (with_reducible exact Below.refl _ _) | (with_reducible refine Below.allocS ?_ _) | (with_reducible refine Below.moreS ?_ _) | (with_reducible refine Below.drew ?_) | (with_reducible refine below_drewN ?_ _)))).mono ?_); rintro e w' ⟨rfl, j, rfl⟩)
  go_ret
  exact ⟨rfl, Below.junk (by repeat (first | (with_reducible exact Below.refl _ _) | (with_reducible refine Below.allocS ?_ _) | (with_reducible refine Below.moreS ?_ _) | (with_reducible refine Below.drew ?_) | (with_reducible refine below_drewN ?_ _)))⟩
end Go.Proofs.YtbdmepidabnfkaaGreatDoor
