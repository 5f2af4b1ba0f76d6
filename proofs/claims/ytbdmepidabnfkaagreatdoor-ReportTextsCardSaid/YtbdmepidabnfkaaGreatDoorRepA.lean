/-
  Reports: the chapter's example; the statement ReportSame. (Printed by mk_repa.py.)
-/
import Derived.Test.YtbdmepidabnfkaaGreatDoorRep8
import Derived.Test.YtbdmepidabnfkaaGreatDoorRep9
import Derived.Test.YtbdmepidabnfkaaGreatDoorMb
namespace Go.Proofs.YtbdmepidabnfkaaGreatDoor
set_option linter.unusedSimpArgs false
set_option linter.unusedVariables false
set_option linter.unusedSectionVars false
open Go.ChangeShapes Go.WideShapes Go.ChangeAt Go.RowKit Go.Deep Go.Shelf

def lgB (l fn u : Nat) : Bool := decide (60 < (l : Int)) || (decide (60 < (fn : Int)) || decide (60 < (u : Int)))
set_option maxHeartbeats 4000000 in
set_option maxRecDepth 100000 in
theorem ref43_Large (x0 x1 x2 x3 x4 x5 : Int) (xa : Option Addr) (xl : List Rec) (xc : Nat) (xv xt : Int) (xfa : Option Addr) (xfn xfc : Nat) (xua : Option Addr) (xu : List Int) (xuc : Nat) (xf0 xf1 : Int) (w : World) :
    Calls Tryz.prog 6 #[.agg #[.int .i64 x0, .int .i64 x1, .int .i64 x2, .int .i64 x3, .int .i64 x4, .int .i64 x5, .slice xa xl.length xc, .int .i64 xv, .int .i64 xt, .slice xfa xfn xfc, .slice xua xu.length xuc, .int .i64 xf0, .int .i64 xf1]] w fun e w' => e = .returned (.bool (lgB xl.length xfn xu.length)) ∧ ∃ j, w' = w.more j := by
  unfold lgB
  generalize xl.length = n1
  generalize xu.length = n3
  by_cases h1 : (60 : Int) < n1
  · rw [decide_eq_true h1, Bool.true_or]
    go_enter Tryz.func6, Tryz.ntmps6
    go_wp2_with fail
    go_ret
    exact ⟨rfl, Below.junk (by repeat (first | (with_reducible exact Below.refl _ _) | (with_reducible refine Below.allocS ?_ _) | (with_reducible refine Below.moreS ?_ _) | (with_reducible refine Below.drew ?_) | (with_reducible refine below_drewN ?_ _)))⟩
  · rw [decide_eq_false h1, Bool.false_or]
    by_cases h2 : (60 : Int) < xfn
    · rw [decide_eq_true h2, Bool.true_or]
      go_enter Tryz.func6, Tryz.ntmps6
      go_wp2_with fail
      go_ret
      exact ⟨rfl, Below.junk (by repeat (first | (with_reducible exact Below.refl _ _) | (with_reducible refine Below.allocS ?_ _) | (with_reducible refine Below.moreS ?_ _) | (with_reducible refine Below.drew ?_) | (with_reducible refine below_drewN ?_ _)))⟩
    · rw [decide_eq_false h2, Bool.false_or]
      by_cases h3 : (60 : Int) < n3
      · rw [decide_eq_true h3]
        go_enter Tryz.func6, Tryz.ntmps6
        go_wp2_with fail
        go_ret
        exact ⟨rfl, Below.junk (by repeat (first | (with_reducible exact Below.refl _ _) | (with_reducible refine Below.allocS ?_ _) | (with_reducible refine Below.moreS ?_ _) | (with_reducible refine Below.drew ?_) | (with_reducible refine below_drewN ?_ _)))⟩
      · rw [decide_eq_false h3]
        go_enter Tryz.func6, Tryz.ntmps6
        go_wp2_with fail
        go_ret
        exact ⟨rfl, Below.junk (by repeat (first | (with_reducible exact Below.refl _ _) | (with_reducible refine Below.allocS ?_ _) | (with_reducible refine Below.moreS ?_ _) | (with_reducible refine Below.drew ?_) | (with_reducible refine below_drewN ?_ _)))⟩
def aliveT : List UInt8 := [115, 116, 105, 99, 107, 108, 101, 114, 32, 49, 10, 99, 111, 110, 102, 105, 103, 32, 48, 32, 49, 32, 48, 32, 49, 32, 48, 32, 52, 48, 57, 54, 10, 102, 114, 97, 109, 101, 115, 32, 48, 10, 118, 101, 114, 100, 105, 99, 116, 32, 97, 108, 108, 111, 119, 101, 100, 32, 48, 10, 102, 97, 117, 108, 116, 115, 32, 45, 10, 114, 117, 108, 101, 115, 32, 45, 10, 108, 101, 102, 116, 32, 48, 32, 53, 10]
theorem itoa_0' : Lib.itoa 0 = [48] := by
  rw [show (0 : Int) = ((0 : Nat) : Int) from rfl, itoa_pos, dec_lo (by omega)]
  decide
theorem itoa_5' : Lib.itoa 5 = [53] := by
  rw [show (5 : Int) = ((5 : Nat) : Int) from rfl, itoa_pos, dec_lo (by omega)]
  decide
theorem itoa_4096 : Lib.itoa 4096 = [52, 48, 57, 54] := by
  rw [show (4096 : Int) = ((4096 : Nat) : Int) from rfl, itoa_pos, dec_hi (by omega), dec_hi (n := 4096 / 10) (by omega), dec_hi (n := 4096 / 10 / 10) (by omega), dec_lo (n := 4096 / 10 / 10 / 10) (by omega)]
  decide
def aliveR : Rpt := ⟨0, 1, 0, 1, 0, 4096, [], 1, 0, [], [], 0, 5⟩
theorem alive_text : textD aliveR = aliveT := by
  unfold textD linesD w1D w2D w3D w4D w5D w6D w7D aliveR
  simp only [List.length_nil, Int.natCast_zero, itoa_0', itoa_one, itoa_5', itoa_4096]
  decide +kernel
theorem alive_right : rightD aliveR = true := by decide
set_option maxHeartbeats 4000000 in
set_option maxRecDepth 100000 in
theorem law43_alive (m : Int) (w : World) (hE : EnvR w) (hM : w.cell? MaxA = some (.int .i64 m)) : Calls Tryz.prog 7 #[] w fun e w' => e = .returned (.bool true) ∧ ∃ j, w' = w.more j := by
  have HT : Hid (∀ W, Below w.heap.size w W → Calls Tryz.prog 10 #[.agg #[.int .i64 0, .int .i64 1, .int .i64 0, .int .i64 1, .int .i64 0, .int .i64 4096, .slice none 0 0, .int .i64 1, .int .i64 0, .slice none 0 0, .slice none 0 0, .int .i64 0, .int .i64 5]] W fun e w' => e = .returned (.tuple #[bstr aliveT, .int .i64 0]) ∧ ∃ j, w' = W.more j) := fun W hW => by
    have := report_Text_yes 0 1 0 1 0 4096 none [] 0 1 0 none [] 0 none [] 0 0 5 (by simp) (by simp) (by simp) (by simp) (by unfold goodI; omega) (by unfold goodI; omega) (by unfold goodI; omega) m W (hE.below hW) (max_keep hM hW) .nil .nil .nil alive_right
    rw [show textD ⟨0, 1, 0, 1, 0, 4096, [], 1, 0, [], [], 0, 5⟩ = aliveT from alive_text] at this
    exact this
  clear hE hM
  obtain ⟨L, hL⟩ : ∃ L, L = aliveT := ⟨_, rfl⟩
  rw [← hL] at HT
  go_enter Tryz.func7, Tryz.ntmps7
  go_wp2_with (go_at_call 10; (with_reducible refine (HT.out _ (by repeat (first | (with_reducible exact Below.refl _ _) | (with_reducible refine Below.allocS ?_ _) | (with_reducible refine Below.moreS ?_ _) | (with_reducible refine Below.drew ?_) | (with_reducible refine below_drewN ?_ _)))).mono ?_); rintro e w' ⟨rfl, j, rfl⟩)
  go_ret
  exact ⟨rfl, _, rfl⟩
/-- A report that is handed in: its parts. -/
structure RpOk (W : World) (a : Option Addr) (l : List Rec) (c : Nat) (fa : Option Addr) (fs : List Fl) (ua : Option Addr) (us : List Int) : Prop where
  recs : SlRc W W.heap.size a l
  flts : SlFl W W.heap.size fa fs
  ruls : SlI W W.heap.size ua us
  cap : l.length ≤ c
theorem RpOk.keep {W W' : World} {a : Option Addr} {l : List Rec} {c : Nat} {fa : Option Addr} {fs : List Fl} {ua : Option Addr} {us : List Int} (h : RpOk W a l c fa fs ua us) (hb : Below W.heap.size W W') : RpOk W' a l c fa fs ua us :=
  ⟨SlRc.keep h.recs hb, SlFl.keep h.flts hb, (h.ruls.below hb (Nat.le_refl _)).mono hb.size (fun _ _ _ h => h), h.cap⟩
set_option maxHeartbeats 8000000 in
set_option maxRecDepth 100000 in
theorem reportSame_law (c0 c1 c2 c3 c4 c5 : Int) (a : Option Addr) (l : List Rec) (c : Nat) (v t : Int) (fa : Option Addr) (fs : List Fl) (fc : Nat) (ua : Option Addr) (us : List Int) (uc : Nat) (f0 f1 : Int) (yc0 yc1 yc2 yc3 yc4 yc5 : Int) (ya : Option Addr) (yl : List Rec) (yc : Nat) (yv yt : Int) (yfa : Option Addr) (yfs : List Fl) (yfc : Nat) (yua : Option Addr) (yus : List Int) (yuc : Nat) (yf0 yf1 : Int) (m : Int) (w : World) (hE : EnvR w) (hM : w.cell? MaxA = some (.int .i64 m)) (hx : RpOk w a l c fa fs ua us) (hy : RpOk w ya yl yc yfa yfs yua yus) :
    Calls Tryz.prog 3 #[.agg #[.int .i64 c0, .int .i64 c1, .int .i64 c2, .int .i64 c3, .int .i64 c4, .int .i64 c5, .slice a l.length c, .int .i64 v, .int .i64 t, .slice fa fs.length fc, .slice ua us.length uc, .int .i64 f0, .int .i64 f1], .agg #[.int .i64 yc0, .int .i64 yc1, .int .i64 yc2, .int .i64 yc3, .int .i64 yc4, .int .i64 yc5, .slice ya yl.length yc, .int .i64 yv, .int .i64 yt, .slice yfa yfs.length yfc, .slice yua yus.length yuc, .int .i64 yf0, .int .i64 yf1]] w fun e w' => e = .returned (.bool true) ∧ ∃ j, w' = w.more j := by
  have HA : Hid (∀ W, Below w.heap.size w W → Calls Tryz.prog 7 #[] W fun e w' => e = .returned (.bool true) ∧ ∃ j, w' = W.more j) := fun W hW => law43_alive m W (hE.below hW) (max_keep hM hW)
  have HX : Hid (∀ W, Calls Tryz.prog 6 #[.agg #[.int .i64 c0, .int .i64 c1, .int .i64 c2, .int .i64 c3, .int .i64 c4, .int .i64 c5, .slice a l.length c, .int .i64 v, .int .i64 t, .slice fa fs.length fc, .slice ua us.length uc, .int .i64 f0, .int .i64 f1]] W fun e w' => e = .returned (.bool (lgB l.length fs.length us.length)) ∧ ∃ j, w' = W.more j) := ref43_Large c0 c1 c2 c3 c4 c5 a l c v t fa fs.length fc ua us uc f0 f1
  have HY : Hid (∀ W, Calls Tryz.prog 6 #[.agg #[.int .i64 yc0, .int .i64 yc1, .int .i64 yc2, .int .i64 yc3, .int .i64 yc4, .int .i64 yc5, .slice ya yl.length yc, .int .i64 yv, .int .i64 yt, .slice yfa yfs.length yfc, .slice yua yus.length yuc, .int .i64 yf0, .int .i64 yf1]] W fun e w' => e = .returned (.bool (lgB yl.length yfs.length yus.length)) ∧ ∃ j, w' = W.more j) := ref43_Large yc0 yc1 yc2 yc3 yc4 yc5 ya yl yc yv yt yfa yfs.length yfc yua yus yuc yf0 yf1
  have hnx : lgB l.length fs.length us.length = false → l.length ≤ 60 ∧ fs.length ≤ 60 ∧ us.length ≤ 60 := fun h => by
    unfold lgB at h
    simp only [Bool.or_eq_false_iff, decide_eq_false_iff_not] at h
    omega
  have hny : lgB yl.length yfs.length yus.length = false → yl.length ≤ 60 ∧ yfs.length ≤ 60 ∧ yus.length ≤ 60 := fun h => by
    unfold lgB at h
    simp only [Bool.or_eq_false_iff, decide_eq_false_iff_not] at h
    omega
  have HSM : Hid (lgB l.length fs.length us.length = false → lgB yl.length yfs.length yus.length = false → ∀ W, Below w.heap.size w W → Calls Tryz.prog 8 #[.agg #[.int .i64 c0, .int .i64 c1, .int .i64 c2, .int .i64 c3, .int .i64 c4, .int .i64 c5, .slice a l.length c, .int .i64 v, .int .i64 t, .slice fa fs.length fc, .slice ua us.length uc, .int .i64 f0, .int .i64 f1], .agg #[.int .i64 yc0, .int .i64 yc1, .int .i64 yc2, .int .i64 yc3, .int .i64 yc4, .int .i64 yc5, .slice ya yl.length yc, .int .i64 yv, .int .i64 yt, .slice yfa yfs.length yfc, .slice yua yus.length yuc, .int .i64 yf0, .int .i64 yf1]] W fun e w' => e = .returned (.bool (sameRp ⟨c0, c1, c2, c3, c4, c5, l, v, t, fs, us, f0, f1⟩ ⟨yc0, yc1, yc2, yc3, yc4, yc5, yl, yv, yt, yfs, yus, yf0, yf1⟩)) ∧ ∃ j, w' = W.more j) := fun h1 h2 W hW => by
    obtain ⟨p1, p2, p3⟩ := hnx h1
    obtain ⟨q1, q2, q3⟩ := hny h2
    have ox := hx.keep hW
    have oy := hy.keep hW
    exact report_Same c0 c1 c2 c3 c4 c5 a l c v t fa fs fc ua us uc f0 f1 yc0 yc1 yc2 yc3 yc4 yc5 ya yl yc yv yt yfa yfs yfc yua yus yuc yf0 yf1 (by omega) (by omega) (by omega) (by omega) (by omega) (by omega) W ox.recs ox.flts ox.ruls oy.recs oy.flts oy.ruls
  have HSR : Hid (lgB l.length fs.length us.length = false → lgB yl.length yfs.length yus.length = false → ∀ W, Below w.heap.size w W → Calls Tryz.prog 9 #[.agg #[.int .i64 c0, .int .i64 c1, .int .i64 c2, .int .i64 c3, .int .i64 c4, .int .i64 c5, .slice a l.length c, .int .i64 v, .int .i64 t, .slice fa fs.length fc, .slice ua us.length uc, .int .i64 f0, .int .i64 f1], .agg #[.int .i64 yc0, .int .i64 yc1, .int .i64 yc2, .int .i64 yc3, .int .i64 yc4, .int .i64 yc5, .slice ya yl.length yc, .int .i64 yv, .int .i64 yt, .slice yfa yfs.length yfc, .slice yua yus.length yuc, .int .i64 yf0, .int .i64 yf1]] W fun e w' => e = .returned (.bool (sameRp ⟨c0, c1, c2, c3, c4, c5, l, v, t, fs, us, f0, f1⟩ ⟨yc0, yc1, yc2, yc3, yc4, yc5, yl, yv, yt, yfs, yus, yf0, yf1⟩)) ∧ ∃ j, w' = W.more j) := fun h1 h2 W hW => by
    obtain ⟨p1, p2, p3⟩ := hnx h1
    obtain ⟨q1, q2, q3⟩ := hny h2
    have ox := hx.keep hW
    have oy := hy.keep hW
    exact ref43_Same c0 c1 c2 c3 c4 c5 a l c v t fa fs fc ua us uc f0 f1 yc0 yc1 yc2 yc3 yc4 yc5 ya yl yc yv yt yfa yfs yfc yua yus yuc yf0 yf1 (by omega) (by omega) (by omega) (by omega) (by omega) (by omega) W ox.recs ox.flts ox.ruls oy.recs oy.flts oy.ruls
  have HSX : Hid (lgB l.length fs.length us.length = false → ∀ W, Below w.heap.size w W → Calls Tryz.prog 8 #[.agg #[.int .i64 c0, .int .i64 c1, .int .i64 c2, .int .i64 c3, .int .i64 c4, .int .i64 c5, .slice a l.length c, .int .i64 v, .int .i64 t, .slice fa fs.length fc, .slice ua us.length uc, .int .i64 f0, .int .i64 f1], .agg #[.int .i64 c0, .int .i64 c1, .int .i64 c2, .int .i64 c3, .int .i64 c4, .int .i64 c5, .slice a l.length c, .int .i64 v, .int .i64 t, .slice fa fs.length fc, .slice ua us.length uc, .int .i64 f0, .int .i64 f1]] W fun e w' => e = .returned (.bool true) ∧ ∃ j, w' = W.more j) := fun h1 W hW => by
    obtain ⟨p1, p2, p3⟩ := hnx h1
    have ox := hx.keep hW
    have := report_Same c0 c1 c2 c3 c4 c5 a l c v t fa fs fc ua us uc f0 f1 c0 c1 c2 c3 c4 c5 a l c v t fa fs fc ua us uc f0 f1 (by omega) (by omega) (by omega) (by omega) (by omega) (by omega) W ox.recs ox.flts ox.ruls ox.recs ox.flts ox.ruls
    rw [sameRp_self] at this
    exact this
  clear hE hM hx hy hnx hny
  generalize lgB l.length fs.length us.length = bx at HX HSM HSR HSX
  generalize lgB yl.length yfs.length yus.length = by_ at HY HSM HSR
  generalize sameRp ⟨c0, c1, c2, c3, c4, c5, l, v, t, fs, us, f0, f1⟩ ⟨yc0, yc1, yc2, yc3, yc4, yc5, yl, yv, yt, yfs, yus, yf0, yf1⟩ = R at HSM HSR
  generalize l.length = xn at HX HSM HSR HSX ⊢
  generalize yl.length = yn at HY HSM HSR ⊢
  generalize fs.length = xf at HX HSM HSR HSX ⊢
  generalize yfs.length = yf at HY HSM HSR ⊢
  generalize us.length = xu at HX HSM HSR HSX ⊢
  generalize yus.length = yu at HY HSM HSR ⊢
  cases bx
  case true =>
    clear HSM HSR HSX
    go_enter Tryz.func3, Tryz.ntmps3
    go_wp2_with (first | (go_at_call 6; (with_reducible refine (HX.out _).mono ?_); rintro e w' ⟨rfl, j, rfl⟩) | (go_at_call 7; (with_reducible refine (HA.out _ (by repeat (first | (with_reducible exact Below.refl _ _) | (with_reducible refine Below.allocS ?_ _) | (with_reducible refine Below.moreS ?_ _) | (with_reducible refine Below.drew ?_) | (with_reducible refine below_drewN ?_ _)))).mono ?_); rintro e w' ⟨rfl, j, rfl⟩))
    go_ret
    exact ⟨rfl, Below.junk (by repeat (first | (with_reducible exact Below.refl _ _) | (with_reducible refine Below.allocS ?_ _) | (with_reducible refine Below.moreS ?_ _) | (with_reducible refine Below.drew ?_) | (with_reducible refine below_drewN ?_ _)))⟩
  cases by_
  case true =>
    clear HSM HSR HSX
    go_enter Tryz.func3, Tryz.ntmps3
    go_wp2_with (first | (go_at_call 6; (with_reducible refine (HX.out _).mono ?_); rintro e w' ⟨rfl, j, rfl⟩) | (go_at_call 6; (with_reducible refine (HY.out _).mono ?_); rintro e w' ⟨rfl, j, rfl⟩) | (go_at_call 7; (with_reducible refine (HA.out _ (by repeat (first | (with_reducible exact Below.refl _ _) | (with_reducible refine Below.allocS ?_ _) | (with_reducible refine Below.moreS ?_ _) | (with_reducible refine Below.drew ?_) | (with_reducible refine below_drewN ?_ _)))).mono ?_); rintro e w' ⟨rfl, j, rfl⟩))
    go_ret
    exact ⟨rfl, Below.junk (by repeat (first | (with_reducible exact Below.refl _ _) | (with_reducible refine Below.allocS ?_ _) | (with_reducible refine Below.moreS ?_ _) | (with_reducible refine Below.drew ?_) | (with_reducible refine below_drewN ?_ _)))⟩
  have HSM2 := Lib.hid (HSM.out (by simp) (by simp))
  have HSR2 := Lib.hid (HSR.out (by simp) (by simp))
  have HSX2 := Lib.hid (HSX.out (by simp))
  clear HSM HSR HSX
  have e1 : (R == R) = true := by simp
  go_enter Tryz.func3, Tryz.ntmps3
  go_wp2_with (first
    | (go_at_call 6; (with_reducible refine (HX.out _).mono ?_); rintro e w' ⟨rfl, j1, rfl⟩)
    | (go_at_call 6; (with_reducible refine (HY.out _).mono ?_); rintro e w' ⟨rfl, j2, rfl⟩))
  obtain ⟨wk, hwk⟩ : ∃ wk, wk = ((w.alloc (.cells #[.int .i64 c0, .int .i64 c1, .int .i64 c2, .int .i64 c3, .int .i64 c4, .int .i64 c5, .slice a xn c, .int .i64 v, .int .i64 t, .slice fa xf fc, .slice ua xu uc, .int .i64 f0, .int .i64 f1] RpT)).alloc (.cells #[.int .i64 yc0, .int .i64 yc1, .int .i64 yc2, .int .i64 yc3, .int .i64 yc4, .int .i64 yc5, .slice ya yn yc, .int .i64 yv, .int .i64 yt, .slice yfa yf yfc, .slice yua yu yuc, .int .i64 yf0, .int .i64 yf1] RpT)).more ⟨j1.heap ++ j2.heap, j2.drawn⟩ := ⟨_, rfl⟩
  rw [← hwk]
  have hbx : Blk wk w.heap.size RpT #[.int .i64 c0, .int .i64 c1, .int .i64 c2, .int .i64 c3, .int .i64 c4, .int .i64 c5, .slice a xn c, .int .i64 v, .int .i64 t, .slice fa xf fc, .slice ua xu uc, .int .i64 f0, .int .i64 f1] := by rw [hwk]; exact ((Blk.new _ _ _).alloc _).more _
  have hby : Blk wk (w.heap.size + 1) RpT #[.int .i64 yc0, .int .i64 yc1, .int .i64 yc2, .int .i64 yc3, .int .i64 yc4, .int .i64 yc5, .slice ya yn yc, .int .i64 yv, .int .i64 yt, .slice yfa yf yfc, .slice yua yu yuc, .int .i64 yf0, .int .i64 yf1] := by rw [hwk]; exact (Blk.at_ _ _ _ (by simp)).more _
  have HBW : Hid (Below w.heap.size w wk) := by show Below _ _ _; rw [hwk]; exact (by repeat (first | (with_reducible exact Below.refl _ _) | (with_reducible refine Below.allocS ?_ _) | (with_reducible refine Below.moreS ?_ _) | (with_reducible refine Below.drew ?_) | (with_reducible refine below_drewN ?_ _)))
  have HBX := Lib.hid hbx
  have HBY := Lib.hid hby
  have hg1 := hbx.lt
  have hg2 := hby.lt
  clear hwk hbx hby HX HY
  refine gb_start wk.heap.size (by kernel_rfl) ?_
  refine gb_load 0 rfl (by kernel_rfl) (by kernel_rfl) (by kernel_rfl) RpT (.tmp 2) #[.int .i64 c0, .int .i64 c1, .int .i64 c2, .int .i64 c3, .int .i64 c4, .int .i64 c5, .slice a xn c, .int .i64 v, .int .i64 t, .slice fa xf fc, .slice ua xu uc, .int .i64 f0, .int .i64 f1] (fun _ _ _ h => h) (by kernel_rfl) rfl w.heap.size rfl (t := RpT) HBX.out.drew (by omega) _ Tryz.underlying29 rfl (by kernel_rfl) ?_
  try simp only [Act.put, List.getElem_toArray, List.getElem_cons_succ, List.getElem_cons_zero, List.setIfInBounds_toArray, List.set_cons_zero, List.set_cons_succ]
  refine gb_load 1 rfl (by kernel_rfl) (by kernel_rfl) (by kernel_rfl) RpT (.tmp 3) #[.int .i64 yc0, .int .i64 yc1, .int .i64 yc2, .int .i64 yc3, .int .i64 yc4, .int .i64 yc5, .slice ya yn yc, .int .i64 yv, .int .i64 yt, .slice yfa yf yfc, .slice yua yu yuc, .int .i64 yf0, .int .i64 yf1] (fun _ _ _ h => h) (by kernel_rfl) rfl (w.heap.size + 1) rfl (t := RpT) HBY.out.drew (by omega) _ Tryz.underlying29 rfl (by kernel_rfl) ?_
  try simp only [Act.put, List.getElem_toArray, List.getElem_cons_succ, List.getElem_cons_zero, List.setIfInBounds_toArray, List.set_cons_zero, List.set_cons_succ]
  refine gb_load 3 rfl (by kernel_rfl) (by kernel_rfl) (by kernel_rfl) RpT (.tmp 2) #[.int .i64 c0, .int .i64 c1, .int .i64 c2, .int .i64 c3, .int .i64 c4, .int .i64 c5, .slice a xn c, .int .i64 v, .int .i64 t, .slice fa xf fc, .slice ua xu uc, .int .i64 f0, .int .i64 f1] (fun _ _ _ h => h) (by kernel_rfl) rfl w.heap.size rfl (t := RpT) HBX.out.drew (by omega) _ Tryz.underlying29 rfl (by kernel_rfl) ?_
  try simp only [Act.put, List.getElem_toArray, List.getElem_cons_succ, List.getElem_cons_zero, List.setIfInBounds_toArray, List.set_cons_zero, List.set_cons_succ]
  refine gb_load 4 rfl (by kernel_rfl) (by kernel_rfl) (by kernel_rfl) RpT (.tmp 3) #[.int .i64 yc0, .int .i64 yc1, .int .i64 yc2, .int .i64 yc3, .int .i64 yc4, .int .i64 yc5, .slice ya yn yc, .int .i64 yv, .int .i64 yt, .slice yfa yf yfc, .slice yua yu yuc, .int .i64 yf0, .int .i64 yf1] (fun _ _ _ h => h) (by kernel_rfl) rfl (w.heap.size + 1) rfl (t := RpT) HBY.out.drew (by omega) _ Tryz.underlying29 rfl (by kernel_rfl) ?_
  try simp only [Act.put, List.getElem_toArray, List.getElem_cons_succ, List.getElem_cons_zero, List.setIfInBounds_toArray, List.set_cons_zero, List.set_cons_succ]
  refine gb_step 2 (by kernel_rfl) rfl (fun K hK => ?_)
  go_simp
  go_wp2_with fail
  refine (HSM2.out _ (by repeat (first | exact HBW.out | (with_reducible refine Below.allocS ?_ _) | (with_reducible refine Below.moreS ?_ _) | (with_reducible refine Below.drew ?_)))).mono ?_
  rintro e w' ⟨rfl, k1, rfl⟩
  go_wp2_with fail
  refine hK.out _ _ (show Below _ _ _ from (by first | exact Below.refl _ _ | (refine Below.mono (B := wk.heap.size) ?_ (by exact Nat.le_refl _); (repeat (first | (with_reducible exact Below.refl _ _) | (with_reducible exact grown_merge _ _ _ _) | (with_reducible exact grown_merge2 _ _ _ _ _ _) | (with_reducible exact grown_merge3 _ _ _ _ _ _ _) | (with_reducible refine Below.allocS ?_ _) | (with_reducible refine Below.moreS ?_ _) | (with_reducible refine Below.drew ?_))); done) | (refine gb_undrew (Below.mono (B := wk.heap.size) ?_ (by exact Nat.le_refl _)); (repeat (first | (with_reducible exact Below.refl _ _) | (with_reducible exact grown_merge _ _ _ _) | (with_reducible exact grown_merge2 _ _ _ _ _ _) | (with_reducible exact grown_merge3 _ _ _ _ _ _ _) | (with_reducible refine Below.allocS ?_ _) | (with_reducible refine Below.moreS ?_ _) | (with_reducible refine Below.drew ?_))); done))) ?_
  clear hK K
  try simp only [Act.put, List.getElem_toArray, List.getElem_cons_succ, List.getElem_cons_zero, List.setIfInBounds_toArray, List.set_cons_zero, List.set_cons_succ]
  refine gb_step 5 (by kernel_rfl) rfl (fun K hK => ?_)
  go_simp
  go_wp2_with fail
  refine (HSR2.out _ (by repeat (first | exact HBW.out | (with_reducible refine Below.allocS ?_ _) | (with_reducible refine Below.moreS ?_ _) | (with_reducible refine Below.drew ?_)))).mono ?_
  rintro e w' ⟨rfl, k2, rfl⟩
  go_wp2_with fail
  refine hK.out _ _ (show Below _ _ _ from ((grown_merge wk k1 k2.heap k2.drawn).mono (by simp only [World.size_more]; omega))) ?_
  clear hK K
  try simp only [Act.put, List.getElem_toArray, List.getElem_cons_succ, List.getElem_cons_zero, List.setIfInBounds_toArray, List.set_cons_zero, List.set_cons_succ]
  refine gb_take 6 (v := ?_) rfl (by kernel_rfl) (by kernel_rfl) (by kernel_rfl) (fun _ _ _ h => h) (Or.inl ⟨by first | kernel_rfl | rfl, ?_⟩) ?_
  rotate_left
  · intro wS hSw; have hSc := hSw.cell; clear hSw; go_simp; try with_reducible rfl
  try simp only [Act.put, List.getElem_toArray, List.getElem_cons_succ, List.getElem_cons_zero, List.setIfInBounds_toArray, List.set_cons_zero, List.set_cons_succ]
  refine gb_take 7 (v := ?_) rfl (by kernel_rfl) (by kernel_rfl) (by kernel_rfl) (fun _ _ _ h => h) (Or.inl ⟨by first | kernel_rfl | rfl, ?_⟩) ?_
  rotate_left
  · intro wS hSw; have hSc := hSw.cell; clear hSw; go_simp; try with_reducible rfl
  try simp only [Act.put, List.getElem_toArray, List.getElem_cons_succ, List.getElem_cons_zero, List.setIfInBounds_toArray, List.set_cons_zero, List.set_cons_succ]
  refine gb_load 8 rfl (by kernel_rfl) (by kernel_rfl) (by kernel_rfl) RpT (.tmp 2) #[.int .i64 c0, .int .i64 c1, .int .i64 c2, .int .i64 c3, .int .i64 c4, .int .i64 c5, .slice a xn c, .int .i64 v, .int .i64 t, .slice fa xf fc, .slice ua xu uc, .int .i64 f0, .int .i64 f1] (fun _ _ _ h => h) (by kernel_rfl) rfl w.heap.size rfl (t := RpT) (HBX.out.more _) (by omega) _ Tryz.underlying29 rfl (by kernel_rfl) ?_
  try simp only [Act.put, List.getElem_toArray, List.getElem_cons_succ, List.getElem_cons_zero, List.setIfInBounds_toArray, List.set_cons_zero, List.set_cons_succ]
  refine gb_load 9 rfl (by kernel_rfl) (by kernel_rfl) (by kernel_rfl) RpT (.tmp 2) #[.int .i64 c0, .int .i64 c1, .int .i64 c2, .int .i64 c3, .int .i64 c4, .int .i64 c5, .slice a xn c, .int .i64 v, .int .i64 t, .slice fa xf fc, .slice ua xu uc, .int .i64 f0, .int .i64 f1] (fun _ _ _ h => h) (by kernel_rfl) rfl w.heap.size rfl (t := RpT) (HBX.out.more _) (by omega) _ Tryz.underlying29 rfl (by kernel_rfl) ?_
  try simp only [Act.put, List.getElem_toArray, List.getElem_cons_succ, List.getElem_cons_zero, List.setIfInBounds_toArray, List.set_cons_zero, List.set_cons_succ]
  refine gb_step 10 (by kernel_rfl) rfl (fun K hK => ?_)
  go_simp
  go_wp2_with fail
  refine (HSX2.out _ (by repeat (first | exact HBW.out | (with_reducible refine Below.allocS ?_ _) | (with_reducible refine Below.moreS ?_ _) | (with_reducible refine Below.drew ?_)))).mono ?_
  rintro e w' ⟨rfl, k3, rfl⟩
  go_wp2_with fail
  refine hK.out _ _ (show Below _ _ _ from ((grown_merge2 wk k1.heap k2.heap k3.heap k2.drawn k3.drawn).mono (by simp only [World.size_more]; omega))) ?_
  clear hK K
  try simp only [Act.put, List.getElem_toArray, List.getElem_cons_succ, List.getElem_cons_zero, List.setIfInBounds_toArray, List.set_cons_zero, List.set_cons_succ]
  refine gb_take 11 (v := ?_) rfl (by kernel_rfl) (by kernel_rfl) (by kernel_rfl) (fun _ _ _ h => h) (Or.inl ⟨by first | kernel_rfl | rfl, ?_⟩) ?_
  rotate_left
  · intro wS hSw; have hSc := hSw.cell; clear hSw; go_simp; try with_reducible rfl
  try simp only [Act.put, List.getElem_toArray, List.getElem_cons_succ, List.getElem_cons_zero, List.setIfInBounds_toArray, List.set_cons_zero, List.set_cons_succ]
  refine gb_take 12 (v := ?_) rfl (by kernel_rfl) (by kernel_rfl) (by kernel_rfl) (fun _ _ _ h => h) (Or.inl ⟨by first | kernel_rfl | rfl, ?_⟩) ?_
  rotate_left
  · intro wS hSw; have hSc := hSw.cell; clear hSw; go_simp; try with_reducible rfl
  try simp only [Act.put, List.getElem_toArray, List.getElem_cons_succ, List.getElem_cons_zero, List.setIfInBounds_toArray, List.set_cons_zero, List.set_cons_succ]
  refine gb_step 13 (by kernel_rfl) rfl (fun K hK => ?_)
  go_simp
  go_wp2_with fail
  refine (HA.out _ (by repeat (first | exact HBW.out | (with_reducible refine Below.allocS ?_ _) | (with_reducible refine Below.moreS ?_ _) | (with_reducible refine Below.drew ?_)))).mono ?_
  rintro e w' ⟨rfl, k4, rfl⟩
  go_wp2_with fail
  refine hK.out _ _ (show Below _ _ _ from ((grown_merge3 wk k1.heap k2.heap k3.heap k4.heap k3.drawn k4.drawn).mono (by simp only [World.size_more]; omega))) ?_
  clear hK K
  try simp only [Act.put, List.getElem_toArray, List.getElem_cons_succ, List.getElem_cons_zero, List.setIfInBounds_toArray, List.set_cons_zero, List.set_cons_succ]
  refine gb_take 14 (v := ?_) rfl (by kernel_rfl) (by kernel_rfl) (by kernel_rfl) (fun _ _ _ h => h) (Or.inl ⟨by first | kernel_rfl | rfl, ?_⟩) ?_
  rotate_left
  · intro wS hSw; have hSc := hSw.cell; clear hSw; go_simp; try with_reducible rfl
  try simp only [Act.put, List.getElem_toArray, List.getElem_cons_succ, List.getElem_cons_zero, List.setIfInBounds_toArray, List.set_cons_zero, List.set_cons_succ]
  refine gb_take 15 (v := ?_) rfl (by kernel_rfl) (by kernel_rfl) (by kernel_rfl) (fun _ _ _ h => h) (Or.inl ⟨by first | kernel_rfl | rfl, ?_⟩) ?_
  rotate_left
  · intro wS hSw; have hSc := hSw.cell; clear hSw; go_simp; try with_reducible rfl
  try simp only [Act.put, List.getElem_toArray, List.getElem_cons_succ, List.getElem_cons_zero, List.setIfInBounds_toArray, List.set_cons_zero, List.set_cons_succ]
  refine wpAnyH_done (by kernel_rfl) ?_ _
  go_wp2_with fail
  go_ret
  exact ⟨rfl, Below.junk (by repeat (first | exact HBW.out | (with_reducible refine Below.allocS ?_ _) | (with_reducible refine Below.moreS ?_ _) | (with_reducible refine Below.drew ?_)))⟩
end Go.Proofs.YtbdmepidabnfkaaGreatDoor
