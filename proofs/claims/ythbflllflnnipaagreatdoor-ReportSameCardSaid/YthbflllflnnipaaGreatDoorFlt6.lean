/-
  Faults: the document's set of the right ones.
-/
import Derived.Test.YthbflllflnnipaaGreatDoorFlt5
namespace Go.Proofs.YthbflllflnnipaaGreatDoor
set_option linter.unusedSimpArgs false
set_option linter.unusedVariables false
set_option linter.unusedSectionVars false
open Go.ChangeShapes Go.WideShapes Go.ChangeAt Go.RowKit Go.Deep Go.Shelf

def pOf (out : List Fl) : Fl → Bool := fun x => flR x && !decide (x ∈ out)
def takeB (rx h rb ls : Bool) : Bool := rx && !h && (!rb || ls)
theorem step_take {out : List Fl} {bo : Option Fl} {x : Fl} (hb : ∀ y, bo = some y → flR y = true) : stepM ltFl (pOf out) bo x = if takeB (flR x) (decide (x ∈ out)) (flR (optFl bo)) (ltFl x (optFl bo)) = true then some x else bo := by
  unfold stepM takeB pOf
  cases bo with
  | none =>
    have h0 : flR (optFl none) = false := rfl
    rw [h0]
    generalize decide (x ∈ out) = h
    cases flR x <;> cases h <;> simp
  | some y =>
    have h0 : flR (optFl (some y)) = true := hb y rfl
    rw [h0]
    generalize decide (x ∈ out) = h
    show (if (flR x && !h) = true then (if ltFl x y = true then some x else some y) else some y) = if (flR x && !h && (!true || ltFl x y)) = true then some x else some y
    cases flR x <;> cases h <;> cases ltFl x y <;> simp
theorem minS_drop {out l : List Fl} {bo : Option Fl} {k : Nat} (hlt : k < l.length) (hb : ∀ y, bo = some y → flR y = true) : minS ltFl (pOf out) (l.drop k) bo = minS ltFl (pOf out) (l.drop (k + 1)) (if takeB (flR l[k]) (decide (l[k] ∈ out)) (flR (optFl bo)) (ltFl l[k] (optFl bo)) = true then some l[k] else bo) := by
  rw [← step_take hb, List.drop_eq_getElem_cons hlt]
  rfl
theorem take_right {out : List Fl} {bo : Option Fl} {x : Fl} (hb : ∀ y, bo = some y → flR y = true) : ∀ y, (if takeB (flR x) (decide (x ∈ out)) (flR (optFl bo)) (ltFl x (optFl bo)) = true then some x else bo) = some y → flR y = true := by
  intro y h
  split at h
  · rename_i ht
    injection h with h
    subst h
    unfold takeB at ht
    simp only [Bool.and_eq_true] at ht
    exact ht.1.1
  · exact hb y h
theorem next_of (l : List Fl) (n : Nat) : minS ltFl (pOf ((ofF l).take n)) l none = (ofF l)[n]? := minS_next ordFl flR l (ofF l) (strict_ofF l) (mem_ofF l) n

set_option maxHeartbeats 8000000 in
set_option maxRecDepth 100000 in
theorem ref09_Of (a : Option Addr) (l : List Fl) (cap : Nat) (hl : l.length ≤ 100000) (w : World) (hS : SlFl w w.heap.size a l) :
    Calls Tryz.prog 35 #[.slice a l.length cap] w fun e w' => ∃ a' cap', e = .returned (.slice a' (ofF l).length cap') ∧ (ofF l).length ≤ cap' ∧ SlFl w' w'.heap.size a' (ofF l) ∧ Below w.heap.size w w' := by
  have HNX : Hid (∀ n, minS ltFl (pOf ((ofF l).take n)) l none = (ofF l)[n]?) := next_of l
  have hlen := ofF_len l
  generalize ofF l = S at HNX hlen ⊢
  have HLN := Lib.hid hlen
  have HS := Lib.hid hS
  clear hS hlen
  go_enter Tryz.func35, Tryz.ntmps35
  go_wp2_with fail
  go_loopg [3, 4] l.length (fun g v i wr => ∃ (n : Nat) (out : List Fl), n + g = l.length ∧ i = .int .i64 n ∧ OwnFl w.heap.size wr v out ∧ Below w.heap.size w wr ∧ Hid (out = S.take n))
  case atStart => exact ⟨0, [], by omega, rfl, OwnC.nil _ _, Below.refl _ _, rfl⟩
  case round =>
    obtain ⟨n, out, hng, rfl, HO, hb, HU⟩ := hrel
    obtain ⟨a3, cap3, rfl, hsl⟩ := HO.read flC_len
    have hol : out.length ≤ n := by rw [HU.out, List.length_take]; omega
    have HO := Lib.hid HO
    have HB := Lib.hid hb
    have HN := Lib.hid hng
    have HSL := Lib.hid hsl
    have HOL := Lib.hid hol
    clear hng hsl hol
    by_cases hlt : n < l.length
    · have hon : out.length ≤ 100000 := Nat.le_trans HOL.out (by omega)
      have HON := Lib.hid hon
      clear hon
      go_wp2_with fail
      go_loopg [6] l.length (fun g i w2 => ∃ (k : Nat) (bo : Option Fl) (j : Junk), k + g = l.length ∧ i = .int .i64 k ∧ w2 = (wr.alloc (.cells #[.int .i64 (optFl bo).scope, .int .i64 (optFl bo).code] 88)).more j ∧ Hid (∀ y, bo = some y → flR y = true) ∧ Hid (minS ltFl (pOf out) l none = minS ltFl (pOf out) (l.drop k) bo))
      case atStart => exact ⟨0, none, _, by omega, rfl, more_self _, fun y h => (nomatch h), rfl⟩
      case round =>
        obtain ⟨k, bo, j, hkg, rfl, rfl, HI, HM⟩ := hrel
        have HK := Lib.hid hkg
        clear hkg
        by_cases hlk : k < l.length
        · obtain ⟨b, off, ha, hbb, c00, c01⟩ := SlR.atFl HS.out hlk
          subst ha
          have c0 : wr.cell? ⟨b, off + k * 2, none⟩ = some (.int .i64 l[k].scope) := (hb.cell (p := ⟨b, off + k * 2, none⟩) hbb).trans c00
          have c1 : wr.cell? ⟨b, off + k * 2 + 1, none⟩ = some (.int .i64 l[k].code) := (hb.cell (p := ⟨b, off + k * 2 + 1, none⟩) hbb).trans c01
          have hbx : b < wr.heap.size := Nat.lt_of_lt_of_le hbb hb.size
          have HM2 := Lib.hid (HM.out.trans (minS_drop hlk HI.out))
          have HI2 := Lib.hid (take_right (out := out) (x := l[k]) HI.out)
          clear c00 c01 HM HI
          generalize l[k] = x at c0 c1 HM2 HI2
          obtain ⟨xs, xc⟩ := x
          generalize hbe : optFl bo = be at HM2 HI2
          obtain ⟨bs, bc⟩ := be
          have HBE := Lib.hid hbe
          obtain ⟨wk, hwk⟩ : ∃ wk, wk = (wr.alloc (.cells #[.int .i64 bs, .int .i64 bc] 88)).more j := ⟨_, rfl⟩
          have hbk : Below wr.heap.size wr wk := by rw [hwk]; exact (by repeat (first | (with_reducible exact Below.refl _ _) | (with_reducible refine Below.allocS ?_ _) | (with_reducible refine Below.moreS ?_ _) | (with_reducible refine Below.drew ?_) | (with_reducible refine below_drewN ?_ _)))
          have HBK := Lib.hid hbk
          have HX : Hid (∀ W, Calls Tryz.prog 76 #[.agg #[.int .i64 xs, .int .i64 xc]] W fun e w' => e = .returned (.bool (flR ⟨xs, xc⟩)) ∧ ∃ j, w' = W.more j) := ref09_Right xs xc
          have HY : Hid (∀ W, Calls Tryz.prog 76 #[.agg #[.int .i64 bs, .int .i64 bc]] W fun e w' => e = .returned (.bool (flR ⟨bs, bc⟩)) ∧ ∃ j, w' = W.more j) := ref09_Right bs bc
          have HL : Hid (∀ W, Calls Tryz.prog 78 #[.agg #[.int .i64 xs, .int .i64 xc], .agg #[.int .i64 bs, .int .i64 bc]] W fun e w' => e = .returned (.bool (ltFl ⟨xs, xc⟩ ⟨bs, bc⟩)) ∧ ∃ j, w' = W.more j) := ref09_Less xs xc bs bc
          have HH : Hid (∀ q : Junk, Calls Tryz.prog 77 #[.slice a3 out.length cap3, .agg #[.int .i64 xs, .int .i64 xc]] (wk.more q) fun e w' => e = .returned (.bool (decide (⟨xs, xc⟩ ∈ out))) ∧ ∃ j, w' = (wk.more q).more j) := fun q => ref09_Has a3 out cap3 xs xc HON.out _ ((HSL.out.below (hbk.moreS q) (Nat.le_refl _)).mono (hbk.moreS q).size (fun _ _ _ h => h))
          generalize flR ⟨xs, xc⟩ = rx at HX HM2 HI2
          generalize flR ⟨bs, bc⟩ = rb at HY HM2 HI2
          generalize ltFl ⟨xs, xc⟩ ⟨bs, bc⟩ = ls at HL HM2 HI2
          generalize decide (⟨xs, xc⟩ ∈ out) = hh at HH HM2 HI2
          have d0 : wk.cell? ⟨wr.heap.size, 0, none⟩ = some (.int .i64 bs) := by rw [hwk]; go_simp
          have d1 : wk.cell? ⟨wr.heap.size, 1, none⟩ = some (.int .i64 bc) := by rw [hwk]; go_simp
          have f0 : wk.frozen? ⟨wr.heap.size, 0, none⟩ = false := by rw [hwk]; go_simp
          have f1 : wk.frozen? ⟨wr.heap.size, 1, none⟩ = false := by rw [hwk]; go_simp
          have e0 : wk.cell? ⟨b, off + k * 2, none⟩ = some (.int .i64 xs) := (hbk.cell (p := ⟨b, _, none⟩) hbx).trans c0
          have e1 : wk.cell? ⟨b, off + k * 2 + 1, none⟩ = some (.int .i64 xc) := (hbk.cell (p := ⟨b, _, none⟩) hbx).trans c1
          have hkx : b < wk.heap.size := Nat.lt_of_lt_of_le hbx hbk.size
          have hks : wr.heap.size < wk.heap.size := by rw [hwk]; simp; omega
          have HWK := Lib.hid hwk
          rw [← hwk]
          clear hwk hbk hbe
          cases rx
          · have HM3 : Hid (minS ltFl (pOf out) l none = minS ltFl (pOf out) (l.drop (k + 1)) bo) := HM2.out
            have HI3 : Hid (∀ y, bo = some y → flR y = true) := HI2.out
            clear HM2 HI2 HY HL HH
            go_wp2_with fail
            refine wp_region_more (by kernel_rfl) (by kernel_rfl) ?_
            repeat (go_big_quiet_step (first | (go_at_call 76; with_reducible exact more_of (HX.out _))))
            refine wpQuiet_nil ?_
            intro w' hw'
            obtain ⟨j, rfl⟩ := hw'
            go_wp2_with fail
            go_roundg (l.length - (k + 1))
            case measure => have := HK.out; omega
            case rel => exact ⟨k + 1, bo, _, by have := HK.out; omega, by go_num, by rw [HWK.out, World.more_more, HBE.out], HI3, HM3⟩
          cases hh
          rotate_left
          · have HM3 : Hid (minS ltFl (pOf out) l none = minS ltFl (pOf out) (l.drop (k + 1)) bo) := HM2.out
            have HI3 : Hid (∀ y, bo = some y → flR y = true) := HI2.out
            clear HM2 HI2 HY HL
            go_wp2_with fail
            refine wp_region_more (by kernel_rfl) (by kernel_rfl) ?_
            repeat (go_big_quiet_step (first | (go_at_call 76; with_reducible exact more_of (HX.out _)) | (go_at_call 77; with_reducible exact more_of (HH.out _))))
            refine wpQuiet_nil ?_
            intro w' hw'
            obtain ⟨j, rfl⟩ := hw'
            go_wp2_with fail
            go_roundg (l.length - (k + 1))
            case measure => have := HK.out; omega
            case rel => exact ⟨k + 1, bo, _, by have := HK.out; omega, by go_num, by rw [HWK.out, World.more_more, HBE.out], HI3, HM3⟩
          cases rb
          · have HM3 : Hid (minS ltFl (pOf out) l none = minS ltFl (pOf out) (l.drop (k + 1)) (some ⟨xs, xc⟩)) := HM2.out
            have HI3 : Hid (∀ y, some ⟨xs, xc⟩ = some y → flR y = true) := HI2.out
            clear HM2 HI2 HL
            go_wp2_with fail
            refine wp_region_more (by kernel_rfl) (by kernel_rfl) ?_
            repeat (go_big_quiet_step (first | (go_at_call 76; with_reducible exact more_of (HX.out _)) | (go_at_call 77; with_reducible exact more_of (HH.out _)) | (go_at_call 76; with_reducible exact more_of (HY.out _))))
            refine wpQuiet_nil ?_
            intro w' hw'
            obtain ⟨j, rfl⟩ := hw'
            go_wp2_with fail
            go_roundg (l.length - (k + 1))
            case measure => have := HK.out; omega
            case rel => exact ⟨k + 1, some ⟨xs, xc⟩, _, by have := HK.out; omega, by go_num, by rw [HWK.out]; go_simp; rfl, HI3, HM3⟩
          cases ls
          · have HM3 : Hid (minS ltFl (pOf out) l none = minS ltFl (pOf out) (l.drop (k + 1)) bo) := HM2.out
            have HI3 : Hid (∀ y, bo = some y → flR y = true) := HI2.out
            clear HM2 HI2
            go_wp2_with fail
            refine wp_region_more (by kernel_rfl) (by kernel_rfl) ?_
            repeat (go_big_quiet_step (first | (go_at_call 76; with_reducible exact more_of (HX.out _)) | (go_at_call 77; with_reducible exact more_of (HH.out _)) | (go_at_call 76; with_reducible exact more_of (HY.out _)) | (go_at_call 78; with_reducible exact more_of (HL.out _))))
            refine wpQuiet_nil ?_
            intro w' hw'
            obtain ⟨j, rfl⟩ := hw'
            go_wp2_with fail
            go_roundg (l.length - (k + 1))
            case measure => have := HK.out; omega
            case rel => exact ⟨k + 1, bo, _, by have := HK.out; omega, by go_num, by rw [HWK.out, World.more_more, HBE.out], HI3, HM3⟩
          · have HM3 : Hid (minS ltFl (pOf out) l none = minS ltFl (pOf out) (l.drop (k + 1)) (some ⟨xs, xc⟩)) := HM2.out
            have HI3 : Hid (∀ y, some ⟨xs, xc⟩ = some y → flR y = true) := HI2.out
            clear HM2 HI2
            go_wp2_with fail
            refine wp_region_more (by kernel_rfl) (by kernel_rfl) ?_
            repeat (go_big_quiet_step (first | (go_at_call 76; with_reducible exact more_of (HX.out _)) | (go_at_call 77; with_reducible exact more_of (HH.out _)) | (go_at_call 76; with_reducible exact more_of (HY.out _)) | (go_at_call 78; with_reducible exact more_of (HL.out _))))
            refine wpQuiet_nil ?_
            intro w' hw'
            obtain ⟨j, rfl⟩ := hw'
            go_wp2_with fail
            go_roundg (l.length - (k + 1))
            case measure => have := HK.out; omega
            case rel => exact ⟨k + 1, some ⟨xs, xc⟩, _, by have := HK.out; omega, by go_num, by rw [HWK.out]; go_simp; rfl, HI3, HM3⟩
        · have hbest : bo = S[n]? := by
            have h1 := HM.out
            rw [List.drop_of_length_le (by omega), HU.out, HNX.out] at h1
            exact h1.symm
          have HBT := Lib.hid hbest
          clear hbest HM
          cases bo with
          | none =>
            have HY : Hid (∀ W, Calls Tryz.prog 76 #[.agg #[.int .i64 0, .int .i64 0]] W fun e w' => e = .returned (.bool false) ∧ ∃ j, w' = W.more j) := ref09_Right 0 0
            have HU3 : Hid (out = S.take (n + 1)) := by
              show _ = _
              have h1 : S.length ≤ n := by have := HBT.out; exact List.getElem?_eq_none_iff.1 this.symm
              rw [HU.out, List.take_of_length_le h1, List.take_of_length_le (by omega)]
            simp only [optFl]
            go_wp2_with fail
            refine (HY.out _).mono ?_
            rintro e w' ⟨rfl, j2, rfl⟩
            go_wp2_with fail
            go_roundg (l.length - (n + 1))
            case measure => have := HN.out; omega
            case rel => exact ⟨n + 1, out, by have := HN.out; omega, by go_num, HO.out.below (C := wr.heap.size) (by repeat (first | (with_reducible exact Below.refl _ _) | (with_reducible refine Below.allocS ?_ _) | (with_reducible refine Below.moreS ?_ _) | (with_reducible refine Below.drew ?_) | (with_reducible refine below_drewN ?_ _))) (Nat.le_refl _), HB.out.trans (Below.mono (B := wr.heap.size) (by repeat (first | (with_reducible exact Below.refl _ _) | (with_reducible refine Below.allocS ?_ _) | (with_reducible refine Below.moreS ?_ _) | (with_reducible refine Below.drew ?_) | (with_reducible refine below_drewN ?_ _))) HB.out.size), HU3⟩
          | some y =>
            obtain ⟨ys, yc⟩ := y
            have hy : flR ⟨ys, yc⟩ = true := HI.out _ rfl
            have HY : Hid (∀ W, Calls Tryz.prog 76 #[.agg #[.int .i64 ys, .int .i64 yc]] W fun e w' => e = .returned (.bool true) ∧ ∃ j, w' = W.more j) := by
              have := ref09_Right ys yc
              rw [hy] at this
              exact this
            have HU3 : Hid (out ++ [⟨ys, yc⟩] = S.take (n + 1)) := by
              show _ = _
              rw [HU.out, List.take_add_one, ← HBT.out]; rfl
            clear HI
            simp only [optFl]
            go_wp2_with fail
            refine (HY.out _).mono ?_
            rintro e w' ⟨rfl, j2, rfl⟩
            go_wp2_with (at_builtin; refine app_c (y := ⟨ys, yc⟩) st_fl flC_len flC_one (by omega) (.tmp 53) (.tmp 55) rfl rfl rfl (HO.out.below (C := wr.heap.size) (by repeat (first | (with_reducible exact Below.refl _ _) | (with_reducible refine Below.allocS ?_ _) | (with_reducible refine Below.moreS ?_ _) | (with_reducible refine Below.drew ?_) | (with_reducible refine below_drewN ?_ _))) (Nat.le_refl _)) rfl (Blk.at_ _ _ _ (by simp)) rfl (by have := HOL.out; omega) (by have := HB.out.size; simp only [World.size_alloc, World.size_more]; omega) ?_; intro v' w2 hown hbw)
            have hb2 := HB.out.trans ((Below.mono (B := wr.heap.size) (by repeat (first | (with_reducible exact Below.refl _ _) | (with_reducible refine Below.allocS ?_ _) | (with_reducible refine Below.moreS ?_ _) | (with_reducible refine Below.drew ?_) | (with_reducible refine below_drewN ?_ _))) HB.out.size).trans hbw)
            have HB2 := Lib.hid hb2
            have HO2 := Lib.hid hown
            clear hbw hb2 hown
            go_wp2_with fail
            go_roundg (l.length - (n + 1))
            case measure => have := HN.out; omega
            case rel => exact ⟨n + 1, out ++ [⟨ys, yc⟩], by have := HN.out; omega, by go_num, HO2.out, HB2.out, HU3⟩
    · have hS : out = S := by rw [HU.out, List.take_of_length_le]; have := HLN.out; have := HN.out; omega
      subst hS
      obtain ⟨a', cap', hv, hcap⟩ := HO.out.cap
      injection hv with h1 h2 h3
      subst h1 h3
      go_wp2_with fail
      go_ret
      exact ⟨_, _, rfl, hcap, HSL.out, HB.out⟩
end Go.Proofs.YthbflllflnnipaaGreatDoor
