/-
  The statement FaultsTexts: faults and sets as texts, there and back.
-/
import Derived.Test.YtamklaehaadiaaaGreatDoorFlt21
import Derived.Test.YtamklaehaadiaaaGreatDoorFlt22
import Derived.Test.YtamklaehaadiaaaGreatDoorFlt14
import Derived.Test.YtamklaehaadiaaaGreatDoorFltH
namespace Go.Proofs.YtamklaehaadiaaaGreatDoor
set_option linter.unusedSimpArgs false
set_option linter.unusedVariables false
set_option linter.unusedSectionVars false
open Go.ChangeShapes Go.WideShapes Go.ChangeAt Go.RowKit Go.Deep Go.Shelf

theorem goW_len : ∀ {p : List (List UInt8)} {last : Option Fl} {l : List Fl}, goW p last = some l → l.length = p.length
  | [], last, l, h => by simp only [goW] at h; injection h with h; subst h; rfl
  | x :: r, last, l, h => by
    unfold goW at h
    split at h
    · obtain ⟨m, h1, rfl⟩ := Option.map_eq_some_iff.1 h
      simp [goW_len h1]
    · cases h
theorem setW_len (s : List UInt8) : (setW s).1.length ≤ s.length + 1 := by
  unfold setW
  split
  · simp
  · cases h : goW (cutF 44 s) none with
    | none => simp [setE]
    | some l => have := goW_len h; have := cut_len 44 s; simp only [setE]; omega
theorem showW_len (l : List Fl) : (showW l).length ≤ 1001 * l.length + 1 := by
  unfold showW
  split
  · simp
  · have h1 := join_leC 44 ((ofF l).map textW) (by simp only [List.mem_map]; rintro x ⟨f, _, rfl⟩; exact Nat.le_trans (textW_len f) (by omega))
    have h2 := ofF_len l
    rw [List.length_map] at h1
    omega
def SetPost (L : List Fl) (w : World) (e : Ending) (w' : World) : Prop := ∃ a' cap', e = .returned (.slice a' L.length cap') ∧ SlFl w' w'.heap.size a' L ∧ Below w.heap.size w w'
def SetsPost (L : List Fl) (b : Bool) (w : World) (e : Ending) (w' : World) : Prop := ∃ a' cap', e = .returned (.tuple #[.slice a' L.length cap', .bool b]) ∧ SlFl w' w'.heap.size a' L ∧ Below w.heap.size w w'
abbrev FlV (x y : Int) : Value := .agg #[.int .i64 x, .int .i64 y]
set_option maxHeartbeats 16000000 in
set_option maxRecDepth 100000 in
theorem faultsTexts_law (s c : Int) (a1 : Option Addr) (cap1 : Nat) (l1 : List Fl) (t : List UInt8) (w : World) (hE : Env w) (hF : FN w)
    (_ : l1.length ≤ cap1) (hm1 : l1.length ≤ maxLen) (hs1 : SlFl w w.heap.size a1 l1) (hmt : t.length ≤ maxLen) :
    Calls Tryz.prog 3 #[.agg #[.int .i64 s, .int .i64 c], .slice a1 l1.length cap1, bstr t] w fun e w' => e = .returned (.bool true) ∧ ∃ j, w' = w.more j := by
  have HAL : Hid (∀ W, FN W → Calls Tryz.prog 4 #[] W fun e w' => e = .returned (.bool true) ∧ ∃ j, w' = W.more j) := law09_alive
  have HE := Lib.hid hE
  have HF := Lib.hid hF
  have H1 := Lib.hid hs1
  unfold maxLen at hm1 hmt
  clear hE hF hs1
  by_cases g : 40 < l1.length ∨ 400 < t.length
  · rcases g with g | g
    · have g1 : (40 : Int) < l1.length := by omega
      go_enter Tryz.func3, Tryz.ntmps3
      go_wp2_with (go_at_call 4; (with_reducible refine (HAL.out _ (HF.out.below (by repeat (first | (with_reducible exact Below.refl _ _) | (with_reducible refine Below.allocS ?_ _) | (with_reducible refine Below.moreS ?_ _) | (with_reducible refine Below.drew ?_) | (with_reducible refine below_drewN ?_ _))))).mono ?_); rintro e w' ⟨rfl, j, rfl⟩)
      all_goals first
        | (exfalso; omega)
        | (go_ret
           exact ⟨rfl, Below.junk (by repeat (first | (with_reducible exact Below.refl _ _) | (with_reducible refine Below.allocS ?_ _) | (with_reducible refine Below.moreS ?_ _) | (with_reducible refine Below.drew ?_) | (with_reducible refine below_drewN ?_ _)))⟩)
    · have g1 : (400 : Int) < t.length := by omega
      go_enter Tryz.func3, Tryz.ntmps3
      go_wp2_with (go_at_call 4; (with_reducible refine (HAL.out _ (HF.out.below (by repeat (first | (with_reducible exact Below.refl _ _) | (with_reducible refine Below.allocS ?_ _) | (with_reducible refine Below.moreS ?_ _) | (with_reducible refine Below.drew ?_) | (with_reducible refine below_drewN ?_ _))))).mono ?_); rintro e w' ⟨rfl, j, rfl⟩)
      all_goals first
        | (exfalso; omega)
        | (go_ret
           exact ⟨rfl, Below.junk (by repeat (first | (with_reducible exact Below.refl _ _) | (with_reducible refine Below.allocS ?_ _) | (with_reducible refine Below.moreS ?_ _) | (with_reducible refine Below.drew ?_) | (with_reducible refine below_drewN ?_ _)))⟩)
  have g1 : ¬ (40 : Int) < l1.length := by omega
  have g2 : ¬ (400 : Int) < t.length := by omega
  have hT1 := textW_len ⟨s, c⟩
  have HT1 : Hid (∀ W, Below w.heap.size w W → Calls Tryz.prog 5 #[FlV s c] W fun e w' => e = .returned (bstr (textW ⟨s, c⟩)) ∧ ∃ j, w' = W.more j) := fun W hW => faults_Text s c W fun _ W' hW' => faults_CodeName c W' (HE.out.below (below_step hW hW')) (HF.out.below (below_step hW hW'))
  have HT2 : Hid (∀ W, Calls Tryz.prog 7 #[FlV s c] W fun e w' => e = .returned (bstr (textW ⟨s, c⟩)) ∧ ∃ j, w' = W.more j) := ref09_Text s c
  have HR1 : Hid (∀ W, Below w.heap.size w W → Calls Tryz.prog 6 #[bstr (textW ⟨s, c⟩)] W fun e w' => e = .returned (.tuple #[FlV (readW (textW ⟨s, c⟩)).1.scope (readW (textW ⟨s, c⟩)).1.code, .bool (readW (textW ⟨s, c⟩)).2]) ∧ ∃ j, w' = W.more j) := fun W hW => faults_Read _ (by omega) W (HE.out.below hW) (HF.out.below hW)
  have HQ : Hid (∀ W, Calls Tryz.prog 8 #[FlV s c] W fun e w' => e = .returned (.bool (flR ⟨s, c⟩)) ∧ ∃ j, w' = W.more j) := ref09_Right s c
  have HX : Hid (flR ⟨s, c⟩ = true → readW (textW ⟨s, c⟩) = (⟨s, c⟩, true)) := fun h => readW_text h
  have HR2 : Hid (∀ W, Below w.heap.size w W → Calls Tryz.prog 6 #[bstr t] W fun e w' => e = .returned (.tuple #[FlV (readW t).1.scope (readW t).1.code, .bool (readW t).2]) ∧ ∃ j, w' = W.more j) := fun W hW => faults_Read _ (by omega) W (HE.out.below hW) (HF.out.below hW)
  have HR3 : Hid (∀ W, Calls Tryz.prog 9 #[bstr t] W fun e w' => e = .returned (.tuple #[FlV (readW t).1.scope (readW t).1.code, .bool (readW t).2]) ∧ ∃ j, w' = W.more j) := ref09_Read t (by omega)
  have HS1 : Hid (∀ W, Below w.heap.size w W → SlFl W W.heap.size a1 l1 → Calls Tryz.prog 10 #[.slice a1 l1.length cap1] W fun e w' => e = .returned (bstr (showW l1)) ∧ ∃ j, w' = W.more j) := fun W hW h => faults_Show a1 l1 cap1 (by omega) W h fun f _ W' hW' => faults_CodeName f.code W' (HE.out.below (below_step hW hW')) (HF.out.below (below_step hW hW'))
  have HS2 : Hid (∀ W, SlFl W W.heap.size a1 l1 → Calls Tryz.prog 13 #[.slice a1 l1.length cap1] W fun e w' => e = .returned (bstr (showW l1)) ∧ ∃ j, w' = W.more j) := fun W h => ref09_Show a1 l1 cap1 (by omega) W h
  have hU := showW_len l1
  have HW1 : Hid (∀ W, Below w.heap.size w W → Calls Tryz.prog 11 #[bstr (showW l1)] W (SetsPost (ofF l1) true W)) := fun W hW => by
    have := faults_ReadSet (showW l1) (by omega) W (HE.out.below hW) (HF.out.below hW)
    rw [setW_show] at this
    exact this
  have HW2 : Hid (∀ W, Below w.heap.size w W → Calls Tryz.prog 11 #[bstr t] W (SetsPost (setW t).1 (setW t).2 W)) := fun W hW => faults_ReadSet t (by omega) W (HE.out.below hW) (HF.out.below hW)
  have HW3 : Hid (∀ W, Calls Tryz.prog 12 #[bstr t] W (SetsPost (setW t).1 (setW t).2 W)) := fun W => ref09_ReadSet t (by omega) W
  have HO : Hid (∀ W, SlFl W W.heap.size a1 l1 → Calls Tryz.prog 15 #[.slice a1 l1.length cap1] W (SetPost (ofF l1) W)) := fun W h => (ref09_Of a1 l1 cap1 (by omega) W h).mono fun e w' ⟨a, b, h1, _, h3, h4⟩ => ⟨a, b, h1, h3, h4⟩
  have hM := ofF_len l1
  have hP := setW_len t
  have HM1 : Hid (∀ W a b ca cb, SlFl W W.heap.size a (ofF l1) → SlFl W W.heap.size b (ofF l1) → Calls Tryz.prog 14 #[.slice a (ofF l1).length ca, .slice b (ofF l1).length cb] W fun e w' => e = .returned (.bool true) ∧ ∃ j, w' = W.more j) := fun W a b ca cb h1 h2 => by
    have := ref09_Same a b (ofF l1) (ofF l1) ca cb (by omega) (by omega) W h1 h2
    rw [decide_eq_true rfl] at this
    exact this
  have HM2 : Hid (∀ W a b ca cb, SlFl W W.heap.size a (setW t).1 → SlFl W W.heap.size b (setW t).1 → Calls Tryz.prog 14 #[.slice a (setW t).1.length ca, .slice b (setW t).1.length cb] W fun e w' => e = .returned (.bool true) ∧ ∃ j, w' = W.more j) := fun W a b ca cb h1 h2 => by
    have := ref09_Same a b (setW t).1 (setW t).1 ca cb (by omega) (by omega) W h1 h2
    rw [decide_eq_true rfl] at this
    exact this
  generalize setW t = PG at HW2 HW3 HM2 hP
  generalize ofF l1 = M at HW1 HO HM1 hM
  generalize showW l1 = U at HS1 HS2 HW1 hU
  generalize readW t = Y at HR2 HR3
  generalize readW (textW ⟨s, c⟩) = X at HR1 HX
  generalize textW ⟨s, c⟩ = T at HT1 HT2 HR1 hT1
  generalize flR ⟨s, c⟩ = r at HQ HX
  obtain ⟨P, got⟩ := PG
  obtain ⟨⟨ys, yc⟩, was⟩ := Y
  obtain ⟨⟨xs, xc⟩, is⟩ := X
  have HEQ := fun W => fl_eql ⟨ys, yc⟩ ⟨ys, yc⟩ W
  have HNE := fun W => fl_neq ⟨s, c⟩ ⟨s, c⟩ W
  have hey : flEq ⟨ys, yc⟩ ⟨ys, yc⟩ = true := decide_eq_true rfl
  have hes : flEq ⟨s, c⟩ ⟨s, c⟩ = true := decide_eq_true rfl
  rw [hey] at HEQ
  rw [hes] at HNE
  simp only at HR1 HX HR2 HR3 HW2 HW3 HM2 HEQ HNE
  clear hT1 hU hM hP hey hes g
  obtain ⟨w0, hw0⟩ : ∃ x, x = w.alloc (.cells #[.int .i64 s, .int .i64 c] 23) := ⟨_, rfl⟩
  have hb : Below w.heap.size w w0 := by rw [hw0]; exact (by repeat (first | (with_reducible exact Below.refl _ _) | (with_reducible refine Below.allocS ?_ _) | (with_reducible refine Below.moreS ?_ _) | (with_reducible refine Below.drew ?_) | (with_reducible refine below_drewN ?_ _)))
  have HD : Hid (BoxAt w.heap.size s c w0) := by rw [hw0]; exact ⟨by go_simp, by go_simp, by simp⟩
  replace H1 := Lib.hid (SlFl.keep H1.out hb)
  have HB0 := Lib.hid hb
  clear hb
  go_enter Tryz.func3, Tryz.ntmps3
  go_wp2_with fail
  rw [← hw0]
  clear hw0
  refine (more_post (HT1.out _ HB0.out)).mono ?_
  rintro e w1 ⟨rfl, hb⟩
  replace H1 := Lib.hid (SlFl.keep H1.out hb)
  replace HD := Lib.hid (BoxAt.keep HD.out hb)
  have HB1 := Lib.hid (below_step HB0.out hb)
  clear hb HB0
  go_wp2_with fail
  refine (more_post (HR1.out _ HB1.out)).mono ?_
  rintro e w2 ⟨rfl, hb⟩
  replace H1 := Lib.hid (SlFl.keep H1.out hb)
  replace HD := Lib.hid (BoxAt.keep HD.out hb)
  have HB2 := Lib.hid (below_step HB1.out hb)
  clear hb HB1
  obtain ⟨d10, d11, hd1⟩ := HD.out
  go_wp2_with fail
  clear d10 d11 hd1
  obtain ⟨w3, hw⟩ : ∃ x, x = w2.alloc (.cells #[.int .i64 xs, .int .i64 xc] 23) := ⟨_, rfl⟩
  have hb : Below w2.heap.size w2 w3 := by rw [hw]; exact (by repeat (first | (with_reducible exact Below.refl _ _) | (with_reducible refine Below.allocS ?_ _) | (with_reducible refine Below.moreS ?_ _) | (with_reducible refine Below.drew ?_) | (with_reducible refine below_drewN ?_ _)))
  have HX1 : Hid (BoxAt w2.heap.size xs xc w3) := by rw [hw]; exact ⟨by go_simp, by go_simp, by simp⟩
  rw [← hw]
  clear hw
  replace H1 := Lib.hid (SlFl.keep H1.out hb)
  replace HD := Lib.hid (BoxAt.keep HD.out hb)
  have HB3 := Lib.hid (below_step HB2.out hb)
  clear hb HB2
  refine (more_post (HT2.out _)).mono ?_
  rintro e w4 ⟨rfl, hb⟩
  replace H1 := Lib.hid (SlFl.keep H1.out hb)
  replace HD := Lib.hid (BoxAt.keep HD.out hb)
  replace HX1 := Lib.hid (BoxAt.keep HX1.out hb)
  have HB4 := Lib.hid (below_step HB3.out hb)
  clear hb HB3
  obtain ⟨d10, d11, hd1⟩ := HD.out
  go_wp2_with fail
  clear d10 d11 hd1
  refine (more_post (HQ.out _)).mono ?_
  rintro e w5 ⟨rfl, hb⟩
  replace H1 := Lib.hid (SlFl.keep H1.out hb)
  replace HD := Lib.hid (BoxAt.keep HD.out hb)
  replace HX1 := Lib.hid (BoxAt.keep HX1.out hb)
  have HB5 := Lib.hid (below_step HB4.out hb)
  clear hb HB4
  have htt : (T == T) = true := by simp
  have htn : (T != T) = false := by simp
  cases r
  · clear HX
    go_wp2_with fail
    refine (more_post (HR2.out _ HB5.out)).mono ?_
    rintro e w6 ⟨rfl, hb⟩
    replace H1 := Lib.hid (SlFl.keep H1.out hb)
    replace HD := Lib.hid (BoxAt.keep HD.out hb)
    replace HX1 := Lib.hid (BoxAt.keep HX1.out hb)
    have HB6 := Lib.hid (below_step HB5.out hb)
    clear hb HB5
    go_wp2_with fail
    obtain ⟨w7, hw⟩ : ∃ x, x = w6.alloc (.cells #[.int .i64 ys, .int .i64 yc] 23) := ⟨_, rfl⟩
    have hb : Below w6.heap.size w6 w7 := by rw [hw]; exact (by repeat (first | (with_reducible exact Below.refl _ _) | (with_reducible refine Below.allocS ?_ _) | (with_reducible refine Below.moreS ?_ _) | (with_reducible refine Below.drew ?_) | (with_reducible refine below_drewN ?_ _)))
    have HY1 : Hid (BoxAt w6.heap.size ys yc w7) := by rw [hw]; exact ⟨by go_simp, by go_simp, by simp⟩
    rw [← hw]
    clear hw
    replace H1 := Lib.hid (SlFl.keep H1.out hb)
    replace HD := Lib.hid (BoxAt.keep HD.out hb)
    replace HX1 := Lib.hid (BoxAt.keep HX1.out hb)
    have HB7 := Lib.hid (below_step HB6.out hb)
    clear hb HB6
    refine (more_post (HR3.out _)).mono ?_
    rintro e w8 ⟨rfl, hb⟩
    replace H1 := Lib.hid (SlFl.keep H1.out hb)
    replace HD := Lib.hid (BoxAt.keep HD.out hb)
    replace HX1 := Lib.hid (BoxAt.keep HX1.out hb)
    replace HY1 := Lib.hid (BoxAt.keep HY1.out hb)
    have HB8 := Lib.hid (below_step HB7.out hb)
    clear hb HB7
    go_wp2_with fail
    obtain ⟨w9, hw⟩ : ∃ x, x = w8.alloc (.cells #[.int .i64 ys, .int .i64 yc] 23) := ⟨_, rfl⟩
    have hb : Below w8.heap.size w8 w9 := by rw [hw]; exact (by repeat (first | (with_reducible exact Below.refl _ _) | (with_reducible refine Below.allocS ?_ _) | (with_reducible refine Below.moreS ?_ _) | (with_reducible refine Below.drew ?_) | (with_reducible refine below_drewN ?_ _)))
    have HZ1 : Hid (BoxAt w8.heap.size ys yc w9) := by rw [hw]; exact ⟨by go_simp, by go_simp, by simp⟩
    rw [← hw]
    clear hw
    replace H1 := Lib.hid (SlFl.keep H1.out hb)
    replace HD := Lib.hid (BoxAt.keep HD.out hb)
    replace HX1 := Lib.hid (BoxAt.keep HX1.out hb)
    replace HY1 := Lib.hid (BoxAt.keep HY1.out hb)
    have HB9 := Lib.hid (below_step HB8.out hb)
    clear hb HB8
    refine (more_post (HS1.out _ HB9.out H1.out)).mono ?_
    rintro e w10 ⟨rfl, hb⟩
    replace H1 := Lib.hid (SlFl.keep H1.out hb)
    replace HD := Lib.hid (BoxAt.keep HD.out hb)
    replace HX1 := Lib.hid (BoxAt.keep HX1.out hb)
    replace HY1 := Lib.hid (BoxAt.keep HY1.out hb)
    replace HZ1 := Lib.hid (BoxAt.keep HZ1.out hb)
    have HB10 := Lib.hid (below_step HB9.out hb)
    clear hb HB9
    go_wp2_with fail
    refine (HW1.out _ HB10.out).mono ?_
    rintro e w11 ⟨am, cm, rfl, hs, hb⟩
    replace H1 := Lib.hid (SlFl.keep H1.out hb)
    replace HD := Lib.hid (BoxAt.keep HD.out hb)
    replace HX1 := Lib.hid (BoxAt.keep HX1.out hb)
    replace HY1 := Lib.hid (BoxAt.keep HY1.out hb)
    replace HZ1 := Lib.hid (BoxAt.keep HZ1.out hb)
    have KM := Lib.hid hs
    clear hs
    have HB11 := Lib.hid (below_step HB10.out hb)
    clear hb HB10
    go_wp2_with fail
    refine (HW2.out _ HB11.out).mono ?_
    rintro e w12 ⟨ap, cp, rfl, hs, hb⟩
    replace H1 := Lib.hid (SlFl.keep H1.out hb)
    replace KM := Lib.hid (SlFl.keep KM.out hb)
    replace HD := Lib.hid (BoxAt.keep HD.out hb)
    replace HX1 := Lib.hid (BoxAt.keep HX1.out hb)
    replace HY1 := Lib.hid (BoxAt.keep HY1.out hb)
    replace HZ1 := Lib.hid (BoxAt.keep HZ1.out hb)
    have KP := Lib.hid hs
    clear hs
    have HB12 := Lib.hid (below_step HB11.out hb)
    clear hb HB11
    go_wp2_with fail
    refine (HW3.out _).mono ?_
    rintro e w13 ⟨aq, cq, rfl, hs, hb⟩
    replace H1 := Lib.hid (SlFl.keep H1.out hb)
    replace KM := Lib.hid (SlFl.keep KM.out hb)
    replace KP := Lib.hid (SlFl.keep KP.out hb)
    replace HD := Lib.hid (BoxAt.keep HD.out hb)
    replace HX1 := Lib.hid (BoxAt.keep HX1.out hb)
    replace HY1 := Lib.hid (BoxAt.keep HY1.out hb)
    replace HZ1 := Lib.hid (BoxAt.keep HZ1.out hb)
    have KQ := Lib.hid hs
    clear hs
    have HB13 := Lib.hid (below_step HB12.out hb)
    clear hb HB12
    obtain ⟨d20, d21, hd2⟩ := HY1.out
    obtain ⟨d30, d31, hd3⟩ := HZ1.out
    go_wp2_with fail
    clear d20 d21 hd2
    clear d30 d31 hd3
    refine (more_post (HS2.out _ H1.out)).mono ?_
    rintro e w14 ⟨rfl, hb⟩
    replace H1 := Lib.hid (SlFl.keep H1.out hb)
    replace KM := Lib.hid (SlFl.keep KM.out hb)
    replace KP := Lib.hid (SlFl.keep KP.out hb)
    replace KQ := Lib.hid (SlFl.keep KQ.out hb)
    replace HD := Lib.hid (BoxAt.keep HD.out hb)
    replace HX1 := Lib.hid (BoxAt.keep HX1.out hb)
    replace HY1 := Lib.hid (BoxAt.keep HY1.out hb)
    replace HZ1 := Lib.hid (BoxAt.keep HZ1.out hb)
    have HB14 := Lib.hid (below_step HB13.out hb)
    clear hb HB13
    go_wp2_with fail
    refine (HO.out _ H1.out).mono ?_
    rintro e w15 ⟨ao, co, rfl, hs, hb⟩
    replace H1 := Lib.hid (SlFl.keep H1.out hb)
    replace KM := Lib.hid (SlFl.keep KM.out hb)
    replace KP := Lib.hid (SlFl.keep KP.out hb)
    replace KQ := Lib.hid (SlFl.keep KQ.out hb)
    replace HD := Lib.hid (BoxAt.keep HD.out hb)
    replace HX1 := Lib.hid (BoxAt.keep HX1.out hb)
    replace HY1 := Lib.hid (BoxAt.keep HY1.out hb)
    replace HZ1 := Lib.hid (BoxAt.keep HZ1.out hb)
    have KO := Lib.hid hs
    clear hs
    have HB15 := Lib.hid (below_step HB14.out hb)
    clear hb HB14
    go_wp2_with fail
    refine (more_post (HM1.out _ _ _ _ _ KM.out KO.out)).mono ?_
    rintro e w16 ⟨rfl, hb⟩
    replace H1 := Lib.hid (SlFl.keep H1.out hb)
    replace KM := Lib.hid (SlFl.keep KM.out hb)
    replace KP := Lib.hid (SlFl.keep KP.out hb)
    replace KQ := Lib.hid (SlFl.keep KQ.out hb)
    replace KO := Lib.hid (SlFl.keep KO.out hb)
    replace HD := Lib.hid (BoxAt.keep HD.out hb)
    replace HX1 := Lib.hid (BoxAt.keep HX1.out hb)
    replace HY1 := Lib.hid (BoxAt.keep HY1.out hb)
    replace HZ1 := Lib.hid (BoxAt.keep HZ1.out hb)
    have HB16 := Lib.hid (below_step HB15.out hb)
    clear hb HB15
    go_wp2_with fail
    refine (more_post (HM2.out _ _ _ _ _ KP.out KQ.out)).mono ?_
    rintro e w17 ⟨rfl, hb⟩
    replace H1 := Lib.hid (SlFl.keep H1.out hb)
    replace KP := Lib.hid (SlFl.keep KP.out hb)
    replace KQ := Lib.hid (SlFl.keep KQ.out hb)
    replace HD := Lib.hid (BoxAt.keep HD.out hb)
    replace HX1 := Lib.hid (BoxAt.keep HX1.out hb)
    replace HY1 := Lib.hid (BoxAt.keep HY1.out hb)
    replace HZ1 := Lib.hid (BoxAt.keep HZ1.out hb)
    have HB17 := Lib.hid (below_step HB16.out hb)
    clear hb HB16
    go_wp2_with fail
    refine (more_post (HAL.out _ (HF.out.below HB17.out))).mono ?_
    rintro e w18 ⟨rfl, hb⟩
    replace H1 := Lib.hid (SlFl.keep H1.out hb)
    replace KP := Lib.hid (SlFl.keep KP.out hb)
    replace KQ := Lib.hid (SlFl.keep KQ.out hb)
    replace HD := Lib.hid (BoxAt.keep HD.out hb)
    replace HX1 := Lib.hid (BoxAt.keep HX1.out hb)
    replace HY1 := Lib.hid (BoxAt.keep HY1.out hb)
    replace HZ1 := Lib.hid (BoxAt.keep HZ1.out hb)
    have HB18 := Lib.hid (below_step HB17.out hb)
    clear hb HB17
    go_wp2_with fail
    go_ret
    exact ⟨rfl, HB18.out.junk⟩
  · obtain ⟨hx, rfl⟩ := Prod.mk.inj (HX.out rfl)
    obtain ⟨rfl, rfl⟩ := Fl.mk.inj hx
    clear HX hx
    obtain ⟨d10, d11, hd1⟩ := HD.out
    obtain ⟨d20, d21, hd2⟩ := HX1.out
    go_wp2_with fail
    clear d10 d11 hd1
    clear d20 d21 hd2
    refine (more_post (HR2.out _ HB5.out)).mono ?_
    rintro e w6 ⟨rfl, hb⟩
    replace H1 := Lib.hid (SlFl.keep H1.out hb)
    replace HD := Lib.hid (BoxAt.keep HD.out hb)
    replace HX1 := Lib.hid (BoxAt.keep HX1.out hb)
    have HB6 := Lib.hid (below_step HB5.out hb)
    clear hb HB5
    go_wp2_with fail
    obtain ⟨w7, hw⟩ : ∃ x, x = w6.alloc (.cells #[.int .i64 ys, .int .i64 yc] 23) := ⟨_, rfl⟩
    have hb : Below w6.heap.size w6 w7 := by rw [hw]; exact (by repeat (first | (with_reducible exact Below.refl _ _) | (with_reducible refine Below.allocS ?_ _) | (with_reducible refine Below.moreS ?_ _) | (with_reducible refine Below.drew ?_) | (with_reducible refine below_drewN ?_ _)))
    have HY1 : Hid (BoxAt w6.heap.size ys yc w7) := by rw [hw]; exact ⟨by go_simp, by go_simp, by simp⟩
    rw [← hw]
    clear hw
    replace H1 := Lib.hid (SlFl.keep H1.out hb)
    replace HD := Lib.hid (BoxAt.keep HD.out hb)
    replace HX1 := Lib.hid (BoxAt.keep HX1.out hb)
    have HB7 := Lib.hid (below_step HB6.out hb)
    clear hb HB6
    refine (more_post (HR3.out _)).mono ?_
    rintro e w8 ⟨rfl, hb⟩
    replace H1 := Lib.hid (SlFl.keep H1.out hb)
    replace HD := Lib.hid (BoxAt.keep HD.out hb)
    replace HX1 := Lib.hid (BoxAt.keep HX1.out hb)
    replace HY1 := Lib.hid (BoxAt.keep HY1.out hb)
    have HB8 := Lib.hid (below_step HB7.out hb)
    clear hb HB7
    go_wp2_with fail
    obtain ⟨w9, hw⟩ : ∃ x, x = w8.alloc (.cells #[.int .i64 ys, .int .i64 yc] 23) := ⟨_, rfl⟩
    have hb : Below w8.heap.size w8 w9 := by rw [hw]; exact (by repeat (first | (with_reducible exact Below.refl _ _) | (with_reducible refine Below.allocS ?_ _) | (with_reducible refine Below.moreS ?_ _) | (with_reducible refine Below.drew ?_) | (with_reducible refine below_drewN ?_ _)))
    have HZ1 : Hid (BoxAt w8.heap.size ys yc w9) := by rw [hw]; exact ⟨by go_simp, by go_simp, by simp⟩
    rw [← hw]
    clear hw
    replace H1 := Lib.hid (SlFl.keep H1.out hb)
    replace HD := Lib.hid (BoxAt.keep HD.out hb)
    replace HX1 := Lib.hid (BoxAt.keep HX1.out hb)
    replace HY1 := Lib.hid (BoxAt.keep HY1.out hb)
    have HB9 := Lib.hid (below_step HB8.out hb)
    clear hb HB8
    refine (more_post (HS1.out _ HB9.out H1.out)).mono ?_
    rintro e w10 ⟨rfl, hb⟩
    replace H1 := Lib.hid (SlFl.keep H1.out hb)
    replace HD := Lib.hid (BoxAt.keep HD.out hb)
    replace HX1 := Lib.hid (BoxAt.keep HX1.out hb)
    replace HY1 := Lib.hid (BoxAt.keep HY1.out hb)
    replace HZ1 := Lib.hid (BoxAt.keep HZ1.out hb)
    have HB10 := Lib.hid (below_step HB9.out hb)
    clear hb HB9
    go_wp2_with fail
    refine (HW1.out _ HB10.out).mono ?_
    rintro e w11 ⟨am, cm, rfl, hs, hb⟩
    replace H1 := Lib.hid (SlFl.keep H1.out hb)
    replace HD := Lib.hid (BoxAt.keep HD.out hb)
    replace HX1 := Lib.hid (BoxAt.keep HX1.out hb)
    replace HY1 := Lib.hid (BoxAt.keep HY1.out hb)
    replace HZ1 := Lib.hid (BoxAt.keep HZ1.out hb)
    have KM := Lib.hid hs
    clear hs
    have HB11 := Lib.hid (below_step HB10.out hb)
    clear hb HB10
    go_wp2_with fail
    refine (HW2.out _ HB11.out).mono ?_
    rintro e w12 ⟨ap, cp, rfl, hs, hb⟩
    replace H1 := Lib.hid (SlFl.keep H1.out hb)
    replace KM := Lib.hid (SlFl.keep KM.out hb)
    replace HD := Lib.hid (BoxAt.keep HD.out hb)
    replace HX1 := Lib.hid (BoxAt.keep HX1.out hb)
    replace HY1 := Lib.hid (BoxAt.keep HY1.out hb)
    replace HZ1 := Lib.hid (BoxAt.keep HZ1.out hb)
    have KP := Lib.hid hs
    clear hs
    have HB12 := Lib.hid (below_step HB11.out hb)
    clear hb HB11
    go_wp2_with fail
    refine (HW3.out _).mono ?_
    rintro e w13 ⟨aq, cq, rfl, hs, hb⟩
    replace H1 := Lib.hid (SlFl.keep H1.out hb)
    replace KM := Lib.hid (SlFl.keep KM.out hb)
    replace KP := Lib.hid (SlFl.keep KP.out hb)
    replace HD := Lib.hid (BoxAt.keep HD.out hb)
    replace HX1 := Lib.hid (BoxAt.keep HX1.out hb)
    replace HY1 := Lib.hid (BoxAt.keep HY1.out hb)
    replace HZ1 := Lib.hid (BoxAt.keep HZ1.out hb)
    have KQ := Lib.hid hs
    clear hs
    have HB13 := Lib.hid (below_step HB12.out hb)
    clear hb HB12
    obtain ⟨d20, d21, hd2⟩ := HY1.out
    obtain ⟨d30, d31, hd3⟩ := HZ1.out
    go_wp2_with fail
    clear d20 d21 hd2
    clear d30 d31 hd3
    refine (more_post (HS2.out _ H1.out)).mono ?_
    rintro e w14 ⟨rfl, hb⟩
    replace H1 := Lib.hid (SlFl.keep H1.out hb)
    replace KM := Lib.hid (SlFl.keep KM.out hb)
    replace KP := Lib.hid (SlFl.keep KP.out hb)
    replace KQ := Lib.hid (SlFl.keep KQ.out hb)
    replace HD := Lib.hid (BoxAt.keep HD.out hb)
    replace HX1 := Lib.hid (BoxAt.keep HX1.out hb)
    replace HY1 := Lib.hid (BoxAt.keep HY1.out hb)
    replace HZ1 := Lib.hid (BoxAt.keep HZ1.out hb)
    have HB14 := Lib.hid (below_step HB13.out hb)
    clear hb HB13
    go_wp2_with fail
    refine (HO.out _ H1.out).mono ?_
    rintro e w15 ⟨ao, co, rfl, hs, hb⟩
    replace H1 := Lib.hid (SlFl.keep H1.out hb)
    replace KM := Lib.hid (SlFl.keep KM.out hb)
    replace KP := Lib.hid (SlFl.keep KP.out hb)
    replace KQ := Lib.hid (SlFl.keep KQ.out hb)
    replace HD := Lib.hid (BoxAt.keep HD.out hb)
    replace HX1 := Lib.hid (BoxAt.keep HX1.out hb)
    replace HY1 := Lib.hid (BoxAt.keep HY1.out hb)
    replace HZ1 := Lib.hid (BoxAt.keep HZ1.out hb)
    have KO := Lib.hid hs
    clear hs
    have HB15 := Lib.hid (below_step HB14.out hb)
    clear hb HB14
    go_wp2_with fail
    refine (more_post (HM1.out _ _ _ _ _ KM.out KO.out)).mono ?_
    rintro e w16 ⟨rfl, hb⟩
    replace H1 := Lib.hid (SlFl.keep H1.out hb)
    replace KM := Lib.hid (SlFl.keep KM.out hb)
    replace KP := Lib.hid (SlFl.keep KP.out hb)
    replace KQ := Lib.hid (SlFl.keep KQ.out hb)
    replace KO := Lib.hid (SlFl.keep KO.out hb)
    replace HD := Lib.hid (BoxAt.keep HD.out hb)
    replace HX1 := Lib.hid (BoxAt.keep HX1.out hb)
    replace HY1 := Lib.hid (BoxAt.keep HY1.out hb)
    replace HZ1 := Lib.hid (BoxAt.keep HZ1.out hb)
    have HB16 := Lib.hid (below_step HB15.out hb)
    clear hb HB15
    go_wp2_with fail
    refine (more_post (HM2.out _ _ _ _ _ KP.out KQ.out)).mono ?_
    rintro e w17 ⟨rfl, hb⟩
    replace H1 := Lib.hid (SlFl.keep H1.out hb)
    replace KP := Lib.hid (SlFl.keep KP.out hb)
    replace KQ := Lib.hid (SlFl.keep KQ.out hb)
    replace HD := Lib.hid (BoxAt.keep HD.out hb)
    replace HX1 := Lib.hid (BoxAt.keep HX1.out hb)
    replace HY1 := Lib.hid (BoxAt.keep HY1.out hb)
    replace HZ1 := Lib.hid (BoxAt.keep HZ1.out hb)
    have HB17 := Lib.hid (below_step HB16.out hb)
    clear hb HB16
    go_wp2_with fail
    refine (more_post (HAL.out _ (HF.out.below HB17.out))).mono ?_
    rintro e w18 ⟨rfl, hb⟩
    replace H1 := Lib.hid (SlFl.keep H1.out hb)
    replace KP := Lib.hid (SlFl.keep KP.out hb)
    replace KQ := Lib.hid (SlFl.keep KQ.out hb)
    replace HD := Lib.hid (BoxAt.keep HD.out hb)
    replace HX1 := Lib.hid (BoxAt.keep HX1.out hb)
    replace HY1 := Lib.hid (BoxAt.keep HY1.out hb)
    replace HZ1 := Lib.hid (BoxAt.keep HZ1.out hb)
    have HB18 := Lib.hid (below_step HB17.out hb)
    clear hb HB17
    go_wp2_with fail
    go_ret
    exact ⟨rfl, HB18.out.junk⟩
end Go.Proofs.YtamklaehaadiaaaGreatDoor
