/-
  Faults: their texts, and sets' texts: the program's.
-/
import Derived.Test.YthbflllflnnipaaGreatDoorFlt11
import Derived.Test.YthbflllflnnipaaGreatDoorFlt10
import Derived.Test.YthbflllflnnipaaGreatDoorFlt4
namespace Go.Proofs.YthbflllflnnipaaGreatDoor
set_option linter.unusedSimpArgs false
set_option linter.unusedVariables false
set_option linter.unusedSectionVars false
open Go.ChangeShapes Go.WideShapes Go.ChangeAt Go.RowKit Go.Deep Go.Shelf

set_option maxRecDepth 100000 in
theorem faults_scope (n : Int) (w : World) : Calls Tryz.prog 106 #[.int .i64 n] w fun e w' => e = .returned (bstr (scopeW n)) ∧ w = w' := by
  cases h : (n == 1)
  · have hn : ¬ n = 1 := by simpa using h
    have HR : Hid (scopeW n = [99, 111, 110, 110, 101, 99, 116, 105, 111, 110]) := by show _ = _; unfold scopeW; rw [if_neg hn]
    clear hn
    go_enter Tryz.func106, Tryz.ntmps106
    go_wp2_with fail
    go_ret
    exact ⟨by rw [HR.out]; rfl, rfl⟩
  · obtain rfl : n = 1 := by simpa using h
    clear h
    go_enter Tryz.func106, Tryz.ntmps106
    go_wp2_with fail
    go_ret
    exact ⟨rfl, rfl⟩
/-- What a fault's text asks of its code's name. -/
abbrev NameAt (c : Int) (w : World) : Prop := Calls Tryz.prog 107 #[.int .i64 c] w fun e w' => e = .returned (bstr (codeN c)) ∧ ∃ j, w' = w.more j
set_option maxHeartbeats 2000000 in
set_option maxRecDepth 100000 in
theorem faults_Text (s c : Int) (w : World) (hC : flR ⟨s, c⟩ = true → ∀ W, Below w.heap.size w W → NameAt c W) : Calls Tryz.prog 66 #[.agg #[.int .i64 s, .int .i64 c]] w fun e w' => e = .returned (bstr (textW ⟨s, c⟩)) ∧ ∃ j, w' = w.more j := by
  have HQ : Hid (∀ W, Calls Tryz.prog 102 #[.agg #[.int .i64 s, .int .i64 c]] W fun e w' => e = .returned (.bool (flR ⟨s, c⟩)) ∧ ∃ j, w' = W.more j) := faults_Right s c
  have HC := Lib.hid hC
  have HW : Hid (textW ⟨s, c⟩ = if flR ⟨s, c⟩ = true then scopeW s ++ 58 :: codeN c else []) := rfl
  clear hC
  have hl1 : (scopeW s).length ≤ 10 := by unfold scopeW; split <;> simp
  have hl2 := codeN_len c
  generalize textW ⟨s, c⟩ = T at HW ⊢
  generalize flR ⟨s, c⟩ = r at HQ HC HW
  cases r
  · have HR : Hid (T = []) := by show _ = _; rw [HW.out, if_neg (by simp)]
    clear HW HC
    go_enter Tryz.func66, Tryz.ntmps66
    go_wp2_with fail
    refine (HQ.out _).mono ?_
    rintro e w' ⟨rfl, j, rfl⟩
    go_wp2_with fail
    go_ret
    exact ⟨by rw [HR.out]; rfl, Below.junk (by repeat (first | (with_reducible exact Below.refl _ _) | (with_reducible refine Below.allocS ?_ _) | (with_reducible refine Below.moreS ?_ _) | (with_reducible refine Below.drew ?_) | (with_reducible refine below_drewN ?_ _)))⟩
  · have HR : Hid (T = scopeW s ++ 58 :: codeN c) := by show _ = _; rw [HW.out, if_pos rfl]
    have HS : Hid (∀ W, Calls Tryz.prog 106 #[.int .i64 s] W fun e w' => e = .returned (bstr (scopeW s)) ∧ W = w') := faults_scope s
    have HC2 : Hid (∀ W, Below w.heap.size w W → Calls Tryz.prog 107 #[.int .i64 c] W fun e w' => e = .returned (bstr (codeN c)) ∧ ∃ j', w' = W.more j') := HC.out rfl
    clear HW HC
    generalize scopeW s = P at HR HS hl1
    generalize codeN c = Q at HR HC2 hl2
    go_enter Tryz.func66, Tryz.ntmps66
    go_wp2_with fail
    refine (HQ.out _).mono ?_
    rintro e w' ⟨rfl, j, rfl⟩
    obtain ⟨wk, hwk⟩ : ∃ wk, wk = (w.alloc (.cells #[.int .i64 s, .int .i64 c] 88)).more j := ⟨_, rfl⟩
    have hbk : Below w.heap.size w wk := by rw [hwk]; exact (by repeat (first | (with_reducible exact Below.refl _ _) | (with_reducible refine Below.allocS ?_ _) | (with_reducible refine Below.moreS ?_ _) | (with_reducible refine Below.drew ?_) | (with_reducible refine below_drewN ?_ _)))
    have d0 : wk.cell? ⟨w.heap.size, 0, none⟩ = some (.int .i64 s) := by rw [hwk]; go_simp
    have d1 : wk.cell? ⟨w.heap.size, 1, none⟩ = some (.int .i64 c) := by rw [hwk]; go_simp
    have hks : w.heap.size < wk.heap.size := by rw [hwk]; simp; omega
    have HBK := Lib.hid hbk
    rw [← hwk]
    clear hwk hbk
    go_wp2_with fail
    refine wp_region_more (by kernel_rfl) (by kernel_rfl) ?_
    repeat (go_big_quiet_step (first | (go_at_call 106; exact more_of_same (HS.out _)) | (go_at_call 107; exact more_of (HC2.out _ (HBK.out.moreS _)))))
    refine wpQuiet_nil ?_
    intro w' hw'
    obtain ⟨j, rfl⟩ := hw'
    go_wp2_with fail
    go_ret
    exact ⟨by rw [HR.out]; simp, (HBK.out.moreS _).junk⟩

set_option maxHeartbeats 8000000 in
set_option maxRecDepth 100000 in
theorem faults_Show (a : Option Addr) (l : List Fl) (cap : Nat) (hl : l.length ≤ 100000) (w : World) (hS : SlFl w w.heap.size a l) (hC : ∀ f ∈ ofF l, ∀ W, Below w.heap.size w W → NameAt f.code W) :
    Calls Tryz.prog 23 #[.slice a l.length cap] w fun e w' => e = .returned (bstr (showW l)) ∧ ∃ j, w' = w.more j := by
  have HO := Lib.hid (faults_Of a l cap (by omega) w hS)
  have hlen := ofF_len l
  have HC := Lib.hid hC
  have HW : Hid (showW l = if ofF l = [] then [45] else Lib.join ((ofF l).map textW) [44]) := rfl
  generalize ofF l = S at HO HC HW hlen
  generalize showW l = R at HW ⊢
  clear hS hC
  go_enter Tryz.func23, Tryz.ntmps23
  go_wp2_with fail
  refine HO.out.mono ?_
  rintro e w1 ⟨a1, cap1, rfl, hcap1, hs1, hb1⟩
  have HS1 := Lib.hid hs1
  have HB1 := Lib.hid hb1
  have HL := Lib.hid hlen
  clear hs1 hb1 hcap1
  by_cases h0 : S = []
  · have hr : R = [45] := by rw [HW.out, if_pos h0]
    subst h0 hr
    clear HW HC HS1 HL
    go_wp2_with fail
    go_ret
    exact ⟨rfl, HB1.out.junk⟩
  have hne : ¬ S.length = 0 := by simpa using h0
  have hnb : ((S.length : Int) == 0) = false := by rw [beq_eq_false_iff_ne]; omega
  have HR : Hid (R = Lib.join (S.map textW) [44]) := by show _ = _; rw [HW.out, if_neg h0]
  clear HW h0
  go_wp2_with fail
  go_loopg [4, 14] S.length (fun g v i wr => ∃ k : Nat, k + g = S.length ∧ i = .int .i64 k ∧ OwnX w1.heap.size wr v ((S.take k).map textW) ∧ Below w1.heap.size w1 wr)
  case atStart => exact ⟨0, by omega, rfl, OwnX.nil _ _, Below.refl _ _⟩
  case round =>
    obtain ⟨k, hkg, rfl, HX, hb⟩ := hrel
    have HX := Lib.hid HX
    have HB := Lib.hid hb
    have HK := Lib.hid hkg
    by_cases hlt : k < S.length
    · obtain ⟨b, off, ha, hbb, c00, c01⟩ := SlR.atFl HS1.out hlt
      subst ha
      have c0 : wr.cell? ⟨b, off + k * 2, none⟩ = some (.int .i64 S[k].scope) := (hb.cell (p := ⟨b, off + k * 2, none⟩) hbb).trans c00
      have c1 : wr.cell? ⟨b, off + k * 2 + 1, none⟩ = some (.int .i64 S[k].code) := (hb.cell (p := ⟨b, off + k * 2 + 1, none⟩) hbb).trans c01
      have hbx : b < wr.heap.size := Nat.lt_of_lt_of_le hbb hb.size
      have HT : Hid (∀ W, Below wr.heap.size wr W → Calls Tryz.prog 66 #[.agg #[.int .i64 S[k].scope, .int .i64 S[k].code]] W fun e w' => e = .returned (bstr (textW S[k])) ∧ ∃ j', w' = W.more j') :=
        fun W hw => faults_Text _ _ _ fun _ W' hW => HC.out _ (List.getElem_mem hlt) _ (HB1.out.trans ((HB.out.mono HB1.out.size).trans ((hw.mono (Nat.le_trans HB1.out.size HB.out.size)).trans (hW.mono (by have := HB1.out.size; have := HB.out.size; have := hw.size; omega)))))
      have hU : (S.take (k + 1)).map textW = (S.take k).map textW ++ [textW S[k]] := by rw [List.take_add_one, List.getElem?_eq_getElem hlt, List.map_append]; rfl
      have hlk : ((S.take k).map textW).length ≤ k := by simp; omega
      have HU := Lib.hid hU
      generalize S[k] = x at c0 c1 HT HU
      obtain ⟨xs, xc⟩ := x
      generalize textW ⟨xs, xc⟩ = t at HT HU
      generalize (S.take k).map textW = out at HX HU hlk
      have HLK := Lib.hid hlk
      clear c00 c01 hb hkg hU hlk
      go_wp2_with fail
      refine (HT.out _ (by repeat (first | (with_reducible exact Below.refl _ _) | (with_reducible refine Below.allocS ?_ _) | (with_reducible refine Below.moreS ?_ _) | (with_reducible refine Below.drew ?_) | (with_reducible refine below_drewN ?_ _)))).mono ?_
      rintro e w2 ⟨rfl, j, rfl⟩
      go_wp2_with (at_builtin; refine app_text (.tmp 18) (.tmp 21) rfl rfl rfl (HX.out.below (C := wr.heap.size) (by repeat (first | (with_reducible exact Below.refl _ _) | (with_reducible refine Below.allocS ?_ _) | (with_reducible refine Below.moreS ?_ _) | (with_reducible refine Below.drew ?_) | (with_reducible refine below_drewN ?_ _))) (Nat.le_refl _)) rfl (Blk.at_ _ _ _ (by simp)) (by have := HLK.out; have := HL.out; omega) (by have := HB.out.size; simp only [World.size_alloc, World.size_more]; omega) ?_; intro v' w2 hown hbw)
      have hb2 := HB.out.trans ((Below.mono (B := wr.heap.size) (by repeat (first | (with_reducible exact Below.refl _ _) | (with_reducible refine Below.allocS ?_ _) | (with_reducible refine Below.moreS ?_ _) | (with_reducible refine Below.drew ?_) | (with_reducible refine below_drewN ?_ _))) HB.out.size).trans hbw)
      have HB2 := Lib.hid hb2
      have HX2 := Lib.hid hown
      clear hbw hb2 hown
      go_wp2_with fail
      go_roundg (S.length - (k + 1))
      case measure => have := HK.out; omega
      case rel => exact ⟨k + 1, by have := HK.out; omega, by go_num, by rw [HU.out]; exact HX2.out, HB2.out⟩
    · have hk : S.take k = S := List.take_of_length_le (by omega)
      have hlen2 : ∀ x ∈ S.map textW, x.length ≤ 1000 := by simp only [List.mem_map]; rintro x ⟨f, _, rfl⟩; exact Nat.le_trans (textW_len f) (by omega)
      have hX := HX.out
      rw [hk] at hX
      obtain ⟨a3, cap3, rfl, hsl⟩ := hX.read (fun x hx => by have := hlen2 x hx; unfold maxLen; omega)
      obtain ⟨_, _, hv, hcap⟩ := hX.cap
      injection hv with e1 e2 e3
      subst e3
      have HJ := Lib.hid (strings_joinC 44 a3 cap3 (S.map textW) wr (by have := HL.out; simp; omega) hlen2 hcap hsl)
      rw [← HR.out] at HJ
      clear hX hsl hlen2 hcap HX hkg hb hk e1
      generalize S.map textW = out at HJ
      go_wp2_with fail
      refine HJ.out.mono ?_
      rintro e w2 ⟨rfl, hb3⟩
      have HB3 := Lib.hid ((HB1.out.trans (HB.out.mono HB1.out.size)).trans (hb3.mono (Nat.le_trans HB1.out.size HB.out.size)))
      clear hb3
      go_wp2_with fail
      go_ret
      exact ⟨rfl, HB3.out.junk⟩
end Go.Proofs.YthbflllflnnipaaGreatDoor
