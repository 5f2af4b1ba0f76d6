/-
  Lines of words: the law WordsLine.
-/
import Derived.Test.YtjdgkkmhlbjdnaaDoorLine6
namespace Go.Proofs.YtjdgkkmhlbjdnaaDoor
set_option linter.unusedSimpArgs false
set_option linter.unusedVariables false
open Go.ChangeShapes Go.WideShapes Go.ChangeAt Go.RowKit Go.Deep Go.Shelf

set_option maxHeartbeats 8000000 in
set_option maxRecDepth 100000 in
theorem wordsLine_law (a : Option Addr) (cap : Nat) (l : List (List UInt8)) (m : Int) (w : World) (hcap : l.length ≤ cap) (hml : l.length ≤ maxLen) (hs : SlX w w.heap.size a l) (hM : w.cell? MaxA = some (.int .i64 m)) :
    Calls Tryd.prog 4 #[.slice a l.length cap] w fun e w' => e = .returned (.bool true) ∧ ∃ j, w' = w.more j := by
  unfold maxLen at hml
  have HA0 := Lib.hid (law04_alive m w hM)
  have HMm := Lib.hid hM
  clear hM
  by_cases h1 : 40 < (l.length : Int)
  · go_enter Tryd.func4, Tryd.ntmps4
    go_wp2_with (go_at_call 22; (with_reducible refine (HA0.out).mono ?_); rintro e w' ⟨rfl, j, rfl⟩)
    go_ret
    exact ⟨rfl, Below.junk (by repeat (first | (with_reducible exact Below.refl _ _) | (with_reducible refine Below.allocS ?_ _) | (with_reducible refine Below.moreS ?_ _) | (with_reducible refine Below.drew ?_) | (with_reducible refine below_drewN ?_ _)))⟩
  have HC := Lib.hid hcap
  clear hcap
  go_enter Tryd.func4, Tryd.ntmps4
  go_wp2_with fail
  go_loop [3] (fun i => ∃ k : Nat, k ≤ l.length ∧ i = .int .i64 k ∧ Hid (∀ x ∈ l.take k, x.length ≤ 100)) (fun i => l.length - (intOf i).toNat)
  case atStart => exact ⟨0, by omega, rfl, by show ∀ _, _; simp⟩
  case round =>
    obtain ⟨k, hk, rfl, HX⟩ := hrel
    by_cases hlt : k < l.length
    · obtain ⟨b, off, rfl, hb, c0, hl0⟩ := hs.atX hlt
      by_cases hx : 100 < (l[k].length : Int)
      · go_wp2_with (go_at_call 22; (with_reducible refine (HA0.out).mono ?_); rintro e w' ⟨rfl, j, rfl⟩)
        go_ret
        exact ⟨rfl, Below.junk (by repeat (first | (with_reducible exact Below.refl _ _) | (with_reducible refine Below.allocS ?_ _) | (with_reducible refine Below.moreS ?_ _) | (with_reducible refine Below.drew ?_) | (with_reducible refine below_drewN ?_ _)))⟩
      · have HX2 : Hid (∀ x ∈ l.take (k + 1), x.length ≤ 100) := fun x hxm => by
          rw [List.take_succ_eq_append_getElem hlt, List.mem_append] at hxm
          rcases hxm with h | h
          · exact HX.out x h
          · simp at h; subst h; omega
        go_wp2_with fail
        go_round
        case rel => exact ⟨k + 1, hlt, by go_num, HX2⟩
        case measure => simp [intOf]; omega
    · have hw : ∀ x ∈ l, x.length ≤ 1000 := fun x hxm => by
        have := HX.out
        rw [List.take_of_length_le (by omega)] at this
        have := this x hxm
        omega
      have H1 := Lib.hid (words_Line a cap l w w (by omega) hw HC.out (Below.refl _ _) hs)
      have H2 : Hid (∀ j, Calls Tryd.prog 24 #[.slice a l.length cap] (w.more j) fun e w' => e = .returned (.tuple #[bstr (lineF l).1, .bool (lineF l).2]) ∧ w.more j = w') := fun j => ref04_Line a cap l w (w.more j) (by omega) hw (Below.moreS (Below.refl _ _) j) hs
      have hj := join_le l hw
      cases hall : l.all okW
      · have HR : lineF l = ([], false) := by unfold lineF; rw [if_neg (by rw [hall]; simp)]
        rw [HR] at H1 H2
        have H3 : Hid (∀ j, Calls Tryd.prog 25 #[bstr []] (w.more j) fun e w' => ∃ a cap, e = .returned (.tuple #[.slice a 0 cap, .bool true]) ∧ SlX w' w'.heap.size a [] ∧ Below (w.more j).heap.size (w.more j) w') := fun j => words_Split [] m (w.more j) (by simp) (by simp [cutF]) (by simp [cutF]) (max_more HMm.out j)
        clear HR hall hj hw HX HC
        go_wp2_with fail
        refine H1.out.mono ?_
        rintro e w1 ⟨rfl, j1, rfl⟩
        go_wp2_with fail
        refine (H2.out _).mono ?_
        rintro e w1 ⟨rfl, rfl⟩
        go_wp2_with fail
        refine (H3.out _).mono ?_
        rintro e w2 ⟨a2, c2, rfl, hs2, hb2⟩
        have hbw : Below w.heap.size w w2 := (Below.moreS (Below.refl w.heap.size w) j1).trans (hb2.mono (by simp))
        have HA : Hid (Calls Tryd.prog 22 #[] w2 fun e w' => e = .returned (.bool true) ∧ ∃ k, w' = w2.more k) := law04_alive m _ (max_below HMm.out hbw)
        have HW := Lib.hid hbw
        clear hbw hb2 hs2
        go_wp2_with (go_at_call 22; (with_reducible refine (HA.out).mono ?_); rintro e w' ⟨rfl, j, rfl⟩)
        go_ret
        exact ⟨rfl, (HW.out.trans ((Below.moreS (Below.refl w2.heap.size w2) _).mono HW.out.size)).junk⟩
      · have HR : lineF l = (Lib.join l [32], true) := by unfold lineF; rw [if_pos hall]
        have hsl := split_line l hall
        have hcl : (cutF 32 (Lib.join l [32])).length ≤ 1000 ∧ ∀ x ∈ cutF 32 (Lib.join l [32]), x.length ≤ 1000 := by
          by_cases h0 : l = []
          · subst h0; simp [Lib.join_nil, cutF]
          · rw [cut_join 32 l h0 (fun w hw => (okW_free (List.all_eq_true.1 hall w hw)).1)]
            exact ⟨by omega, hw⟩
        have H3 : Hid (∀ j, Calls Tryd.prog 25 #[bstr (Lib.join l [32])] (w.more j) fun e w' => ∃ a cap, e = .returned (.tuple #[.slice a l.length cap, .bool true]) ∧ SlX w' w'.heap.size a l ∧ Below (w.more j).heap.size (w.more j) w') := fun j => by
          have := words_Split (Lib.join l [32]) m (w.more j) (by omega) hcl.1 hcl.2 (max_more HMm.out j)
          rw [hsl] at this
          exact this
        rw [HR] at H1 H2
        clear HR hsl hcl hj hw HX HC hall
        generalize Lib.join l [32] = jn at H1 H2 H3
        have e1 : (jn != jn) = false := by simp
        have e2 : (jn == jn) = true := by simp
        go_wp2_with fail
        refine H1.out.mono ?_
        rintro e w1 ⟨rfl, j1, rfl⟩
        go_wp2_with fail
        refine (H2.out _).mono ?_
        rintro e w1 ⟨rfl, rfl⟩
        go_wp2_with fail
        refine (H3.out _).mono ?_
        rintro e w2 ⟨a2, c2, rfl, hs2, hb2⟩
        have hbw : Below w.heap.size w w2 := (Below.moreS (Below.refl w.heap.size w) j1).trans (hb2.mono (by simp))
        have hM2 := max_below HMm.out hbw
        have HA : Hid (∀ j, Calls Tryd.prog 22 #[] (w2.more j) fun e w' => e = .returned (.bool true) ∧ ∃ k, w' = (w2.more j).more k) := fun j => law04_alive m _ (max_more hM2 j)
        have HS : Hid (Calls Tryd.prog 26 #[.slice a2 l.length c2, .slice a l.length cap] w2 fun e w' => e = .returned (.bool true) ∧ ∃ k, w' = w2.more k) := by
          have := ref04_Same a2 a c2 cap l l w2 w2 (by omega) (by omega) (Below.refl _ _) hs2 ((hs.below hbw (Nat.le_refl _)).mono hbw.size (fun _ _ _ h => h))
          rw [same_self] at this
          exact this
        have HW := Lib.hid hbw
        clear hbw hb2 hs2 hM2 H1 H2 H3
        go_wp2_with fail
        refine HS.out.mono ?_
        rintro e w3 ⟨rfl, j3, rfl⟩
        go_wp2_with (go_at_call 22; (with_reducible refine (HA.out _).mono ?_); rintro e w' ⟨rfl, j, rfl⟩)
        go_ret
        exact ⟨rfl, (HW.out.trans ((Below.moreS (Below.refl w2.heap.size w2) _).mono HW.out.size)).junk⟩
