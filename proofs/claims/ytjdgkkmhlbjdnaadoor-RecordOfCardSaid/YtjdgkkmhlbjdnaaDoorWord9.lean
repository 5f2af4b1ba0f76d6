/-
  Words: the chapter's examples; the law WordsQuote.
-/
import Derived.Test.YtjdgkkmhlbjdnaaDoorWord8
namespace Go.Proofs.YtjdgkkmhlbjdnaaDoor
set_option linter.unusedSimpArgs false
set_option linter.unusedVariables false
set_option linter.unusedSectionVars false
open Go.ChangeShapes Go.WideShapes Go.ChangeAt Go.RowKit Go.Deep Go.Shelf

abbrev MaxA : Addr := ⟨2, 0, none⟩
theorem slX_pre {w : World} {g : Nat} {t : TypeId} {cs : Array Value} {l r : List (List UInt8)} (h : Blk w g t cs) (hl : cs.toList = (l ++ r).map bstr) (hR : ∀ x ∈ l ++ r, x.length ≤ maxLen) : SlX w w.heap.size (some ⟨g, 0, none⟩) l := by
  have h1 := (slX_new h hl hR).take l.length
  rw [List.take_left] at h1
  exact h1.mono h.lt (fun _ _ _ h => h)
theorem max_more {w : World} {m : Int} (hM : w.cell? MaxA = some (.int .i64 m)) (j : Junk) : (w.more j).cell? MaxA = some (.int .i64 m) :=
  (World.cell?_more _ _ _ (World.block_lt_of_cell? w MaxA hM)).trans hM
set_option maxHeartbeats 4000000 in
set_option maxRecDepth 100000 in
theorem law04_alive (m : Int) (w : World) (hM : w.cell? MaxA = some (.int .i64 m)) : Calls Tryd.prog 22 #[] w fun e w' => e = .returned (.bool true) ∧ ∃ j, w' = w.more j := by
  have H1 := Lib.hid (words_Split_bad [97, 32, 32, 98] m w (by decide) (by decide) hM (by decide +kernel))
  have H2 : Hid (∀ j, Calls Tryd.prog 28 #[bstr [97, 10, 10]] (w.more j) fun e w' => e = .returned (.tuple #[.slice (some ⟨w.heap.size + j.heap.size, 0, none⟩) 2 3, .bool true]) ∧ w' = (w.more j).alloc (.cells #[bstr [97], bstr [], bstr []] 9)) := fun j => by
    have := words_Lines_good [97, 10, 10] [[97], []] m (w.more j) (by decide) (by decide) (max_more hM j) (by decide +kernel)
    rw [World.size_more] at this
    exact this
  have H3 : Hid (∀ W, Calls Tryd.prog 30 #[bstr [97, 32, 98, 37]] W fun e w' => e = .returned (bstr [97, 37, 50, 48, 98, 37, 50, 53]) ∧ ∃ j, w' = W.more j) := words_Quote [97, 32, 98, 37] (by decide)
  clear hM
  go_enter Tryd.func22, Tryd.ntmps22
  go_wp2_with fail
  refine H1.out.mono ?_
  rintro e w1 ⟨rfl, j1, rfl⟩
  go_wp2_with fail
  refine (H2.out j1).mono ?_
  rintro e w1 ⟨rfl, rfl⟩
  go_wp2_with (go_at_call 30; (with_reducible refine (H3.out _).mono ?_); rintro e w' ⟨rfl, j, rfl⟩)
  refine Calls.mono (ref04_Same (some ⟨w.heap.size + j1.heap.size, 0, none⟩) (some ⟨w.heap.size + j1.heap.size + 1 + j.heap.size, 0, none⟩) 3 2 [[97], []] [[97], []] _ _ ?ha ?hb (Below.refl _ _) ?hx ?hy) ?_
  case ha => decide
  case hb => decide
  case hx => exact slX_pre (t := 9) (cs := #[bstr [97], bstr [], bstr []]) (r := [[]]) (by repeat (first | ((with_reducible apply Blk.at_); (simp; done)) | (with_reducible apply Blk.alloc) | (with_reducible apply Blk.more) | (with_reducible apply Blk.drew))) rfl (by decide)
  case hy => exact slX_pre (t := 9) (cs := #[bstr [97], bstr []]) (r := []) (by repeat (first | ((with_reducible apply Blk.at_); (simp; done)) | (with_reducible apply Blk.alloc) | (with_reducible apply Blk.more) | (with_reducible apply Blk.drew))) rfl (by decide)
  rintro e w1 ⟨rfl, j2, rfl⟩
  have hs : sameX [[97], []] [[97], []] = true := by decide
  rw [hs]
  go_wp2_with fail
  go_ret
  exact ⟨rfl, Below.junk (by repeat (first | (with_reducible exact Below.refl _ _) | (with_reducible refine Below.allocS ?_ _) | (with_reducible refine Below.moreS ?_ _) | (with_reducible refine Below.drew ?_) | (with_reducible refine below_drewN ?_ _)))⟩

set_option maxHeartbeats 8000000 in
set_option maxRecDepth 100000 in
theorem wordsQuote_law (s u : List UInt8) (m : Int) (w : World) (hms : s.length ≤ maxLen) (hmu : u.length ≤ maxLen) (hM : w.cell? MaxA = some (.int .i64 m)) :
    Calls Tryd.prog 6 #[bstr s, bstr u] w fun e w' => e = .returned (.bool true) ∧ ∃ j, w' = w.more j := by
  unfold maxLen at hms hmu
  have HA : Hid (∀ j, Calls Tryd.prog 22 #[] (w.more j) fun e w' => e = .returned (.bool true) ∧ ∃ k, w' = (w.more j).more k) := fun j => law04_alive m _ (max_more hM j)
  have HA0 := Lib.hid (law04_alive m w hM)
  clear hM
  by_cases hbad : 300 < (s.length : Int) ∨ 300 < (u.length : Int)
  · by_cases h1 : 300 < (s.length : Int) <;> by_cases h2 : 300 < (u.length : Int)
    all_goals try (exfalso; omega)
    all_goals
      clear hbad
      go_enter Tryd.func6, Tryd.ntmps6
      go_wp2_with (go_at_call 22; (with_reducible refine (HA0.out).mono ?_); rintro e w' ⟨rfl, j, rfl⟩)
      go_ret
      exact ⟨rfl, Below.junk (by repeat (first | (with_reducible exact Below.refl _ _) | (with_reducible refine Below.allocS ?_ _) | (with_reducible refine Below.moreS ?_ _) | (with_reducible refine Below.drew ?_) | (with_reducible refine below_drewN ?_ _)))⟩
  have h1 : (s.length : Int) ≤ 300 := by omega
  have h2 : (u.length : Int) ≤ 300 := by omega
  clear hbad
  have hq : (quoteF s).length ≤ 1048576 := by
    unfold quoteF
    split
    · simp
    · have := qu_len s s.length
      rw [List.take_of_length_le (Nat.le_refl _)] at this
      omega
  have HQ : Hid (∀ W, Calls Tryd.prog 30 #[bstr s] W fun e w' => e = .returned (bstr (quoteF s)) ∧ ∃ j, w' = W.more j) := words_Quote s (by omega)
  have HU : Hid (∀ W, Calls Tryd.prog 31 #[bstr (quoteF s)] W fun e w' => e = .returned (.tuple #[bstr s, .bool true]) ∧ ∃ j, w' = W.more j) := fun W => by
    have := words_Unquote (quoteF s) hq W
    rw [unquote_quote] at this
    exact this
  have HV : Hid (∀ W, Calls Tryd.prog 31 #[bstr u] W fun e w' => e = .returned (.tuple #[bstr (unquoteR u).1, .bool (unquoteR u).2]) ∧ ∃ j, w' = W.more j) := fun W => by
    have := words_Unquote u (by omega) W
    rw [unquote_eq] at this
    exact this
  have HR : Hid (∀ W, Calls Tryd.prog 32 #[bstr u] W fun e w' => e = .returned (.tuple #[bstr (unquoteR u).1, .bool (unquoteR u).2]) ∧ ∃ j, w' = W.more j) := ref04_Unquote u (by omega)
  have HG : Hid (∀ W, Calls Tryd.prog 33 #[bstr s] W fun e w' => e = .returned (bstr (quoteF s)) ∧ ∃ j, w' = W.more j) := ref04_Quote s (by omega)
  generalize quoteF s = q at HQ HU HG
  generalize unquoteR u = r at HV HR
  obtain ⟨r1, r2⟩ := r
  have e1 : (q == q) = true := by simp
  have e2 : (s == s) = true := by simp
  have e3 : (r1 == r1) = true := by simp
  have e4 : (r2 == r2) = true := by simp
  clear hq
  go_enter Tryd.func6, Tryd.ntmps6
  go_wp2_with (first
    | (go_at_call 30; (with_reducible refine (HQ.out _).mono ?_); rintro e w' ⟨rfl, j, rfl⟩)
    | (go_at_call 31; (with_reducible refine (HU.out _).mono ?_); rintro e w' ⟨rfl, j, rfl⟩)
    | (go_at_call 31; (with_reducible refine (HV.out _).mono ?_); rintro e w' ⟨rfl, j, rfl⟩)
    | (go_at_call 32; (with_reducible refine (HR.out _).mono ?_); rintro e w' ⟨rfl, j, rfl⟩)
    | (go_at_call 33; (with_reducible refine (HG.out _).mono ?_); rintro e w' ⟨rfl, j, rfl⟩)
    | (go_at_call 22; (with_reducible refine (HA.out _).mono ?_); rintro e w' ⟨rfl, j, rfl⟩))
  go_ret
  exact ⟨rfl, Below.junk (by repeat (first | (with_reducible exact Below.refl _ _) | (with_reducible refine Below.allocS ?_ _) | (with_reducible refine Below.moreS ?_ _) | (with_reducible refine Below.drew ?_) | (with_reducible refine below_drewN ?_ _)))⟩
