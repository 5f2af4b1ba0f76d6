/-
  A tally: the laws' small functions; the chapter's example.
-/
import Derived.Test.YtafccnkeiohlhaaTalPlain
namespace Go.Proofs.Ytafccnkeiohlhaa
set_option linter.unusedSimpArgs false
set_option linter.unusedVariables false
open Go.ChangeShapes Go.WideShapes Go.ChangeAt Go.RowKit Go.Deep Go.Shelf

set_option maxRecDepth 100000 in
theorem tally_Asks (w : World) : Calls Try.prog 58 #[] w fun e w' => e = .returned (taVal noTa) ∧ ∃ j, w' = w.more j := by
  go_enter Try.func58, Try.ntmps58
  go_wp2_with fail
  refine bodyPost_ret (res_cell rfl st_Tally rfl (by repeat (first | ((with_reducible apply Blk.at_); (simp; done)) | (with_reducible apply Blk.alloc) | (with_reducible apply Blk.more) | (with_reducible apply Blk.drew))) rfl) rfl ⟨rfl, Below.junk (by repeat (first | (with_reducible exact Below.refl _ _) | (with_reducible refine Below.allocS ?_ _) | (with_reducible refine Below.moreS ?_ _) | (with_reducible refine Below.drew ?_)))⟩
set_option maxRecDepth 100000 in
theorem tally_Answers (m : List UInt8) (w : World) : Calls Try.prog 59 #[bstr m] w fun e w' => e = .returned (taVal ⟨true, m, 0, 0, 0⟩) ∧ ∃ j, w' = w.more j := by
  go_enter Try.func59, Try.ntmps59
  go_wp2_with fail
  refine bodyPost_ret (res_cell rfl st_Tally rfl (by repeat (first | ((with_reducible apply Blk.at_); (simp; done)) | (with_reducible apply Blk.alloc) | (with_reducible apply Blk.more) | (with_reducible apply Blk.drew))) rfl) rfl ⟨rfl, Below.junk (by repeat (first | (with_reducible exact Below.refl _ _) | (with_reducible refine Below.allocS ?_ _) | (with_reducible refine Below.moreS ?_ _) | (with_reducible refine Below.drew ?_)))⟩
set_option maxRecDepth 100000 in
theorem law29_own (m : Ms) (w : World) : Calls Try.prog 64 #[msVal m] w fun e w' => e = .returned (msVal m) ∧ ∃ j, w' = w.more j := by
  go_enter Try.func64, Try.ntmps64
  go_wp2_with fail
  refine bodyPost_ret (res_cell rfl st_Message rfl (by repeat (first | ((with_reducible apply Blk.at_); (simp; done)) | (with_reducible apply Blk.alloc) | (with_reducible apply Blk.more) | (with_reducible apply Blk.drew))) rfl) rfl ⟨rfl, Below.junk (by repeat (first | (with_reducible exact Below.refl _ _) | (with_reducible refine Below.allocS ?_ _) | (with_reducible refine Below.moreS ?_ _) | (with_reducible refine Below.drew ?_)))⟩

abbrev al29 : List Fd := [⟨[58, 109, 101, 116, 104, 111, 100], [80, 79, 83, 84], false⟩, ⟨[58, 115, 99, 104, 101, 109, 101], [104, 116, 116, 112], false⟩, ⟨[58, 112, 97, 116, 104], [47], false⟩, ⟨[99, 111, 110, 116, 101, 110, 116, 45, 108, 101, 110, 103, 116, 104], [53], false⟩]
theorem alive29_chk : chkF 0 al29 = (⟨[80, 79, 83, 84], 0, 5, true⟩, 0) := by kernel_rfl
theorem alive29_a : headF noTa al29 false = ⟨⟨false, [], 1, 2, 5⟩, ⟨[80, 79, 83, 84], 0, 5, true⟩, 0⟩ := by
  show fstOf noTa (chkF 0 al29) false = _
  rw [alive29_chk]
  rfl
set_option maxHeartbeats 4000000 in
set_option maxRecDepth 100000 in
theorem law29_alive (w : World) : Calls Try.prog 57 #[] w fun e w' => e = .returned (.bool true) ∧ ∃ j, w' = w.more j := by
  have H0 : Hid (∀ W, Calls Try.prog 58 #[] W fun e w' => e = .returned (taVal ⟨false, [], 0, 0, 0⟩) ∧ ∃ j, w' = W.more j) := tally_Asks
  have H1 : Hid (∀ (a : Bool) (m : List UInt8) (p y l : Int) (W : World), Calls Try.prog 65 #[.agg #[.bool a, bstr m, .int .i64 p, .int .i64 y, .int .i64 l]] W fun e w' => e = .returned (.bool (p == 2)) ∧ ∃ j, w' = W.more j) := fun a m p y l W => outs (tally_Over ⟨a, m, p, y, l⟩ W)
  have s1 : SlF (w.alloc (.cells #[bstr [58, 109, 101, 116, 104, 111, 100], bstr [80, 79, 83, 84], .bool false, bstr [58, 115, 99, 104, 101, 109, 101], bstr [104, 116, 116, 112], .bool false, bstr [58, 112, 97, 116, 104], bstr [47], .bool false, bstr [99, 111, 110, 116, 101, 110, 116, 45, 108, 101, 110, 103, 116, 104], bstr [53], .bool false] 33)) (w.heap.size + 1) (some ⟨w.heap.size, 0, none⟩) al29 := slF_new (Blk.at_ _ _ _ (by simp)) rfl (by decide)
  have H2 : Hid (∀ W, Below (w.alloc (.cells #[bstr [58, 109, 101, 116, 104, 111, 100], bstr [80, 79, 83, 84], .bool false, bstr [58, 115, 99, 104, 101, 109, 101], bstr [104, 116, 116, 112], .bool false, bstr [58, 112, 97, 116, 104], bstr [47], .bool false, bstr [99, 111, 110, 116, 101, 110, 116, 45, 108, 101, 110, 103, 116, 104], bstr [53], .bool false] 33)).heap.size (w.alloc (.cells #[bstr [58, 109, 101, 116, 104, 111, 100], bstr [80, 79, 83, 84], .bool false, bstr [58, 115, 99, 104, 101, 109, 101], bstr [104, 116, 116, 112], .bool false, bstr [58, 112, 97, 116, 104], bstr [47], .bool false, bstr [99, 111, 110, 116, 101, 110, 116, 45, 108, 101, 110, 103, 116, 104], bstr [53], .bool false] 33)) W → Calls Try.prog 62 #[taVal ⟨false, [], 0, 0, 0⟩, .slice (some ⟨w.heap.size, 0, none⟩) 4 4, .bool false] W fun e' w' => e' = .returned (trVal ⟨⟨false, [], 1, 2, 5⟩, ⟨[80, 79, 83, 84], 0, 5, true⟩, 0⟩) ∧ ∃ j, w' = W.more j) := fun W h => alive29_a ▸ tally_Head noTa _ 4 al29 false W _ (by decide) h (by rw [World.size_alloc]; exact s1) (by decide)
  have H3a : Hid (∀ W, Calls Try.prog 60 #[taVal ⟨false, [], 1, 2, 5⟩, .int .i64 3, .bool false] W fun e' w' => e' = .returned (.tuple #[taVal ⟨false, [], 1, 2, 2⟩, .int .i64 0]) ∧ ∃ j, w' = W.more j) := fun W => outs (tally_Data ⟨false, [], 1, 2, 5⟩ 3 false W (by decide))
  have H3b : Hid (∀ W, Calls Try.prog 60 #[taVal ⟨false, [], 1, 2, 2⟩, .int .i64 2, .bool true] W fun e' w' => e' = .returned (.tuple #[taVal ⟨false, [], 2, 2, 0⟩, .int .i64 0]) ∧ ∃ j, w' = W.more j) := fun W => outs (tally_Data ⟨false, [], 1, 2, 2⟩ 2 true W (by decide))
  have H3c : Hid (∀ W, Calls Try.prog 60 #[taVal ⟨false, [], 1, 2, 5⟩, .int .i64 3, .bool true] W fun e' w' => e' = .returned (.tuple #[taVal noTa, .int .i64 31]) ∧ ∃ j, w' = W.more j) := fun W => outs (tally_Data ⟨false, [], 1, 2, 5⟩ 3 true W (by decide))
  clear s1
  go_enter Try.func57, Try.ntmps57
  go_wp2_with (first
    | (go_at_call 58; (with_reducible refine (H0.out _).mono ?_); rintro e w' ⟨rfl, j, rfl⟩)
    | (go_at_call 62; refine (H2.out _ (by repeat (first | exact Below.refl _ _ | (with_reducible refine Below.allocS ?_ _) | (with_reducible refine Below.moreS ?_ _)))).mono ?_; rintro e w' ⟨rfl, j, rfl⟩)
    | (go_at_call 60; (with_reducible refine (H3a.out _).mono ?_); rintro e w' ⟨rfl, j, rfl⟩)
    | (go_at_call 60; (with_reducible refine (H3b.out _).mono ?_); rintro e w' ⟨rfl, j, rfl⟩)
    | (go_at_call 60; (with_reducible refine (H3c.out _).mono ?_); rintro e w' ⟨rfl, j, rfl⟩)
    | (go_at_call 65; (with_reducible refine (H1.out _ _ _ _ _ _).mono ?_); rintro e w' ⟨rfl, j, rfl⟩))
  go_ret
  exact ⟨rfl, Below.junk (by repeat (first | (with_reducible exact Below.refl _ _) | (with_reducible refine Below.allocS ?_ _) | (with_reducible refine Below.moreS ?_ _) | (with_reducible refine Below.drew ?_)))⟩
