/-
  The law TallyNone.
-/
import Derived.Test.YtafccnkeiohlhaaTal13
import Derived.Test.YtafccnkeiohlhaaApp
import Derived.Test.YtafccnkeiohlhaaLenOth
namespace Go.Proofs.Ytafccnkeiohlhaa
set_option linter.unusedSimpArgs false
set_option linter.unusedVariables false
open Go.ChangeShapes Go.WideShapes Go.ChangeAt Go.RowKit Go.Deep Go.Shelf

theorem dat_none_yes (m : List UInt8) {n : Int} (h : 0 < n) : datF ⟨true, m, 1, 1, 0⟩ n true = (noTa, 32) := by
  unfold datF datN
  rw [if_pos (.inr ⟨rfl, by omega⟩)]
theorem dat_none_no (m : List UInt8) {n : Int} (h : ¬ 0 < n) : datF ⟨true, m, 1, 1, 0⟩ n true = (⟨true, m, 2, 1, 0⟩, 0) := by
  unfold datF datN
  rw [if_neg (by simp; omega), if_neg (by simp)]
  rfl
theorem seven_bounds (s : List UInt8) (h : s.length ≤ 5) : ∀ f ∈ ([⟨vStatus, s, false⟩, ⟨contentLength, [55], false⟩] : List Fd), f.name.length ≤ maxLen ∧ f.value.length ≤ maxLen := by
  intro f hf
  simp only [List.mem_cons, List.not_mem_nil, or_false] at hf
  unfold maxLen
  rcases hf with rfl | rfl
  · exact ⟨(by show vStatus.length ≤ _; decide), (by show s.length ≤ _; omega)⟩
  · exact ⟨(by show contentLength.length ≤ _; decide), (by show [55].length ≤ _; decide)⟩
theorem seven_vals (s : List UInt8) (h : s.length ≤ 5) : ∀ f ∈ ([⟨vStatus, s, false⟩, ⟨contentLength, [55], false⟩] : List Fd), f.value.length ≤ 1048576 := by
  intro f hf
  simp only [List.mem_cons, List.not_mem_nil, or_false] at hf
  rcases hf with rfl | rfl
  · show s.length ≤ _; omega
  · show [55].length ≤ _; decide
theorem one_vals (s : List UInt8) (h : s.length ≤ 5) : ∀ f ∈ ([⟨vStatus, s, false⟩] : List Fd), f.value.length ≤ 1048576 := by
  intro f hf
  simp only [List.mem_cons, List.not_mem_nil, or_false] at hf
  subst hf
  show s.length ≤ _; omega
theorem none_0_false_false : headF ⟨true, [72, 69, 65, 68], 0, 0, 0⟩ [⟨vStatus, [50, 48, 48], false⟩] false = ⟨⟨true, [72, 69, 65, 68], 1, 1, 0⟩, ⟨[], 200, 0, false⟩, 0⟩ := by kernel_rfl
theorem none_0_false_true : headF ⟨true, [72, 69, 65, 68], 0, 0, 0⟩ [⟨vStatus, [50, 48, 48], false⟩] true = ⟨⟨true, [72, 69, 65, 68], 2, 1, 0⟩, ⟨[], 200, 0, false⟩, 0⟩ := by kernel_rfl
theorem none_0_true_false : headF ⟨true, [72, 69, 65, 68], 0, 0, 0⟩ [⟨vStatus, [50, 48, 48], false⟩, ⟨contentLength, [55], false⟩] false = ⟨⟨true, [72, 69, 65, 68], 1, 1, 0⟩, ⟨[], 200, 7, true⟩, 0⟩ := by kernel_rfl
theorem none_0_true_true : headF ⟨true, [72, 69, 65, 68], 0, 0, 0⟩ [⟨vStatus, [50, 48, 48], false⟩, ⟨contentLength, [55], false⟩] true = ⟨⟨true, [72, 69, 65, 68], 2, 1, 0⟩, ⟨[], 200, 7, true⟩, 0⟩ := by kernel_rfl
theorem none_1_false_false : headF ⟨true, [71, 69, 84], 0, 0, 0⟩ [⟨vStatus, [50, 48, 52], false⟩] false = ⟨⟨true, [71, 69, 84], 1, 1, 0⟩, ⟨[], 204, 0, false⟩, 0⟩ := by kernel_rfl
theorem none_1_false_true : headF ⟨true, [71, 69, 84], 0, 0, 0⟩ [⟨vStatus, [50, 48, 52], false⟩] true = ⟨⟨true, [71, 69, 84], 2, 1, 0⟩, ⟨[], 204, 0, false⟩, 0⟩ := by kernel_rfl
theorem none_1_true_false : headF ⟨true, [71, 69, 84], 0, 0, 0⟩ [⟨vStatus, [50, 48, 52], false⟩, ⟨contentLength, [55], false⟩] false = ⟨⟨true, [71, 69, 84], 1, 1, 0⟩, ⟨[], 204, 7, true⟩, 0⟩ := by kernel_rfl
theorem none_1_true_true : headF ⟨true, [71, 69, 84], 0, 0, 0⟩ [⟨vStatus, [50, 48, 52], false⟩, ⟨contentLength, [55], false⟩] true = ⟨⟨true, [71, 69, 84], 2, 1, 0⟩, ⟨[], 204, 7, true⟩, 0⟩ := by kernel_rfl
theorem none_x_false_false : headF ⟨true, [71, 69, 84], 0, 0, 0⟩ [⟨vStatus, [51, 48, 52], false⟩] false = ⟨⟨true, [71, 69, 84], 1, 1, 0⟩, ⟨[], 304, 0, false⟩, 0⟩ := by kernel_rfl
theorem none_x_false_true : headF ⟨true, [71, 69, 84], 0, 0, 0⟩ [⟨vStatus, [51, 48, 52], false⟩] true = ⟨⟨true, [71, 69, 84], 2, 1, 0⟩, ⟨[], 304, 0, false⟩, 0⟩ := by kernel_rfl
theorem none_x_true_false : headF ⟨true, [71, 69, 84], 0, 0, 0⟩ [⟨vStatus, [51, 48, 52], false⟩, ⟨contentLength, [55], false⟩] false = ⟨⟨true, [71, 69, 84], 1, 1, 0⟩, ⟨[], 304, 7, true⟩, 0⟩ := by kernel_rfl
theorem none_x_true_true : headF ⟨true, [71, 69, 84], 0, 0, 0⟩ [⟨vStatus, [51, 48, 52], false⟩, ⟨contentLength, [55], false⟩] true = ⟨⟨true, [71, 69, 84], 2, 1, 0⟩, ⟨[], 304, 7, true⟩, 0⟩ := by kernel_rfl

set_option maxHeartbeats 4000000 in
set_option maxRecDepth 100000 in
theorem tallyNone_0_false (which n : Int) (w : World) (w0 : (which == 0) = true) :
    Calls Try.prog 18 #[.int .i64 which, .int .i64 n, .bool false] w fun e w' => e = .returned (.bool true) ∧ ∃ j, w' = w.more j := by
  have HA : Hid (∀ W, Calls Try.prog 57 #[] W fun e w' => e = .returned (.bool true) ∧ ∃ j, w' = W.more j) := law29_alive
  have HR : Hid (∀ m W, Calls Try.prog 59 #[bstr m] W fun e w' => e = .returned (taVal ⟨true, m, 0, 0, 0⟩) ∧ ∃ j, w' = W.more j) := tally_Answers
  have HO : Hid (∀ (a : Bool) (m : List UInt8) (p y l : Int) (W : World), Calls Try.prog 65 #[.agg #[.bool a, bstr m, .int .i64 p, .int .i64 y, .int .i64 l]] W fun e w' => e = .returned (.bool (p == 2)) ∧ ∃ j, w' = W.more j) := fun a m p y l W => outs (tally_Over ⟨a, m, p, y, l⟩ W)
  have HD : ∀ W, Calls Try.prog 60 #[taVal ⟨true, [72, 69, 65, 68], 1, 1, 0⟩, .int .i64 n, .bool true] W fun e' w' => e' = .returned (.tuple #[taVal (datF ⟨true, [72, 69, 65, 68], 1, 1, 0⟩ n true).1, .int .i64 (datF ⟨true, [72, 69, 65, 68], 1, 1, 0⟩ n true).2]) ∧ ∃ j, w' = W.more j := fun W => outs (tally_Data _ n true W (by simp))
  have HH : ∀ (X W : World) (a : Option Addr) (cap : Nat) (e : Bool), Below X.heap.size X W → SlF X X.heap.size a [⟨vStatus, [50, 48, 48], false⟩] → Calls Try.prog 62 #[taVal ⟨true, [72, 69, 65, 68], 0, 0, 0⟩, .slice a 1 cap, .bool e] W fun e' w' => e' = .returned (trVal (headF ⟨true, [72, 69, 65, 68], 0, 0, 0⟩ [⟨vStatus, [50, 48, 48], false⟩] e)) ∧ ∃ j, w' = W.more j := fun X W a cap e hb hs => tally_Head _ a cap [⟨vStatus, [50, 48, 48], false⟩] e W X (by decide) hb hs (one_vals [50, 48, 48] (by decide))
  have HF := Lib.hid (fun X W a cap hb hs => none_0_false_false ▸ HH X W a cap false hb hs)
  have HG := Lib.hid (fun X W a cap hb hs => none_0_false_true ▸ HH X W a cap true hb hs)
  clear HH
  by_cases hn : 0 < n
  all_goals
    first
      | rw [dat_none_yes _ hn] at HD
      | rw [dat_none_no _ hn] at HD
    have HD := Lib.hid HD
    have s1 : SlF (w.alloc (.cells #[bstr vStatus, bstr [50, 48, 48], .bool false] 33)) (w.heap.size + 1) (some ⟨w.heap.size, 0, none⟩) [⟨vStatus, [50, 48, 48], false⟩] := slF_new (Blk.at_ _ _ _ (by simp)) rfl (by decide)
    rw [← World.size_alloc (o := .cells #[bstr vStatus, bstr [50, 48, 48], .bool false] 33)] at s1
    have HS := Lib.hid s1
    clear s1
    go_enter Try.func18, Try.ntmps18
    go_wp2_with (first
      | (go_at_call 59; (with_reducible refine (HR.out _ _).mono ?_); rintro e w' ⟨rfl, j, rfl⟩)
      | (go_at_call 62; (with_reducible refine (HF.out _ _ _ _ (by repeat (first | (with_reducible exact Below.refl _ _) | (with_reducible refine Below.allocS ?_ _) | (with_reducible refine Below.moreS ?_ _) | (with_reducible refine Below.drew ?_))) HS.out).mono ?_); rintro e w' ⟨rfl, j, rfl⟩)
      | (go_at_call 62; (with_reducible refine (HG.out _ _ _ _ (by repeat (first | (with_reducible exact Below.refl _ _) | (with_reducible refine Below.allocS ?_ _) | (with_reducible refine Below.moreS ?_ _) | (with_reducible refine Below.drew ?_))) HS.out).mono ?_); rintro e w' ⟨rfl, j, rfl⟩)
      | (go_at_call 60; (with_reducible refine (HD.out _).mono ?_); rintro e w' ⟨rfl, j, rfl⟩)
      | (go_at_call 65; (with_reducible refine (HO.out _ _ _ _ _ _).mono ?_); rintro e w' ⟨rfl, j, rfl⟩)
      | (go_at_call 57; (with_reducible refine (HA.out _).mono ?_); rintro e w' ⟨rfl, j, rfl⟩))
    go_ret
    exact ⟨rfl, Below.junk (by repeat (first | (with_reducible exact Below.refl _ _) | (with_reducible refine Below.allocS ?_ _) | (with_reducible refine Below.moreS ?_ _) | (with_reducible refine Below.drew ?_)))⟩

set_option maxHeartbeats 4000000 in
set_option maxRecDepth 100000 in
theorem tallyNone_0_true (which n : Int) (w : World) (w0 : (which == 0) = true) :
    Calls Try.prog 18 #[.int .i64 which, .int .i64 n, .bool true] w fun e w' => e = .returned (.bool true) ∧ ∃ j, w' = w.more j := by
  have HA : Hid (∀ W, Calls Try.prog 57 #[] W fun e w' => e = .returned (.bool true) ∧ ∃ j, w' = W.more j) := law29_alive
  have HR : Hid (∀ m W, Calls Try.prog 59 #[bstr m] W fun e w' => e = .returned (taVal ⟨true, m, 0, 0, 0⟩) ∧ ∃ j, w' = W.more j) := tally_Answers
  have HO : Hid (∀ (a : Bool) (m : List UInt8) (p y l : Int) (W : World), Calls Try.prog 65 #[.agg #[.bool a, bstr m, .int .i64 p, .int .i64 y, .int .i64 l]] W fun e w' => e = .returned (.bool (p == 2)) ∧ ∃ j, w' = W.more j) := fun a m p y l W => outs (tally_Over ⟨a, m, p, y, l⟩ W)
  have HD : ∀ W, Calls Try.prog 60 #[taVal ⟨true, [72, 69, 65, 68], 1, 1, 0⟩, .int .i64 n, .bool true] W fun e' w' => e' = .returned (.tuple #[taVal (datF ⟨true, [72, 69, 65, 68], 1, 1, 0⟩ n true).1, .int .i64 (datF ⟨true, [72, 69, 65, 68], 1, 1, 0⟩ n true).2]) ∧ ∃ j, w' = W.more j := fun W => outs (tally_Data _ n true W (by simp))
  have HH : ∀ (X W : World) (a : Option Addr) (cap : Nat) (e : Bool), Below X.heap.size X W → SlF X X.heap.size a [⟨vStatus, [50, 48, 48], false⟩, ⟨contentLength, [55], false⟩] → Calls Try.prog 62 #[taVal ⟨true, [72, 69, 65, 68], 0, 0, 0⟩, .slice a 2 cap, .bool e] W fun e' w' => e' = .returned (trVal (headF ⟨true, [72, 69, 65, 68], 0, 0, 0⟩ [⟨vStatus, [50, 48, 48], false⟩, ⟨contentLength, [55], false⟩] e)) ∧ ∃ j, w' = W.more j := fun X W a cap e hb hs => tally_Head _ a cap [⟨vStatus, [50, 48, 48], false⟩, ⟨contentLength, [55], false⟩] e W X (by decide) hb hs (seven_vals [50, 48, 48] (by decide))
  have HF := Lib.hid (fun X W a cap hb hs => none_0_true_false ▸ HH X W a cap false hb hs)
  have HG := Lib.hid (fun X W a cap hb hs => none_0_true_true ▸ HH X W a cap true hb hs)
  clear HH
  by_cases hn : 0 < n
  all_goals
    first
      | rw [dat_none_yes _ hn] at HD
      | rw [dat_none_no _ hn] at HD
    have HD := Lib.hid HD
    have ho0 := (World.ownsRow_lit (base := w.heap.size) (e := 33) (size := 3) w #[bstr vStatus, bstr [50, 48, 48], .bool false] 1 (Nat.le_refl _) (by decide) rfl).alloc (.cells #[bstr contentLength, bstr [55], .bool false] 33)
    have hb0 : Below w.heap.size w ((w.alloc (.cells #[bstr vStatus, bstr [50, 48, 48], .bool false] 33)).alloc (.cells #[bstr contentLength, bstr [55], .bool false] 33)) := (by repeat (first | (with_reducible exact Below.refl _ _) | (with_reducible refine Below.allocS ?_ _) | (with_reducible refine Below.moreS ?_ _) | (with_reducible refine Below.drew ?_)))
    have bn : Blk ((w.alloc (.cells #[bstr vStatus, bstr [50, 48, 48], .bool false] 33)).alloc (.cells #[bstr contentLength, bstr [55], .bool false] 33)) (w.heap.size + 1) 33 #[bstr contentLength, bstr [55], .bool false] := Blk.at_ _ _ _ (by simp)
    have HO0 := Lib.hid ho0
    have HB0 := Lib.hid hb0
    have HBN := Lib.hid bn
    clear ho0 hb0 bn
    go_enter Try.func18, Try.ntmps18
    go_wp2_with (at_builtin; refine wpList_app st_fields (.tmp 27) (.tmp 29) rfl rfl rfl HO0.out rfl HBN.out rfl (by simp [Value.oneCell']) (by decide) (by decide) (by simp only [World.size_alloc]; omega) ?_; intro v' w1 hown hg)
    have hb1 : Below w.heap.size w w1 := own_grown HB0.out HO0.out hg (Nat.le_refl _) HB0.out.size
    obtain ⟨a1, cap1, hv1, hs1⟩ := own_slF (l := [⟨vStatus, [50, 48, 48], false⟩, ⟨contentLength, [55], false⟩]) hown rfl rfl (seven_bounds _ (by decide))
    subst hv1
    have HS := Lib.hid hs1
    have HB1 := Lib.hid hb1
    clear hs1 hown hg hb1 HO0 HB0 HBN
    go_wp2_with (first
      | (go_at_call 59; (with_reducible refine (HR.out _ _).mono ?_); rintro e w' ⟨rfl, j, rfl⟩)
      | (go_at_call 62; (with_reducible refine (HF.out _ _ _ _ (by repeat (first | (with_reducible exact Below.refl _ _) | (with_reducible refine Below.allocS ?_ _) | (with_reducible refine Below.moreS ?_ _) | (with_reducible refine Below.drew ?_))) HS.out).mono ?_); rintro e w' ⟨rfl, j, rfl⟩)
      | (go_at_call 62; (with_reducible refine (HG.out _ _ _ _ (by repeat (first | (with_reducible exact Below.refl _ _) | (with_reducible refine Below.allocS ?_ _) | (with_reducible refine Below.moreS ?_ _) | (with_reducible refine Below.drew ?_))) HS.out).mono ?_); rintro e w' ⟨rfl, j, rfl⟩)
      | (go_at_call 60; (with_reducible refine (HD.out _).mono ?_); rintro e w' ⟨rfl, j, rfl⟩)
      | (go_at_call 65; (with_reducible refine (HO.out _ _ _ _ _ _).mono ?_); rintro e w' ⟨rfl, j, rfl⟩)
      | (go_at_call 57; (with_reducible refine (HA.out _).mono ?_); rintro e w' ⟨rfl, j, rfl⟩))
    go_ret
    exact ⟨rfl, Below.junk (HB1.out.trans (Below.mono (B := w1.heap.size) (by repeat (first | (with_reducible exact Below.refl _ _) | (with_reducible refine Below.allocS ?_ _) | (with_reducible refine Below.moreS ?_ _) | (with_reducible refine Below.drew ?_))) HB1.out.size))⟩

set_option maxHeartbeats 4000000 in
set_option maxRecDepth 100000 in
theorem tallyNone_1_false (which n : Int) (w : World) (w0 : (which == 0) = false) (w1 : (which == 1) = true) :
    Calls Try.prog 18 #[.int .i64 which, .int .i64 n, .bool false] w fun e w' => e = .returned (.bool true) ∧ ∃ j, w' = w.more j := by
  have HA : Hid (∀ W, Calls Try.prog 57 #[] W fun e w' => e = .returned (.bool true) ∧ ∃ j, w' = W.more j) := law29_alive
  have HR : Hid (∀ m W, Calls Try.prog 59 #[bstr m] W fun e w' => e = .returned (taVal ⟨true, m, 0, 0, 0⟩) ∧ ∃ j, w' = W.more j) := tally_Answers
  have HO : Hid (∀ (a : Bool) (m : List UInt8) (p y l : Int) (W : World), Calls Try.prog 65 #[.agg #[.bool a, bstr m, .int .i64 p, .int .i64 y, .int .i64 l]] W fun e w' => e = .returned (.bool (p == 2)) ∧ ∃ j, w' = W.more j) := fun a m p y l W => outs (tally_Over ⟨a, m, p, y, l⟩ W)
  have HD : ∀ W, Calls Try.prog 60 #[taVal ⟨true, [71, 69, 84], 1, 1, 0⟩, .int .i64 n, .bool true] W fun e' w' => e' = .returned (.tuple #[taVal (datF ⟨true, [71, 69, 84], 1, 1, 0⟩ n true).1, .int .i64 (datF ⟨true, [71, 69, 84], 1, 1, 0⟩ n true).2]) ∧ ∃ j, w' = W.more j := fun W => outs (tally_Data _ n true W (by simp))
  have HH : ∀ (X W : World) (a : Option Addr) (cap : Nat) (e : Bool), Below X.heap.size X W → SlF X X.heap.size a [⟨vStatus, [50, 48, 52], false⟩] → Calls Try.prog 62 #[taVal ⟨true, [71, 69, 84], 0, 0, 0⟩, .slice a 1 cap, .bool e] W fun e' w' => e' = .returned (trVal (headF ⟨true, [71, 69, 84], 0, 0, 0⟩ [⟨vStatus, [50, 48, 52], false⟩] e)) ∧ ∃ j, w' = W.more j := fun X W a cap e hb hs => tally_Head _ a cap [⟨vStatus, [50, 48, 52], false⟩] e W X (by decide) hb hs (one_vals [50, 48, 52] (by decide))
  have HF := Lib.hid (fun X W a cap hb hs => none_1_false_false ▸ HH X W a cap false hb hs)
  have HG := Lib.hid (fun X W a cap hb hs => none_1_false_true ▸ HH X W a cap true hb hs)
  clear HH
  by_cases hn : 0 < n
  all_goals
    first
      | rw [dat_none_yes _ hn] at HD
      | rw [dat_none_no _ hn] at HD
    have HD := Lib.hid HD
    have s1 : SlF (w.alloc (.cells #[bstr vStatus, bstr [50, 48, 52], .bool false] 33)) (w.heap.size + 1) (some ⟨w.heap.size, 0, none⟩) [⟨vStatus, [50, 48, 52], false⟩] := slF_new (Blk.at_ _ _ _ (by simp)) rfl (by decide)
    rw [← World.size_alloc (o := .cells #[bstr vStatus, bstr [50, 48, 52], .bool false] 33)] at s1
    have HS := Lib.hid s1
    clear s1
    go_enter Try.func18, Try.ntmps18
    go_wp2_with (first
      | (go_at_call 59; (with_reducible refine (HR.out _ _).mono ?_); rintro e w' ⟨rfl, j, rfl⟩)
      | (go_at_call 62; (with_reducible refine (HF.out _ _ _ _ (by repeat (first | (with_reducible exact Below.refl _ _) | (with_reducible refine Below.allocS ?_ _) | (with_reducible refine Below.moreS ?_ _) | (with_reducible refine Below.drew ?_))) HS.out).mono ?_); rintro e w' ⟨rfl, j, rfl⟩)
      | (go_at_call 62; (with_reducible refine (HG.out _ _ _ _ (by repeat (first | (with_reducible exact Below.refl _ _) | (with_reducible refine Below.allocS ?_ _) | (with_reducible refine Below.moreS ?_ _) | (with_reducible refine Below.drew ?_))) HS.out).mono ?_); rintro e w' ⟨rfl, j, rfl⟩)
      | (go_at_call 60; (with_reducible refine (HD.out _).mono ?_); rintro e w' ⟨rfl, j, rfl⟩)
      | (go_at_call 65; (with_reducible refine (HO.out _ _ _ _ _ _).mono ?_); rintro e w' ⟨rfl, j, rfl⟩)
      | (go_at_call 57; (with_reducible refine (HA.out _).mono ?_); rintro e w' ⟨rfl, j, rfl⟩))
    go_ret
    exact ⟨rfl, Below.junk (by repeat (first | (with_reducible exact Below.refl _ _) | (with_reducible refine Below.allocS ?_ _) | (with_reducible refine Below.moreS ?_ _) | (with_reducible refine Below.drew ?_)))⟩

set_option maxHeartbeats 4000000 in
set_option maxRecDepth 100000 in
theorem tallyNone_1_true (which n : Int) (w : World) (w0 : (which == 0) = false) (w1 : (which == 1) = true) :
    Calls Try.prog 18 #[.int .i64 which, .int .i64 n, .bool true] w fun e w' => e = .returned (.bool true) ∧ ∃ j, w' = w.more j := by
  have HA : Hid (∀ W, Calls Try.prog 57 #[] W fun e w' => e = .returned (.bool true) ∧ ∃ j, w' = W.more j) := law29_alive
  have HR : Hid (∀ m W, Calls Try.prog 59 #[bstr m] W fun e w' => e = .returned (taVal ⟨true, m, 0, 0, 0⟩) ∧ ∃ j, w' = W.more j) := tally_Answers
  have HO : Hid (∀ (a : Bool) (m : List UInt8) (p y l : Int) (W : World), Calls Try.prog 65 #[.agg #[.bool a, bstr m, .int .i64 p, .int .i64 y, .int .i64 l]] W fun e w' => e = .returned (.bool (p == 2)) ∧ ∃ j, w' = W.more j) := fun a m p y l W => outs (tally_Over ⟨a, m, p, y, l⟩ W)
  have HD : ∀ W, Calls Try.prog 60 #[taVal ⟨true, [71, 69, 84], 1, 1, 0⟩, .int .i64 n, .bool true] W fun e' w' => e' = .returned (.tuple #[taVal (datF ⟨true, [71, 69, 84], 1, 1, 0⟩ n true).1, .int .i64 (datF ⟨true, [71, 69, 84], 1, 1, 0⟩ n true).2]) ∧ ∃ j, w' = W.more j := fun W => outs (tally_Data _ n true W (by simp))
  have HH : ∀ (X W : World) (a : Option Addr) (cap : Nat) (e : Bool), Below X.heap.size X W → SlF X X.heap.size a [⟨vStatus, [50, 48, 52], false⟩, ⟨contentLength, [55], false⟩] → Calls Try.prog 62 #[taVal ⟨true, [71, 69, 84], 0, 0, 0⟩, .slice a 2 cap, .bool e] W fun e' w' => e' = .returned (trVal (headF ⟨true, [71, 69, 84], 0, 0, 0⟩ [⟨vStatus, [50, 48, 52], false⟩, ⟨contentLength, [55], false⟩] e)) ∧ ∃ j, w' = W.more j := fun X W a cap e hb hs => tally_Head _ a cap [⟨vStatus, [50, 48, 52], false⟩, ⟨contentLength, [55], false⟩] e W X (by decide) hb hs (seven_vals [50, 48, 52] (by decide))
  have HF := Lib.hid (fun X W a cap hb hs => none_1_true_false ▸ HH X W a cap false hb hs)
  have HG := Lib.hid (fun X W a cap hb hs => none_1_true_true ▸ HH X W a cap true hb hs)
  clear HH
  by_cases hn : 0 < n
  all_goals
    first
      | rw [dat_none_yes _ hn] at HD
      | rw [dat_none_no _ hn] at HD
    have HD := Lib.hid HD
    have ho0 := (World.ownsRow_lit (base := w.heap.size) (e := 33) (size := 3) w #[bstr vStatus, bstr [50, 48, 52], .bool false] 1 (Nat.le_refl _) (by decide) rfl).alloc (.cells #[bstr contentLength, bstr [55], .bool false] 33)
    have hb0 : Below w.heap.size w ((w.alloc (.cells #[bstr vStatus, bstr [50, 48, 52], .bool false] 33)).alloc (.cells #[bstr contentLength, bstr [55], .bool false] 33)) := (by repeat (first | (with_reducible exact Below.refl _ _) | (with_reducible refine Below.allocS ?_ _) | (with_reducible refine Below.moreS ?_ _) | (with_reducible refine Below.drew ?_)))
    have bn : Blk ((w.alloc (.cells #[bstr vStatus, bstr [50, 48, 52], .bool false] 33)).alloc (.cells #[bstr contentLength, bstr [55], .bool false] 33)) (w.heap.size + 1) 33 #[bstr contentLength, bstr [55], .bool false] := Blk.at_ _ _ _ (by simp)
    have HO0 := Lib.hid ho0
    have HB0 := Lib.hid hb0
    have HBN := Lib.hid bn
    clear ho0 hb0 bn
    go_enter Try.func18, Try.ntmps18
    go_wp2_with (at_builtin; refine wpList_app st_fields (.tmp 27) (.tmp 29) rfl rfl rfl HO0.out rfl HBN.out rfl (by simp [Value.oneCell']) (by decide) (by decide) (by simp only [World.size_alloc]; omega) ?_; intro v' w1 hown hg)
    have hb1 : Below w.heap.size w w1 := own_grown HB0.out HO0.out hg (Nat.le_refl _) HB0.out.size
    obtain ⟨a1, cap1, hv1, hs1⟩ := own_slF (l := [⟨vStatus, [50, 48, 52], false⟩, ⟨contentLength, [55], false⟩]) hown rfl rfl (seven_bounds _ (by decide))
    subst hv1
    have HS := Lib.hid hs1
    have HB1 := Lib.hid hb1
    clear hs1 hown hg hb1 HO0 HB0 HBN
    go_wp2_with (first
      | (go_at_call 59; (with_reducible refine (HR.out _ _).mono ?_); rintro e w' ⟨rfl, j, rfl⟩)
      | (go_at_call 62; (with_reducible refine (HF.out _ _ _ _ (by repeat (first | (with_reducible exact Below.refl _ _) | (with_reducible refine Below.allocS ?_ _) | (with_reducible refine Below.moreS ?_ _) | (with_reducible refine Below.drew ?_))) HS.out).mono ?_); rintro e w' ⟨rfl, j, rfl⟩)
      | (go_at_call 62; (with_reducible refine (HG.out _ _ _ _ (by repeat (first | (with_reducible exact Below.refl _ _) | (with_reducible refine Below.allocS ?_ _) | (with_reducible refine Below.moreS ?_ _) | (with_reducible refine Below.drew ?_))) HS.out).mono ?_); rintro e w' ⟨rfl, j, rfl⟩)
      | (go_at_call 60; (with_reducible refine (HD.out _).mono ?_); rintro e w' ⟨rfl, j, rfl⟩)
      | (go_at_call 65; (with_reducible refine (HO.out _ _ _ _ _ _).mono ?_); rintro e w' ⟨rfl, j, rfl⟩)
      | (go_at_call 57; (with_reducible refine (HA.out _).mono ?_); rintro e w' ⟨rfl, j, rfl⟩))
    go_ret
    exact ⟨rfl, Below.junk (HB1.out.trans (Below.mono (B := w1.heap.size) (by repeat (first | (with_reducible exact Below.refl _ _) | (with_reducible refine Below.allocS ?_ _) | (with_reducible refine Below.moreS ?_ _) | (with_reducible refine Below.drew ?_))) HB1.out.size))⟩

set_option maxHeartbeats 4000000 in
set_option maxRecDepth 100000 in
theorem tallyNone_x_false (which n : Int) (w : World) (w0 : (which == 0) = false) (w1 : (which == 1) = false) :
    Calls Try.prog 18 #[.int .i64 which, .int .i64 n, .bool false] w fun e w' => e = .returned (.bool true) ∧ ∃ j, w' = w.more j := by
  have HA : Hid (∀ W, Calls Try.prog 57 #[] W fun e w' => e = .returned (.bool true) ∧ ∃ j, w' = W.more j) := law29_alive
  have HR : Hid (∀ m W, Calls Try.prog 59 #[bstr m] W fun e w' => e = .returned (taVal ⟨true, m, 0, 0, 0⟩) ∧ ∃ j, w' = W.more j) := tally_Answers
  have HO : Hid (∀ (a : Bool) (m : List UInt8) (p y l : Int) (W : World), Calls Try.prog 65 #[.agg #[.bool a, bstr m, .int .i64 p, .int .i64 y, .int .i64 l]] W fun e w' => e = .returned (.bool (p == 2)) ∧ ∃ j, w' = W.more j) := fun a m p y l W => outs (tally_Over ⟨a, m, p, y, l⟩ W)
  have HD : ∀ W, Calls Try.prog 60 #[taVal ⟨true, [71, 69, 84], 1, 1, 0⟩, .int .i64 n, .bool true] W fun e' w' => e' = .returned (.tuple #[taVal (datF ⟨true, [71, 69, 84], 1, 1, 0⟩ n true).1, .int .i64 (datF ⟨true, [71, 69, 84], 1, 1, 0⟩ n true).2]) ∧ ∃ j, w' = W.more j := fun W => outs (tally_Data _ n true W (by simp))
  have HH : ∀ (X W : World) (a : Option Addr) (cap : Nat) (e : Bool), Below X.heap.size X W → SlF X X.heap.size a [⟨vStatus, [51, 48, 52], false⟩] → Calls Try.prog 62 #[taVal ⟨true, [71, 69, 84], 0, 0, 0⟩, .slice a 1 cap, .bool e] W fun e' w' => e' = .returned (trVal (headF ⟨true, [71, 69, 84], 0, 0, 0⟩ [⟨vStatus, [51, 48, 52], false⟩] e)) ∧ ∃ j, w' = W.more j := fun X W a cap e hb hs => tally_Head _ a cap [⟨vStatus, [51, 48, 52], false⟩] e W X (by decide) hb hs (one_vals [51, 48, 52] (by decide))
  have HF := Lib.hid (fun X W a cap hb hs => none_x_false_false ▸ HH X W a cap false hb hs)
  have HG := Lib.hid (fun X W a cap hb hs => none_x_false_true ▸ HH X W a cap true hb hs)
  clear HH
  by_cases hn : 0 < n
  all_goals
    first
      | rw [dat_none_yes _ hn] at HD
      | rw [dat_none_no _ hn] at HD
    have HD := Lib.hid HD
    have s1 : SlF (w.alloc (.cells #[bstr vStatus, bstr [51, 48, 52], .bool false] 33)) (w.heap.size + 1) (some ⟨w.heap.size, 0, none⟩) [⟨vStatus, [51, 48, 52], false⟩] := slF_new (Blk.at_ _ _ _ (by simp)) rfl (by decide)
    rw [← World.size_alloc (o := .cells #[bstr vStatus, bstr [51, 48, 52], .bool false] 33)] at s1
    have HS := Lib.hid s1
    clear s1
    go_enter Try.func18, Try.ntmps18
    go_wp2_with (first
      | (go_at_call 59; (with_reducible refine (HR.out _ _).mono ?_); rintro e w' ⟨rfl, j, rfl⟩)
      | (go_at_call 62; (with_reducible refine (HF.out _ _ _ _ (by repeat (first | (with_reducible exact Below.refl _ _) | (with_reducible refine Below.allocS ?_ _) | (with_reducible refine Below.moreS ?_ _) | (with_reducible refine Below.drew ?_))) HS.out).mono ?_); rintro e w' ⟨rfl, j, rfl⟩)
      | (go_at_call 62; (with_reducible refine (HG.out _ _ _ _ (by repeat (first | (with_reducible exact Below.refl _ _) | (with_reducible refine Below.allocS ?_ _) | (with_reducible refine Below.moreS ?_ _) | (with_reducible refine Below.drew ?_))) HS.out).mono ?_); rintro e w' ⟨rfl, j, rfl⟩)
      | (go_at_call 60; (with_reducible refine (HD.out _).mono ?_); rintro e w' ⟨rfl, j, rfl⟩)
      | (go_at_call 65; (with_reducible refine (HO.out _ _ _ _ _ _).mono ?_); rintro e w' ⟨rfl, j, rfl⟩)
      | (go_at_call 57; (with_reducible refine (HA.out _).mono ?_); rintro e w' ⟨rfl, j, rfl⟩))
    go_ret
    exact ⟨rfl, Below.junk (by repeat (first | (with_reducible exact Below.refl _ _) | (with_reducible refine Below.allocS ?_ _) | (with_reducible refine Below.moreS ?_ _) | (with_reducible refine Below.drew ?_)))⟩

set_option maxHeartbeats 4000000 in
set_option maxRecDepth 100000 in
theorem tallyNone_x_true (which n : Int) (w : World) (w0 : (which == 0) = false) (w1 : (which == 1) = false) :
    Calls Try.prog 18 #[.int .i64 which, .int .i64 n, .bool true] w fun e w' => e = .returned (.bool true) ∧ ∃ j, w' = w.more j := by
  have HA : Hid (∀ W, Calls Try.prog 57 #[] W fun e w' => e = .returned (.bool true) ∧ ∃ j, w' = W.more j) := law29_alive
  have HR : Hid (∀ m W, Calls Try.prog 59 #[bstr m] W fun e w' => e = .returned (taVal ⟨true, m, 0, 0, 0⟩) ∧ ∃ j, w' = W.more j) := tally_Answers
  have HO : Hid (∀ (a : Bool) (m : List UInt8) (p y l : Int) (W : World), Calls Try.prog 65 #[.agg #[.bool a, bstr m, .int .i64 p, .int .i64 y, .int .i64 l]] W fun e w' => e = .returned (.bool (p == 2)) ∧ ∃ j, w' = W.more j) := fun a m p y l W => outs (tally_Over ⟨a, m, p, y, l⟩ W)
  have HD : ∀ W, Calls Try.prog 60 #[taVal ⟨true, [71, 69, 84], 1, 1, 0⟩, .int .i64 n, .bool true] W fun e' w' => e' = .returned (.tuple #[taVal (datF ⟨true, [71, 69, 84], 1, 1, 0⟩ n true).1, .int .i64 (datF ⟨true, [71, 69, 84], 1, 1, 0⟩ n true).2]) ∧ ∃ j, w' = W.more j := fun W => outs (tally_Data _ n true W (by simp))
  have HH : ∀ (X W : World) (a : Option Addr) (cap : Nat) (e : Bool), Below X.heap.size X W → SlF X X.heap.size a [⟨vStatus, [51, 48, 52], false⟩, ⟨contentLength, [55], false⟩] → Calls Try.prog 62 #[taVal ⟨true, [71, 69, 84], 0, 0, 0⟩, .slice a 2 cap, .bool e] W fun e' w' => e' = .returned (trVal (headF ⟨true, [71, 69, 84], 0, 0, 0⟩ [⟨vStatus, [51, 48, 52], false⟩, ⟨contentLength, [55], false⟩] e)) ∧ ∃ j, w' = W.more j := fun X W a cap e hb hs => tally_Head _ a cap [⟨vStatus, [51, 48, 52], false⟩, ⟨contentLength, [55], false⟩] e W X (by decide) hb hs (seven_vals [51, 48, 52] (by decide))
  have HF := Lib.hid (fun X W a cap hb hs => none_x_true_false ▸ HH X W a cap false hb hs)
  have HG := Lib.hid (fun X W a cap hb hs => none_x_true_true ▸ HH X W a cap true hb hs)
  clear HH
  by_cases hn : 0 < n
  all_goals
    first
      | rw [dat_none_yes _ hn] at HD
      | rw [dat_none_no _ hn] at HD
    have HD := Lib.hid HD
    have ho0 := (World.ownsRow_lit (base := w.heap.size) (e := 33) (size := 3) w #[bstr vStatus, bstr [51, 48, 52], .bool false] 1 (Nat.le_refl _) (by decide) rfl).alloc (.cells #[bstr contentLength, bstr [55], .bool false] 33)
    have hb0 : Below w.heap.size w ((w.alloc (.cells #[bstr vStatus, bstr [51, 48, 52], .bool false] 33)).alloc (.cells #[bstr contentLength, bstr [55], .bool false] 33)) := (by repeat (first | (with_reducible exact Below.refl _ _) | (with_reducible refine Below.allocS ?_ _) | (with_reducible refine Below.moreS ?_ _) | (with_reducible refine Below.drew ?_)))
    have bn : Blk ((w.alloc (.cells #[bstr vStatus, bstr [51, 48, 52], .bool false] 33)).alloc (.cells #[bstr contentLength, bstr [55], .bool false] 33)) (w.heap.size + 1) 33 #[bstr contentLength, bstr [55], .bool false] := Blk.at_ _ _ _ (by simp)
    have HO0 := Lib.hid ho0
    have HB0 := Lib.hid hb0
    have HBN := Lib.hid bn
    clear ho0 hb0 bn
    go_enter Try.func18, Try.ntmps18
    go_wp2_with (at_builtin; refine wpList_app st_fields (.tmp 27) (.tmp 29) rfl rfl rfl HO0.out rfl HBN.out rfl (by simp [Value.oneCell']) (by decide) (by decide) (by simp only [World.size_alloc]; omega) ?_; intro v' w1 hown hg)
    have hb1 : Below w.heap.size w w1 := own_grown HB0.out HO0.out hg (Nat.le_refl _) HB0.out.size
    obtain ⟨a1, cap1, hv1, hs1⟩ := own_slF (l := [⟨vStatus, [51, 48, 52], false⟩, ⟨contentLength, [55], false⟩]) hown rfl rfl (seven_bounds _ (by decide))
    subst hv1
    have HS := Lib.hid hs1
    have HB1 := Lib.hid hb1
    clear hs1 hown hg hb1 HO0 HB0 HBN
    go_wp2_with (first
      | (go_at_call 59; (with_reducible refine (HR.out _ _).mono ?_); rintro e w' ⟨rfl, j, rfl⟩)
      | (go_at_call 62; (with_reducible refine (HF.out _ _ _ _ (by repeat (first | (with_reducible exact Below.refl _ _) | (with_reducible refine Below.allocS ?_ _) | (with_reducible refine Below.moreS ?_ _) | (with_reducible refine Below.drew ?_))) HS.out).mono ?_); rintro e w' ⟨rfl, j, rfl⟩)
      | (go_at_call 62; (with_reducible refine (HG.out _ _ _ _ (by repeat (first | (with_reducible exact Below.refl _ _) | (with_reducible refine Below.allocS ?_ _) | (with_reducible refine Below.moreS ?_ _) | (with_reducible refine Below.drew ?_))) HS.out).mono ?_); rintro e w' ⟨rfl, j, rfl⟩)
      | (go_at_call 60; (with_reducible refine (HD.out _).mono ?_); rintro e w' ⟨rfl, j, rfl⟩)
      | (go_at_call 65; (with_reducible refine (HO.out _ _ _ _ _ _).mono ?_); rintro e w' ⟨rfl, j, rfl⟩)
      | (go_at_call 57; (with_reducible refine (HA.out _).mono ?_); rintro e w' ⟨rfl, j, rfl⟩))
    go_ret
    exact ⟨rfl, Below.junk (HB1.out.trans (Below.mono (B := w1.heap.size) (by repeat (first | (with_reducible exact Below.refl _ _) | (with_reducible refine Below.allocS ?_ _) | (with_reducible refine Below.moreS ?_ _) | (with_reducible refine Below.drew ?_))) HB1.out.size))⟩

theorem tallyNone_law (which n : Int) (told : Bool) (w : World) :
    Calls Try.prog 18 #[.int .i64 which, .int .i64 n, .bool told] w fun e w' => e = .returned (.bool true) ∧ ∃ j, w' = w.more j := by
  cases told
  · cases w0 : (which == 0)
    · cases w1 : (which == 1)
      · exact tallyNone_x_false which n w w0 w1
      · exact tallyNone_1_false which n w w0 w1
    · exact tallyNone_0_false which n w w0
  · cases w0 : (which == 0)
    · cases w1 : (which == 1)
      · exact tallyNone_x_true which n w w0 w1
      · exact tallyNone_1_true which n w w0 w1
    · exact tallyNone_0_true which n w w0
