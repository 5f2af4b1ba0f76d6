/-
  Lines of words: split, and whole lines: both roads.
-/
import Derived.Test.YtjdgkkmhlbjdnaaDoorLine3
import Derived.Test.YtjdgkkmhlbjdnaaDoorWord8
import Derived.Test.YtjdgkkmhlbjdnaaDoorWord9
namespace Go.Proofs.YtjdgkkmhlbjdnaaDoor
set_option linter.unusedSimpArgs false
set_option linter.unusedVariables false
set_option linter.unusedSectionVars false
open Go.ChangeShapes Go.WideShapes Go.ChangeAt Go.RowKit Go.Deep Go.Shelf

theorem cut_last (c : UInt8) (s : List UInt8) : ∃ q z, cutF c s = q ++ [z] := by
  obtain ⟨a, t, e⟩ := cut_ne c s
  rw [e]
  exact ⟨(a :: t).dropLast, (a :: t).getLast (by simp), (List.dropLast_concat_getLast (by simp)).symm⟩
theorem lines_snoc {s : List UInt8} {q : List (List UInt8)} {z : List UInt8} (h : cutF 10 s = q ++ [z]) : linesF s = if z = [] then (q, true) else ([], false) := by
  unfold linesF
  rw [h]
  simp
theorem split_ok {s : List UInt8} (h : (cutF 32 s).all okW = true) : lineF (cutF 32 s) = (s, true) := by unfold lineF; rw [if_pos h, join_cut]
theorem split_no {s : List UInt8} (h : (cutF 32 s).all okW = false) : lineF (cutF 32 s) = ([], false) := by unfold lineF; rw [if_neg (by rw [h]; simp)]
theorem strings_cut (l : List UInt8) (c : UInt8) (m : Int) (w : World) (hm : l.length ≤ 1048576) (hM : w.cell? MaxA = some (.int .i64 m)) :
    Calls Tryd.prog 75 #[bstr l, bstr [c]] w fun e w' => e = .returned (.slice (some ⟨w.heap.size, 0, none⟩) (cutF c l).length (cutF c l).length) ∧ SlX w' w'.heap.size (some ⟨w.heap.size, 0, none⟩) (cutF c l) ∧ Below w.heap.size w w' := by
  have h := strings_split l c m w hm hM
  have h2 := split_slX l c w hm
  rw [split_cut] at h h2
  refine h.mono fun e w' ⟨he, hw⟩ => ⟨he, ?_, ?_⟩
  · rw [hw, World.size_alloc]; exact h2
  · rw [hw]; exact (Below.refl _ _).alloc (Nat.le_refl _) _

set_option maxHeartbeats 4000000 in
set_option maxRecDepth 100000 in
theorem words_Split (l : List UInt8) (m : Int) (w : World) (hm : l.length ≤ 100000) (hlen : (cutF 32 l).length ≤ 1000) (hshort : ∀ x ∈ cutF 32 l, x.length ≤ 1000) (hM : w.cell? MaxA = some (.int .i64 m)) :
    Calls Tryd.prog 25 #[bstr l] w fun e w' => ∃ a cap, e = .returned (.tuple #[.slice a (splitF l).1.length cap, .bool (splitF l).2]) ∧ SlX w' w'.heap.size a (splitF l).1 ∧ Below w.heap.size w w' := by
  by_cases h0 : l = []
  · subst h0
    go_enter Tryd.func25, Tryd.ntmps25
    go_wp2_with fail
    go_ret2
    exact ⟨none, 0, rfl, .nil, Below.refl _ _⟩
  have hne : l.isEmpty = false := by cases l <;> simp_all
  have hne' : (!l.isEmpty) = true := by rw [hne]; rfl
  have H1 := Lib.hid (strings_cut l 32 m w (by omega) hM)
  have H2 : Hid (∀ a cap w1, (cutF 32 l).length ≤ cap → SlX w1 w1.heap.size a (cutF 32 l) → Calls Tryd.prog 23 #[.slice a (cutF 32 l).length cap] w1 fun e w' => e = .returned (.tuple #[bstr (lineF (cutF 32 l)).1, .bool (lineF (cutF 32 l)).2]) ∧ ∃ j, w' = w1.more j) := fun a cap w1 hc hs => words_Line a cap _ w1 w1 hlen hshort hc (Below.refl _ _) hs
  have HS : Hid (splitF l = if (lineF (cutF 32 l)).2 = true then (cutF 32 l, true) else ([], false)) := by
    show _ = _
    unfold splitF
    rw [if_neg h0]
    cases h : (cutF 32 l).all okW
    · rw [split_no h]
    · rw [split_ok h]
  clear hM h0 hshort hlen
  generalize cutF 32 l = p at H1 H2 HS
  generalize lineF p = R at H2 HS
  obtain ⟨r1, r2⟩ := R
  cases r2
  all_goals
    go_enter Tryd.func25, Tryd.ntmps25
    go_wp2_with fail
    refine H1.out.mono ?_
    rintro e w1 ⟨rfl, hs1, hb1⟩
    have HX := Lib.hid hs1
    have HB := Lib.hid hb1
    have HQ := Lib.hid (H2.out _ p.length w1 (Nat.le_refl _) hs1)
    clear hs1 hb1
    go_wp2_with fail
    refine HQ.out.mono ?_
    rintro e w2 ⟨rfl, j, rfl⟩
    go_wp2_with fail
    go_ret2
  · exact ⟨none, 0, by rw [HS.out]; rfl, by rw [HS.out]; exact .nil, HB.out.trans ((Below.moreS (Below.refl w1.heap.size w1) _).mono HB.out.size)⟩
  · exact ⟨_, p.length, by rw [HS.out]; rfl, by rw [HS.out]; exact (HX.out.below (Below.moreS (Below.refl w1.heap.size w1) j) (Nat.le_refl _)).mono (by simp) (fun _ _ _ h => h), HB.out.trans ((Below.moreS (Below.refl w1.heap.size w1) _).mono HB.out.size)⟩

set_option maxHeartbeats 4000000 in
set_option maxRecDepth 100000 in
theorem ref04_Split (l : List UInt8) (w : World) (hm : l.length ≤ 900) :
    Calls Tryd.prog 27 #[bstr l] w fun e w' => ∃ a cap, e = .returned (.tuple #[.slice a (splitF l).1.length cap, .bool (splitF l).2]) ∧ SlX w' w'.heap.size a (splitF l).1 ∧ Below w.heap.size w w' := by
  by_cases h0 : l = []
  · subst h0
    go_enter Tryd.func27, Tryd.ntmps27
    go_wp2_with fail
    go_ret2
    exact ⟨none, 0, rfl, .nil, Below.refl _ _⟩
  have hne : l.isEmpty = false := by cases l <;> simp_all
  have hne' : (!l.isEmpty) = true := by rw [hne]; rfl
  have H1 := Lib.hid (ref04_parts l 32 (by omega) w)
  have hlen := cut_len 32 l
  have hshort : ∀ x ∈ cutF 32 l, x.length ≤ 1000 := fun x hx => by have := cut_short 32 l x hx; omega
  have HM : Hid (∀ x ∈ cutF 32 l, x.length ≤ maxLen) := fun x hx => by have := hshort x hx; unfold maxLen; omega
  have H2 : Hid (∀ a cap w1, SlX w1 w1.heap.size a (cutF 32 l) → Calls Tryd.prog 24 #[.slice a (cutF 32 l).length cap] w1 fun e w' => e = .returned (.tuple #[bstr (lineF (cutF 32 l)).1, .bool (lineF (cutF 32 l)).2]) ∧ w1 = w') := fun a cap w1 hs => ref04_Line a cap _ w1 w1 (by omega) hshort (Below.refl _ _) hs
  cases hall : (cutF 32 l).all okW
  · have HS : Hid (splitF l = ([], false)) := by
      show _ = _
      unfold splitF
      rw [if_neg h0, if_neg (by rw [hall]; simp)]
    rw [split_no hall] at H2
    clear h0 hshort hlen hall
    generalize cutF 32 l = p at H1 H2 HM
    go_enter Tryd.func27, Tryd.ntmps27
    go_wp2_with fail
    refine H1.out.mono ?_
    rintro e w1 ⟨v, rfl, ho, hb1⟩
    obtain ⟨a, cap, rfl, hs1⟩ := ho.read HM.out
    have HB := Lib.hid hb1
    have HQ := Lib.hid (H2.out a cap w1 hs1)
    clear hs1 hb1 ho
    go_wp2_with fail
    refine HQ.out.mono ?_
    rintro e w2 ⟨rfl, rfl⟩
    go_wp2_with fail
    go_ret2
    exact ⟨none, 0, by rw [HS.out]; rfl, by rw [HS.out]; exact .nil, HB.out⟩
  · have HS : Hid (splitF l = (cutF 32 l, true)) := by
      show _ = _
      unfold splitF
      rw [if_neg h0, if_pos hall]
    rw [split_ok hall] at H2
    clear h0 hshort hlen hall
    generalize cutF 32 l = p at H1 H2 HM HS
    have e1 : (l != l) = false := by simp
    go_enter Tryd.func27, Tryd.ntmps27
    go_wp2_with fail
    refine H1.out.mono ?_
    rintro e w1 ⟨v, rfl, ho, hb1⟩
    obtain ⟨a, cap, rfl, hs1⟩ := ho.read HM.out
    have HB := Lib.hid hb1
    have HX := Lib.hid hs1
    have HQ := Lib.hid (H2.out a cap w1 hs1)
    clear hs1 hb1 ho
    go_wp2_with fail
    refine HQ.out.mono ?_
    rintro e w2 ⟨rfl, rfl⟩
    go_wp2_with fail
    go_ret2
    exact ⟨a, cap, by rw [HS.out]; rfl, by rw [HS.out]; exact HX.out, HB.out⟩
