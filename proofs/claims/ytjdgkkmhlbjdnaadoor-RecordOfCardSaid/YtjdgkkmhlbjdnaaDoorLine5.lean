/-
  Whole lines: both roads.
-/
import Derived.Test.YtjdgkkmhlbjdnaaDoorLine4
namespace Go.Proofs.YtjdgkkmhlbjdnaaDoor
set_option linter.unusedSimpArgs false
set_option linter.unusedVariables false
set_option linter.unusedSectionVars false
open Go.ChangeShapes Go.WideShapes Go.ChangeAt Go.RowKit Go.Deep Go.Shelf

theorem slX_front {w : World} {B : Nat} {a : Option Addr} {q : List (List UInt8)} {z : List UInt8} (h : SlX w B a (q ++ [z])) : SlX w B a q := by
  have := SlR.take h q.length
  rwa [List.take_left'  rfl] at this
theorem slX_last {w : World} {B : Nat} {a : Option Addr} {q : List (List UInt8)} {z : List UInt8} (h : SlX w B a (q ++ [z])) : ∃ b off, a = some ⟨b, off, none⟩ ∧ b < B ∧ w.cell? ⟨b, off + q.length, none⟩ = some (bstr z) := by
  obtain ⟨b, off, ha, hb, hc, _⟩ := SlR.atX h (k := q.length) (by simp)
  simp at hc
  exact ⟨b, off, ha, hb, hc⟩

set_option maxHeartbeats 4000000 in
set_option maxRecDepth 100000 in
theorem words_Lines (l : List UInt8) (m : Int) (w : World) (hm : l.length ≤ 900) (hM : w.cell? MaxA = some (.int .i64 m)) :
    Calls Tryd.prog 28 #[bstr l] w fun e w' => ∃ a cap, e = .returned (.tuple #[.slice a (linesF l).1.length cap, .bool (linesF l).2]) ∧ SlX w' w'.heap.size a (linesF l).1 ∧ Below w.heap.size w w' := by
  by_cases h0 : l = []
  · subst h0
    go_enter Tryd.func28, Tryd.ntmps28
    go_wp2_with fail
    go_ret2
    exact ⟨none, 0, rfl, .nil, Below.refl _ _⟩
  have hne : l.isEmpty = false := by cases l <;> simp_all
  have hne' : (!l.isEmpty) = true := by rw [hne]; rfl
  have H1 := strings_cut l 10 m w (by omega) hM
  have hlen := cut_len 10 l
  obtain ⟨q, z, hq⟩ := cut_last 10 l
  have HS := Lib.hid (lines_snoc hq)
  rw [hq] at H1 hlen
  simp only [List.length_append, List.length_cons, List.length_nil, Nat.zero_add] at H1 hlen
  have H1 := Lib.hid H1
  clear hM h0 hq
  have hq2 : q.length ≤ 1000 := by omega
  clear hlen
  cases hz : z.isEmpty
  all_goals
    have hze : (z == []) = z.isEmpty := by cases z <;> rfl
    have hzn : (z != []) = !z.isEmpty := by cases z <;> rfl
    have hzn2 : (!z.isEmpty) = !z.isEmpty := rfl
    rw [hz] at hze hzn
    simp only [Bool.not_true, Bool.not_false] at hzn
    have HZ := Lib.hid hz
    go_enter Tryd.func28, Tryd.ntmps28
    go_wp2_with fail
    refine H1.out.mono ?_
    rintro e w1 ⟨rfl, hs1, hb1⟩
    obtain ⟨b, off, ha, hb, hc⟩ := slX_last hs1
    injection ha with ha
    injection ha with ha1 ha2
    subst ha1 ha2
    have HX := Lib.hid (slX_front hs1)
    have HB := Lib.hid hb1
    clear hs1 hb1
    rw [Nat.zero_add] at hc
    go_wp2_with fail
    go_ret2
  · exact ⟨none, 0, by rw [HS.out, if_neg (fun h => by subst h; cases HZ.out)]; rfl, by rw [HS.out, if_neg (fun h => by subst h; cases HZ.out)]; exact .nil, HB.out⟩
  · obtain rfl : z = [] := by cases z with
      | nil => rfl
      | cons _ _ => cases HZ.out
    exact ⟨_, _, by rw [HS.out, if_pos rfl]; rfl, by rw [HS.out, if_pos rfl]; exact HX.out, HB.out⟩

set_option maxHeartbeats 4000000 in
set_option maxRecDepth 100000 in
theorem ref04_Lines (l : List UInt8) (w : World) (hm : l.length ≤ 900) :
    Calls Tryd.prog 29 #[bstr l] w fun e w' => ∃ a cap, e = .returned (.tuple #[.slice a (linesF l).1.length cap, .bool (linesF l).2]) ∧ SlX w' w'.heap.size a (linesF l).1 ∧ Below w.heap.size w w' := by
  have H1 := ref04_parts l 10 (by omega) w
  have hlen := cut_len 10 l
  have HM : Hid (∀ x ∈ cutF 10 l, x.length ≤ maxLen) := fun x hx => by have := cut_short 10 l x hx; unfold maxLen; omega
  obtain ⟨q, z, hq⟩ := cut_last 10 l
  have HS := Lib.hid (lines_snoc hq)
  rw [hq] at H1 hlen HM
  simp only [List.length_append, List.length_cons, List.length_nil, Nat.zero_add] at hlen
  have H1 := Lib.hid H1
  clear hq
  have hq2 : q.length ≤ 1000 := by omega
  clear hlen
  cases hz : z.isEmpty
  all_goals
    have hze : (z == []) = z.isEmpty := by cases z <;> rfl
    have hzn : (z != []) = !z.isEmpty := by cases z <;> rfl
    rw [hz] at hze hzn
    simp only [Bool.not_true, Bool.not_false] at hzn
    have HZ := Lib.hid hz
    go_enter Tryd.func29, Tryd.ntmps29
    go_wp2_with fail
    refine H1.out.mono ?_
    rintro e w1 ⟨v, rfl, ho, hb1⟩
    obtain ⟨a, cap, rfl, hs1⟩ := ho.read HM.out
    have hcap : (q ++ [z]).length ≤ cap := by
      rcases ho.2 with ⟨_, hn⟩ | ⟨g, cap', cur, hv, _, _, hnc, _⟩
      · simp at hn
      · injection hv with _ _ h3
        omega
    obtain ⟨b, off, rfl, hb, hc⟩ := slX_last hs1
    have HX := Lib.hid (slX_front hs1)
    have HB := Lib.hid hb1
    clear hs1 hb1 ho
    simp only [List.length_append, List.length_cons, List.length_nil, Nat.zero_add] at hcap
    simp only [List.length_append, List.length_cons, List.length_nil, Nat.zero_add]
    go_wp2_with fail
    go_ret2
  · exact ⟨none, 0, by rw [HS.out, if_neg (fun h => by subst h; cases HZ.out)]; rfl, by rw [HS.out, if_neg (fun h => by subst h; cases HZ.out)]; exact .nil, HB.out⟩
  · obtain rfl : z = [] := by cases z with
      | nil => rfl
      | cons _ _ => cases HZ.out
    exact ⟨_, _, by rw [HS.out, if_pos rfl]; rfl, by rw [HS.out, if_pos rfl]; exact HX.out, HB.out⟩
