/-
  Summaries: the chapter's example; the statement SummaryTexts.
-/
import Derived.Test.YtfgldglelijekaaGreatDoorSum6
import Derived.Test.YtfgldglelijekaaGreatDoorSum8
import Derived.Test.YtfgldglelijekaaGreatDoorSameX
namespace Go.Proofs.YtfgldglelijekaaGreatDoor
set_option linter.unusedSimpArgs false
set_option linter.unusedVariables false
set_option linter.unusedSectionVars false
open Go.ChangeShapes Go.WideShapes Go.ChangeAt Go.RowKit Go.Deep Go.Shelf

theorem SlX.keep {w w' : World} {a : Option Addr} {l : List (List UInt8)} (h : SlX w w.heap.size a l) (hb : Below w.heap.size w w') : SlX w' w'.heap.size a l := (h.below hb (Nat.le_refl _)).mono hb.size (fun _ _ _ h => h)
/-- A row of texts, new. -/
def RowX (L : List (List UInt8)) (w : World) (e : Ending) (w' : World) : Prop := ∃ a cap, e = .returned (.slice a L.length cap) ∧ SlX w' w'.heap.size a L ∧ Below w.heap.size w w'
theorem rowX_of {P : Program} {f : FuncId} {vs : Array Value} {w : World} {L : List (List UInt8)} (hL : ∀ x ∈ L, x.length ≤ maxLen) (h : Calls P f vs w (MoreX w.heap.size L w)) : Calls P f vs w (RowX L w) :=
  h.mono fun e w' ⟨v, he, ho, hb⟩ => by
    obtain ⟨a, cap, rfl, hs⟩ := ho.read hL
    exact ⟨a, cap, he, hs, hb⟩
theorem sameX_self (l : List (List UInt8)) : sameX l l = true := by unfold sameX; exact beq_self_eq_true l
theorem linesS_short (F : Nat → Int) (R : List (List UInt8)) (hF : ∀ i, i < 20 → goodI (F i)) (hR : R.length ≤ 100) (hX : ∀ x ∈ R, x.length ≤ 1000) : ∀ x ∈ linesS F R, x.length ≤ maxLen := by
  have hp : ∀ (w : List UInt8) (n : Int), w.length ≤ 1000 → goodI n → ∀ x ∈ partL w n, x.length ≤ 2000 := fun w n hw hn x hx => by
    unfold partL at hx
    split at hx
    · have := itoa_len hn.1 hn.2
      simp at hx; subst hx; simp; omega
    · simp at hx
  have hs : ∀ k, k < 2 → (sideL F k).length ≤ 2000 := fun k hk => by
    have h0 := sideF_len (k : Int)
    have h1 := itoa_len (hF k (by omega)).1 (hF k (by omega)).2
    have h2 := itoa_len (hF (2 + k) (by omega)).1 (hF (2 + k) (by omega)).2
    unfold sideL
    simp [Lib.join_cons, Lib.joinTail]
    omega
  intro x hx
  have h9 : x.length ≤ 200000 := by
    unfold linesS at hx
    simp only [List.mem_append] at hx
    rcases hx with (((hx | hx) | hx) | hx) | hx
    · simp only [List.mem_cons, List.not_mem_nil, or_false] at hx
      rcases hx with rfl | rfl
      · have := hs 0 (by omega); omega
      · have := hs 1 (by omega); omega
    · unfold typesL at hx
      obtain ⟨t, ht, hx⟩ := List.mem_flatMap.1 hx
      have ht := List.mem_range.1 ht
      have := hp _ _ (by have := nameF_len (t := (t : Int)) (by omega) (by omega); omega) (hF (4 + t) (by omega)) x hx
      omega
    · have := hp _ _ (by decide) (hF 14 (by omega)) x hx; omega
    · unfold kindsL at hx
      obtain ⟨q, hq, hx⟩ := List.mem_flatMap.1 hx
      have hq := List.mem_range.1 hq
      have := hp _ _ (by have := kindF_len ((q : Int) + 1); omega) (hF (16 + q) (by omega)) x hx
      omega
    · unfold secL at hx
      split at hx
      · simp at hx
      · simp only [List.mem_cons, List.not_mem_nil, or_false] at hx
        subst hx
        have := join_leC 32 ([115, 101, 99, 116, 105, 111, 110, 115] :: R) (fun y hy => by
          rcases List.mem_cons.1 hy with rfl | hy
          · decide
          · exact hX y hy)
        simp only [List.length_cons] at this
        omega
  unfold maxLen
  omega
end Go.Proofs.YtfgldglelijekaaGreatDoor
