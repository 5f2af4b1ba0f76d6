/-
  Rules: their names, their sections, and what they ask.
-/
import Derived.Test.YtfgldglelijekaaGreatDoorMa
import Derived.Laws.Tables
namespace Go.Proofs.YtfgldglelijekaaGreatDoor
set_option linter.unusedSimpArgs false
set_option linter.unusedVariables false
set_option linter.unusedSectionVars false
open Go.ChangeShapes Go.WideShapes Go.ChangeAt Go.RowKit Go.Deep Go.Shelf

def rulT : List UInt8 := [102, 105, 114, 115, 116, 32, 112, 114, 101, 102, 97, 99, 101, 32, 115, 105, 122, 101, 32, 111, 114, 100, 101, 114, 32, 102, 111, 114, 109, 32, 118, 97, 108, 117, 101, 32, 97, 99, 107, 32, 115, 112, 114, 101, 97, 100, 32, 97, 119, 97, 121, 32, 105, 100, 108, 101, 32, 110, 117, 109, 98, 101, 114, 32, 114, 101, 115, 101, 114, 118, 101, 100, 32, 101, 110, 100, 101, 100, 32, 99, 108, 111, 115, 101, 100, 32, 114, 101, 115, 101, 116, 32, 102, 111, 114, 103, 111, 116, 116, 101, 110, 32, 115, 116, 101, 112, 32, 119, 105, 110, 100, 111, 119, 32, 99, 111, 110, 110, 32, 115, 116, 114, 101, 97, 109, 32, 112, 117, 115, 104, 32, 112, 114, 111, 109, 105, 115, 101, 32, 112, 114, 111, 109, 105, 115, 101, 100, 32, 109, 97, 110, 121, 32, 116, 97, 98, 108, 101, 32, 117, 112, 100, 97, 116, 101, 32, 109, 105, 115, 115, 105, 110, 103, 32, 102, 105, 101, 108, 100, 32, 98, 97, 114, 114, 101, 100, 32, 112, 115, 101, 117, 100, 111, 32, 108, 101, 110, 103, 116, 104, 32, 98, 111, 100, 121, 32, 116, 114, 97, 105, 108, 101, 114, 32, 115, 97, 102, 101, 32, 99, 108, 105, 101, 110, 116]
def rulW : List (List UInt8) := [[102, 105, 114, 115, 116], [112, 114, 101, 102, 97, 99, 101], [115, 105, 122, 101], [111, 114, 100, 101, 114], [102, 111, 114, 109], [118, 97, 108, 117, 101], [97, 99, 107], [115, 112, 114, 101, 97, 100], [97, 119, 97, 121], [105, 100, 108, 101], [110, 117, 109, 98, 101, 114], [114, 101, 115, 101, 114, 118, 101, 100], [101, 110, 100, 101, 100], [99, 108, 111, 115, 101, 100], [114, 101, 115, 101, 116], [102, 111, 114, 103, 111, 116, 116, 101, 110], [115, 116, 101, 112], [119, 105, 110, 100, 111, 119], [99, 111, 110, 110], [115, 116, 114, 101, 97, 109], [112, 117, 115, 104], [112, 114, 111, 109, 105, 115, 101], [112, 114, 111, 109, 105, 115, 101, 100], [109, 97, 110, 121], [116, 97, 98, 108, 101], [117, 112, 100, 97, 116, 101], [109, 105, 115, 115, 105, 110, 103], [102, 105, 101, 108, 100], [98, 97, 114, 114, 101, 100], [112, 115, 101, 117, 100, 111], [108, 101, 110, 103, 116, 104], [98, 111, 100, 121], [116, 114, 97, 105, 108, 101, 114], [115, 97, 102, 101], [99, 108, 105, 101, 110, 116]]
def secT : List UInt8 := [51, 46, 52, 32, 51, 46, 52, 32, 52, 46, 50, 32, 54, 46, 49, 48, 32, 54, 32, 54, 46, 53, 46, 50, 32, 54, 46, 53, 46, 51, 32, 54, 46, 57, 46, 50, 32, 54, 46, 56, 32, 53, 46, 49, 32, 53, 46, 49, 46, 49, 32, 53, 46, 49, 32, 53, 46, 49, 32, 53, 46, 49, 32, 53, 46, 49, 32, 53, 46, 49, 32, 54, 46, 57, 32, 54, 46, 57, 46, 49, 32, 54, 46, 57, 46, 49, 32, 54, 46, 57, 46, 49, 32, 54, 46, 54, 32, 54, 46, 54, 32, 53, 46, 49, 46, 49, 32, 53, 46, 49, 46, 50, 32, 52, 46, 51, 32, 52, 46, 51, 46, 49, 32, 52, 46, 51, 46, 49, 32, 56, 46, 50, 46, 49, 32, 56, 46, 50, 46, 50, 32, 56, 46, 51, 32, 56, 46, 49, 46, 49, 32, 56, 46, 49, 32, 56, 46, 49, 32, 56, 46, 52, 32, 56, 46, 52]
def secW : List (List UInt8) := [[51, 46, 52], [51, 46, 52], [52, 46, 50], [54, 46, 49, 48], [54], [54, 46, 53, 46, 50], [54, 46, 53, 46, 51], [54, 46, 57, 46, 50], [54, 46, 56], [53, 46, 49], [53, 46, 49, 46, 49], [53, 46, 49], [53, 46, 49], [53, 46, 49], [53, 46, 49], [53, 46, 49], [54, 46, 57], [54, 46, 57, 46, 49], [54, 46, 57, 46, 49], [54, 46, 57, 46, 49], [54, 46, 54], [54, 46, 54], [53, 46, 49, 46, 49], [53, 46, 49, 46, 50], [52, 46, 51], [52, 46, 51, 46, 49], [52, 46, 51, 46, 49], [56, 46, 50, 46, 49], [56, 46, 50, 46, 50], [56, 46, 51], [56, 46, 49, 46, 49], [56, 46, 49], [56, 46, 49], [56, 46, 52], [56, 46, 52]]
def askW : List (List UInt8) := [[116, 104, 101, 32, 102, 105, 114, 115, 116, 32, 102, 114, 97, 109, 101, 32, 111, 102, 32, 101, 97, 99, 104, 32, 115, 105, 100, 101, 32, 105, 115, 32, 83, 69, 84, 84, 73, 78, 71, 83, 32, 119, 105, 116, 104, 111, 117, 116, 32, 65, 67, 75], [116, 104, 101, 32, 99, 108, 105, 101, 110, 116, 39, 115, 32, 102, 105, 114, 115, 116, 32, 50, 52, 32, 98, 121, 116, 101, 115, 32, 97, 114, 101, 32, 116, 104, 101, 32, 112, 114, 101, 102, 97, 99, 101], [97, 32, 102, 114, 97, 109, 101, 32, 105, 115, 32, 110, 111, 116, 32, 108, 111, 110, 103, 101, 114, 32, 116, 104, 97, 110, 32, 105, 116, 115, 32, 114, 101, 99, 101, 105, 118, 101, 114, 32, 108, 101, 116, 115], [110, 111, 116, 104, 105, 110, 103, 32, 115, 116, 97, 110, 100, 115, 32, 98, 101, 116, 119, 101, 101, 110, 32, 116, 104, 101, 32, 112, 97, 114, 116, 115, 32, 111, 102, 32, 97, 32, 102, 105, 101, 108, 100, 32, 98, 108, 111, 99, 107], [97, 32, 102, 114, 97, 109, 101, 32, 105, 115, 32, 114, 105, 103, 104, 116, 32, 105, 110, 32, 105, 116, 115, 101, 108, 102], [115, 101, 116, 116, 105, 110, 103, 115, 32, 104, 97, 118, 101, 32, 118, 97, 108, 117, 101, 115, 32, 116, 104, 97, 116, 32, 109, 97, 121, 32, 98, 101], [119, 104, 97, 116, 32, 105, 115, 32, 97, 99, 107, 110, 111, 119, 108, 101, 100, 103, 101, 100, 32, 119, 97, 115, 32, 115, 101, 110, 116], [115, 101, 116, 116, 105, 110, 103, 115, 32, 109, 97, 107, 101, 32, 110, 111, 32, 119, 105, 110, 100, 111, 119, 32, 116, 111, 111, 32, 108, 97, 114, 103, 101], [116, 104, 101, 32, 108, 97, 115, 116, 32, 115, 116, 114, 101, 97, 109, 32, 111, 102, 32, 71, 79, 65, 87, 65, 89, 32, 100, 111, 101, 115, 32, 110, 111, 116, 32, 114, 105, 115, 101], [110, 111, 116, 104, 105, 110, 103, 32, 105, 115, 32, 115, 101, 110, 116, 32, 111, 110, 32, 97, 32, 115, 116, 114, 101, 97, 109, 32, 116, 104, 97, 116, 32, 119, 97, 115, 32, 110, 111, 116, 32, 98, 101, 103, 117, 110], [110, 101, 119, 32, 115, 116, 114, 101, 97, 109, 115, 32, 104, 97, 118, 101, 32, 110, 117, 109, 98, 101, 114, 115, 32, 116, 104, 97, 116, 32, 114, 105, 115, 101], [108, 105, 116, 116, 108, 101, 32, 105, 115, 32, 115, 101, 110, 116, 32, 111, 110, 32, 97, 32, 115, 116, 114, 101, 97, 109, 32, 116, 104, 97, 116, 32, 119, 97, 115, 32, 112, 114, 111, 109, 105, 115, 101, 100], [110, 111, 116, 104, 105, 110, 103, 32, 109, 111, 114, 101, 32, 105, 115, 32, 115, 101, 110, 116, 32, 98, 121, 32, 119, 104, 111, 32, 104, 97, 115, 32, 101, 110, 100, 101, 100], [110, 111, 116, 104, 105, 110, 103, 32, 105, 115, 32, 115, 101, 110, 116, 32, 111, 110, 32, 97, 32, 115, 116, 114, 101, 97, 109, 32, 116, 104, 97, 116, 32, 98, 111, 116, 104, 32, 104, 97, 118, 101, 32, 101, 110, 100, 101, 100], [110, 111, 116, 104, 105, 110, 103, 32, 105, 115, 32, 115, 101, 110, 116, 32, 111, 110, 32, 97, 32, 115, 116, 114, 101, 97, 109, 32, 98, 121, 32, 119, 104, 111, 32, 104, 97, 115, 32, 114, 101, 115, 101, 116, 32, 105, 116], [110, 111, 116, 104, 105, 110, 103, 32, 105, 115, 32, 115, 101, 110, 116, 32, 111, 110, 32, 97, 32, 115, 116, 114, 101, 97, 109, 32, 116, 104, 97, 116, 32, 119, 97, 115, 32, 102, 111, 114, 103, 111, 116, 116, 101, 110], [97, 32, 119, 105, 110, 100, 111, 119, 32, 103, 114, 111, 119, 115, 32, 98, 121, 32, 111, 110, 101, 32, 97, 116, 32, 108, 101, 97, 115, 116], [97, 32, 119, 105, 110, 100, 111, 119, 32, 100, 111, 101, 115, 32, 110, 111, 116, 32, 98, 101, 99, 111, 109, 101, 32, 116, 111, 111, 32, 108, 97, 114, 103, 101], [100, 97, 116, 97, 32, 115, 116, 97, 121, 32, 119, 105, 116, 104, 105, 110, 32, 116, 104, 101, 32, 99, 111, 110, 110, 101, 99, 116, 105, 111, 110, 39, 115, 32, 119, 105, 110, 100, 111, 119], [100, 97, 116, 97, 32, 115, 116, 97, 121, 32, 119, 105, 116, 104, 105, 110, 32, 116, 104, 101, 32, 115, 116, 114, 101, 97, 109, 39, 115, 32, 119, 105, 110, 100, 111, 119], [110, 111, 116, 104, 105, 110, 103, 32, 105, 115, 32, 112, 114, 111, 109, 105, 115, 101, 100, 32, 116, 111, 32, 119, 104, 111, 32, 100, 111, 101, 115, 32, 110, 111, 116, 32, 119, 97, 110, 116, 32, 105, 116], [112, 114, 111, 109, 105, 115, 101, 115, 32, 97, 114, 101, 32, 109, 97, 100, 101, 32, 111, 110, 32, 97, 32, 115, 116, 114, 101, 97, 109, 32, 111, 102, 32, 116, 104, 101, 32, 99, 108, 105, 101, 110, 116, 39, 115, 32, 116, 104, 97, 116, 32, 105, 115, 32, 111, 112, 101, 110], [112, 114, 111, 109, 105, 115, 101, 100, 32, 115, 116, 114, 101, 97, 109, 115, 32, 104, 97, 118, 101, 32, 110, 117, 109, 98, 101, 114, 115, 32, 116, 104, 97, 116, 32, 114, 105, 115, 101], [110, 111, 116, 32, 116, 111, 111, 32, 109, 97, 110, 121, 32, 115, 116, 114, 101, 97, 109, 115, 32, 97, 114, 101, 32, 111, 112, 101, 110], [97, 32, 102, 105, 101, 108, 100, 32, 98, 108, 111, 99, 107, 32, 99, 97, 110, 32, 98, 101, 32, 114, 101, 97, 100], [97, 32, 116, 97, 98, 108, 101, 32, 105, 115, 32, 110, 111, 116, 32, 116, 111, 111, 32, 108, 97, 114, 103, 101], [97, 32, 116, 97, 98, 108, 101, 32, 116, 104, 97, 116, 32, 109, 117, 115, 116, 32, 98, 101, 99, 111, 109, 101, 32, 115, 109, 97, 108, 108, 101, 114, 32, 100, 111, 101, 115], [110, 97, 109, 101, 115, 32, 97, 110, 100, 32, 118, 97, 108, 117, 101, 115, 32, 104, 97, 118, 101, 32, 98, 121, 116, 101, 115, 32, 116, 104, 97, 116, 32, 109, 97, 121, 32, 98, 101], [110, 111, 32, 102, 105, 101, 108, 100, 32, 105, 115, 32, 111, 110, 101, 32, 111, 102, 32, 116, 104, 101, 32, 99, 111, 110, 110, 101, 99, 116, 105, 111, 110, 39, 115, 32, 111, 119, 110], [116, 104, 101, 32, 112, 115, 101, 117, 100, 111, 45, 102, 105, 101, 108, 100, 115, 32, 97, 114, 101, 32, 116, 104, 111, 115, 101, 32, 116, 104, 97, 116, 32, 109, 117, 115, 116, 32, 98, 101], [100, 97, 116, 97, 32, 104, 97, 118, 101, 32, 116, 104, 101, 32, 108, 101, 110, 103, 116, 104, 32, 116, 104, 97, 116, 32, 119, 97, 115, 32, 116, 111, 108, 100], [100, 97, 116, 97, 32, 115, 116, 97, 110, 100, 32, 119, 104, 101, 114, 101, 32, 116, 104, 101, 121, 32, 109, 97, 121], [102, 105, 101, 108, 100, 115, 32, 98, 101, 104, 105, 110, 100, 32, 100, 97, 116, 97, 32, 101, 110, 100, 32, 116, 104, 101, 32, 115, 116, 114, 101, 97, 109], [119, 104, 97, 116, 32, 105, 115, 32, 112, 114, 111, 109, 105, 115, 101, 100, 32, 105, 115, 32, 97, 115, 107, 101, 100, 32, 98, 121, 32, 71, 69, 84, 32, 111, 114, 32, 72, 69, 65, 68], [99, 108, 105, 101, 110, 116, 115, 32, 112, 114, 111, 109, 105, 115, 101, 32, 110, 111, 116, 104, 105, 110, 103]]
set_option maxRecDepth 100000 in
theorem rul_cut : cutF 32 rulT = rulW := by decide +kernel
set_option maxRecDepth 100000 in
theorem sec_cut : cutF 32 secT = secW := by decide +kernel
/-- The text that stands for a rule in a table; none: the empty text. -/
def tabN (l : List (List UInt8)) (n : Int) : List UInt8 := if n < 1 ∨ 35 < n then [] else l.getD (n - 1).toNat []
theorem tab_at (l : List (List UInt8)) (k : Nat) (h : k < l.length) : l[k] = l.getD k [] := by rw [List.getD_eq_getElem?_getD, List.getElem?_eq_getElem h]; rfl
theorem tab_in (l : List (List UInt8)) (k : Nat) (h : k < 35) : tabN l ((k : Int) + 1) = l.getD k [] := by unfold tabN; rw [if_neg (by omega)]; congr 1; omega
theorem tab_out (l : List (List UInt8)) {n : Int} (h : n < 1 ∨ 35 < n) : tabN l n = [] := by unfold tabN; rw [if_pos h]
theorem rul_two : ∀ i j : Fin 35, rulW.getD i.val [] = rulW.getD j.val [] → i = j := by decide +kernel
theorem rul_ne : ∀ i : Fin 35, rulW.getD i.val [] ≠ [] := by decide +kernel
theorem rul_len : ∀ i : Fin 35, (rulW.getD i.val []).length ≤ 9 ∧ (rulW.getD i.val []).all (fun c => !(c == 44)) = true ∧ rulW.getD i.val [] ≠ [45] := by decide +kernel
theorem SlX_zero {w : World} {B g : Nat} {l : List (List UInt8)} (h : SlX w B (some ⟨g, 0, none⟩) l) {k : Nat} (hk : k < l.length) : g < B ∧ w.cell? ⟨g, k, none⟩ = some (bstr l[k]) := by
  obtain ⟨b, off, e, hb, hc, _⟩ := h.atX hk
  injection e with e
  injection e with e1 e2
  subst e1 e2
  rw [Nat.zero_add] at hc
  exact ⟨hb, hc⟩

set_option maxHeartbeats 4000000 in
set_option maxRecDepth 100000 in
theorem rules_word (t : List UInt8) (l : List (List UInt8)) (ht : t.length ≤ 1048576) (hcut : cutF 32 t = l) (hl : l.length = 35) (n : Int) (m : Int) (w : World) (hM : w.cell? MaxA = some (.int .i64 m)) : Calls Tryz.prog 37 #[bstr t, .int .i64 n] w fun e w' => e = .returned (bstr (tabN l n)) ∧ ∃ j, w' = w.more j := by
  by_cases h : n < 1 ∨ 35 < n
  · rw [tab_out l h]
    clear hcut hl ht hM
    rcases h with h | h
    · go_enter Tryz.func37, Tryz.ntmps37
      go_wp2_with fail
      go_ret
      exact ⟨rfl, Below.junk (by repeat (first | (with_reducible exact Below.refl _ _) | (with_reducible refine Below.allocS ?_ _) | (with_reducible refine Below.moreS ?_ _) | (with_reducible refine Below.drew ?_) | (with_reducible refine below_drewN ?_ _)))⟩
    · have h1 : ¬ n < 1 := by omega
      go_enter Tryz.func37, Tryz.ntmps37
      go_wp2_with fail
      go_ret
      exact ⟨rfl, Below.junk (by repeat (first | (with_reducible exact Below.refl _ _) | (with_reducible refine Below.allocS ?_ _) | (with_reducible refine Below.moreS ?_ _) | (with_reducible refine Below.drew ?_) | (with_reducible refine below_drewN ?_ _)))⟩
  · obtain ⟨k, rfl⟩ : ∃ k : Nat, n = (k : Int) + 1 := ⟨(n - 1).toNat, by omega⟩
    have hk35 : k < 35 := by omega
    have hk : k < l.length := by omega
    have hr : tabN l ((k : Int) + 1) = l[k] := by rw [tab_in l k hk35, tab_at l k hk]
    have HS := Lib.hid (split_words t 32 l hcut m w ht hM)
    rw [hl] at HS
    rw [hr]
    have h1 : ¬ (k : Int) + 1 < 1 := by omega
    have h2 : ¬ 35 < (k : Int) + 1 := by omega
    have hw1 : IntKind.i64.wrap ((k : Int) + 1 - 1) = k := by rw [show (k : Int) + 1 - 1 = k by omega]; exact IntWalk.i64_in _ (by omega)
    have hw2 : IntKind.i64.wrap (k : Int) = k := IntWalk.i64_in _ (by omega)
    generalize hT : l[k] = T
    clear hr h hM hcut ht
    go_enter Tryz.func37, Tryz.ntmps37
    go_wp2_with fail
    refine HS.out.mono ?_
    rintro e w' ⟨rfl, j, rfl, hx⟩
    obtain ⟨hg, c⟩ := SlX_zero hx hk
    have c0 : (w.more j).cell? ⟨w.heap.size, k, none⟩ = some (bstr T) := by rw [← hT]; exact c
    clear hT hx c hl hk
    go_wp2_with fail
    go_ret
    exact ⟨rfl, Below.junk (by repeat (first | (with_reducible exact Below.refl _ _) | (with_reducible refine Below.allocS ?_ _) | (with_reducible refine Below.moreS ?_ _) | (with_reducible refine Below.drew ?_) | (with_reducible refine below_drewN ?_ _)))⟩
set_option maxHeartbeats 4000000 in
set_option maxRecDepth 100000 in
theorem rules_Name (n : Int) (m : Int) (w : World) (hM : w.cell? MaxA = some (.int .i64 m)) : Calls Tryz.prog 34 #[.int .i64 n] w fun e w' => e = .returned (bstr (tabN rulW n)) ∧ ∃ j, w' = w.more j := by
  have H := Lib.hid (rules_word rulT rulW (by decide) rul_cut rfl n m w hM)
  generalize tabN rulW n = R at H ⊢
  clear hM
  go_enter Tryz.func34, Tryz.ntmps34
  go_wp2_with fail
  refine H.out.mono ?_
  rintro e w' ⟨rfl, j, rfl⟩
  go_wp2_with fail
  go_ret
  exact ⟨rfl, Below.junk (by repeat (first | (with_reducible exact Below.refl _ _) | (with_reducible refine Below.allocS ?_ _) | (with_reducible refine Below.moreS ?_ _) | (with_reducible refine Below.drew ?_) | (with_reducible refine below_drewN ?_ _)))⟩
set_option maxHeartbeats 4000000 in
set_option maxRecDepth 100000 in
theorem rules_Section (n : Int) (m : Int) (w : World) (hM : w.cell? MaxA = some (.int .i64 m)) : Calls Tryz.prog 23 #[.int .i64 n] w fun e w' => e = .returned (bstr (tabN secW n)) ∧ ∃ j, w' = w.more j := by
  have H := Lib.hid (rules_word secT secW (by decide) sec_cut rfl n m w hM)
  generalize tabN secW n = R at H ⊢
  clear hM
  go_enter Tryz.func23, Tryz.ntmps23
  go_wp2_with fail
  refine H.out.mono ?_
  rintro e w' ⟨rfl, j, rfl⟩
  go_wp2_with fail
  go_ret
  exact ⟨rfl, Below.junk (by repeat (first | (with_reducible exact Below.refl _ _) | (with_reducible refine Below.allocS ?_ _) | (with_reducible refine Below.moreS ?_ _) | (with_reducible refine Below.drew ?_) | (with_reducible refine below_drewN ?_ _)))⟩
/-! What a rule asks. -/
theorem ask_lit : ∀ m : Fin 35, askW[m.val]? = some (askW.getD m.val []) := by decide +kernel
theorem wpList_buildV {P : Program} {ops : Array Oper} {rest : List Oper} {o : Oper} {a : Act} {w : World} {Q : Exit → Act → World → Prop} (hg : o.guard = none) (t : TypeId) (parts : Array (Nat × Operand)) (ho : o.op = .build t parts) (cells : Array Value)
    (hf : P.built t (parts.map fun (i, x) => (i, a.eval x)).toList = some cells)
    (h : wpList P ops Q rest (a.put o.dst (.agg cells)) w) : wpList P ops Q (o :: rest) a w :=
  wpList_build hg t parts ho (by rw [hf]; rfl) (by rw [hf]; exact h)
theorem setRow_new (w : World) (t : TypeId) (a b : Array Value) : (w.alloc (.cells a t)).setRow w.heap.size b = w.alloc (.cells b t) := by
  unfold World.setRow World.alloc
  congr 1
  apply Array.ext_getElem?
  intro i
  rw [Array.getElem?_modify, Array.getElem?_push, Array.getElem?_push]
  by_cases h : w.heap.size = i
  · subst h; simp
  · rw [if_neg h, if_neg (fun e => h e.symm), if_neg (fun e => h e.symm)]
def AsksV : Value := .agg (askW.map bstr).toArray
end Go.Proofs.YtfgldglelijekaaGreatDoor
