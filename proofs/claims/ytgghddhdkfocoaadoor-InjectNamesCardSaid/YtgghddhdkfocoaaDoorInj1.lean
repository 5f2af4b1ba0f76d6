/-
  What is done wrong: the names of its kinds.
-/
import Derived.Test.YtgghddhdkfocoaaDoorIdx
import Derived.Test.YtgghddhdkfocoaaDoorApp
namespace Go.Proofs.YtgghddhdkfocoaaDoor
set_option linter.unusedSimpArgs false
set_option linter.unusedVariables false
set_option linter.unusedSectionVars false
open Go.ChangeShapes Go.WideShapes Go.ChangeAt Go.RowKit Go.Deep Go.Shelf

def injT : List UInt8 := [112, 97, 100, 32, 112, 105, 110, 103, 55, 32, 112, 105, 110, 103, 111, 110, 32, 115, 101, 116, 115, 111, 110, 32, 97, 99, 107, 98, 111, 100, 121, 32, 115, 101, 116, 115, 53, 32, 115, 116, 101, 112, 48, 32, 111, 118, 101, 114, 32, 100, 97, 116, 97, 105, 100, 108, 101, 32, 114, 115, 116, 105, 100, 108, 101, 32, 97, 108, 111, 110, 101, 32, 112, 114, 105, 111, 52, 32, 97, 119, 97, 121, 55, 32, 112, 117, 115, 104, 32, 108, 111, 110, 103, 32, 116, 97, 98, 108, 101, 32, 117, 112, 100, 97, 116, 101, 32, 117, 112, 112, 101, 114, 32, 98, 97, 114, 114, 101, 100, 32, 110, 111, 112, 97, 116, 104, 32, 119, 105, 116, 104, 105, 110, 32, 112, 117, 115, 104, 50, 32, 102, 114, 97, 109, 101, 48, 32, 119, 105, 110, 100, 111, 119, 32, 114, 115, 116, 48, 32, 97, 99, 107]
def injW : List (List UInt8) := [[112, 97, 100], [112, 105, 110, 103, 55], [112, 105, 110, 103, 111, 110], [115, 101, 116, 115, 111, 110], [97, 99, 107, 98, 111, 100, 121], [115, 101, 116, 115, 53], [115, 116, 101, 112, 48], [111, 118, 101, 114], [100, 97, 116, 97, 105, 100, 108, 101], [114, 115, 116, 105, 100, 108, 101], [97, 108, 111, 110, 101], [112, 114, 105, 111, 52], [97, 119, 97, 121, 55], [112, 117, 115, 104], [108, 111, 110, 103], [116, 97, 98, 108, 101], [117, 112, 100, 97, 116, 101], [117, 112, 112, 101, 114], [98, 97, 114, 114, 101, 100], [110, 111, 112, 97, 116, 104], [119, 105, 116, 104, 105, 110], [112, 117, 115, 104, 50], [102, 114, 97, 109, 101, 48], [119, 105, 110, 100, 111, 119], [114, 115, 116, 48], [97, 99, 107]]
set_option maxRecDepth 100000 in
theorem inj_cut : cutF 32 injT = injW := by decide +kernel
def injN (n : Int) : List UInt8 := if n < 1 ∨ 26 < n then [] else injW.getD (n - 1).toNat []
theorem inj_at (k : Nat) (h : k < injW.length) : injW[k] = injW.getD k [] := by rw [List.getD_eq_getElem?_getD, List.getElem?_eq_getElem h]; rfl
theorem inj_two : ∀ i j : Fin 26, injW.getD i.val [] = injW.getD j.val [] → i = j := by decide +kernel
theorem SlX_zero {w : World} {B g : Nat} {l : List (List UInt8)} (h : SlX w B (some ⟨g, 0, none⟩) l) {k : Nat} (hk : k < l.length) : g < B ∧ w.cell? ⟨g, k, none⟩ = some (bstr l[k]) := by
  obtain ⟨b, off, e, hb, hc, _⟩ := h.atX hk
  injection e with e
  injection e with e1 e2
  subst e1 e2
  rw [Nat.zero_add] at hc
  exact ⟨hb, hc⟩

set_option maxHeartbeats 4000000 in
set_option maxRecDepth 100000 in
theorem inject_Name (n : Int) (m : Int) (w : World) (hM : w.cell? MaxA = some (.int .i64 m)) : Calls Tryd.prog 7 #[.int .i64 n] w fun e w' => e = .returned (bstr (injN n)) ∧ ∃ j, w' = w.more j := by
  by_cases h : n < 1 ∨ 26 < n
  · have hr : injN n = [] := by unfold injN; rw [if_pos h]
    rw [hr]
    rcases h with h | h
    · go_enter Tryd.func7, Tryd.ntmps7
      go_wp2_with fail
      go_ret
      exact ⟨rfl, Below.junk (by repeat (first | (with_reducible exact Below.refl _ _) | (with_reducible refine Below.allocS ?_ _) | (with_reducible refine Below.moreS ?_ _) | (with_reducible refine Below.drew ?_) | (with_reducible refine below_drewN ?_ _)))⟩
    · have h1 : ¬ n < 1 := by omega
      go_enter Tryd.func7, Tryd.ntmps7
      go_wp2_with fail
      go_ret
      exact ⟨rfl, Below.junk (by repeat (first | (with_reducible exact Below.refl _ _) | (with_reducible refine Below.allocS ?_ _) | (with_reducible refine Below.moreS ?_ _) | (with_reducible refine Below.drew ?_) | (with_reducible refine below_drewN ?_ _)))⟩
  · obtain ⟨k, rfl⟩ : ∃ k : Nat, n = (k : Int) + 1 := ⟨(n - 1).toNat, by omega⟩
    have hk : k < injW.length := by show k < 26; omega
    have hr : injN ((k : Int) + 1) = injW[k] := by unfold injN; rw [if_neg h, inj_at k hk]; congr 1; omega
    have HS := Lib.hid (split_words injT 32 injW inj_cut m w (by decide) hM)
    have hlen : injW.length = 26 := rfl
    rw [hlen] at HS
    rw [hr]
    have h1 : ¬ (k : Int) + 1 < 1 := by omega
    have h2 : ¬ 26 < (k : Int) + 1 := by omega
    have hk26 : k < 26 := hk
    have hw1 : IntKind.i64.wrap ((k : Int) + 1 - 1) = k := by rw [show (k : Int) + 1 - 1 = k by omega]; exact IntWalk.i64_in _ (by omega)
    have hw2 : IntKind.i64.wrap (k : Int) = k := IntWalk.i64_in _ (by omega)
    generalize hT : injW[k] = T
    clear hr h hM hlen
    go_enter Tryd.func7, Tryd.ntmps7
    go_wp2_with fail
    refine HS.out.mono ?_
    rintro e w' ⟨rfl, j, rfl, hx⟩
    obtain ⟨hg, c⟩ := SlX_zero hx hk
    have c0 : (w.more j).cell? ⟨w.heap.size, k, none⟩ = some (bstr T) := by rw [← hT]; exact c
    clear hx c
    go_wp2_with fail
    go_ret
    exact ⟨rfl, Below.junk (by repeat (first | (with_reducible exact Below.refl _ _) | (with_reducible refine Below.allocS ?_ _) | (with_reducible refine Below.moreS ?_ _) | (with_reducible refine Below.drew ?_) | (with_reducible refine below_drewN ?_ _)))⟩

set_option maxHeartbeats 4000000 in
set_option maxRecDepth 100000 in
theorem inject_ByName (s : List UInt8) (m : Int) (w : World) (hM : w.cell? MaxA = some (.int .i64 m)) : Calls Tryd.prog 6 #[bstr s] w fun e w' => e = .returned (.tuple #[.int .i64 (idxX injW s + 1), .bool (decide (0 ≤ idxX injW s))]) ∧ ∃ j, w' = w.more j := by
  have HS := Lib.hid (split_words injT 32 injW inj_cut m w (by decide) hM)
  have hb := seekX_lo s injW 0
  have hlen : injW.length = 26 := rfl
  rw [hlen] at hb
  have HI : Hid (∀ W, SlX W W.heap.size (some ⟨w.heap.size, 0, none⟩) injW → Calls Tryd.prog 9 #[.slice (some ⟨w.heap.size, 0, none⟩) injW.length injW.length, bstr s] W fun e w' => e = .returned (.int .i64 (idxX injW s)) ∧ ∃ j, w' = W.more j) := fun W h => slices_IndexX _ injW _ s (by rw [hlen]; omega) W h
  rw [hlen] at HS HI
  have hb2 : -1 ≤ idxX injW s ∧ idxX injW s < 26 := by unfold idxX; omega
  generalize idxX injW s = i at HI hb2 ⊢
  have hw1 : IntKind.i64.wrap (i + 1) = i + 1 := IntWalk.i64_in _ (by omega)
  clear hM hb hlen
  by_cases h0 : 0 ≤ i
  all_goals
    go_enter Tryd.func6, Tryd.ntmps6
    go_wp2_with fail
    refine HS.out.mono ?_
    rintro e w' ⟨rfl, j, rfl, hx⟩
    have HX := Lib.hid hx
    clear hx
    go_wp2_with fail
    refine (HI.out _ HX.out).mono ?_
    rintro e w' ⟨rfl, j2, rfl⟩
    go_wp2_with fail
    go_ret2
    exact ⟨by simp [h0], Below.junk (by repeat (first | (with_reducible exact Below.refl _ _) | (with_reducible refine Below.allocS ?_ _) | (with_reducible refine Below.moreS ?_ _) | (with_reducible refine Below.drew ?_) | (with_reducible refine below_drewN ?_ _)))⟩

def NamesI (n : Nat) (f : Nat → List UInt8) (w : World) (e : Ending) (w' : World) : Prop := ∃ g j, e = .returned (.slice (some ⟨g, 0, none⟩) n n) ∧ (∀ k, k < n → w'.cell? ⟨g, k, none⟩ = some (bstr (f k))) ∧ g < w'.heap.size ∧ w' = w.more j
theorem names_moreI {n : Nat} {f : Nat → List UInt8} {w : World} {t : TypeId} {cs : Array Value} (h : ∀ k, k < n → cs[k]? = some (bstr (f k))) : NamesI n f w (.returned (.slice (some ⟨w.heap.size, 0, none⟩) n n)) (w.alloc (.cells cs t)) := by
  obtain ⟨j, hj⟩ : ∃ j, w.alloc (.cells cs t) = w.more j := Below.junk (by repeat (first | (with_reducible exact Below.refl _ _) | (with_reducible refine Below.allocS ?_ _) | (with_reducible refine Below.moreS ?_ _) | (with_reducible refine Below.drew ?_) | (with_reducible refine below_drewN ?_ _)))
  exact ⟨_, j, rfl, fun k hk => (Blk.new w t cs).cell k |>.trans (h k hk), by simp, hj⟩
theorem inj_lit : ∀ m : Fin 26, injW[m.val]? = some (injW.getD m.val []) := by decide +kernel
set_option maxRecDepth 100000 in
theorem ref46_Names (w : World) : Calls Tryd.prog 5 #[] w (NamesI 26 (fun k => injW.getD k []) w) := by
  go_enter Tryd.func5, Tryd.ntmps5
  go_wp2_with fail
  go_ret
  refine names_moreI (cs := (injW.map bstr).toArray) fun k hk => ?_
  simp only [List.getElem?_toArray, List.getElem?_map, inj_lit ⟨k, hk⟩, Option.map_some]
end Go.Proofs.YtgghddhdkfocoaaDoor
