/-
  Parts of the proof, one behind the other: contracts of the program and plain laws; no condition of their own.
-/
import Derived.Test.YtfcgdfcekpbliaaGreatDoorMa
import Derived.Laws.Tables
/-
  Rules: their names, their sections, and what they ask.
-/
namespace Go.Proofs.YtfcgdfcekpbliaaGreatDoor
set_option linter.unusedSimpArgs false
set_option linter.unusedVariables false
set_option linter.unusedSectionVars false
open Go.ChangeShapes Go.WideShapes Go.ChangeAt Go.RowKit Go.Deep Go.Shelf

def rulT : List UInt8 := [102, 105, 114, 115, 116, 32, 112, 114, 101, 102, 97, 99, 101, 32, 115, 105, 122, 101, 32, 111, 114, 100, 101, 114, 32, 102, 111, 114, 109, 32, 118, 97, 108, 117, 101, 32, 97, 99, 107, 32, 115, 112, 114, 101, 97, 100, 32, 97, 119, 97, 121, 32, 105, 100, 108, 101, 32, 110, 117, 109, 98, 101, 114, 32, 114, 101, 115, 101, 114, 118, 101, 100, 32, 101, 110, 100, 101, 100, 32, 99, 108, 111, 115, 101, 100, 32, 114, 101, 115, 101, 116, 32, 102, 111, 114, 103, 111, 116, 116, 101, 110, 32, 115, 116, 101, 112, 32, 119, 105, 110, 100, 111, 119, 32, 99, 111, 110, 110, 32, 115, 116, 114, 101, 97, 109, 32, 112, 117, 115, 104, 32, 112, 114, 111, 109, 105, 115, 101, 32, 112, 114, 111, 109, 105, 115, 101, 100, 32, 109, 97, 110, 121, 32, 116, 97, 98, 108, 101, 32, 117, 112, 100, 97, 116, 101, 32, 109, 105, 115, 115, 105, 110, 103, 32, 102, 105, 101, 108, 100, 32, 98, 97, 114, 114, 101, 100, 32, 112, 115, 101, 117, 100, 111, 32, 108, 101, 110, 103, 116, 104, 32, 98, 111, 100, 121, 32, 116, 114, 97, 105, 108, 101, 114, 32, 115, 97, 102, 101, 32, 99, 108, 105, 101, 110, 116]
def rulW : List (List UInt8) := [[102, 105, 114, 115, 116], [112, 114, 101, 102, 97, 99, 101], [115, 105, 122, 101], [111, 114, 100, 101, 114], [102, 111, 114, 109], [118, 97, 108, 117, 101], [97, 99, 107], [115, 112, 114, 101, 97, 100], [97, 119, 97, 121], [105, 100, 108, 101], [110, 117, 109, 98, 101, 114], [114, 101, 115, 101, 114, 118, 101, 100], [101, 110, 100, 101, 100], [99, 108, 111, 115, 101, 100], [114, 101, 115, 101, 116], [102, 111, 114, 103, 111, 116, 116, 101, 110], [115, 116, 101, 112], [119, 105, 110, 100, 111, 119], [99, 111, 110, 110], [115, 116, 114, 101, 97, 109], [112, 117, 115, 104], [112, 114, 111, 109, 105, 115, 101], [112, 114, 111, 109, 105, 115, 101, 100], [109, 97, 110, 121], [116, 97, 98, 108, 101], [117, 112, 100, 97, 116, 101], [109, 105, 115, 115, 105, 110, 103], [102, 105, 101, 108, 100], [98, 97, 114, 114, 101, 100], [112, 115, 101, 117, 100, 111], [108, 101, 110, 103, 116, 104], [98, 111, 100, 121], [116, 114, 97, 105, 108, 101, 114], [115, 97, 102, 101], [99, 108, 105, 101, 110, 116]]
def secT : List UInt8 := [51, 46, 52, 32, 51, 46, 52, 32, 52, 46, 50, 32, 54, 46, 49, 48, 32, 54, 32, 54, 46, 53, 46, 50, 32, 54, 46, 53, 46, 51, 32, 54, 46, 57, 46, 50, 32, 54, 46, 56, 32, 53, 46, 49, 32, 53, 46, 49, 46, 49, 32, 53, 46, 49, 32, 53, 46, 49, 32, 53, 46, 49, 32, 53, 46, 49, 32, 53, 46, 49, 32, 54, 46, 57, 32, 54, 46, 57, 46, 49, 32, 54, 46, 57, 46, 49, 32, 54, 46, 57, 46, 49, 32, 54, 46, 54, 32, 54, 46, 54, 32, 53, 46, 49, 46, 49, 32, 53, 46, 49, 46, 50, 32, 52, 46, 51, 32, 52, 46, 51, 46, 49, 32, 52, 46, 51, 46, 49, 32, 56, 46, 50, 46, 49, 32, 56, 46, 50, 46, 50, 32, 56, 46, 51, 32, 56, 46, 49, 46, 49, 32, 56, 46, 49, 32, 56, 46, 49, 32, 56, 46, 52, 32, 56, 46, 52]
def secW : List (List UInt8) := [[51, 46, 52], [51, 46, 52], [52, 46, 50], [54, 46, 49, 48], [54], [54, 46, 53, 46, 50], [54, 46, 53, 46, 51], [54, 46, 57, 46, 50], [54, 46, 56], [53, 46, 49], [53, 46, 49, 46, 49], [53, 46, 49], [53, 46, 49], [53, 46, 49], [53, 46, 49], [53, 46, 49], [54, 46, 57], [54, 46, 57, 46, 49], [54, 46, 57, 46, 49], [54, 46, 57, 46, 49], [54, 46, 54], [54, 46, 54], [53, 46, 49, 46, 49], [53, 46, 49, 46, 50], [52, 46, 51], [52, 46, 51, 46, 49], [52, 46, 51, 46, 49], [56, 46, 50, 46, 49], [56, 46, 50, 46, 50], [56, 46, 51], [56, 46, 49, 46, 49], [56, 46, 49], [56, 46, 49], [56, 46, 52], [56, 46, 52]]
def askW : List (List UInt8) := [[116, 104, 101, 32, 102, 105, 114, 115, 116, 32, 102, 114, 97, 109, 101, 32, 111, 102, 32, 101, 97, 99, 104, 32, 115, 105, 100, 101, 32, 105, 115, 32, 83, 69, 84, 84, 73, 78, 71, 83, 32, 119, 105, 116, 104, 111, 117, 116, 32, 65, 67, 75], [116, 104, 101, 32, 99, 108, 105, 101, 110, 116, 39, 115, 32, 102, 105, 114, 115, 116, 32, 50, 52, 32, 98, 121, 116, 101, 115, 32, 97, 114, 101, 32, 116, 104, 101, 32, 112, 114, 101, 102, 97, 99, 101], [97, 32, 102, 114, 97, 109, 101, 32, 105, 115, 32, 110, 111, 116, 32, 108, 111, 110, 103, 101, 114, 32, 116, 104, 97, 110, 32, 105, 116, 115, 32, 114, 101, 99, 101, 105, 118, 101, 114, 32, 108, 101, 116, 115], [110, 111, 116, 104, 105, 110, 103, 32, 115, 116, 97, 110, 100, 115, 32, 98, 101, 116, 119, 101, 101, 110, 32, 116, 104, 101, 32, 112, 97, 114, 116, 115, 32, 111, 102, 32, 97, 32, 102, 105, 101, 108, 100, 32, 98, 108, 111, 99, 107], [97, 32, 102, 114, 97, 109, 101, 32, 105, 115, 32, 114, 105, 103, 104, 116, 32, 105, 110, 32, 105, 116, 115, 101, 108, 102], [115, 101, 116, 116, 105, 110, 103, 115, 32, 104, 97, 118, 101, 32, 118, 97, 108, 117, 101, 115, 32, 116, 104, 97, 116, 32, 109, 97, 121, 32, 98, 101], [119, 104, 97, 116, 32, 105, 115, 32, 97, 99, 107, 110, 111, 119, 108, 101, 100, 103, 101, 100, 32, 119, 97, 115, 32, 115, 101, 110, 116], [115, 101, 116, 116, 105, 110, 103, 115, 32, 109, 97, 107, 101, 32, 110, 111, 32, 119, 105, 110, 100, 111, 119, 32, 116, 111, 111, 32, 108, 97, 114, 103, 101], [116, 104, 101, 32, 108, 97, 115, 116, 32, 115, 116, 114, 101, 97, 109, 32, 111, 102, 32, 71, 79, 65, 87, 65, 89, 32, 100, 111, 101, 115, 32, 110, 111, 116, 32, 114, 105, 115, 101], [110, 111, 116, 104, 105, 110, 103, 32, 105, 115, 32, 115, 101, 110, 116, 32, 111, 110, 32, 97, 32, 115, 116, 114, 101, 97, 109, 32, 116, 104, 97, 116, 32, 119, 97, 115, 32, 110, 111, 116, 32, 98, 101, 103, 117, 110], [110, 101, 119, 32, 115, 116, 114, 101, 97, 109, 115, 32, 104, 97, 118, 101, 32, 110, 117, 109, 98, 101, 114, 115, 32, 116, 104, 97, 116, 32, 114, 105, 115, 101], [108, 105, 116, 116, 108, 101, 32, 105, 115, 32, 115, 101, 110, 116, 32, 111, 110, 32, 97, 32, 115, 116, 114, 101, 97, 109, 32, 116, 104, 97, 116, 32, 119, 97, 115, 32, 112, 114, 111, 109, 105, 115, 101, 100], [110, 111, 116, 104, 105, 110, 103, 32, 109, 111, 114, 101, 32, 105, 115, 32, 115, 101, 110, 116, 32, 98, 121, 32, 119, 104, 111, 32, 104, 97, 115, 32, 101, 110, 100, 101, 100], [110, 111, 116, 104, 105, 110, 103, 32, 105, 115, 32, 115, 101, 110, 116, 32, 111, 110, 32, 97, 32, 115, 116, 114, 101, 97, 109, 32, 116, 104, 97, 116, 32, 98, 111, 116, 104, 32, 104, 97, 118, 101, 32, 101, 110, 100, 101, 100], [110, 111, 116, 104, 105, 110, 103, 32, 105, 115, 32, 115, 101, 110, 116, 32, 111, 110, 32, 97, 32, 115, 116, 114, 101, 97, 109, 32, 98, 121, 32, 119, 104, 111, 32, 104, 97, 115, 32, 114, 101, 115, 101, 116, 32, 105, 116], [110, 111, 116, 104, 105, 110, 103, 32, 105, 115, 32, 115, 101, 110, 116, 32, 111, 110, 32, 97, 32, 115, 116, 114, 101, 97, 109, 32, 116, 104, 97, 116, 32, 119, 97, 115, 32, 102, 111, 114, 103, 111, 116, 116, 101, 110], [97, 32, 119, 105, 110, 100, 111, 119, 32, 103, 114, 111, 119, 115, 32, 98, 121, 32, 111, 110, 101, 32, 97, 116, 32, 108, 101, 97, 115, 116], [97, 32, 119, 105, 110, 100, 111, 119, 32, 100, 111, 101, 115, 32, 110, 111, 116, 32, 98, 101, 99, 111, 109, 101, 32, 116, 111, 111, 32, 108, 97, 114, 103, 101], [100, 97, 116, 97, 32, 115, 116, 97, 121, 32, 119, 105, 116, 104, 105, 110, 32, 116, 104, 101, 32, 99, 111, 110, 110, 101, 99, 116, 105, 111, 110, 39, 115, 32, 119, 105, 110, 100, 111, 119], [100, 97, 116, 97, 32, 115, 116, 97, 121, 32, 119, 105, 116, 104, 105, 110, 32, 116, 104, 101, 32, 115, 116, 114, 101, 97, 109, 39, 115, 32, 119, 105, 110, 100, 111, 119], [110, 111, 116, 104, 105, 110, 103, 32, 105, 115, 32, 112, 114, 111, 109, 105, 115, 101, 100, 32, 116, 111, 32, 119, 104, 111, 32, 100, 111, 101, 115, 32, 110, 111, 116, 32, 119, 97, 110, 116, 32, 105, 116], [112, 114, 111, 109, 105, 115, 101, 115, 32, 97, 114, 101, 32, 109, 97, 100, 101, 32, 111, 110, 32, 97, 32, 115, 116, 114, 101, 97, 109, 32, 111, 102, 32, 116, 104, 101, 32, 99, 108, 105, 101, 110, 116, 39, 115, 32, 116, 104, 97, 116, 32, 105, 115, 32, 111, 112, 101, 110], [112, 114, 111, 109, 105, 115, 101, 100, 32, 115, 116, 114, 101, 97, 109, 115, 32, 104, 97, 118, 101, 32, 110, 117, 109, 98, 101, 114, 115, 32, 116, 104, 97, 116, 32, 114, 105, 115, 101], [110, 111, 116, 32, 116, 111, 111, 32, 109, 97, 110, 121, 32, 115, 116, 114, 101, 97, 109, 115, 32, 97, 114, 101, 32, 111, 112, 101, 110], [97, 32, 102, 105, 101, 108, 100, 32, 98, 108, 111, 99, 107, 32, 99, 97, 110, 32, 98, 101, 32, 114, 101, 97, 100], [97, 32, 116, 97, 98, 108, 101, 32, 105, 115, 32, 110, 111, 116, 32, 116, 111, 111, 32, 108, 97, 114, 103, 101], [97, 32, 116, 97, 98, 108, 101, 32, 116, 104, 97, 116, 32, 109, 117, 115, 116, 32, 98, 101, 99, 111, 109, 101, 32, 115, 109, 97, 108, 108, 101, 114, 32, 100, 111, 101, 115], [110, 97, 109, 101, 115, 32, 97, 110, 100, 32, 118, 97, 108, 117, 101, 115, 32, 104, 97, 118, 101, 32, 98, 121, 116, 101, 115, 32, 116, 104, 97, 116, 32, 109, 97, 121, 32, 98, 101], [110, 111, 32, 102, 105, 101, 108, 100, 32, 105, 115, 32, 111, 110, 101, 32, 111, 102, 32, 116, 104, 101, 32, 99, 111, 110, 110, 101, 99, 116, 105, 111, 110, 39, 115, 32, 111, 119, 110], [116, 104, 101, 32, 112, 115, 101, 117, 100, 111, 45, 102, 105, 101, 108, 100, 115, 32, 97, 114, 101, 32, 116, 104, 111, 115, 101, 32, 116, 104, 97, 116, 32, 109, 117, 115, 116, 32, 98, 101], [100, 97, 116, 97, 32, 104, 97, 118, 101, 32, 116, 104, 101, 32, 108, 101, 110, 103, 116, 104, 32, 116, 104, 97, 116, 32, 119, 97, 115, 32, 116, 111, 108, 100], [100, 97, 116, 97, 32, 115, 116, 97, 110, 100, 32, 119, 104, 101, 114, 101, 32, 116, 104, 101, 121, 32, 109, 97, 121], [102, 105, 101, 108, 100, 115, 32, 98, 101, 104, 105, 110, 100, 32, 100, 97, 116, 97, 32, 101, 110, 100, 32, 116, 104, 101, 32, 115, 116, 114, 101, 97, 109], [119, 104, 97, 116, 32, 105, 115, 32, 112, 114, 111, 109, 105, 115, 101, 100, 32, 105, 115, 32, 97, 115, 107, 101, 100, 32, 98, 121, 32, 71, 69, 84, 32, 111, 114, 32, 72, 69, 65, 68], [99, 108, 105, 101, 110, 116, 115, 32, 112, 114, 111, 109, 105, 115, 101, 32, 110, 111, 116, 104, 105, 110, 103]]
set_option maxRecDepth 100000 in
theorem rul_cut : cutF 32 rulT = rulW := by decide +kernel
set_option maxRecDepth 100000 in
theorem sec_cut : cutF 32 secT = secW := by decide +kernel
/-- The text that stands for a rule in a table; none: the empty text. -/
def tabN (l : List (List UInt8)) (n : Int) : List UInt8 := if n < 1 ∨ 35 < n then [] else l.getD (n - 1).toNat []
theorem tab_at (l : List (List UInt8)) (k : Nat) (h : k < l.length) : l[k] = l.getD k [] := by rw [List.getD_eq_getElem?_getD, List.getElem?_eq_getElem h]; rfl
theorem tab_in (l : List (List UInt8)) (k : Nat) (h : k < 35) : tabN l ((k : Int) + 1) = l.getD k [] := by unfold tabN; rw [if_neg (by omega)]; congr 1; omega
theorem tab_out (l : List (List UInt8)) {n : Int} (h : n < 1 ∨ 35 < n) : tabN l n = [] := by unfold tabN; rw [if_pos h]
theorem rul_two : ∀ i j : Fin 35, rulW.getD i.val [] = rulW.getD j.val [] → i = j := by decide +kernel
theorem rul_ne : ∀ i : Fin 35, rulW.getD i.val [] ≠ [] := by decide +kernel
theorem rul_len : ∀ i : Fin 35, (rulW.getD i.val []).length ≤ 9 ∧ (rulW.getD i.val []).all (fun c => !(c == 44)) = true ∧ rulW.getD i.val [] ≠ [45] := by decide +kernel
theorem SlX_zero {w : World} {B g : Nat} {l : List (List UInt8)} (h : SlX w B (some ⟨g, 0, none⟩) l) {k : Nat} (hk : k < l.length) : g < B ∧ w.cell? ⟨g, k, none⟩ = some (bstr l[k]) := by
  obtain ⟨b, off, e, hb, hc, _⟩ := h.atX hk
  injection e with e
  injection e with e1 e2
  subst e1 e2
  rw [Nat.zero_add] at hc
  exact ⟨hb, hc⟩

/-! What a rule asks. -/
theorem ask_lit : ∀ m : Fin 35, askW[m.val]? = some (askW.getD m.val []) := by decide +kernel
theorem wpList_buildV {P : Program} {ops : Array Oper} {rest : List Oper} {o : Oper} {a : Act} {w : World} {Q : Exit → Act → World → Prop} (hg : o.guard = none) (t : TypeId) (parts : Array (Nat × Operand)) (ho : o.op = .build t parts) (cells : Array Value)
    (hf : P.built t (parts.map fun (i, x) => (i, a.eval x)).toList = some cells)
    (h : wpList P ops Q rest (a.put o.dst (.agg cells)) w) : wpList P ops Q (o :: rest) a w :=
  wpList_build hg t parts ho (by rw [hf]; rfl) (by rw [hf]; exact h)
theorem setRow_new (w : World) (t : TypeId) (a b : Array Value) : (w.alloc (.cells a t)).setRow w.heap.size b = w.alloc (.cells b t) := by
  unfold World.setRow World.alloc
  congr 1
  apply Array.ext_getElem?
  intro i
  rw [Array.getElem?_modify, Array.getElem?_push, Array.getElem?_push]
  by_cases h : w.heap.size = i
  · subst h; simp
  · rw [if_neg h, if_neg (fun e => h e.symm), if_neg (fun e => h e.symm)]
def AsksV : Value := .agg (askW.map bstr).toArray
end Go.Proofs.YtfcgdfcekpbliaaGreatDoor
/-
  Rules: the document's tables, and what a rule asks.
-/
namespace Go.Proofs.YtfcgdfcekpbliaaGreatDoor
set_option linter.unusedSimpArgs false
set_option linter.unusedVariables false
set_option linter.unusedSectionVars false
open Go.ChangeShapes Go.WideShapes Go.ChangeAt Go.RowKit Go.Deep Go.Shelf

/-- A row of texts that is new. -/
def NamesR (n : Nat) (f : Nat → List UInt8) (w : World) (e : Ending) (w' : World) : Prop := ∃ g j, e = .returned (.slice (some ⟨g, 0, none⟩) n n) ∧ (∀ k, k < n → w'.cell? ⟨g, k, none⟩ = some (bstr (f k))) ∧ g < w'.heap.size ∧ w' = w.more j
theorem names_moreR {n : Nat} {f : Nat → List UInt8} {w : World} {t : TypeId} {cs : Array Value} (h : ∀ k, k < n → cs[k]? = some (bstr (f k))) : NamesR n f w (.returned (.slice (some ⟨w.heap.size, 0, none⟩) n n)) (w.alloc (.cells cs t)) := by
  obtain ⟨j, hj⟩ : ∃ j, w.alloc (.cells cs t) = w.more j := Below.junk bel
  exact ⟨_, j, rfl, fun k hk => (Blk.new w t cs).cell k |>.trans (h k hk), by simp, hj⟩
theorem ref38_names_lit : ∀ m : Fin 35, (rulW)[m.val]? = some ((fun k => rulW.getD k []) m.val) := by decide +kernel
theorem ref38_sections_lit : ∀ m : Fin 35, (secW)[m.val]? = some ((fun k => secW.getD k []) m.val) := by decide +kernel
theorem ref38_sentences_lit : ∀ m : Fin 18, (askW.take 18)[m.val]? = some ((fun k => askW.getD k []) m.val) := by decide +kernel
theorem ref38_others_lit : ∀ m : Fin 17, (askW.drop 18)[m.val]? = some ((fun k => askW.getD (18 + k) []) m.val) := by decide +kernel
end Go.Proofs.YtfcgdfcekpbliaaGreatDoor
/-
  Rules: sets of them, and their texts: plain laws; no walk.
-/
namespace Go.Proofs.YtfcgdfcekpbliaaGreatDoor
set_option linter.unusedSimpArgs false
set_option linter.unusedVariables false
set_option linter.unusedSectionVars false
open Go.ChangeShapes Go.WideShapes Go.ChangeAt Go.RowKit Go.Deep

def rulR (n : Int) : Bool := decide (1 ≤ n) && decide (n ≤ 35)
abbrev nameR (n : Int) : List UInt8 := tabN rulW n
def numR (s : List UInt8) : Int := idxX rulW s + 1
def ofR (l : List Int) : List Int := setS ltI (l.filter rulR)
def showR (l : List Int) : List UInt8 := if ofR l = [] then [45] else Lib.join ((ofR l).map nameR) [44]
theorem rul_in {n : Int} (h : rulR n = true) : ∃ k : Nat, n = (k : Int) + 1 ∧ k < 35 := by
  simp only [rulR, Bool.and_eq_true, decide_eq_true_eq] at h
  exact ⟨(n - 1).toNat, by omega, by omega⟩
theorem rul_idx (k : Nat) (hk : k < 35) : idxX rulW (rulW.getD k []) = (k : Int) := by
  have hk' : k < rulW.length := hk
  have := seekX_hit (rulW.getD k []) rulW 0 k hk' (tab_at _ k hk') (fun j hj hjk e => by
    rw [tab_at rulW j hj] at e
    have := rul_two ⟨j, hj⟩ ⟨k, hk⟩ e
    have h9 : j = k := congrArg Fin.val this
    omega)
  rw [Nat.zero_add] at this
  exact this
theorem nameR_in (k : Nat) (hk : k < 35) : nameR ((k : Int) + 1) = rulW.getD k [] := tab_in rulW k hk
theorem nameR_no {n : Int} (h : rulR n = false) : nameR n = [] := tab_out rulW (by simp [rulR] at h; omega)
theorem nameR_e (n : Int) : (nameR n == []) = !rulR n := by
  cases h : rulR n with
  | false => rw [nameR_no h]; rfl
  | true =>
    obtain ⟨k, rfl, hk⟩ := rul_in h
    rw [nameR_in k hk]
    have := rul_ne ⟨k, hk⟩
    simpa using this
theorem nameR_emp (n : Int) : (tabN rulW n).isEmpty = !rulR n := by
  have h : (tabN rulW n == []) = !rulR n := nameR_e n
  rw [← h]
  generalize tabN rulW n = x
  cases x <;> rfl
theorem nameR_len (n : Int) : (nameR n).length ≤ 9 := by
  cases h : rulR n with
  | false => rw [nameR_no h]; simp
  | true =>
    obtain ⟨k, rfl, hk⟩ := rul_in h
    rw [nameR_in k hk]
    exact (rul_len ⟨k, hk⟩).1
theorem nameR_comma (n : Int) : (44 : UInt8) ∉ nameR n := by
  cases h : rulR n with
  | false => rw [nameR_no h]; simp
  | true =>
    obtain ⟨k, rfl, hk⟩ := rul_in h
    rw [nameR_in k hk]
    have := (rul_len ⟨k, hk⟩).2.1
    intro hm
    have := List.all_eq_true.1 this 44 hm
    simp at this
theorem nameR_dash {n : Int} (h : rulR n = true) : nameR n ≠ [45] := by
  obtain ⟨k, rfl, hk⟩ := rul_in h
  rw [nameR_in k hk]
  exact (rul_len ⟨k, hk⟩).2.2
theorem numR_name {n : Int} (h : rulR n = true) : idxX rulW (nameR n) + 1 = n := by
  obtain ⟨k, rfl, hk⟩ := rul_in h
  rw [nameR_in k hk, rul_idx k hk]
theorem name_numR {s : List UInt8} (h : 0 ≤ idxX rulW s) : rulR (idxX rulW s + 1) = true ∧ nameR (idxX rulW s + 1) = s := by
  obtain ⟨k, hk⟩ : ∃ k : Nat, idxX rulW s = (k : Int) := ⟨(idxX rulW s).toNat, by omega⟩
  obtain ⟨h1, h2⟩ := seekX_at s rulW 0 k (by rw [Nat.zero_add]; exact hk)
  have h35 : k < 35 := h1
  rw [hk, nameR_in k h35, ← tab_at rulW k h1]
  exact ⟨by simp [rulR]; omega, h2⟩
theorem mem_ofR (l : List Int) (x : Int) : x ∈ ofR l ↔ x ∈ l ∧ rulR x = true := by unfold ofR; rw [mem_setS, List.mem_filter]
theorem strict_ofR (l : List Int) : Strict ltI (ofR l) := strict_setS ordI _
theorem ofR_len (l : List Int) : (ofR l).length ≤ l.length := Nat.le_trans (setS_len _) (List.length_filter_le _ _)
theorem ofR_self {l : List Int} (h1 : ∀ x ∈ l, rulR x = true) (h2 : Strict ltI l) : ofR l = l := by
  unfold ofR
  rw [List.filter_eq_self.2 h1, setS_of_strict ordI h2]
theorem ofR_of (l : List Int) : ofR (ofR l) = ofR l := ofR_self (fun x hx => ((mem_ofR l x).1 hx).2) (strict_ofR l)
theorem cut_showR {l : List Int} (h : ofR l ≠ []) : cutF 44 (showR l) = (ofR l).map nameR := by
  unfold showR
  rw [if_neg h]
  exact cut_join 44 _ (by simpa using h) (fun w hw => by obtain ⟨n, _, rfl⟩ := List.mem_map.1 hw; exact nameR_comma n)
theorem showR_ne {l : List Int} (h : ofR l ≠ []) : showR l ≠ [45] := by
  intro e
  have hc := cut_showR h
  rw [e, show cutF 44 [45] = [[45]] from by decide] at hc
  have hm : [45] ∈ (ofR l).map nameR := by rw [← hc]; simp
  obtain ⟨n, hn, e2⟩ := List.mem_map.1 hm
  exact nameR_dash ((mem_ofR l n).1 hn).2 e2

/-! Read back. -/
def okI (last : Option Int) (n : Int) : Bool := match last with
  | none => true
  | some m => decide (m < n)
def goR : List (List UInt8) → Option Int → Option (List Int)
  | [], _ => some []
  | x :: r, last => if 0 ≤ idxX rulW x ∧ okI last (idxX rulW x + 1) = true then (goR r (some (idxX rulW x + 1))).map ((idxX rulW x + 1) :: ·) else none
def endP : Option (List Int) → List Int × Bool
  | some l => (l, true)
  | none => ([], false)
def setRP (s : List UInt8) : List Int × Bool := if s = [45] then ([], true) else endP (goR (cutF 44 s) none)
def setRD (s : List UInt8) : List Int × Bool := if s = [45] then ([], true) else if showR ((cutF 44 s).map numR) = s then (ofR ((cutF 44 s).map numR), true) else ([], false)
theorem goR_all : ∀ {p : List (List UInt8)} {last : Option Int} {l : List Int}, goR p last = some l ↔ p = l.map nameR ∧ (∀ x ∈ l, rulR x = true) ∧ Strict ltI l ∧ (∀ m, last = some m → ∀ x ∈ l, m < x)
  | [], last, l => by
    unfold goR
    constructor
    · intro h
      injection h with h
      subst h
      exact ⟨rfl, by simp, List.Pairwise.nil, by simp⟩
    · rintro ⟨h, _⟩
      have : l = [] := by simpa using h.symm
      rw [this]
  | x :: r, last, l => by
    unfold goR
    constructor
    · intro h
      split at h
      · rename_i hc
        obtain ⟨l', h1, rfl⟩ := Option.map_eq_some_iff.1 h
        obtain ⟨g1, g2, g3, g4⟩ := goR_all.1 h1
        obtain ⟨n1, n2⟩ := name_numR hc.1
        refine ⟨by rw [List.map_cons, n2, ← g1], ?_, List.pairwise_cons.2 ⟨fun y hy => by have := g4 _ rfl y hy; simpa [ltI] using this, g3⟩, ?_⟩
        · intro y hy
          rcases List.mem_cons.1 hy with rfl | hy
          · exact n1
          · exact g2 y hy
        · intro m hm y hy
          subst hm
          have h2 := hc.2
          simp only [okI, decide_eq_true_eq] at h2
          rcases List.mem_cons.1 hy with rfl | hy
          · exact h2
          · have := g4 _ rfl y hy; omega
      · cases h
    · rintro ⟨h1, h2, h3, h4⟩
      cases l with
      | nil => simp at h1
      | cons n l' =>
        rw [List.map_cons] at h1
        injection h1 with h1 h1'
        have hn := numR_name (h2 n (by simp))
        rw [← h1] at hn
        unfold Strict at h3
        rw [List.pairwise_cons] at h3
        have hr := h2 n (by simp)
        simp only [rulR, Bool.and_eq_true, decide_eq_true_eq] at hr
        have hok : okI last n = true := by
          cases last with
          | none => rfl
          | some m => have := h4 m rfl n (by simp); simpa [okI] using this
        rw [hn, if_pos ⟨by omega, hok⟩, goR_all.2 ⟨h1', fun y hy => h2 y (by simp [hy]), h3.2, fun m hm y hy => by injection hm with hm; subst hm; have := h3.1 y hy; simpa [ltI] using this⟩]
        rfl
theorem map_num_name {l : List Int} (h : ∀ x ∈ l, rulR x = true) : (l.map nameR).map numR = l := by
  rw [List.map_map]
  refine (List.map_congr_left fun x hx => ?_).trans (List.map_id l)
  exact numR_name (h x hx)
theorem setR_eq (s : List UInt8) : setRP s = setRD s := by
  unfold setRP setRD
  by_cases h0 : s = [45]
  · rw [if_pos h0, if_pos h0]
  rw [if_neg h0, if_neg h0]
  cases hg : goR (cutF 44 s) none with
  | some l =>
    obtain ⟨g1, g2, g3, _⟩ := goR_all.1 hg
    have hne : l ≠ [] := by
      obtain ⟨a, t, e⟩ := cut_ne 44 s
      intro hl
      rw [hl, e] at g1
      simp at g1
    have ho := ofR_self g2 g3
    rw [g1, map_num_name g2]
    have hs : showR l = s := by
      unfold showR
      rw [ho, if_neg hne, ← g1, join_cut]
    rw [if_pos hs, ho]
    rfl
  | none =>
    rw [if_neg]
    · rfl
    · intro hs
      generalize (cutF 44 s).map numR = ns at hs
      have hne : ofR ns ≠ [] := by
        intro hn
        unfold showR at hs
        rw [if_pos hn] at hs
        exact h0 hs.symm
      have hc := cut_showR hne
      rw [hs] at hc
      have := (goR_all (p := cutF 44 s) (last := none) (l := ofR ns)).2 ⟨hc, fun x hx => ((mem_ofR ns x).1 hx).2, strict_ofR ns, by simp⟩
      rw [hg] at this
      cases this
theorem setR_show (l : List Int) : setRP (showR l) = (ofR l, true) := by
  by_cases hn : ofR l = []
  · have : showR l = [45] := by unfold showR; rw [if_pos hn]
    rw [this, hn]; rfl
  · unfold setRP
    rw [if_neg (showR_ne hn), cut_showR hn, goR_all.2 ⟨rfl, fun x hx => ((mem_ofR l x).1 hx).2, strict_ofR l, by simp⟩]
    rfl
theorem setRD_len (s : List UInt8) : (setRD s).1.length ≤ s.length + 1 := by
  unfold setRD
  split
  · simp
  · split
    · have h1 := ofR_len ((cutF 44 s).map numR)
      have h2 := cut_len 44 s
      rw [List.length_map] at h1
      simp only
      omega
    · simp

/-! A rising list, up to a number. -/
theorem upto_step (S : List Int) (hS : Strict ltI S) (r : Int) : S.filter (fun x => decide (x < r + 1)) = S.filter (fun x => decide (x < r)) ++ (if r ∈ S then [r] else []) := by
  induction S with
  | nil => simp
  | cons a t ih =>
    unfold Strict at hS
    rw [List.pairwise_cons] at hS
    have ih := ih hS.2
    rcases Int.lt_trichotomy a r with h | h | h
    · rw [List.filter_cons_of_pos (by simp; omega), List.filter_cons_of_pos (by simp; omega), ih]
      have : (r ∈ a :: t) ↔ r ∈ t := by simp; intro e; omega
      simp only [this, List.cons_append]
    · subst h
      have h1 : t.filter (fun x => decide (x < a + 1)) = [] := List.filter_eq_nil_iff.2 fun x hx => by have := hS.1 x hx; simp [ltI] at this ⊢; omega
      have h2 : t.filter (fun x => decide (x < a)) = [] := List.filter_eq_nil_iff.2 fun x hx => by have := hS.1 x hx; simp [ltI] at this ⊢; omega
      rw [List.filter_cons_of_pos (by simp; omega), List.filter_cons_of_neg (by simp), h1, h2, if_pos (by simp)]
      rfl
    · have h1 : ∀ y ∈ t, r < y := fun y hy => by have := hS.1 y hy; simp [ltI] at this; omega
      have h2 : ¬ r ∈ a :: t := by
        intro hm
        rcases List.mem_cons.1 hm with e | hm
        · omega
        · have := h1 r hm; omega
      rw [List.filter_cons_of_neg (by simp; omega), List.filter_cons_of_neg (by simp; omega), if_neg h2, ih, if_neg (fun hm => h2 (by simp [hm]))]
theorem upto_start (l : List Int) : (ofR l).filter (fun x => decide (x < 1)) = [] := List.filter_eq_nil_iff.2 fun x hx => by
  have := ((mem_ofR l x).1 hx).2
  simp [rulR] at this ⊢
  omega
theorem upto_end (l : List Int) : (ofR l).filter (fun x => decide (x < 36)) = ofR l := List.filter_eq_self.2 fun x hx => by
  have := ((mem_ofR l x).1 hx).2
  simp [rulR] at this ⊢
  omega
theorem showR_step (S : List Int) (k : Nat) (hk : k < S.length) (h0 : 0 < k) : Lib.join ((S.take (k + 1)).map nameR) [44] = Lib.join ((S.take k).map nameR) [44] ++ [44] ++ nameR S[k] := by
  rw [List.map_take, List.map_take, take_join_c 44 _ k (by simpa using hk), if_neg (by omega)]
  simp
end Go.Proofs.YtfcgdfcekpbliaaGreatDoor
