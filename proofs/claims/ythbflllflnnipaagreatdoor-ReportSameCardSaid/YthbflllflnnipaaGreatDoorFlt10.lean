/-
  Faults: texts joined with any byte between.
-/
import Derived.Test.YthbflllflnnipaaGreatDoorMa
namespace Go.Proofs.YthbflllflnnipaaGreatDoor
set_option linter.unusedSimpArgs false
set_option linter.unusedVariables false
set_option linter.unusedSectionVars false
open Go.ChangeShapes Go.WideShapes Go.ChangeAt Go.RowKit Go.Deep Go.Shelf

theorem join_leC (c : UInt8) (l : List (List UInt8)) (h : ∀ x ∈ l, x.length ≤ 1000) : (Lib.join l [c]).length ≤ 1001 * l.length := by
  cases l with
  | nil => simp [Lib.join_nil]
  | cons x r =>
    rw [Lib.join_length]
    have : ∀ m : List (List UInt8), (∀ x ∈ m, x.length ≤ 1000) → Lib.lens m ≤ 1000 * m.length := by
      intro m
      induction m with
      | nil => intro _; simp [Lib.lens]
      | cons y t ih =>
        intro h
        have := ih (fun x hx => h x (by simp [hx]))
        have := h y (by simp)
        simp only [Lib.lens, List.map_cons, List.sum_cons, List.length_cons] at *
        omega
    have := this (x :: r) h
    simp only [List.length_cons, List.length_nil] at *
    omega
theorem strings_joinC (c : UInt8) (a : Option Addr) (cap : Nat) (l : List (List UInt8)) (w : World) (hm : l.length ≤ 100000) (hw : ∀ x ∈ l, x.length ≤ 1000) (hcap : l.length ≤ cap) (hs : SlX w w.heap.size a l) :
    Calls Tryz.prog 67 #[.slice a l.length cap, bstr [c]] w fun e w' => e = .returned (bstr (Lib.join l [c])) ∧ Below w.heap.size w w' := by
  by_cases h0 : l = []
  · subst h0
    exact (Tryz.strings_Join_none a cap ⟨#[c]⟩ w).mono fun e w' ⟨he, hw⟩ => ⟨by rw [he]; rfl, by rw [hw]; exact Below.refl _ _⟩
  · have hp : 0 < l.length := List.length_pos_iff.2 h0
    obtain ⟨b, off, rfl, hb, _, _⟩ := hs.atX hp
    have hj := join_leC c l hw
    have hx : (l.map (fun s => (⟨s.toArray⟩ : ByteArray))).map (·.data.toList) = l := by rw [List.map_map]; exact (List.map_congr_left (fun _ _ => rfl)).trans (List.map_id l)
    have := Tryz.strings_Join b off cap (l.map (fun s => (⟨s.toArray⟩ : ByteArray))) ⟨#[c]⟩ w (fun j x hjx => by
      rw [List.getElem?_map] at hjx
      obtain ⟨y, hy, rfl⟩ := Option.map_eq_some_iff.1 hjx
      obtain ⟨hlt, rfl⟩ := List.getElem?_eq_some_iff.1 hy
      obtain ⟨b', off', e, _, hc, _⟩ := hs.atX hlt
      injection e with e
      injection e with e1 e2
      subst e1 e2
      exact hc) hb (by simp; omega) (by simpa using hcap) (by rw [hx]; show (Lib.join l [c]).length ≤ _; omega)
    rw [hx, List.length_map] at this
    exact this
end Go.Proofs.YthbflllflnnipaaGreatDoor
