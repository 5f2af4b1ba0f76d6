/-
  Scenarios: the program's reader of a step.
-/
import Derived.Test.YtfcgdfcekpbliaaGreatDoorScv4
namespace Go.Proofs.YtfcgdfcekpbliaaGreatDoor
set_option linter.unusedSimpArgs false
set_option linter.unusedVariables false
set_option linter.unusedSectionVars false
open Go.ChangeShapes Go.WideShapes Go.ChangeAt Go.RowKit Go.Deep Go.Shelf

theorem rd_step {B : Nat} (g : Nat) (L : List (List UInt8)) (b : Bool) (hL : L.length ≤ 100000) (hLl : ∀ x ∈ L, x.length ≤ 90000) (w0 w : World) (hb : Rb w0 g w) (hd : Hd w0) (hS : Rd B w g L b) :
    Calls Tryz.prog 31 #[.pointer (some ⟨g, 0, none⟩)] w (RsP B g (stepP L b).1 (stepP L b).2.1 (stepP L b).2.2 w) := by
  obtain ⟨p1, p2, p3, hp⟩ : ∃ p1 p2 p3, rdW L b = (p1, p2, p3) := ⟨_, _, _, rfl⟩
  have hk := kindW_head p1
  have hv : kindW p1 = 0 ∨ kindW p1 = 1 ∨ kindW p1 = 2 ∨ kindW p1 = 3 ∨ kindW p1 = 4 ∨ kindW p1 = 5 ∨ kindW p1 = 6 ∨ kindW p1 = 7 ∨ kindW p1 = 8 := by
    by_cases h : kindW p1 = 0
    · exact .inl h
    · obtain ⟨_, h1, h2⟩ := hk h
      omega
  have hst : stepP L b = (let p := rdW L b; stepP L b) := rfl
  clear hst hk
  obtain ⟨n1, q2, q3, hn⟩ : ∃ n1 q2 q3, rdN p2 (p3 || decide (kindW p1 = 0)) = (n1, q2, q3) := ⟨_, _, _, rfl⟩
  obtain ⟨n2, m2, m3, hm⟩ : ∃ n2 m2 m3, rdN q2 q3 = (n2, m2, m3) := ⟨_, _, _, rfl⟩
  rcases hv with h | h | h | h | h | h | h | h | h
  · have e : stepP L b = (⟨0, 0, 0, false, [], []⟩, p2, p3 || decide ((0 : Int) = 0)) := by unfold stepP; simp [hp, h]
    rw [e]
    exact rd_step_zero g L b hL hLl w0 w hb hd hS p1 p2 p3 hp h
  · rw [h] at hn
    obtain ⟨en, e2, e3, he⟩ : ∃ en e2 e3, rdE [101, 110, 100] [111, 112, 101, 110] q2 q3 = (en, e2, e3) := ⟨_, _, _, rfl⟩
    obtain ⟨ls, f2, f3, hf⟩ : ∃ ls f2 f3, manyP oneF e2.length e2 e3 = (ls, f2, f3) := ⟨_, _, _, rfl⟩
    have e : stepP L b = (⟨1, n1, 0, en, ls, []⟩, f2, f3) := by unfold stepP; simp only [hp, h, hn, he, hf]; rfl
    rw [e]
    exact rd_step_headers g L b hL hLl w0 w hb hd hS p1 p2 p3 hp h n1 q2 q3 hn en e2 e3 he ls f2 f3 hf
  · rw [h] at hn
    obtain ⟨en, e2, e3, he⟩ : ∃ en e2 e3, rdE [101, 110, 100] [111, 112, 101, 110] m2 m3 = (en, e2, e3) := ⟨_, _, _, rfl⟩
    have e : stepP L b = (⟨2, n1, n2, en, [], []⟩, e2, e3) := by unfold stepP; simp only [hp, h, hn, hm, he]; rfl
    rw [e]
    exact rd_step_data g L b hL hLl w0 w hb hd hS p1 p2 p3 hp h n1 q2 q3 hn n2 m2 m3 hm en e2 e3 he
  · obtain ⟨ls, f2, f3, hf⟩ : ∃ ls f2 f3, manyP oneS p2.length p2 (p3 || decide ((3 : Int) = 0)) = (ls, f2, f3) := ⟨_, _, _, rfl⟩
    have e : stepP L b = (⟨3, 0, 0, false, [], ls⟩, f2, f3) := by unfold stepP; simp only [hp, h, hf]; rfl
    rw [e]
    exact rd_step_set g L b hL hLl w0 w hb hd hS p1 p2 p3 hp h ls f2 f3 hf
  · rw [h] at hn
    have e : stepP L b = (⟨4, n1, n2, false, [], []⟩, m2, m3) := by unfold stepP; simp only [hp, h, hn, hm]; rfl
    rw [e]
    exact rd_step_two4 g L b hL hLl w0 w hb hd hS p1 p2 p3 hp h n1 q2 q3 hn n2 m2 m3 hm
  · rw [h] at hn
    have e : stepP L b = (⟨5, n1, n2, false, [], []⟩, m2, m3) := by unfold stepP; simp only [hp, h, hn, hm]; rfl
    rw [e]
    exact rd_step_two5 g L b hL hLl w0 w hb hd hS p1 p2 p3 hp h n1 q2 q3 hn n2 m2 m3 hm
  · rw [h] at hn
    have e : stepP L b = (⟨6, 0, n1, false, [], []⟩, q2, q3) := by unfold stepP; simp only [hp, h, hn]; rfl
    rw [e]
    exact rd_step_one6 g L b hL hLl w0 w hb hd hS p1 p2 p3 hp h n1 q2 q3 hn
  · rw [h] at hn
    have e : stepP L b = (⟨7, 0, n1, false, [], []⟩, q2, q3) := by unfold stepP; simp only [hp, h, hn]; rfl
    rw [e]
    exact rd_step_one7 g L b hL hLl w0 w hb hd hS p1 p2 p3 hp h n1 q2 q3 hn
  · rw [h] at hn
    have e : stepP L b = (⟨8, 0, n1, false, [], []⟩, q2, q3) := by unfold stepP; simp only [hp, h, hn]; rfl
    rw [e]
    exact rd_step_one8 g L b hL hLl w0 w hb hd hS p1 p2 p3 hp h n1 q2 q3 hn
end Go.Proofs.YtfcgdfcekpbliaaGreatDoor
