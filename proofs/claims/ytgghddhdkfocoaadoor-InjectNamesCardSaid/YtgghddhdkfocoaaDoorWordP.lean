/-
  Words: plain laws.
-/
import Derived.Test.YtgghddhdkfocoaaDoorBase
import Derived.Lib.Bytealg
namespace Go.Proofs.YtgghddhdkfocoaaDoor
set_option linter.unusedSimpArgs false
set_option linter.unusedVariables false
set_option linter.unusedSectionVars false
open Go.ChangeShapes Go.WideShapes Go.ChangeAt Go.RowKit Go.Deep

theorem all_bytes {P : UInt8 → Prop} (h : ∀ n : Fin 256, P (UInt8.ofNat n.val)) (c : UInt8) : P c := by
  have := h ⟨c.toNat, c.toNat_lt⟩
  simpa using this
abbrev hexD : List UInt8 := [48, 49, 50, 51, 52, 53, 54, 55, 56, 57, 97, 98, 99, 100, 101, 102]
def plB (c : UInt8) : Bool := decide (32 < c.toNat) && decide (c.toNat < 127) && !(c == 37)
def pairB (c : UInt8) : List UInt8 := [hexD.getD (c.toNat / 16) 0, hexD.getD (c.toNat % 16) 0]
def quB (c : UInt8) : List UInt8 := if plB c = true then [c] else 37 :: pairB c
def quoteF (l : List UInt8) : List UInt8 := if l = [] then [37] else l.flatMap quB
def hexI (c : UInt8) : Int := Lib.indexByte hexD c
def byteOf (h l : UInt8) : UInt8 := UInt8.ofNat (16 * (hexI h).toNat + (hexI l).toNat)
theorem hexI_bd (c : UInt8) : -1 ≤ hexI c ∧ hexI c ≤ 15 := all_bytes (P := fun c => -1 ≤ hexI c ∧ hexI c ≤ 15) (by decide +kernel) c
theorem hexI_back (c : UInt8) : 0 ≤ hexI c → hexD.getD (hexI c).toNat 0 = c := all_bytes (P := fun c => 0 ≤ hexI c → hexD.getD (hexI c).toNat 0 = c) (by decide +kernel) c
theorem hexI_of (n : Nat) (h : n < 16) : hexI (hexD.getD n 0) = n := by
  have : ∀ m : Fin 16, hexI (hexD.getD m.val 0) = m.val := by decide +kernel
  exact this ⟨n, h⟩
theorem byteOf_nat {h l : UInt8} (hh : 0 ≤ hexI h) (hl : 0 ≤ hexI l) : (byteOf h l).toNat = 16 * (hexI h).toNat + (hexI l).toNat := by
  have := hexI_bd h
  have := hexI_bd l
  unfold byteOf
  rw [UInt8.toNat_ofNat', Nat.mod_eq_of_lt (by omega)]
theorem pairB_byteOf {h l : UInt8} (hh : 0 ≤ hexI h) (hl : 0 ≤ hexI l) : pairB (byteOf h l) = [h, l] := by
  have b1 := hexI_bd h
  have b2 := hexI_bd l
  unfold pairB
  rw [byteOf_nat hh hl, show (16 * (hexI h).toNat + (hexI l).toNat) / 16 = (hexI h).toNat by omega, show (16 * (hexI h).toNat + (hexI l).toNat) % 16 = (hexI l).toNat by omega, hexI_back h hh, hexI_back l hl]
theorem byteOf_pair (c : UInt8) : byteOf (hexD.getD (c.toNat / 16) 0) (hexD.getD (c.toNat % 16) 0) = c := by
  have := c.toNat_lt
  unfold byteOf
  rw [hexI_of _ (by omega), hexI_of _ (by omega)]
  simp only [Int.toNat_natCast]
  rw [Nat.div_add_mod]
  simp
theorem pl_37 {c : UInt8} (h : plB c = true) : c ≠ 37 := by
  intro he; subst he; simp [plB] at h

/-! There and back. -/
def unqP : List UInt8 → Option (List UInt8)
  | [] => some []
  | [c] => if plB c = true then some [c] else none
  | [c, d] => if plB c = true then (if plB d = true then some [c, d] else none) else none
  | c :: h :: l :: r => if plB c = true then (unqP (h :: l :: r)).map (c :: ·) else if (c == 37) = true ∧ 0 ≤ hexI h ∧ 0 ≤ hexI l ∧ plB (byteOf h l) = false then (unqP r).map (byteOf h l :: ·) else none
def unqR : List UInt8 → Option (List UInt8)
  | [] => some []
  | [c] => if (c == 37) = false then some [c] else none
  | [c, d] => if (c == 37) = false then (if (d == 37) = false then some [c, d] else none) else none
  | c :: h :: l :: r => if (c == 37) = false then (unqR (h :: l :: r)).map (c :: ·) else if 0 ≤ hexI h ∧ 0 ≤ hexI l then (unqR r).map (byteOf h l :: ·) else none
theorem unqP_plain {c : UInt8} {r : List UInt8} (h : plB c = true) : unqP (c :: r) = (unqP r).map (c :: ·) := by
  match r with
  | [] => simp [unqP, h]
  | [d] => by_cases hd : plB d = true <;> simp [unqP, h, hd]
  | a :: b :: r => simp [unqP, h]
theorem unqR_plain {c : UInt8} {r : List UInt8} (h : (c == 37) = false) : unqR (c :: r) = (unqR r).map (c :: ·) := by
  match r with
  | [] => simp only [unqR, h, if_true]; rfl
  | [d] => cases hd : (d == 37) <;> simp only [unqR, h, hd, if_true] <;> rfl
  | a :: b :: r => simp only [unqR, h, if_true]
theorem unqP_R : ∀ (n : Nat) (w o : List UInt8), w.length ≤ n → unqP w = some o → unqR w = some o ∧ o.flatMap quB = w
  | _, [], o, _, h => by simp [unqP] at h; subst h; exact ⟨rfl, rfl⟩
  | 0, c :: r, _, hn, _ => by simp at hn
  | n + 1, c :: r, o, hn, h => by
    by_cases hc : plB c = true
    · rw [unqP_plain hc] at h
      obtain ⟨o', h1, rfl⟩ := Option.map_eq_some_iff.1 h
      have ih := unqP_R n r o' (by simpa using hn) h1
      have h37 : (c == 37) = false := by simpa using pl_37 hc
      rw [unqR_plain h37, ih.1]
      refine ⟨rfl, ?_⟩
      rw [List.flatMap_cons, ih.2]
      simp [quB, hc]
    · match r, h with
      | [], h => simp [unqP, hc] at h
      | [d], h => simp [unqP, hc] at h
      | a :: b :: r', h =>
        simp only [unqP, if_neg hc] at h
        by_cases hg : (c == 37) = true ∧ 0 ≤ hexI a ∧ 0 ≤ hexI b ∧ plB (byteOf a b) = false
        · rw [if_pos hg] at h
          obtain ⟨o', h1, rfl⟩ := Option.map_eq_some_iff.1 h
          have ih := unqP_R n r' o' (by simp at hn; omega) h1
          obtain ⟨g1, g2, g3, g4⟩ := hg
          simp only [unqR, g1]
          rw [if_neg (by simp), if_pos ⟨g2, g3⟩, ih.1]
          refine ⟨rfl, ?_⟩
          rw [List.flatMap_cons, ih.2]
          have hc37 : c = 37 := by simpa using g1
          simp only [quB, g4, Bool.false_eq_true, if_false, pairB_byteOf g2 g3, hc37]
          rfl
        · rw [if_neg hg] at h; cases h
theorem unqR_P : ∀ (n : Nat) (w o : List UInt8), w.length ≤ n → unqR w = some o → o.flatMap quB = w → unqP w = some o
  | _, [], o, _, h, _ => by simp [unqR] at h; subst h; rfl
  | 0, c :: r, _, hn, _, _ => by simp at hn
  | n + 1, c :: r, o, hn, h, hq => by
    cases h37 : (c == 37) with
    | false =>
      rw [unqR_plain h37] at h
      obtain ⟨o', h1, rfl⟩ := Option.map_eq_some_iff.1 h
      rw [List.flatMap_cons] at hq
      by_cases hc : plB c = true
      · have e : quB c = [c] := by simp [quB, hc]
        rw [e] at hq
        have := unqR_P n r o' (by simpa using hn) h1 (by simpa using hq)
        rw [unqP_plain hc, this]
        rfl
      · exfalso
        have e : quB c = 37 :: pairB c := by simp [quB, hc]
        rw [e] at hq
        simp only [List.cons_append, List.cons.injEq] at hq
        have := hq.1
        subst this
        simp at h37
    | true =>
      have hc37 : c = 37 := by simpa using h37
      match r, h with
      | [], h => simp [unqR, h37] at h
      | [d], h => simp [unqR, h37] at h
      | a :: b :: r', h =>
        simp only [unqR, h37] at h
        rw [if_neg (by simp)] at h
        by_cases hg : 0 ≤ hexI a ∧ 0 ≤ hexI b
        · rw [if_pos hg] at h
          obtain ⟨o', h1, rfl⟩ := Option.map_eq_some_iff.1 h
          rw [List.flatMap_cons] at hq
          by_cases hp : plB (byteOf a b) = true
          · exfalso
            have e : quB (byteOf a b) = [byteOf a b] := by simp [quB, hp]
            rw [e] at hq
            simp only [List.cons_append, List.cons.injEq] at hq
            exact pl_37 hp (hq.1.trans hc37)
          · have hp' : plB (byteOf a b) = false := by simpa using hp
            have e : quB (byteOf a b) = [37, a, b] := by simp only [quB, hp', Bool.false_eq_true, if_false, pairB_byteOf hg.1 hg.2]
            rw [e] at hq
            simp only [List.cons_append, List.nil_append, List.cons.injEq, true_and] at hq
            have ih := unqR_P n r' o' (by simp at hn; omega) h1 hq.2
            have hnc : ¬ plB c = true := by rw [hc37]; decide
            simp only [unqP, if_neg hnc]
            rw [if_pos ⟨h37, hg.1, hg.2, hp'⟩, ih]
            rfl
        · rw [if_neg hg] at h; cases h
def unquoteF (w : List UInt8) : List UInt8 × Bool :=
  if w = [37] then ([], true) else match unqP w with
    | some o => (o, !o.isEmpty)
    | none => ([], false)
def unquoteR (w : List UInt8) : List UInt8 × Bool :=
  if w = [37] then ([], true) else match unqR w with
    | some o => if quoteF o = w then (o, true) else ([], false)
    | none => ([], false)
theorem unquote_eq (w : List UInt8) : unquoteF w = unquoteR w := by
  unfold unquoteF unquoteR
  by_cases h0 : w = [37]
  · rw [if_pos h0, if_pos h0]
  · rw [if_neg h0, if_neg h0]
    cases hp : unqP w with
    | some o =>
      have := unqP_R _ w o (Nat.le_refl _) hp
      rw [this.1]
      simp only
      by_cases ho : o = []
      · subst ho
        have hw : w = [] := by simpa using this.2.symm
        rw [if_neg (by rw [hw]; simp [quoteF])]
        rfl
      · have e : quoteF o = w := by rw [quoteF, if_neg ho]; exact this.2
        rw [if_pos e]
        cases o with
        | nil => exact absurd rfl ho
        | cons => rfl
    | none =>
      cases hr : unqR w with
      | none => rfl
      | some o =>
        simp only
        by_cases hq : quoteF o = w
        · exfalso
          by_cases ho : o = []
          · subst ho; exact h0 (by simpa [quoteF] using hq.symm)
          · have := unqR_P _ w o (Nat.le_refl _) hr (by simpa [quoteF, ho] using hq)
            rw [hp] at this
            cases this
        · rw [if_neg hq]
theorem unqP_append : ∀ (c : UInt8) (r : List UInt8), unqP (quB c ++ r) = (unqP r).map (c :: ·) := by
  intro c r
  by_cases hc : plB c = true
  · have e : quB c = [c] := by simp [quB, hc]
    rw [e, List.cons_append, List.nil_append, unqP_plain hc]
  · have hc' : plB c = false := by simpa using hc
    have hlt := c.toNat_lt
    have e : quB c = [37, hexD.getD (c.toNat / 16) 0, hexD.getD (c.toNat % 16) 0] := by simp only [quB, hc', Bool.false_eq_true, if_false, pairB]
    have h1 := hexI_of (c.toNat / 16) (by omega)
    have h2 := hexI_of (c.toNat % 16) (by omega)
    rw [e]
    simp only [List.cons_append, List.nil_append]
    rw [unqP, if_neg (by decide), if_pos ⟨rfl, by rw [h1]; omega, by rw [h2]; omega, by rw [byteOf_pair]; exact hc'⟩, byteOf_pair]
theorem unqP_quote : ∀ (l : List UInt8), unqP (l.flatMap quB) = some l
  | [] => rfl
  | c :: r => by rw [List.flatMap_cons, unqP_append, unqP_quote r]; rfl
theorem unquote_quote (l : List UInt8) : unquoteF (quoteF l) = (l, true) := by
  unfold unquoteF quoteF
  by_cases h : l = []
  · subst h; rfl
  · rw [if_neg h]
    rw [if_neg (by
      intro he
      have := unqP_quote l
      rw [he] at this
      simp [unqP, plB] at this), unqP_quote l]
    cases l with
    | nil => exact absurd rfl h
    | cons => rfl
end Go.Proofs.YtgghddhdkfocoaaDoor
