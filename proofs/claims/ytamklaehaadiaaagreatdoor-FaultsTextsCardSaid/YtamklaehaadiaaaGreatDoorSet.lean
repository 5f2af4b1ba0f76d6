/-
  Sets as lists that rise: plain laws; no program in sight.
-/
import Derived.Test.YtamklaehaadiaaaGreatDoorBase
namespace Go.Proofs.YtamklaehaadiaaaGreatDoor
set_option linter.unusedSimpArgs false
set_option linter.unusedVariables false
set_option linter.unusedSectionVars false
open Go.ChangeShapes Go.WideShapes Go.ChangeAt Go.RowKit Go.Deep

structure Ord {α : Type} (lt : α → α → Bool) : Prop where
  irr : ∀ a, lt a a = false
  tr : ∀ a b c, lt a b = true → lt b c = true → lt a c = true
  tot : ∀ a b, a ≠ b → lt a b = true ∨ lt b a = true
section
variable {α : Type} [DecidableEq α] {lt : α → α → Bool}
def Strict (lt : α → α → Bool) (l : List α) : Prop := l.Pairwise (fun a b => lt a b = true)
theorem Ord.asym (O : Ord lt) {a b : α} (h : lt a b = true) : lt b a = false := by
  cases hb : lt b a with
  | false => rfl
  | true => have := O.tr a b a h hb; rw [O.irr] at this; cases this
theorem Ord.ne (O : Ord lt) {a b : α} (h : lt a b = true) : a ≠ b := fun e => by subst e; rw [O.irr] at h; cases h
theorem strict_ext (O : Ord lt) : ∀ (l m : List α), Strict lt l → Strict lt m → (∀ x, x ∈ l ↔ x ∈ m) → l = m
  | [], [], _, _, _ => rfl
  | [], y :: s, _, _, h => absurd ((h y).2 (by simp)) (by simp)
  | x :: r, [], _, _, h => absurd ((h x).1 (by simp)) (by simp)
  | x :: r, y :: s, hl, hm, h => by
    unfold Strict at hl hm
    rw [List.pairwise_cons] at hl hm
    have hxy : x = y := by
      rcases List.mem_cons.1 ((h x).1 (by simp)) with e | hx
      · exact e
      · rcases List.mem_cons.1 ((h y).2 (by simp)) with e | hy
        · exact e.symm
        · have h1 := hm.1 x hx
          have h2 := hl.1 y hy
          rw [O.asym h1] at h2; cases h2
    subst hxy
    congr 1
    refine strict_ext O r s hl.2 hm.2 fun z => ?_
    have hz := h z
    simp only [List.mem_cons] at hz
    constructor
    · intro hr
      rcases hz.1 (.inr hr) with e | hs
      · subst e; exact absurd rfl (O.ne (hl.1 z hr))
      · exact hs
    · intro hs
      rcases hz.2 (.inr hs) with e | hr
      · subst e; exact absurd rfl (O.ne (hm.1 z hs))
      · exact hr
def insS (lt : α → α → Bool) (x : α) : List α → List α
  | [] => [x]
  | y :: r => if lt x y = true then x :: y :: r else if x = y then y :: r else y :: insS lt x r
def setS (lt : α → α → Bool) : List α → List α
  | [] => []
  | x :: r => insS lt x (setS lt r)
theorem mem_insS (x z : α) : ∀ l : List α, z ∈ insS lt x l ↔ z = x ∨ z ∈ l
  | [] => by simp [insS]
  | y :: r => by
    unfold insS
    split
    · simp
    · split
      · rename_i h; subst h; simp
      · rw [List.mem_cons, mem_insS x z r, List.mem_cons]
        constructor
        · rintro (h | h | h)
          · exact .inr (.inl h)
          · exact .inl h
          · exact .inr (.inr h)
        · rintro (h | h | h)
          · exact .inr (.inl h)
          · exact .inl h
          · exact .inr (.inr h)
theorem strict_insS (O : Ord lt) (x : α) : ∀ l : List α, Strict lt l → Strict lt (insS lt x l)
  | [], _ => by simp [insS, Strict]
  | y :: r, h => by
    unfold Strict at h
    rw [List.pairwise_cons] at h
    unfold insS
    split
    · rename_i hxy
      refine List.pairwise_cons.2 ⟨fun z hz => ?_, List.pairwise_cons.2 h⟩
      rcases List.mem_cons.1 hz with rfl | hz
      · exact hxy
      · exact O.tr x y z hxy (h.1 z hz)
    · rename_i hxy
      split
      · exact List.pairwise_cons.2 h
      · rename_i hne
        refine List.pairwise_cons.2 ⟨fun z hz => ?_, strict_insS O x r h.2⟩
        rcases (mem_insS x z r).1 hz with rfl | hz
        · rcases O.tot z y hne with h' | h'
          · exact absurd h' hxy
          · exact h'
        · exact h.1 z hz
theorem mem_setS (z : α) : ∀ l : List α, z ∈ setS lt l ↔ z ∈ l
  | [] => by simp [setS]
  | x :: r => by rw [setS, mem_insS, mem_setS z r, List.mem_cons]
theorem strict_setS (O : Ord lt) : ∀ l : List α, Strict lt (setS lt l)
  | [] => List.Pairwise.nil
  | x :: r => strict_insS O x _ (strict_setS O r)
theorem insS_len (x : α) : ∀ l : List α, (insS lt x l).length ≤ l.length + 1
  | [] => by simp [insS]
  | y :: r => by
    unfold insS
    split
    · simp
    · split
      · simp
      · have := insS_len x r; simp; omega
theorem setS_len : ∀ l : List α, (setS lt l).length ≤ l.length
  | [] => by simp [setS]
  | x :: r => by have := setS_len r; have := insS_len (lt := lt) x (setS lt r); simp [setS]; omega
theorem setS_of_strict (O : Ord lt) {l : List α} (h : Strict lt l) : setS lt l = l := strict_ext O _ _ (strict_setS O l) h (fun x => mem_setS x l)
theorem setS_congr (O : Ord lt) {l m : List α} (h : ∀ x, x ∈ l ↔ x ∈ m) : setS lt l = setS lt m :=
  strict_ext O _ _ (strict_setS O l) (strict_setS O m) (fun x => by rw [mem_setS, mem_setS]; exact h x)
theorem strict_nodup (O : Ord lt) {l : List α} (h : Strict lt l) : l.Nodup := List.Pairwise.imp (fun hab => O.ne hab) h

/-! Neighbours that are the same are struck. -/
def dedA : List α → List α
  | [] => []
  | x :: r => match r with
    | [] => [x]
    | y :: t => if x = y then dedA (y :: t) else x :: dedA (y :: t)
theorem dedA_two (x y : α) (t : List α) : dedA (x :: y :: t) = if x = y then dedA (y :: t) else x :: dedA (y :: t) := by rw [dedA]
theorem mem_dedA (z : α) : ∀ l : List α, z ∈ dedA l ↔ z ∈ l
  | [] => by simp [dedA]
  | [x] => by simp [dedA]
  | x :: y :: t => by
    rw [dedA_two]
    have ih := mem_dedA z (y :: t)
    split
    · rename_i h; subst h; rw [ih]; simp
    · rw [List.mem_cons, ih, List.mem_cons (a := z) (b := x)]
theorem strict_dedA (O : Ord lt) : ∀ l : List α, l.Pairwise (fun a b => lt b a = false) → Strict lt (dedA l)
  | [], _ => by simp [dedA, Strict]
  | [x], _ => by simp [dedA, Strict]
  | x :: y :: t, h => by
    rw [List.pairwise_cons] at h
    rw [dedA_two]
    have ih := strict_dedA O (y :: t) h.2
    split
    · exact ih
    · rename_i hne
      have hxy : lt x y = true := by
        rcases O.tot x y hne with h' | h'
        · exact h'
        · rw [h.1 y (by simp)] at h'; cases h'
      refine List.pairwise_cons.2 ⟨fun z hz => ?_, ih⟩
      rw [mem_dedA] at hz
      rcases List.mem_cons.1 hz with rfl | hz
      · exact hxy
      · rcases Decidable.em (y = z) with rfl | hyz
        · exact hxy
        · have h2 := (List.pairwise_cons.1 h.2).1 z hz
          rcases O.tot y z hyz with h' | h'
          · exact O.tr x y z hxy h'
          · rw [h2] at h'; cases h'
theorem dedA_sorted (O : Ord lt) {l m : List α} (hs : m.Pairwise (fun a b => lt b a = false)) (hp : ∀ x, x ∈ m ↔ x ∈ l) : dedA m = setS lt l :=
  strict_ext O _ _ (strict_dedA O m hs) (strict_setS O l) (fun x => by rw [mem_dedA, hp, mem_setS])

/-! Again and again the least one that is not there yet. -/
def stepM (lt : α → α → Bool) (p : α → Bool) (b : Option α) (x : α) : Option α :=
  if p x = true then (match b with | none => some x | some y => if lt x y = true then some x else some y) else b
def minS (lt : α → α → Bool) (p : α → Bool) (l : List α) (b : Option α) : Option α := l.foldl (stepM lt p) b
def Least (lt : α → α → Bool) (c : List α) : Option α → Prop
  | none => c = []
  | some m => m ∈ c ∧ ∀ x ∈ c, lt x m = false
theorem least_step (O : Ord lt) (p : α → Bool) (c : List α) (b : Option α) (x : α) (h : Least lt c b) : Least lt (c ++ [x].filter p) (stepM lt p b x) := by
  unfold stepM
  cases hp : p x with
  | false => simpa [hp] using h
  | true =>
    simp only [if_true, List.filter_cons, hp, List.filter_nil]
    cases b with
    | none =>
      have hc : c = [] := h
      subst hc
      exact ⟨by simp, fun z hz => by simp at hz; subst hz; exact O.irr z⟩
    | some y =>
      obtain ⟨hy, hm⟩ := h
      simp only
      cases hxy : lt x y with
      | true =>
        simp only [if_true]
        refine ⟨by simp, fun z hz => ?_⟩
        rcases List.mem_append.1 hz with hz | hz
        · cases hzx : lt z x with
          | false => rfl
          | true => have := O.tr z x y hzx hxy; rw [hm z hz] at this; cases this
        · simp at hz; subst hz; exact O.irr z
      | false =>
        simp only [Bool.false_eq_true, if_false]
        refine ⟨by simp [hy], fun z hz => ?_⟩
        rcases List.mem_append.1 hz with hz | hz
        · exact hm z hz
        · simp at hz; subst hz; exact hxy
theorem least_minS (O : Ord lt) (p : α → Bool) : ∀ (l c : List α) (b : Option α), Least lt c b → Least lt (c ++ l.filter p) (minS lt p l b)
  | [], c, b, h => by simpa [minS] using h
  | x :: r, c, b, h => by
    have h1 := least_minS O p r _ _ (least_step O p c b x h)
    rw [List.append_assoc] at h1
    rw [minS, List.foldl_cons]
    have e : ([x].filter p) ++ r.filter p = (x :: r).filter p := by rw [← List.filter_append]; rfl
    rw [e] at h1
    exact h1
theorem least_unique (O : Ord lt) {c d : List α} {b : Option α} {m : α} (h : Least lt c b) (hcd : ∀ x, x ∈ c ↔ x ∈ d) (hm : m ∈ d) (hl : ∀ x ∈ d, x ≠ m → lt m x = true) : b = some m := by
  cases b with
  | none => have hc : c = [] := h
            subst hc
            exact absurd ((hcd m).2 hm) (by simp)
  | some y =>
    obtain ⟨hy, hly⟩ := h
    rcases Decidable.em (y = m) with e | hne
    · rw [e]
    · have := hl y ((hcd y).1 hy) hne
      rw [hly m ((hcd m).2 hm)] at this; cases this
/-- The next one of a rising list. -/
theorem minS_next (O : Ord lt) (q : α → Bool) (l S : List α) (hS : Strict lt S) (hm : ∀ x, x ∈ S ↔ x ∈ l ∧ q x = true) (n : Nat) :
    minS lt (fun x => q x && !decide (x ∈ S.take n)) l none = S[n]? := by
  have h := least_minS O (fun x => q x && !decide (x ∈ S.take n)) l [] none rfl
  rw [List.nil_append] at h
  have hnd := strict_nodup O hS
  have hmem : ∀ x, x ∈ l.filter (fun x => q x && !decide (x ∈ S.take n)) ↔ x ∈ S.drop n := by
    intro x
    rw [List.mem_filter]
    simp only [Bool.and_eq_true, Bool.not_eq_true', decide_eq_false_iff_not]
    rw [← and_assoc, ← hm]
    constructor
    · rintro ⟨h1, h2⟩
      rw [← List.take_append_drop n S] at h1
      rcases List.mem_append.1 h1 with h1 | h1
      · exact absurd h1 h2
      · exact h1
    · intro h1
      refine ⟨List.mem_of_mem_drop h1, fun h2 => ?_⟩
      rw [← List.take_append_drop n S] at hnd
      exact (List.nodup_append.1 hnd).2.2 x h2 x h1 rfl
  by_cases hn : n < S.length
  · rw [List.getElem?_eq_getElem hn]
    refine least_unique O h hmem (by rw [List.drop_eq_getElem_cons hn]; exact List.mem_cons_self) ?_
    intro x hx hne
    rw [List.drop_eq_getElem_cons hn] at hx
    rcases List.mem_cons.1 hx with e | hx
    · exact absurd e hne
    · have : (S.drop n).Pairwise (fun a b => lt a b = true) := List.Pairwise.sublist (List.drop_sublist n S) hS
      rw [List.drop_eq_getElem_cons hn, List.pairwise_cons] at this
      exact this.1 x hx
  · rw [List.getElem?_eq_none (by omega)]
    generalize minS lt (fun x => q x && !decide (x ∈ S.take n)) l none = b at h
    cases b with
    | none => rfl
    | some y =>
      have := (hmem y).1 h.1
      rw [List.drop_of_length_le (by omega)] at this
      cases this
end

/-! Numbers. -/
def ltI (a b : Int) : Bool := decide (a < b)
theorem ordI : Ord ltI := ⟨fun a => by simp [ltI], fun a b c h1 h2 => by simp [ltI] at *; omega, fun a b h => by simp [ltI]; omega⟩
end Go.Proofs.YtamklaehaadiaaaGreatDoor
