/-
  Parts of the proof, one behind the other: contracts of the program and plain laws; no condition of their own.
-/
import Derived.Test.YtmlbomblbdbikaaGreatDoorMa
import Derived.Lib.SlicesCompact
import Derived.Test.YtmlbomblbdbikaaGreatDoorMi
import Derived.Test.YtmlbomblbdbikaaGreatDoorMh
/-
  Sets as lists that rise: plain laws; no program in sight.
-/
namespace Go.Proofs.YtmlbomblbdbikaaGreatDoor
set_option linter.unusedSimpArgs false
set_option linter.unusedVariables false
set_option linter.unusedSectionVars false
open Go.ChangeShapes Go.WideShapes Go.ChangeAt Go.RowKit Go.Deep

structure Ord {α : Type} (lt : α → α → Bool) : Prop where
  irr : ∀ a, lt a a = false
  tr : ∀ a b c, lt a b = true → lt b c = true → lt a c = true
  tot : ∀ a b, a ≠ b → lt a b = true ∨ lt b a = true
section
variable {α : Type} [DecidableEq α] {lt : α → α → Bool}
def Strict (lt : α → α → Bool) (l : List α) : Prop := l.Pairwise (fun a b => lt a b = true)
theorem Ord.asym (O : Ord lt) {a b : α} (h : lt a b = true) : lt b a = false := by
  cases hb : lt b a with
  | false => rfl
  | true => have := O.tr a b a h hb; rw [O.irr] at this; cases this
theorem Ord.ne (O : Ord lt) {a b : α} (h : lt a b = true) : a ≠ b := fun e => by subst e; rw [O.irr] at h; cases h
theorem strict_ext (O : Ord lt) : ∀ (l m : List α), Strict lt l → Strict lt m → (∀ x, x ∈ l ↔ x ∈ m) → l = m
  | [], [], _, _, _ => rfl
  | [], y :: s, _, _, h => absurd ((h y).2 (by simp)) (by simp)
  | x :: r, [], _, _, h => absurd ((h x).1 (by simp)) (by simp)
  | x :: r, y :: s, hl, hm, h => by
    unfold Strict at hl hm
    rw [List.pairwise_cons] at hl hm
    have hxy : x = y := by
      rcases List.mem_cons.1 ((h x).1 (by simp)) with e | hx
      · exact e
      · rcases List.mem_cons.1 ((h y).2 (by simp)) with e | hy
        · exact e.symm
        · have h1 := hm.1 x hx
          have h2 := hl.1 y hy
          rw [O.asym h1] at h2; cases h2
    subst hxy
    congr 1
    refine strict_ext O r s hl.2 hm.2 fun z => ?_
    have hz := h z
    simp only [List.mem_cons] at hz
    constructor
    · intro hr
      rcases hz.1 (.inr hr) with e | hs
      · subst e; exact absurd rfl (O.ne (hl.1 z hr))
      · exact hs
    · intro hs
      rcases hz.2 (.inr hs) with e | hr
      · subst e; exact absurd rfl (O.ne (hm.1 z hs))
      · exact hr
def insS (lt : α → α → Bool) (x : α) : List α → List α
  | [] => [x]
  | y :: r => if lt x y = true then x :: y :: r else if x = y then y :: r else y :: insS lt x r
def setS (lt : α → α → Bool) : List α → List α
  | [] => []
  | x :: r => insS lt x (setS lt r)
theorem mem_insS (x z : α) : ∀ l : List α, z ∈ insS lt x l ↔ z = x ∨ z ∈ l
  | [] => by simp [insS]
  | y :: r => by
    unfold insS
    split
    · simp
    · split
      · rename_i h; subst h; simp
      · rw [List.mem_cons, mem_insS x z r, List.mem_cons]
        constructor
        · rintro (h | h | h)
          · exact .inr (.inl h)
          · exact .inl h
          · exact .inr (.inr h)
        · rintro (h | h | h)
          · exact .inr (.inl h)
          · exact .inl h
          · exact .inr (.inr h)
theorem strict_insS (O : Ord lt) (x : α) : ∀ l : List α, Strict lt l → Strict lt (insS lt x l)
  | [], _ => by simp [insS, Strict]
  | y :: r, h => by
    unfold Strict at h
    rw [List.pairwise_cons] at h
    unfold insS
    split
    · rename_i hxy
      refine List.pairwise_cons.2 ⟨fun z hz => ?_, List.pairwise_cons.2 h⟩
      rcases List.mem_cons.1 hz with rfl | hz
      · exact hxy
      · exact O.tr x y z hxy (h.1 z hz)
    · rename_i hxy
      split
      · exact List.pairwise_cons.2 h
      · rename_i hne
        refine List.pairwise_cons.2 ⟨fun z hz => ?_, strict_insS O x r h.2⟩
        rcases (mem_insS x z r).1 hz with rfl | hz
        · rcases O.tot z y hne with h' | h'
          · exact absurd h' hxy
          · exact h'
        · exact h.1 z hz
theorem mem_setS (z : α) : ∀ l : List α, z ∈ setS lt l ↔ z ∈ l
  | [] => by simp [setS]
  | x :: r => by rw [setS, mem_insS, mem_setS z r, List.mem_cons]
theorem strict_setS (O : Ord lt) : ∀ l : List α, Strict lt (setS lt l)
  | [] => List.Pairwise.nil
  | x :: r => strict_insS O x _ (strict_setS O r)
theorem insS_len (x : α) : ∀ l : List α, (insS lt x l).length ≤ l.length + 1
  | [] => by simp [insS]
  | y :: r => by
    unfold insS
    split
    · simp
    · split
      · simp
      · have := insS_len x r; simp; omega
theorem setS_len : ∀ l : List α, (setS lt l).length ≤ l.length
  | [] => by simp [setS]
  | x :: r => by have := setS_len r; have := insS_len (lt := lt) x (setS lt r); simp [setS]; omega
theorem setS_of_strict (O : Ord lt) {l : List α} (h : Strict lt l) : setS lt l = l := strict_ext O _ _ (strict_setS O l) h (fun x => mem_setS x l)
theorem setS_congr (O : Ord lt) {l m : List α} (h : ∀ x, x ∈ l ↔ x ∈ m) : setS lt l = setS lt m :=
  strict_ext O _ _ (strict_setS O l) (strict_setS O m) (fun x => by rw [mem_setS, mem_setS]; exact h x)
theorem strict_nodup (O : Ord lt) {l : List α} (h : Strict lt l) : l.Nodup := List.Pairwise.imp (fun hab => O.ne hab) h

/-! Neighbours that are the same are struck. -/
def dedA : List α → List α
  | [] => []
  | x :: r => match r with
    | [] => [x]
    | y :: t => if x = y then dedA (y :: t) else x :: dedA (y :: t)
theorem dedA_two (x y : α) (t : List α) : dedA (x :: y :: t) = if x = y then dedA (y :: t) else x :: dedA (y :: t) := by rw [dedA]
theorem mem_dedA (z : α) : ∀ l : List α, z ∈ dedA l ↔ z ∈ l
  | [] => by simp [dedA]
  | [x] => by simp [dedA]
  | x :: y :: t => by
    rw [dedA_two]
    have ih := mem_dedA z (y :: t)
    split
    · rename_i h; subst h; rw [ih]; simp
    · rw [List.mem_cons, ih, List.mem_cons (a := z) (b := x)]
theorem strict_dedA (O : Ord lt) : ∀ l : List α, l.Pairwise (fun a b => lt b a = false) → Strict lt (dedA l)
  | [], _ => by simp [dedA, Strict]
  | [x], _ => by simp [dedA, Strict]
  | x :: y :: t, h => by
    rw [List.pairwise_cons] at h
    rw [dedA_two]
    have ih := strict_dedA O (y :: t) h.2
    split
    · exact ih
    · rename_i hne
      have hxy : lt x y = true := by
        rcases O.tot x y hne with h' | h'
        · exact h'
        · rw [h.1 y (by simp)] at h'; cases h'
      refine List.pairwise_cons.2 ⟨fun z hz => ?_, ih⟩
      rw [mem_dedA] at hz
      rcases List.mem_cons.1 hz with rfl | hz
      · exact hxy
      · rcases Decidable.em (y = z) with rfl | hyz
        · exact hxy
        · have h2 := (List.pairwise_cons.1 h.2).1 z hz
          rcases O.tot y z hyz with h' | h'
          · exact O.tr x y z hxy h'
          · rw [h2] at h'; cases h'
theorem dedA_sorted (O : Ord lt) {l m : List α} (hs : m.Pairwise (fun a b => lt b a = false)) (hp : ∀ x, x ∈ m ↔ x ∈ l) : dedA m = setS lt l :=
  strict_ext O _ _ (strict_dedA O m hs) (strict_setS O l) (fun x => by rw [mem_dedA, hp, mem_setS])

/-! Again and again the least one that is not there yet. -/
def stepM (lt : α → α → Bool) (p : α → Bool) (b : Option α) (x : α) : Option α :=
  if p x = true then (match b with | none => some x | some y => if lt x y = true then some x else some y) else b
def minS (lt : α → α → Bool) (p : α → Bool) (l : List α) (b : Option α) : Option α := l.foldl (stepM lt p) b
def Least (lt : α → α → Bool) (c : List α) : Option α → Prop
  | none => c = []
  | some m => m ∈ c ∧ ∀ x ∈ c, lt x m = false
theorem least_step (O : Ord lt) (p : α → Bool) (c : List α) (b : Option α) (x : α) (h : Least lt c b) : Least lt (c ++ [x].filter p) (stepM lt p b x) := by
  unfold stepM
  cases hp : p x with
  | false => simpa [hp] using h
  | true =>
    simp only [if_true, List.filter_cons, hp, List.filter_nil]
    cases b with
    | none =>
      have hc : c = [] := h
      subst hc
      exact ⟨by simp, fun z hz => by simp at hz; subst hz; exact O.irr z⟩
    | some y =>
      obtain ⟨hy, hm⟩ := h
      simp only
      cases hxy : lt x y with
      | true =>
        simp only [if_true]
        refine ⟨by simp, fun z hz => ?_⟩
        rcases List.mem_append.1 hz with hz | hz
        · cases hzx : lt z x with
          | false => rfl
          | true => have := O.tr z x y hzx hxy; rw [hm z hz] at this; cases this
        · simp at hz; subst hz; exact O.irr z
      | false =>
        simp only [Bool.false_eq_true, if_false]
        refine ⟨by simp [hy], fun z hz => ?_⟩
        rcases List.mem_append.1 hz with hz | hz
        · exact hm z hz
        · simp at hz; subst hz; exact hxy
theorem least_minS (O : Ord lt) (p : α → Bool) : ∀ (l c : List α) (b : Option α), Least lt c b → Least lt (c ++ l.filter p) (minS lt p l b)
  | [], c, b, h => by simpa [minS] using h
  | x :: r, c, b, h => by
    have h1 := least_minS O p r _ _ (least_step O p c b x h)
    rw [List.append_assoc] at h1
    rw [minS, List.foldl_cons]
    have e : ([x].filter p) ++ r.filter p = (x :: r).filter p := by rw [← List.filter_append]; rfl
    rw [e] at h1
    exact h1
theorem least_unique (O : Ord lt) {c d : List α} {b : Option α} {m : α} (h : Least lt c b) (hcd : ∀ x, x ∈ c ↔ x ∈ d) (hm : m ∈ d) (hl : ∀ x ∈ d, x ≠ m → lt m x = true) : b = some m := by
  cases b with
  | none => have hc : c = [] := h
            subst hc
            exact absurd ((hcd m).2 hm) (by simp)
  | some y =>
    obtain ⟨hy, hly⟩ := h
    rcases Decidable.em (y = m) with e | hne
    · rw [e]
    · have := hl y ((hcd y).1 hy) hne
      rw [hly m ((hcd m).2 hm)] at this; cases this
/-- The next one of a rising list. -/
theorem minS_next (O : Ord lt) (q : α → Bool) (l S : List α) (hS : Strict lt S) (hm : ∀ x, x ∈ S ↔ x ∈ l ∧ q x = true) (n : Nat) :
    minS lt (fun x => q x && !decide (x ∈ S.take n)) l none = S[n]? := by
  have h := least_minS O (fun x => q x && !decide (x ∈ S.take n)) l [] none rfl
  rw [List.nil_append] at h
  have hnd := strict_nodup O hS
  have hmem : ∀ x, x ∈ l.filter (fun x => q x && !decide (x ∈ S.take n)) ↔ x ∈ S.drop n := by
    intro x
    rw [List.mem_filter]
    simp only [Bool.and_eq_true, Bool.not_eq_true', decide_eq_false_iff_not]
    rw [← and_assoc, ← hm]
    constructor
    · rintro ⟨h1, h2⟩
      rw [← List.take_append_drop n S] at h1
      rcases List.mem_append.1 h1 with h1 | h1
      · exact absurd h1 h2
      · exact h1
    · intro h1
      refine ⟨List.mem_of_mem_drop h1, fun h2 => ?_⟩
      rw [← List.take_append_drop n S] at hnd
      exact (List.nodup_append.1 hnd).2.2 x h2 x h1 rfl
  by_cases hn : n < S.length
  · rw [List.getElem?_eq_getElem hn]
    refine least_unique O h hmem (by rw [List.drop_eq_getElem_cons hn]; exact List.mem_cons_self) ?_
    intro x hx hne
    rw [List.drop_eq_getElem_cons hn] at hx
    rcases List.mem_cons.1 hx with e | hx
    · exact absurd e hne
    · have : (S.drop n).Pairwise (fun a b => lt a b = true) := List.Pairwise.sublist (List.drop_sublist n S) hS
      rw [List.drop_eq_getElem_cons hn, List.pairwise_cons] at this
      exact this.1 x hx
  · rw [List.getElem?_eq_none (by omega)]
    generalize minS lt (fun x => q x && !decide (x ∈ S.take n)) l none = b at h
    cases b with
    | none => rfl
    | some y =>
      have := (hmem y).1 h.1
      rw [List.drop_of_length_le (by omega)] at this
      cases this
end

/-! Numbers. -/
def ltI (a b : Int) : Bool := decide (a < b)
theorem ordI : Ord ltI := ⟨fun a => by simp [ltI], fun a b c h1 h2 => by simp [ltI] at *; omega, fun a b h => by simp [ltI]; omega⟩
end Go.Proofs.YtmlbomblbdbikaaGreatDoor
/-
  What is sorted, with neighbours struck that are the same, is the set: plain law.
-/
namespace Go.Proofs.YtmlbomblbdbikaaGreatDoor
set_option linter.unusedSimpArgs false
set_option linter.unusedVariables false
set_option linter.unusedSectionVars false
open Go.ChangeShapes Go.WideShapes Go.ChangeAt Go.RowKit Go.Deep

section
variable {α : Type} [Inhabited α] [DecidableEq α] {lt : α → α → Bool}
theorem compG_mem (d : Array α) : ∀ m x, x ∈ Lib.compactUpTo d m ↔ ∃ j, j < m ∧ d[j]! = x
  | 0, x => by simp [Lib.compactUpTo]
  | m + 1, x => by
    have ih := compG_mem d m x
    rw [Lib.compactUpTo_succ, List.mem_append, ih]
    constructor
    · rintro (⟨j, hj, h⟩ | h)
      · exact ⟨j, by omega, h⟩
      · split at h
        · simp at h; exact ⟨m, by omega, h.symm⟩
        · simp at h
    · rintro ⟨j, hj, h⟩
      by_cases hjm : j = m
      · subst hjm
        cases hk : Lib.keeps d j with
        | true => right; simp [h]
        | false =>
          left
          have hn : ¬ (j = 0 ∨ d[j]! ≠ d[j - 1]!) := by simpa [Lib.keeps] using hk
          have h0 : j ≠ 0 := fun e => hn (.inl e)
          have h1 : d[j]! = d[j - 1]! := Decidable.byContradiction fun e => hn (.inr e)
          exact ⟨j - 1, by omega, by rw [← h1, h]⟩
      · exact .inl ⟨j, by omega, h⟩
theorem compG_strict (O : Ord lt) (d : Array α) (hs : ∀ i j, i < j → j < d.size → lt d[j]! d[i]! = false) : ∀ m, m ≤ d.size → Strict lt (Lib.compactUpTo d m)
  | 0, _ => by simp [Lib.compactUpTo, Strict]
  | m + 1, hm => by
    have ih := compG_strict O d hs m (by omega)
    rw [Lib.compactUpTo_succ]
    split
    · rename_i hk
      refine List.pairwise_append.2 ⟨ih, by simp, fun y hy z hz => ?_⟩
      simp at hz
      subst hz
      obtain ⟨j, hj, rfl⟩ := (compG_mem d m y).1 hy
      have hk' : m = 0 ∨ d[m]! ≠ d[m - 1]! := by simpa [Lib.keeps] using hk
      have h0 : d[m]! ≠ d[m - 1]! := by rcases hk' with h | h
                                        · omega
                                        · exact h
      have h1 := hs j m hj (by omega)
      have hlt : lt d[m - 1]! d[m]! = true := by
        rcases O.tot _ _ (Ne.symm h0) with h | h
        · exact h
        · rw [hs (m - 1) m (by omega) (by omega)] at h; cases h
      by_cases e : j = m - 1
      · rw [e]; exact hlt
      · have h2 := hs j (m - 1) (by omega) (by omega)
        by_cases e2 : d[j]! = d[m]!
        · rw [e2, hlt] at h2 <;> cases h2
        · rcases O.tot _ _ e2 with h | h
          · exact h
          · rw [h1] at h; cases h
    · simpa using ih
theorem compG_len (d : Array α) : ∀ m, (Lib.compactUpTo d m).length ≤ m
  | 0 => by simp [Lib.compactUpTo]
  | m + 1 => by
    have ih := compG_len d m
    rw [Lib.compactUpTo_succ]
    split <;> simp <;> omega
theorem compact_len (l : List α) : (Lib.compact l).length ≤ l.length := compG_len _ _
theorem compact_set (O : Ord lt) {m l : List α} (hs : m.Pairwise (fun a b => lt b a = false)) (hp : ∀ x, x ∈ m ↔ x ∈ l) : Lib.compact m = setS lt l := by
  unfold Lib.compact
  refine strict_ext O _ _ (compG_strict O m.toArray (fun i j hij hj => ?_) _ (by simp)) (strict_setS O l) (fun x => ?_)
  · rw [List.pairwise_iff_getElem] at hs
    have hj' : j < m.length := by simpa using hj
    have := hs i j (by omega) hj' hij
    rw [getElem!_pos m.toArray i (by simp; omega), getElem!_pos m.toArray j hj]
    simpa using this
  · rw [compG_mem, mem_setS, ← hp]
    constructor
    · rintro ⟨j, hj, rfl⟩
      rw [getElem!_pos m.toArray j (by simpa using hj)]; simp
    · intro h
      obtain ⟨j, hj, rfl⟩ := List.getElem_of_mem h
      exact ⟨j, hj, by rw [getElem!_pos m.toArray j (by simpa using hj)]; simp⟩
end

def leI (x y : Int) : Bool := decide (x ≤ y)
theorem sort_setI (l : List Int) : Lib.compact (l.mergeSort fun x y => decide (x ≤ y)) = setS ltI l := by
  have hp : (l.mergeSort fun x y => decide (x ≤ y)).Pairwise (fun a b => (decide (a ≤ b)) = true) := List.pairwise_mergeSort (fun a b c h1 h2 => by simp at *; omega) (fun a b => by simp; omega) l
  exact compact_set ordI (hp.imp fun h => by simp [ltI] at *; omega) (fun x => (List.mergeSort_perm l _).mem_iff)
end Go.Proofs.YtmlbomblbdbikaaGreatDoor
/-
  Rules: sets of them, and their texts: plain laws; no walk.
-/
namespace Go.Proofs.YtmlbomblbdbikaaGreatDoor
set_option linter.unusedSimpArgs false
set_option linter.unusedVariables false
set_option linter.unusedSectionVars false
open Go.ChangeShapes Go.WideShapes Go.ChangeAt Go.RowKit Go.Deep

def rulR (n : Int) : Bool := decide (1 ≤ n) && decide (n ≤ 35)
abbrev nameR (n : Int) : List UInt8 := tabN rulW n
def numR (s : List UInt8) : Int := idxX rulW s + 1
def ofR (l : List Int) : List Int := setS ltI (l.filter rulR)
def showR (l : List Int) : List UInt8 := if ofR l = [] then [45] else Lib.join ((ofR l).map nameR) [44]
theorem rul_in {n : Int} (h : rulR n = true) : ∃ k : Nat, n = (k : Int) + 1 ∧ k < 35 := by
  simp only [rulR, Bool.and_eq_true, decide_eq_true_eq] at h
  exact ⟨(n - 1).toNat, by omega, by omega⟩
theorem rul_idx (k : Nat) (hk : k < 35) : idxX rulW (rulW.getD k []) = (k : Int) := by
  have hk' : k < rulW.length := hk
  have := seekX_hit (rulW.getD k []) rulW 0 k hk' (tab_at _ k hk') (fun j hj hjk e => by
    rw [tab_at rulW j hj] at e
    have := rul_two ⟨j, hj⟩ ⟨k, hk⟩ e
    have h9 : j = k := congrArg Fin.val this
    omega)
  rw [Nat.zero_add] at this
  exact this
theorem nameR_in (k : Nat) (hk : k < 35) : nameR ((k : Int) + 1) = rulW.getD k [] := tab_in rulW k hk
theorem nameR_no {n : Int} (h : rulR n = false) : nameR n = [] := tab_out rulW (by simp [rulR] at h; omega)
theorem nameR_e (n : Int) : (nameR n == []) = !rulR n := by
  cases h : rulR n with
  | false => rw [nameR_no h]; rfl
  | true =>
    obtain ⟨k, rfl, hk⟩ := rul_in h
    rw [nameR_in k hk]
    have := rul_ne ⟨k, hk⟩
    simpa using this
theorem nameR_emp (n : Int) : (tabN rulW n).isEmpty = !rulR n := by
  have h : (tabN rulW n == []) = !rulR n := nameR_e n
  rw [← h]
  generalize tabN rulW n = x
  cases x <;> rfl
theorem nameR_len (n : Int) : (nameR n).length ≤ 9 := by
  cases h : rulR n with
  | false => rw [nameR_no h]; simp
  | true =>
    obtain ⟨k, rfl, hk⟩ := rul_in h
    rw [nameR_in k hk]
    exact (rul_len ⟨k, hk⟩).1
theorem nameR_comma (n : Int) : (44 : UInt8) ∉ nameR n := by
  cases h : rulR n with
  | false => rw [nameR_no h]; simp
  | true =>
    obtain ⟨k, rfl, hk⟩ := rul_in h
    rw [nameR_in k hk]
    have := (rul_len ⟨k, hk⟩).2.1
    intro hm
    have := List.all_eq_true.1 this 44 hm
    simp at this
theorem nameR_dash {n : Int} (h : rulR n = true) : nameR n ≠ [45] := by
  obtain ⟨k, rfl, hk⟩ := rul_in h
  rw [nameR_in k hk]
  exact (rul_len ⟨k, hk⟩).2.2
theorem numR_name {n : Int} (h : rulR n = true) : idxX rulW (nameR n) + 1 = n := by
  obtain ⟨k, rfl, hk⟩ := rul_in h
  rw [nameR_in k hk, rul_idx k hk]
theorem name_numR {s : List UInt8} (h : 0 ≤ idxX rulW s) : rulR (idxX rulW s + 1) = true ∧ nameR (idxX rulW s + 1) = s := by
  obtain ⟨k, hk⟩ : ∃ k : Nat, idxX rulW s = (k : Int) := ⟨(idxX rulW s).toNat, by omega⟩
  obtain ⟨h1, h2⟩ := seekX_at s rulW 0 k (by rw [Nat.zero_add]; exact hk)
  have h35 : k < 35 := h1
  rw [hk, nameR_in k h35, ← tab_at rulW k h1]
  exact ⟨by simp [rulR]; omega, h2⟩
theorem mem_ofR (l : List Int) (x : Int) : x ∈ ofR l ↔ x ∈ l ∧ rulR x = true := by unfold ofR; rw [mem_setS, List.mem_filter]
theorem strict_ofR (l : List Int) : Strict ltI (ofR l) := strict_setS ordI _
theorem ofR_len (l : List Int) : (ofR l).length ≤ l.length := Nat.le_trans (setS_len _) (List.length_filter_le _ _)
theorem ofR_self {l : List Int} (h1 : ∀ x ∈ l, rulR x = true) (h2 : Strict ltI l) : ofR l = l := by
  unfold ofR
  rw [List.filter_eq_self.2 h1, setS_of_strict ordI h2]
theorem ofR_of (l : List Int) : ofR (ofR l) = ofR l := ofR_self (fun x hx => ((mem_ofR l x).1 hx).2) (strict_ofR l)
theorem cut_showR {l : List Int} (h : ofR l ≠ []) : cutF 44 (showR l) = (ofR l).map nameR := by
  unfold showR
  rw [if_neg h]
  exact cut_join 44 _ (by simpa using h) (fun w hw => by obtain ⟨n, _, rfl⟩ := List.mem_map.1 hw; exact nameR_comma n)
theorem showR_ne {l : List Int} (h : ofR l ≠ []) : showR l ≠ [45] := by
  intro e
  have hc := cut_showR h
  rw [e, show cutF 44 [45] = [[45]] from by decide] at hc
  have hm : [45] ∈ (ofR l).map nameR := by rw [← hc]; simp
  obtain ⟨n, hn, e2⟩ := List.mem_map.1 hm
  exact nameR_dash ((mem_ofR l n).1 hn).2 e2

/-! Read back. -/
def okI (last : Option Int) (n : Int) : Bool := match last with
  | none => true
  | some m => decide (m < n)
def goR : List (List UInt8) → Option Int → Option (List Int)
  | [], _ => some []
  | x :: r, last => if 0 ≤ idxX rulW x ∧ okI last (idxX rulW x + 1) = true then (goR r (some (idxX rulW x + 1))).map ((idxX rulW x + 1) :: ·) else none
def endP : Option (List Int) → List Int × Bool
  | some l => (l, true)
  | none => ([], false)
def setRP (s : List UInt8) : List Int × Bool := if s = [45] then ([], true) else endP (goR (cutF 44 s) none)
def setRD (s : List UInt8) : List Int × Bool := if s = [45] then ([], true) else if showR ((cutF 44 s).map numR) = s then (ofR ((cutF 44 s).map numR), true) else ([], false)
theorem goR_all : ∀ {p : List (List UInt8)} {last : Option Int} {l : List Int}, goR p last = some l ↔ p = l.map nameR ∧ (∀ x ∈ l, rulR x = true) ∧ Strict ltI l ∧ (∀ m, last = some m → ∀ x ∈ l, m < x)
  | [], last, l => by
    unfold goR
    constructor
    · intro h
      injection h with h
      subst h
      exact ⟨rfl, by simp, List.Pairwise.nil, by simp⟩
    · rintro ⟨h, _⟩
      have : l = [] := by simpa using h.symm
      rw [this]
  | x :: r, last, l => by
    unfold goR
    constructor
    · intro h
      split at h
      · rename_i hc
        obtain ⟨l', h1, rfl⟩ := Option.map_eq_some_iff.1 h
        obtain ⟨g1, g2, g3, g4⟩ := goR_all.1 h1
        obtain ⟨n1, n2⟩ := name_numR hc.1
        refine ⟨by rw [List.map_cons, n2, ← g1], ?_, List.pairwise_cons.2 ⟨fun y hy => by have := g4 _ rfl y hy; simpa [ltI] using this, g3⟩, ?_⟩
        · intro y hy
          rcases List.mem_cons.1 hy with rfl | hy
          · exact n1
          · exact g2 y hy
        · intro m hm y hy
          subst hm
          have h2 := hc.2
          simp only [okI, decide_eq_true_eq] at h2
          rcases List.mem_cons.1 hy with rfl | hy
          · exact h2
          · have := g4 _ rfl y hy; omega
      · cases h
    · rintro ⟨h1, h2, h3, h4⟩
      cases l with
      | nil => simp at h1
      | cons n l' =>
        rw [List.map_cons] at h1
        injection h1 with h1 h1'
        have hn := numR_name (h2 n (by simp))
        rw [← h1] at hn
        unfold Strict at h3
        rw [List.pairwise_cons] at h3
        have hr := h2 n (by simp)
        simp only [rulR, Bool.and_eq_true, decide_eq_true_eq] at hr
        have hok : okI last n = true := by
          cases last with
          | none => rfl
          | some m => have := h4 m rfl n (by simp); simpa [okI] using this
        rw [hn, if_pos ⟨by omega, hok⟩, goR_all.2 ⟨h1', fun y hy => h2 y (by simp [hy]), h3.2, fun m hm y hy => by injection hm with hm; subst hm; have := h3.1 y hy; simpa [ltI] using this⟩]
        rfl
theorem map_num_name {l : List Int} (h : ∀ x ∈ l, rulR x = true) : (l.map nameR).map numR = l := by
  rw [List.map_map]
  refine (List.map_congr_left fun x hx => ?_).trans (List.map_id l)
  exact numR_name (h x hx)
theorem setR_eq (s : List UInt8) : setRP s = setRD s := by
  unfold setRP setRD
  by_cases h0 : s = [45]
  · rw [if_pos h0, if_pos h0]
  rw [if_neg h0, if_neg h0]
  cases hg : goR (cutF 44 s) none with
  | some l =>
    obtain ⟨g1, g2, g3, _⟩ := goR_all.1 hg
    have hne : l ≠ [] := by
      obtain ⟨a, t, e⟩ := cut_ne 44 s
      intro hl
      rw [hl, e] at g1
      simp at g1
    have ho := ofR_self g2 g3
    rw [g1, map_num_name g2]
    have hs : showR l = s := by
      unfold showR
      rw [ho, if_neg hne, ← g1, join_cut]
    rw [if_pos hs, ho]
    rfl
  | none =>
    rw [if_neg]
    · rfl
    · intro hs
      generalize (cutF 44 s).map numR = ns at hs
      have hne : ofR ns ≠ [] := by
        intro hn
        unfold showR at hs
        rw [if_pos hn] at hs
        exact h0 hs.symm
      have hc := cut_showR hne
      rw [hs] at hc
      have := (goR_all (p := cutF 44 s) (last := none) (l := ofR ns)).2 ⟨hc, fun x hx => ((mem_ofR ns x).1 hx).2, strict_ofR ns, by simp⟩
      rw [hg] at this
      cases this
theorem setR_show (l : List Int) : setRP (showR l) = (ofR l, true) := by
  by_cases hn : ofR l = []
  · have : showR l = [45] := by unfold showR; rw [if_pos hn]
    rw [this, hn]; rfl
  · unfold setRP
    rw [if_neg (showR_ne hn), cut_showR hn, goR_all.2 ⟨rfl, fun x hx => ((mem_ofR l x).1 hx).2, strict_ofR l, by simp⟩]
    rfl
theorem setRD_len (s : List UInt8) : (setRD s).1.length ≤ s.length + 1 := by
  unfold setRD
  split
  · simp
  · split
    · have h1 := ofR_len ((cutF 44 s).map numR)
      have h2 := cut_len 44 s
      rw [List.length_map] at h1
      simp only
      omega
    · simp

/-! A rising list, up to a number. -/
theorem upto_step (S : List Int) (hS : Strict ltI S) (r : Int) : S.filter (fun x => decide (x < r + 1)) = S.filter (fun x => decide (x < r)) ++ (if r ∈ S then [r] else []) := by
  induction S with
  | nil => simp
  | cons a t ih =>
    unfold Strict at hS
    rw [List.pairwise_cons] at hS
    have ih := ih hS.2
    rcases Int.lt_trichotomy a r with h | h | h
    · rw [List.filter_cons_of_pos (by simp; omega), List.filter_cons_of_pos (by simp; omega), ih]
      have : (r ∈ a :: t) ↔ r ∈ t := by simp; intro e; omega
      simp only [this, List.cons_append]
    · subst h
      have h1 : t.filter (fun x => decide (x < a + 1)) = [] := List.filter_eq_nil_iff.2 fun x hx => by have := hS.1 x hx; simp [ltI] at this ⊢; omega
      have h2 : t.filter (fun x => decide (x < a)) = [] := List.filter_eq_nil_iff.2 fun x hx => by have := hS.1 x hx; simp [ltI] at this ⊢; omega
      rw [List.filter_cons_of_pos (by simp; omega), List.filter_cons_of_neg (by simp), h1, h2, if_pos (by simp)]
      rfl
    · have h1 : ∀ y ∈ t, r < y := fun y hy => by have := hS.1 y hy; simp [ltI] at this; omega
      have h2 : ¬ r ∈ a :: t := by
        intro hm
        rcases List.mem_cons.1 hm with e | hm
        · omega
        · have := h1 r hm; omega
      rw [List.filter_cons_of_neg (by simp; omega), List.filter_cons_of_neg (by simp; omega), if_neg h2, ih, if_neg (fun hm => h2 (by simp [hm]))]
theorem upto_start (l : List Int) : (ofR l).filter (fun x => decide (x < 1)) = [] := List.filter_eq_nil_iff.2 fun x hx => by
  have := ((mem_ofR l x).1 hx).2
  simp [rulR] at this ⊢
  omega
theorem upto_end (l : List Int) : (ofR l).filter (fun x => decide (x < 36)) = ofR l := List.filter_eq_self.2 fun x hx => by
  have := ((mem_ofR l x).1 hx).2
  simp [rulR] at this ⊢
  omega
theorem showR_step (S : List Int) (k : Nat) (hk : k < S.length) (h0 : 0 < k) : Lib.join ((S.take (k + 1)).map nameR) [44] = Lib.join ((S.take k).map nameR) [44] ++ [44] ++ nameR S[k] := by
  rw [List.map_take, List.map_take, take_join_c 44 _ k (by simpa using hk), if_neg (by omega)]
  simp
end Go.Proofs.YtmlbomblbdbikaaGreatDoor
/-
  Faults: their order, and sets of them: plain laws.
-/
namespace Go.Proofs.YtmlbomblbdbikaaGreatDoor
set_option linter.unusedSimpArgs false
set_option linter.unusedVariables false
set_option linter.unusedSectionVars false
open Go.ChangeShapes Go.WideShapes Go.ChangeAt Go.RowKit Go.Deep

structure Fl where
  scope : Int
  code : Int
deriving DecidableEq
def Fl.cells (f : Fl) : List Value := [.int .i64 f.scope, .int .i64 f.code]
def ltFl (a b : Fl) : Bool := if a.scope = b.scope then decide (a.code < b.code) else decide (a.scope < b.scope)
theorem Fl.ext' {a b : Fl} (h1 : a.scope = b.scope) (h2 : a.code = b.code) : a = b := by cases a; cases b; simp_all
theorem ordFl : Ord ltFl := by
  refine ⟨fun a => by simp [ltFl], fun a b c h1 h2 => ?_, fun a b h => ?_⟩
  · unfold ltFl at *
    split at h1 <;> split at h2 <;> split <;> simp only [decide_eq_true_eq] at * <;> omega
  · unfold ltFl
    by_cases hs : a.scope = b.scope
    · rw [if_pos hs, if_pos hs.symm]
      have : a.code ≠ b.code := fun e => h (Fl.ext' hs e)
      simp only [decide_eq_true_eq]; omega
    · rw [if_neg hs, if_neg (Ne.symm hs)]
      simp only [decide_eq_true_eq]; omega
def flR (f : Fl) : Bool := (decide (f.scope = 1) || decide (f.scope = 2)) && (decide (0 ≤ f.code) && decide (f.code < 4294967296))
def ofF (l : List Fl) : List Fl := setS ltFl (l.filter flR)
theorem mem_ofF (l : List Fl) (x : Fl) : x ∈ ofF l ↔ x ∈ l ∧ flR x = true := by unfold ofF; rw [mem_setS, List.mem_filter]
theorem strict_ofF (l : List Fl) : Strict ltFl (ofF l) := strict_setS ordFl _
theorem ofF_len (l : List Fl) : (ofF l).length ≤ l.length := Nat.le_trans (setS_len _) (List.length_filter_le _ _)
theorem ofF_congr {l m : List Fl} (h : ∀ x, flR x = true → (x ∈ l ↔ x ∈ m)) : ofF l = ofF m := by
  unfold ofF
  refine setS_congr ordFl fun x => ?_
  rw [List.mem_filter, List.mem_filter]
  constructor
  · rintro ⟨h1, h2⟩; exact ⟨(h x h2).1 h1, h2⟩
  · rintro ⟨h1, h2⟩; exact ⟨(h x h2).2 h1, h2⟩
theorem ofF_idem (l : List Fl) : ofF (ofF l) = ofF l := ofF_congr fun x hx => by rw [mem_ofF]; simp [hx]
theorem ofF_of {l : List Fl} (hs : Strict ltFl l) (hr : ∀ x ∈ l, flR x = true) : ofF l = l := by
  unfold ofF
  rw [List.filter_eq_self.2 hr]
  exact setS_of_strict ordFl hs
theorem flR_zero : flR ⟨0, 0⟩ = false := rfl
/-- The document's best one, step by step: no fault that is right stands for none. -/
def optFl : Option Fl → Fl
  | none => ⟨0, 0⟩
  | some f => f
end Go.Proofs.YtmlbomblbdbikaaGreatDoor
/-
  Faults: codes and their names, faults and sets as texts: plain laws.
-/
namespace Go.Proofs.YtmlbomblbdbikaaGreatDoor
set_option linter.unusedSimpArgs false
set_option linter.unusedVariables false
set_option linter.unusedSectionVars false
open Go.ChangeShapes Go.WideShapes Go.ChangeAt Go.RowKit Go.Deep

def cdNames : List (List UInt8) := [[78, 79, 95, 69, 82, 82, 79, 82], [80, 82, 79, 84, 79, 67, 79, 76, 95, 69, 82, 82, 79, 82], [73, 78, 84, 69, 82, 78, 65, 76, 95, 69, 82, 82, 79, 82], [70, 76, 79, 87, 95, 67, 79, 78, 84, 82, 79, 76, 95, 69, 82, 82, 79, 82], [83, 69, 84, 84, 73, 78, 71, 83, 95, 84, 73, 77, 69, 79, 85, 84], [83, 84, 82, 69, 65, 77, 95, 67, 76, 79, 83, 69, 68], [70, 82, 65, 77, 69, 95, 83, 73, 90, 69, 95, 69, 82, 82, 79, 82], [82, 69, 70, 85, 83, 69, 68, 95, 83, 84, 82, 69, 65, 77], [67, 65, 78, 67, 69, 76], [67, 79, 77, 80, 82, 69, 83, 83, 73, 79, 78, 95, 69, 82, 82, 79, 82], [67, 79, 78, 78, 69, 67, 84, 95, 69, 82, 82, 79, 82], [69, 78, 72, 65, 78, 67, 69, 95, 89, 79, 85, 82, 95, 67, 65, 76, 77], [73, 78, 65, 68, 69, 81, 85, 65, 84, 69, 95, 83, 69, 67, 85, 82, 73, 84, 89], [72, 84, 84, 80, 95, 49, 95, 49, 95, 82, 69, 81, 85, 73, 82, 69, 68]]
def cdName (n : Nat) : List UInt8 := cdNames.getD n []
def cdAt (t : Int) : List UInt8 := cdName t.toNat
theorem cdName_lit : ∀ m : Fin 14, cdNames[m.val]? = some (cdName m.val) := by decide
theorem cdName_inj : ∀ m n : Fin 14, cdName m.val = cdName n.val → m = n := by decide
theorem cdName_ok : ∀ m : Fin 14, cdName m.val ≠ [] ∧ (cdName m.val).length ≤ 19 ∧ readF (cdName m.val) = (0, false) ∧ (cdName m.val).all (fun c => (65 ≤ c && c ≤ 90) || c == 95 || (48 ≤ c && c ≤ 57)) = true := by decide
/-- A code's name. -/
def codeN (c : Int) : List UInt8 := if c < 0 ∨ 4294967295 < c then [] else if c < 14 then cdAt c else Lib.itoa c
/-- The code of a name. -/
def codeOf (s : List UInt8) : Int × Bool :=
  if (scanF cdAt s 14 0).2 = true then scanF cdAt s 14 0 else if (readF s).2 = true ∧ 14 ≤ (readF s).1 ∧ (readF s).1 ≤ 4294967295 then ((readF s).1, true) else (0, false)
theorem codeN_lo {c : Int} (h0 : 0 ≤ c) (h1 : c < 14) : codeN c = cdAt c := by unfold codeN; rw [if_neg (by omega), if_pos h1]
theorem codeN_hi {c : Int} (h0 : 14 ≤ c) (h1 : c ≤ 4294967295) : codeN c = Lib.itoa c := by unfold codeN; rw [if_neg (by omega), if_neg (by omega)]
theorem codeN_out {c : Int} (h : c < 0 ∨ 4294967295 < c) : codeN c = [] := by unfold codeN; rw [if_pos h]
theorem scan_code {c : Int} (h0 : 0 ≤ c) (h1 : c < 14) : scanF cdAt (cdAt c) 14 0 = (c, true) :=
  scan_hit cdAt _ c rfl 14 0 h0 (by omega) fun m h2 h3 e => by
    have := cdName_inj ⟨m.toNat, by omega⟩ ⟨c.toNat, by omega⟩ e
    simp only [Fin.mk.injEq] at this
    omega
theorem scan_digits {c : Int} (g0 : -9223372036854775808 ≤ c) (g1 : c ≤ 9223372036854775807) : scanF cdAt (Lib.itoa c) 14 0 = (0, false) :=
  scan_none cdAt _ 14 0 fun m h2 h3 e => by
    have h := (cdName_ok ⟨m.toNat, by omega⟩).2.2.1
    have e : cdName m.toNat = Lib.itoa c := e
    simp only at h
    rw [e, readF_itoa g0 g1] at h
    cases h
theorem codeOf_name {c : Int} (h0 : 0 ≤ c) (h1 : c ≤ 4294967295) : codeOf (codeN c) = (c, true) := by
  by_cases h : c < 14
  · rw [codeN_lo h0 h]; unfold codeOf; rw [scan_code h0 h, if_pos rfl]
  · rw [codeN_hi (by omega) h1]; unfold codeOf; rw [scan_digits (by omega) (by omega), if_neg (by simp), readF_itoa (by omega) (by omega), if_pos ⟨rfl, by omega, h1⟩]
theorem codeOf_yes {s : List UInt8} (h : (codeOf s).2 = true) : codeN (codeOf s).1 = s ∧ 0 ≤ (codeOf s).1 ∧ (codeOf s).1 ≤ 4294967295 := by
  unfold codeOf at h ⊢
  by_cases h1 : (scanF cdAt s 14 0).2 = true
  · rw [if_pos h1]
    obtain ⟨h2, h3, h4⟩ := scan_true cdAt s 14 0 (scanF cdAt s 14 0).1 (by rw [← h1])
    exact ⟨by rw [codeN_lo h3 (by omega)]; exact h2, h3, by omega⟩
  · rw [if_neg h1] at h ⊢
    by_cases h2 : (readF s).2 = true ∧ 14 ≤ (readF s).1 ∧ (readF s).1 ≤ 4294967295
    · rw [if_pos h2]
      exact ⟨by rw [codeN_hi h2.2.1 h2.2.2]; exact (readF_yes h2.1).1, by omega, h2.2.2⟩
    · rw [if_neg h2] at h; cases h
theorem codeOf_no {s : List UInt8} (h : (codeOf s).2 = false) : codeOf s = (0, false) := by
  unfold codeOf at h ⊢
  by_cases h1 : (scanF cdAt s 14 0).2 = true
  · rw [if_pos h1, h1] at h; cases h
  · rw [if_neg h1] at h ⊢
    by_cases h2 : (readF s).2 = true ∧ 14 ≤ (readF s).1 ∧ (readF s).1 ≤ 4294967295
    · rw [if_pos h2] at h; cases h
    · rw [if_neg h2]
theorem codeN_ne {c : Int} (h0 : 0 ≤ c) (h1 : c ≤ 4294967295) : codeN c ≠ [] := by
  by_cases h : c < 14
  · rw [codeN_lo h0 h]; exact (cdName_ok ⟨c.toNat, by omega⟩).1
  · rw [codeN_hi (by omega) h1]; intro e
    have := readF_itoa (n := c) (by omega) (by omega)
    rw [e, show readF [] = (0, false) by decide] at this
    cases this
theorem codeN_len (c : Int) : (codeN c).length ≤ 20 := by
  unfold codeN
  split
  · simp
  · rename_i h
    split
    · exact Nat.le_trans (cdName_ok ⟨c.toNat, by omega⟩).2.1 (by omega)
    · exact itoa_len (by omega) (by omega)

/-- A fault's text, and a set's. -/
def scopeW (n : Int) : List UInt8 := if n = 1 then [115, 116, 114, 101, 97, 109] else [99, 111, 110, 110, 101, 99, 116, 105, 111, 110]
def textW (f : Fl) : List UInt8 := if flR f = true then scopeW f.scope ++ 58 :: codeN f.code else []
def showW (l : List Fl) : List UInt8 := if ofF l = [] then [45] else Lib.join ((ofF l).map textW) [44]
theorem textW_len (f : Fl) : (textW f).length ≤ 31 := by
  unfold textW scopeW
  have := codeN_len f.code
  split
  · split <;> simp <;> omega
  · simp
theorem textW_right {f : Fl} (h : flR f = true) : textW f = scopeW f.scope ++ 58 :: codeN f.code := by unfold textW; rw [if_pos h]
end Go.Proofs.YtmlbomblbdbikaaGreatDoor
/-
  Faults: texts read as faults, and as sets: plain laws.
-/
namespace Go.Proofs.YtmlbomblbdbikaaGreatDoor
set_option linter.unusedSimpArgs false
set_option linter.unusedVariables false
set_option linter.unusedSectionVars false
open Go.ChangeShapes Go.WideShapes Go.ChangeAt Go.RowKit Go.Deep

def hdF (c : UInt8) : List UInt8 → Option (List UInt8 × List UInt8)
  | [] => none
  | x :: r => if x = c then some ([], r) else (hdF c r).map fun p => (x :: p.1, p.2)
theorem hd_some {c : UInt8} : ∀ {s a b : List UInt8}, hdF c s = some (a, b) → s = a ++ c :: b ∧ c ∉ a
  | [], a, b, h => by cases h
  | x :: r, a, b, h => by
    unfold hdF at h
    split at h
    · rename_i hx
      injection h with h
      obtain ⟨rfl, rfl⟩ := Prod.mk.inj h
      exact ⟨by rw [hx]; rfl, by simp⟩
    · rename_i hx
      obtain ⟨⟨a', b'⟩, h1, h2⟩ := Option.map_eq_some_iff.1 h
      obtain ⟨rfl, rfl⟩ := Prod.mk.inj h2
      obtain ⟨rfl, h3⟩ := hd_some h1
      refine ⟨rfl, ?_⟩
      simp only [List.mem_cons, not_or]
      exact ⟨fun e => hx e.symm, h3⟩
theorem hd_app (c : UInt8) (b : List UInt8) : ∀ a : List UInt8, c ∉ a → hdF c (a ++ c :: b) = some (a, b)
  | [], _ => by simp [hdF]
  | x :: r, h => by
    simp only [List.mem_cons, not_or] at h
    rw [List.cons_append, hdF, if_neg (fun e => h.1 e.symm), hd_app c b r h.2]
    rfl
theorem hd_none {c : UInt8} : ∀ {s : List UInt8}, hdF c s = none → c ∉ s
  | [], _ => by simp
  | x :: r, h => by
    unfold hdF at h
    split at h
    · cases h
    · rename_i hx
      simp only [List.mem_cons, not_or]
      exact ⟨fun e => hx e.symm, hd_none (Option.map_eq_none_iff.1 h)⟩
/-- What the program reads, and what the document reads. -/
def readW (s : List UInt8) : Fl × Bool :=
  match hdF 58 s with
  | none => (⟨0, 0⟩, false)
  | some (a, b) => if (codeOf b).2 = true ∧ a = [115, 116, 114, 101, 97, 109] then (⟨1, (codeOf b).1⟩, true) else if (codeOf b).2 = true ∧ a = [99, 111, 110, 110, 101, 99, 116, 105, 111, 110] then (⟨2, (codeOf b).1⟩, true) else (⟨0, 0⟩, false)
def docFl (a b : List UInt8) : Fl := ⟨if a = [99, 111, 110, 110, 101, 99, 116, 105, 111, 110] then 2 else 1, (codeOf b).1⟩
def readD (s : List UInt8) : Fl × Bool :=
  match hdF 58 s with
  | none => (⟨0, 0⟩, false)
  | some (a, b) => if (codeOf b).2 = true ∧ textW (docFl a b) = s then (docFl a b, true) else (⟨0, 0⟩, false)
theorem scope_inj {a x y : List UInt8} (h : a ++ 58 :: y = x ++ 58 :: y) : a = x := List.append_cancel_right h
theorem flR_mk {n c : Int} (hn : n = 1 ∨ n = 2) (h0 : 0 ≤ c) (h1 : c ≤ 4294967295) : flR ⟨n, c⟩ = true := by
  unfold flR
  simp only [Bool.and_eq_true, Bool.or_eq_true, decide_eq_true_eq]
  exact ⟨hn, h0, by omega⟩
theorem flR_parts {f : Fl} (h : flR f = true) : (f.scope = 1 ∨ f.scope = 2) ∧ 0 ≤ f.code ∧ f.code ≤ 4294967295 := by
  unfold flR at h
  simp only [Bool.and_eq_true, Bool.or_eq_true, decide_eq_true_eq] at h
  exact ⟨h.1, h.2.1, by omega⟩
theorem readW_eq (s : List UInt8) : readW s = readD s := by
  unfold readW readD
  cases h : hdF 58 s with
  | none => rfl
  | some p =>
    obtain ⟨a, b⟩ := p
    obtain ⟨rfl, hna⟩ := hd_some h
    simp only
    cases hc : (codeOf b).2
    · simp
    · obtain ⟨c1, c2, c3⟩ := codeOf_yes hc
      simp only [true_and]
      by_cases h1 : a = [115, 116, 114, 101, 97, 109]
      · subst h1
        rw [if_pos rfl]
        have hd : docFl [115, 116, 114, 101, 97, 109] b = ⟨1, (codeOf b).1⟩ := by unfold docFl; rw [if_neg (by decide)]
        rw [hd, textW_right (flR_mk (.inl rfl) c2 c3), if_pos]
        show scopeW 1 ++ 58 :: codeN (codeOf b).1 = _
        rw [c1]; rfl
      · rw [if_neg h1]
        by_cases h2 : a = [99, 111, 110, 110, 101, 99, 116, 105, 111, 110]
        · subst h2
          rw [if_pos rfl]
          have hd : docFl [99, 111, 110, 110, 101, 99, 116, 105, 111, 110] b = ⟨2, (codeOf b).1⟩ := by unfold docFl; rw [if_pos rfl]
          rw [hd, textW_right (flR_mk (.inr rfl) c2 c3), if_pos]
          show scopeW 2 ++ 58 :: codeN (codeOf b).1 = _
          rw [c1]; rfl
        · rw [if_neg h2]
          have hd : docFl a b = ⟨1, (codeOf b).1⟩ := by unfold docFl; rw [if_neg h2]
          rw [hd, textW_right (flR_mk (.inl rfl) c2 c3), if_neg]
          show ¬ scopeW 1 ++ 58 :: codeN (codeOf b).1 = _
          rw [c1]
          exact fun e => h1 (scope_inj e).symm
theorem scope_colon (n : Int) : (58 : UInt8) ∉ scopeW n := by unfold scopeW; split <;> decide
theorem readW_text {f : Fl} (h : flR f = true) : readW (textW f) = (f, true) := by
  obtain ⟨h1, h2, h3⟩ := flR_parts h
  rw [textW_right h]
  unfold readW
  rw [hd_app _ _ _ (scope_colon _)]
  simp only
  rw [codeOf_name h2 h3]
  obtain ⟨n, c⟩ := f
  simp only at h1 ⊢
  rcases h1 with rfl | rfl
  · rw [if_pos ⟨trivial, rfl⟩]
  · rw [if_neg (by decide), if_pos ⟨trivial, rfl⟩]
theorem readW_yes {s : List UInt8} (h : (readW s).2 = true) : flR (readW s).1 = true ∧ textW (readW s).1 = s := by
  have he := readW_eq s
  rw [he] at h ⊢
  unfold readD at h ⊢
  cases hh : hdF 58 s with
  | none => rw [hh] at h; cases h
  | some p =>
    obtain ⟨a, b⟩ := p
    rw [hh] at h
    simp only at h ⊢
    by_cases hc : (codeOf b).2 = true ∧ textW (docFl a b) = s
    · rw [if_pos hc]
      obtain ⟨c1, c2, c3⟩ := codeOf_yes hc.1
      refine ⟨?_, hc.2⟩
      show flR (docFl a b) = true
      unfold docFl
      exact flR_mk (by split <;> simp) c2 c3
    · rw [if_neg hc] at h; cases h
theorem readW_no {s : List UInt8} (h : (readW s).2 = false) : readW s = (⟨0, 0⟩, false) := by
  have he := readW_eq s
  rw [he] at h ⊢
  unfold readD at h ⊢
  cases hh : hdF 58 s with
  | none => rfl
  | some p =>
    obtain ⟨a, b⟩ := p
    rw [hh] at h
    simp only at h ⊢
    by_cases hc : (codeOf b).2 = true ∧ textW (docFl a b) = s
    · rw [if_pos hc] at h; cases h
    · rw [if_neg hc]
theorem textW_inj {f g : Fl} (hf : flR f = true) (hg : flR g = true) (h : textW f = textW g) : f = g := by
  have h1 := readW_text hf
  rw [h, readW_text hg] at h1
  exact ((Prod.mk.inj h1).1).symm

/-! Sets. 'goW': the program's reading of a set's words, behind some that were read; 'allD': the document's. -/
def okBy (last : Option Fl) (f : Fl) : Bool := match last with
  | none => true
  | some x => ltFl x f
def goW : List (List UInt8) → Option Fl → Option (List Fl)
  | [], _ => some []
  | s :: r, last => if (readW s).2 = true ∧ okBy last (readW s).1 = true then (goW r (some (readW s).1)).map ((readW s).1 :: ·) else none
def allD : List (List UInt8) → Option (List Fl)
  | [] => some []
  | s :: r => if (readW s).2 = true then (allD r).map ((readW s).1 :: ·) else none
def setE : Option (List Fl) → List Fl × Bool
  | none => ([], false)
  | some l => (l, true)
def setW (s : List UInt8) : List Fl × Bool := if s = [45] then ([], true) else setE (goW (cutF 44 s) none)
def setD (s : List UInt8) : List Fl × Bool := if s = [45] then ([], true) else match allD (cutF 44 s) with
  | none => ([], false)
  | some l => if showW l = s then (l, true) else ([], false)
theorem allD_text : ∀ {p : List (List UInt8)} {l : List Fl}, allD p = some l → p = l.map textW ∧ ∀ f ∈ l, flR f = true
  | [], l, h => by simp only [allD] at h; injection h with h; subst h; simp
  | s :: r, l, h => by
    unfold allD at h
    split at h
    · rename_i hs
      obtain ⟨m, h1, rfl⟩ := Option.map_eq_some_iff.1 h
      obtain ⟨h2, h3⟩ := allD_text h1
      obtain ⟨h4, h5⟩ := readW_yes hs
      refine ⟨by rw [List.map_cons, h5, ← h2], fun f hf => ?_⟩
      rcases List.mem_cons.1 hf with rfl | hf
      · exact h4
      · exact h3 f hf
    · cases h
theorem goW_all : ∀ {p : List (List UInt8)} {last : Option Fl} {l : List Fl}, goW p last = some l ↔ allD p = some l ∧ (∀ x f, last = some x → l.head? = some f → ltFl x f = true) ∧ Strict ltFl l
  | [], last, l => by
    simp only [goW, allD]
    constructor
    · intro h; injection h with h; subst h; exact ⟨rfl, by simp, List.Pairwise.nil⟩
    · rintro ⟨h, _, _⟩; exact h
  | s :: r, last, l => by
    unfold goW allD
    cases hs : (readW s).2
    · simp
    · simp only [true_and, if_true]
      generalize (readW s).1 = f
      constructor
      · intro h
        split at h
        · rename_i hok
          obtain ⟨m, h1, rfl⟩ := Option.map_eq_some_iff.1 h
          obtain ⟨h2, h3, h4⟩ := goW_all.1 h1
          refine ⟨by rw [h2]; rfl, ?_, ?_⟩
          · intro x g hx hg
            simp only [List.head?_cons, Option.some.injEq] at hg
            subst hg hx
            exact hok
          · refine List.pairwise_cons.2 ⟨fun y hy => ?_, h4⟩
            cases m with
            | nil => cases hy
            | cons z t =>
              have hz := h3 f z rfl rfl
              rcases List.mem_cons.1 hy with rfl | hy
              · exact hz
              · exact ordFl.tr _ _ _ hz ((List.pairwise_cons.1 h4).1 y hy)
        · cases h
      · rintro ⟨h1, h2, h3⟩
        obtain ⟨m, h4, rfl⟩ := Option.map_eq_some_iff.1 h1
        have hok : okBy last f = true := by
          cases last with
          | none => rfl
          | some x => exact h2 x f rfl rfl
        rw [if_pos hok]
        have h5 : goW r (some f) = some m := goW_all.2 ⟨h4, fun x g hx hg => by
          injection hx with hx
          subst hx
          cases m with
          | nil => cases hg
          | cons z t =>
            simp only [List.head?_cons, Option.some.injEq] at hg
            subst hg
            exact (List.pairwise_cons.1 h3).1 _ (by simp), (List.pairwise_cons.1 h3).2⟩
        rw [h5]; rfl
theorem digits_comma (n : Int) : (44 : UInt8) ∉ Lib.itoa n := itoa_free n
theorem codeN_comma (c : Int) : (44 : UInt8) ∉ codeN c := by
  unfold codeN
  split
  · simp
  · split
    · rename_i h1 h2
      have : ∀ m : Fin 14, (44 : UInt8) ∉ cdName m.val := by decide
      exact this ⟨c.toNat, by omega⟩
    · exact digits_comma c
theorem textW_comma (f : Fl) : (44 : UInt8) ∉ textW f := by
  unfold textW
  split
  · simp only [List.mem_append, List.mem_cons, not_or]
    refine ⟨?_, by decide, codeN_comma _⟩
    unfold scopeW
    split <;> decide
  · simp
theorem cut_show (l : List Fl) (h : ofF l ≠ []) : cutF 44 (showW l) = (ofF l).map textW := by
  unfold showW
  rw [if_neg h]
  exact cut_join 44 _ (by simpa using h) (by simp only [List.mem_map]; rintro w ⟨f, _, rfl⟩; exact textW_comma f)
theorem map_text_inj : ∀ {l m : List Fl}, (∀ f ∈ l, flR f = true) → (∀ f ∈ m, flR f = true) → l.map textW = m.map textW → l = m
  | [], [], _, _, _ => rfl
  | [], g :: m, _, _, h => by simp at h
  | f :: l, [], _, _, h => by simp at h
  | f :: l, g :: m, hl, hm, h => by
    simp only [List.map_cons, List.cons.injEq] at h
    rw [textW_inj (hl f (by simp)) (hm g (by simp)) h.1, map_text_inj (fun x hx => hl x (by simp [hx])) (fun x hx => hm x (by simp [hx])) h.2]
theorem ofF_right (l : List Fl) : ∀ f ∈ ofF l, flR f = true := fun f hf => ((mem_ofF l f).1 hf).2
theorem setW_eq (s : List UInt8) : setW s = setD s := by
  unfold setW setD
  by_cases hd : s = [45]
  · rw [if_pos hd, if_pos hd]
  · rw [if_neg hd, if_neg hd]
    cases ha : allD (cutF 44 s) with
    | none =>
      have : goW (cutF 44 s) none = none := by
        cases hg : goW (cutF 44 s) none with
        | none => rfl
        | some l => rw [(goW_all.1 hg).1] at ha; cases ha
      rw [this]; rfl
    | some l =>
      obtain ⟨h1, h2⟩ := allD_text ha
      have hne : l ≠ [] := by
        obtain ⟨x, t, e⟩ := cut_ne 44 s
        intro hl
        rw [hl, e] at h1; simp at h1
      simp only
      by_cases hst : Strict ltFl l
      · have ho := ofF_of hst h2
        have hg : goW (cutF 44 s) none = some l := goW_all.2 ⟨ha, fun x f hx => (by cases hx), hst⟩
        rw [hg, if_pos]
        · rfl
        · unfold showW
          rw [ho, if_neg hne, ← h1, join_cut]
      · have hg : goW (cutF 44 s) none = none := by
          cases hg : goW (cutF 44 s) none with
          | none => rfl
          | some m =>
            obtain ⟨h3, _, h4⟩ := goW_all.1 hg
            rw [ha] at h3
            injection h3 with h3
            subst h3
            exact absurd h4 hst
        rw [hg, if_neg]
        · rfl
        · intro hs
          by_cases h0 : ofF l = []
          · unfold showW at hs
            rw [if_pos h0] at hs
            exact hd hs.symm
          · have h5 := cut_show l h0
            rw [hs, h1] at h5
            have h6 := map_text_inj h2 (ofF_right l) h5
            exact hst (by rw [h6]; exact strict_ofF l)
theorem setW_show (l : List Fl) : setW (showW l) = (ofF l, true) := by
  by_cases h0 : ofF l = []
  · unfold setW showW
    rw [if_pos h0, if_pos rfl, h0]
  · have hc := cut_show l h0
    have hne : showW l ≠ [45] := by
      intro e
      rw [e] at hc
      have h1 : cutF 44 [45] = [[45]] := by decide
      rw [h1] at hc
      cases hl : ofF l with
      | nil => exact h0 hl
      | cons f t =>
        rw [hl] at hc
        simp only [List.map_cons, List.cons.injEq] at hc
        have h2 := readW_text (ofF_right l f (by rw [hl]; simp))
        rw [← hc.1, show readW [45] = ((⟨0, 0⟩ : Fl), false) by decide] at h2
        cases h2
    unfold setW
    rw [if_neg hne, hc]
    have hr := ofF_right l
    have hst := strict_ofF l
    have ha : ∀ m : List Fl, (∀ f ∈ m, flR f = true) → allD (m.map textW) = some m := by
      intro m
      induction m with
      | nil => intro _; rfl
      | cons f t ih =>
        intro hm
        rw [List.map_cons, allD, readW_text (hm f (by simp)), if_pos rfl, ih (fun x hx => hm x (by simp [hx]))]
        rfl
    rw [goW_all.2 ⟨ha _ hr, fun x f hx => (by cases hx), hst⟩]
    rfl
end Go.Proofs.YtmlbomblbdbikaaGreatDoor
