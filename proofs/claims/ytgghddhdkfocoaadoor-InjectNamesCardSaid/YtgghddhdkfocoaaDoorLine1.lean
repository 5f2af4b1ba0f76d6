/-
  Lines of words: cut at a byte, joined with it. No program in sight but for what a word is.
-/
import Derived.Test.YtgghddhdkfocoaaDoorSlX
import Derived.Lib.SplitLaws
import Derived.Lib.Join
namespace Go.Proofs.YtgghddhdkfocoaaDoor
set_option linter.unusedSimpArgs false
set_option linter.unusedVariables false
set_option linter.unusedSectionVars false
open Go.ChangeShapes Go.WideShapes Go.ChangeAt Go.RowKit Go.Deep Go.Shelf

def preF (p : List UInt8) : List (List UInt8) → List (List UInt8)
  | [] => [p]
  | h :: t => (p ++ h) :: t
def cutF (c : UInt8) : List UInt8 → List (List UInt8)
  | [] => [[]]
  | x :: r => if x = c then [] :: cutF c r else preF [x] (cutF c r)
theorem cut_ne (c : UInt8) (s : List UInt8) : ∃ h t, cutF c s = h :: t := by
  cases s with
  | nil => exact ⟨_, _, rfl⟩
  | cons x r =>
    unfold cutF
    split
    · exact ⟨_, _, rfl⟩
    · cases cutF c r <;> exact ⟨_, _, rfl⟩
theorem index_cons_eq (c : UInt8) (l : List UInt8) : Lib.index (c :: l) [c] = 0 := by rw [Lib.index]; simp [List.isPrefixOf]
theorem index_cons_ne (b c : UInt8) (l : List UInt8) (h : b ≠ c) : Lib.index (b :: l) [c] = if Lib.index l [c] == -1 then -1 else Lib.index l [c] + 1 := by
  have hp : ([c] : List UInt8).isPrefixOf (b :: l) = false := by simp [List.isPrefixOf, Ne.symm h]
  rw [Lib.index, hp]; simp
theorem split_cut (c : UInt8) : ∀ s : List UInt8, Lib.split s [c] = cutF c s
  | [] => by unfold Lib.split; rw [Lib.count_miss (by simp [Lib.index])]; rfl
  | x :: r => by
    have ih := split_cut c r
    unfold cutF
    by_cases h : x = c
    · subst h
      rw [if_pos rfl, ← ih]
      unfold Lib.split
      rw [Lib.count_cons_eq, Nat.add_comm, Lib.splitK, if_neg (by rw [index_cons_eq]; decide), index_cons_eq]
      rfl
    · rw [if_neg h, ← ih]
      unfold Lib.split
      rw [Lib.count_cons_ne _ _ _ h]
      by_cases hm : Lib.index r [c] = -1
      · rw [Lib.count_miss hm]; rfl
      · have hge := Lib.index_ge r [c]
        obtain ⟨j, hj⟩ : ∃ j : Nat, Lib.index r [c] = j := ⟨(Lib.index r [c]).toNat, by omega⟩
        have hix : Lib.index (x :: r) [c] = ((j + 1 : Nat) : Int) := by rw [index_cons_ne _ _ _ h, if_neg (fun e => hm (beq_iff_eq.1 e)), hj]; omega
        have hmm : ¬ (Lib.index r [c] == -1) = true := fun e => hm (beq_iff_eq.1 e)
        have hmm2 : ¬ (Lib.index (x :: r) [c] == -1) = true := fun e => by have := beq_iff_eq.1 e; omega
        rw [Lib.count_hit (by simp) hj, Nat.add_comm, Lib.splitK, Lib.splitK, if_neg hmm, if_neg hmm2, hix, hj]
        have e1 : ((j + 1 : Nat) : Int).toNat = j + 1 := by omega
        have e2 : (j : Int).toNat = j := by omega
        rw [e1, e2]
        rfl
theorem cut_free (c : UInt8) : ∀ (s : List UInt8), ∀ w ∈ cutF c s, c ∉ w
  | [], w, h => by simp [cutF] at h; subst h; simp
  | x :: r, w, h => by
    have ih := cut_free c r
    unfold cutF at h
    split at h
    · rcases List.mem_cons.1 h with rfl | h
      · simp
      · exact ih w h
    · rename_i hx
      obtain ⟨a, t, e⟩ := cut_ne c r
      rw [e] at h ih
      rcases List.mem_cons.1 h with rfl | h
      · have := ih a (by simp)
        simp [this]
        exact fun e => hx e.symm
      · exact ih w (by simp [h])
theorem cut_short (c : UInt8) : ∀ (s : List UInt8), ∀ w ∈ cutF c s, w.length ≤ s.length
  | [], w, h => by simp [cutF] at h; subst h; simp
  | x :: r, w, h => by
    have ih := cut_short c r
    unfold cutF at h
    split at h
    · rcases List.mem_cons.1 h with rfl | h
      · simp
      · have := ih w h; simp; omega
    · obtain ⟨a, t, e⟩ := cut_ne c r
      rw [e] at h ih
      rcases List.mem_cons.1 h with rfl | h
      · have := ih a (by simp); simp; omega
      · have := ih w (by simp [h]); simp; omega
theorem cut_len (c : UInt8) : ∀ (s : List UInt8), (cutF c s).length ≤ s.length + 1
  | [] => by simp [cutF]
  | x :: r => by
    have ih := cut_len c r
    unfold cutF
    split
    · simp; omega
    · obtain ⟨a, t, e⟩ := cut_ne c r
      rw [e] at ih ⊢
      simp [preF] at ih ⊢; omega
theorem join_two (w v : List UInt8) (t : List (List UInt8)) (s : List UInt8) : Lib.join (w :: v :: t) s = w ++ (s ++ Lib.join (v :: t) s) := by
  rw [Lib.join_cons, Lib.join_cons]; simp [Lib.joinTail]
theorem join_cut (c : UInt8) : ∀ s : List UInt8, Lib.join (cutF c s) [c] = s
  | [] => by simp [cutF, Lib.join_one]
  | x :: r => by
    have ih := join_cut c r
    unfold cutF
    obtain ⟨a, t, e⟩ := cut_ne c r
    rw [e] at ih ⊢
    split
    · rename_i h
      rw [join_two, ih, h]; rfl
    · show Lib.join ((x :: a) :: t) [c] = _
      rw [Lib.join_cons] at ih ⊢
      rw [← ih]; rfl
theorem cut_none (c : UInt8) : ∀ w : List UInt8, c ∉ w → cutF c w = [w]
  | [], _ => rfl
  | x :: r, h => by
    simp only [List.mem_cons, not_or] at h
    unfold cutF
    rw [if_neg (fun e => h.1 e.symm), cut_none c r h.2]; rfl
theorem cut_app (c : UInt8) (r : List UInt8) : ∀ w : List UInt8, c ∉ w → cutF c (w ++ c :: r) = w :: cutF c r
  | [], _ => by simp [cutF]
  | x :: s, h => by
    simp only [List.mem_cons, not_or] at h
    show cutF c (x :: (s ++ c :: r)) = _
    conv => lhs; unfold cutF
    rw [if_neg (fun e => h.1 e.symm), cut_app c r s h.2]; rfl
theorem cut_join (c : UInt8) : ∀ l : List (List UInt8), l ≠ [] → (∀ w ∈ l, c ∉ w) → cutF c (Lib.join l [c]) = l
  | [], h, _ => absurd rfl h
  | [w], _, h => by rw [Lib.join_one]; exact cut_none c w (h w (by simp))
  | w :: v :: t, _, h => by
    rw [join_two]
    show cutF c (w ++ c :: Lib.join (v :: t) [c]) = _
    rw [cut_app c _ w (h w (by simp)), cut_join c (v :: t) (by simp) (fun x hx => h x (List.mem_cons_of_mem _ hx))]
theorem cut_pre (c : UInt8) (p r : List UInt8) (h : c ∉ p) : cutF c (p ++ r) = preF p (cutF c r) := by
  induction p with
  | nil => obtain ⟨a, t, e⟩ := cut_ne c r; rw [List.nil_append, e]; rfl
  | cons x s ih =>
    simp only [List.mem_cons, not_or] at h
    show cutF c (x :: (s ++ r)) = _
    rw [cutF, if_neg (fun e => h.1 e.symm), ih h.2]
    obtain ⟨a, t, e⟩ := cut_ne c r
    rw [e]; rfl

theorem index_mem (w : List UInt8) (c : UInt8) : decide (0 ≤ Lib.indexByte w c) = w.any (· == c) := by
  induction w with
  | nil => rfl
  | cons b l ih =>
    have hge := Lib.indexByte_ge l c
    rw [Lib.indexByte, List.any_cons, ← ih]
    cases h : (b == c)
    · simp only [Bool.false_eq_true, if_false, Bool.false_or]
      split
      · rename_i h2
        have := beq_iff_eq.1 h2
        simp [this]
      · rename_i h2
        have : ¬ Lib.indexByte l c = -1 := fun e => h2 (beq_iff_eq.2 e)
        have h0 : 0 ≤ Lib.indexByte l c := by omega
        simp only [h0, decide_true]
        simp
        omega
    · simp
def badB (x : UInt8) : Bool := x == 32 || x == 10
theorem okW_R (w : List UInt8) : okW w = (!w.isEmpty && !w.any badB) := by
  unfold okW
  rw [index_mem, index_mem]
  have : w.any badB = (w.any (· == 32) || w.any (· == 10)) := by
    induction w with
    | nil => rfl
    | cons a l ih => rw [List.any_cons, List.any_cons, List.any_cons, ih]; unfold badB; cases (a == 32) <;> cases (a == 10) <;> cases (l.any (· == 32)) <;> rfl
  rw [this]
  cases w.isEmpty <;> cases w.any (· == 32) <;> cases w.any (· == 10) <;> rfl
theorem okW_free {w : List UInt8} (h : okW w = true) : (32 : UInt8) ∉ w ∧ w ≠ [] := by
  unfold okW at h
  rw [index_mem, index_mem] at h
  simp at h
  exact ⟨fun hm => h.1.2 32 hm rfl, h.1.1⟩

def lineF (l : List (List UInt8)) : List UInt8 × Bool := if l.all okW = true then (Lib.join l [32], true) else ([], false)
def splitF (s : List UInt8) : List (List UInt8) × Bool := if s = [] then ([], true) else if (cutF 32 s).all okW = true then (cutF 32 s, true) else ([], false)
theorem join_ne {l : List (List UInt8)} (h : l.all okW = true) (hl : l ≠ []) : Lib.join l [32] ≠ [] := by
  cases l with
  | nil => exact absurd rfl hl
  | cons w t =>
    rw [Lib.join_cons]
    have := (okW_free (w := w) (by simp at h; exact h.1)).2
    simp [this]
theorem split_line (l : List (List UInt8)) (h : l.all okW = true) : splitF (Lib.join l [32]) = (l, true) := by
  by_cases hl : l = []
  · subst hl; rfl
  · unfold splitF
    rw [if_neg (join_ne h hl), cut_join 32 l hl (fun w hw => (okW_free (List.all_eq_true.1 h w hw)).1), if_pos h]
def linesF (s : List UInt8) : List (List UInt8) × Bool := if (cutF 10 s).getLast? = some [] then ((cutF 10 s).dropLast, true) else ([], false)
