/-
  Summaries: texts in their order; sections; counts: plain laws.
-/
import Derived.Test.YtfgldglelijekaaGreatDoorRul4
import Derived.Test.YtfgldglelijekaaGreatDoorRec1
import Derived.Sort.Walk0
namespace Go.Proofs.YtfgldglelijekaaGreatDoor
set_option linter.unusedSimpArgs false
set_option linter.unusedVariables false
set_option linter.unusedSectionVars false
open Go.ChangeShapes Go.WideShapes Go.ChangeAt Go.RowKit Go.Deep

/-! Texts in their order. -/
def ltX (a b : List UInt8) : Bool := decide (a < b)
theorem ordX : Ord ltX :=
  ⟨fun a => by simp [ltX, List.lt_irrefl], fun a b c h1 h2 => by simp only [ltX, decide_eq_true_eq] at *; exact List.lt_trans h1 h2, fun a b h => by
    simp only [ltX, decide_eq_true_eq]
    rcases Decidable.em (a < b) with h1 | h1
    · exact .inl h1
    · rcases Decidable.em (b < a) with h2 | h2
      · exact .inr h2
      · exact absurd (List.le_antisymm (List.not_lt.1 h2) (List.not_lt.1 h1)) h⟩
theorem sort_setX (l : List (List UInt8)) : Lib.compact (l.mergeSort fun x y => decide (x ≤ y)) = setS ltX l := by
  have hp : (l.mergeSort fun x y => decide (x ≤ y)).Pairwise (fun a b => (decide (a ≤ b)) = true) := List.pairwise_mergeSort (fun a b c h1 h2 => by simp only [decide_eq_true_eq] at *; exact List.le_trans h1 h2) (fun a b => by
    rcases List.le_total a b with h | h <;> simp [h]) l
  exact compact_set ordX (hp.imp fun h => by
    simp only [ltX, decide_eq_true_eq, decide_eq_false_iff_not] at *
    exact List.not_lt.2 h) (fun x => (List.mergeSort_perm l _).mem_iff)

theorem minS_nextB {α : Type} [DecidableEq α] {lt : α → α → Bool} (O : Ord lt) (q : α → Bool) (l S : List α) (hS : Strict lt S) (hm : ∀ x, x ∈ S ↔ x ∈ l ∧ q x = true) (n : Nat) (p : α → Bool) (hp : ∀ x, p x = true ↔ x ∈ S.take n) :
    minS lt (fun x => q x && !p x) l none = S[n]? := by
  rw [← minS_next O q l S hS hm n]
  congr 1
  funext x
  congr 2
  rw [Bool.eq_iff_iff, hp, decide_eq_true_iff]

/-! Where rules are written. -/
abbrev secR (n : Int) : List UInt8 := tabN secW n
theorem secR_len (n : Int) : (secR n).length ≤ 9 := by
  unfold secR tabN
  split
  · simp
  · have : ∀ m : Fin 35, (secW.getD m.val []).length ≤ 9 := by decide +kernel
    exact this ⟨(n - 1).toNat, by omega⟩
theorem secR_ne {n : Int} (h : rulR n = true) : secR n ≠ [] := by
  obtain ⟨k, rfl, hk⟩ := rul_in h
  rw [show secR ((k : Int) + 1) = secW.getD k [] from tab_in secW k hk]
  have : ∀ m : Fin 35, secW.getD m.val [] ≠ [] := by decide +kernel
  exact this ⟨k, hk⟩
theorem secR_no {n : Int} (h : rulR n = false) : secR n = [] := tab_out secW (by simp [rulR] at h; omega)
/-- The sections of some rules. -/
def secS (l : List Int) : List (List UInt8) := setS ltX ((ofR l).map secR)
theorem mem_secS (l : List Int) (x : List UInt8) : x ∈ secS l ↔ x ∈ l.map secR ∧ (!x.isEmpty) = true := by
  unfold secS
  rw [mem_setS]
  simp only [List.mem_map, mem_ofR]
  constructor
  · rintro ⟨n, ⟨h1, h2⟩, rfl⟩
    refine ⟨⟨n, h1, rfl⟩, ?_⟩
    have := secR_ne h2
    cases h : secR n with
    | nil => exact absurd h this
    | cons => rfl
  · rintro ⟨⟨n, h1, rfl⟩, h2⟩
    refine ⟨n, ⟨h1, ?_⟩, rfl⟩
    cases h : rulR n with
    | true => rfl
    | false => rw [secR_no h] at h2; simp at h2
theorem strict_secS (l : List Int) : Strict ltX (secS l) := strict_setS ordX _
theorem secS_len (l : List Int) : (secS l).length ≤ l.length := by
  have h1 := setS_len (lt := ltX) ((ofR l).map secR)
  have h2 := ofR_len l
  rw [List.length_map] at h1
  exact Nat.le_trans h1 h2
theorem secS_short (l : List Int) : ∀ x ∈ secS l, x.length ≤ 9 := fun x hx => by
  obtain ⟨n, _, rfl⟩ := List.mem_map.1 ((mem_secS l x).1 hx).1
  exact secR_len n
def amongX (l : List (List UInt8)) (s : List UInt8) : Bool := l.any (fun x => x == s)
theorem amongX_iff (l : List (List UInt8)) (s : List UInt8) : amongX l s = true ↔ s ∈ l := by
  unfold amongX
  rw [List.any_eq_true]
  constructor
  · rintro ⟨x, hx, he⟩
    have : x = s := by simpa using he
    rw [← this]; exact hx
  · intro h
    exact ⟨s, h, by simp⟩
theorem secS_next (l : List Int) (n : Nat) : minS ltX (fun x => (!x.isEmpty) && !amongX ((secS l).take n) x) (l.map secR) none = (secS l)[n]? := by
  exact minS_nextB ordX (fun x => !x.isEmpty) (l.map secR) (secS l) (strict_secS l) (mem_secS l) n _ (fun x => amongX_iff _ x)

/-! Counts. -/
def szR (x : Rec) : Int := (if inB x.ln 16777215 = true then x.ln else 0) + (if x.ty = -1 then 0 else 9)
def tyI (x : Rec) : Nat := if inB x.ty 9 = true then x.ty.toNat else 10
def in0 (x : Rec) : Bool := decide (x.fr = 0) || decide (x.fr = 1)
def kdOk (x : Rec) : Bool := inB (x.kd - 1) 3
def cv (k : Nat) (x : Rec) : Int :=
  if in0 x = false then 0 else
  if k < 2 then (if x.fr = (k : Int) then 1 else 0) else
  if k < 4 then (if x.fr + 2 = (k : Int) then szR x else 0) else
  if k < 15 then (if tyI x + 4 = k then 1 else 0) else
  if kdOk x = true ∧ x.kd + 15 = (k : Int) then 1 else 0
def tot (k : Nat) (l : List Rec) : Int := (l.map (cv k)).sum
theorem tyI_lt (x : Rec) : tyI x ≤ 10 := by
  unfold tyI
  split
  · rename_i h; rw [inB_iff] at h; omega
  · omega
theorem szR_bd (x : Rec) : 0 ≤ szR x ∧ szR x ≤ 16777224 := by
  unfold szR
  split
  · rename_i h; rw [inB_iff] at h; split <;> omega
  · split <;> omega
theorem cv_bd (k : Nat) (x : Rec) : 0 ≤ cv k x ∧ cv k x ≤ 16777224 := by
  have := szR_bd x
  unfold cv
  repeat' split
  all_goals omega
theorem tot_cons (k : Nat) (x : Rec) (l : List Rec) : tot k (x :: l) = cv k x + tot k l := by simp [tot]
theorem tot_app (k : Nat) (l m : List Rec) : tot k (l ++ m) = tot k l + tot k m := by simp [tot]
theorem tot_bd (k : Nat) : ∀ l : List Rec, 0 ≤ tot k l ∧ tot k l ≤ 16777224 * l.length
  | [] => by simp [tot]
  | x :: r => by
    have h1 := cv_bd k x
    have h2 := tot_bd k r
    rw [tot_cons, List.length_cons]
    omega
theorem tot_step (k : Nat) (l : List Rec) (i : Nat) (h : i < l.length) : tot k (l.take (i + 1)) = tot k (l.take i) + cv k l[i] := by
  rw [List.take_succ_eq_append_getElem h, tot_app]
  simp [tot]

/-! One side behind the other. -/
def sv (side : Int) (k : Nat) (x : Rec) : Int := if x.fr = side then cv k x else 0
def tots (side : Int) (k : Nat) (l : List Rec) : Int := (l.map (sv side k)).sum
theorem tots_step (s : Int) (k : Nat) (l : List Rec) (i : Nat) (h : i < l.length) : tots s k (l.take (i + 1)) = tots s k (l.take i) + sv s k l[i] := by
  rw [List.take_succ_eq_append_getElem h]
  unfold tots
  rw [List.map_append, List.sum_append]
  simp
theorem tots_two (k : Nat) : ∀ l : List Rec, tots 0 k l + tots 1 k l = tot k l
  | [] => by simp [tots, tot]
  | x :: r => by
    have ih := tots_two k r
    have h : sv 0 k x + sv 1 k x = cv k x := by
      unfold sv
      by_cases h0 : x.fr = 0
      · rw [if_pos h0, if_neg (by omega)]; omega
      · by_cases h1 : x.fr = 1
        · rw [if_neg h0, if_pos h1]; omega
        · rw [if_neg h0, if_neg h1]
          unfold cv in0
          rw [if_pos (by simp [h0, h1])]; rfl
    rw [tot_cons]
    simp only [tots, List.map_cons, List.sum_cons] at ih ⊢
    omega
theorem types_all : ∀ l : List Rec, (List.range 11).foldl (fun s i => s + tot (4 + i) l) 0 = tot 0 l + tot 1 l
  | [] => by decide
  | x :: r => by
    have ih := types_all r
    have e : List.range 11 = [0, 1, 2, 3, 4, 5, 6, 7, 8, 9, 10] := by decide
    rw [e] at ih ⊢
    simp only [List.foldl_cons, List.foldl_nil, tot_cons] at ih ⊢
    have h : cv 4 x + cv 5 x + cv 6 x + cv 7 x + cv 8 x + cv 9 x + cv 10 x + cv 11 x + cv 12 x + cv 13 x + cv 14 x = cv 0 x + cv 1 x := by
      have ht := tyI_lt x
      unfold cv
      cases h0 : in0 x with
      | false => simp
      | true =>
        have h01 : x.fr = 0 ∨ x.fr = 1 := by simpa [in0] using h0
        have hl : (if x.fr = ((0 : Nat) : Int) then (1 : Int) else 0) + (if x.fr = ((1 : Nat) : Int) then 1 else 0) = 1 := by
          rcases h01 with h | h <;> rw [h] <;> rfl
        generalize tyI x = t at ht
        simp only [Bool.true_eq_false, if_false, (by decide : (0 : Nat) < 2), (by decide : (1 : Nat) < 2), if_true, hl]
        have : t = 0 ∨ t = 1 ∨ t = 2 ∨ t = 3 ∨ t = 4 ∨ t = 5 ∨ t = 6 ∨ t = 7 ∨ t = 8 ∨ t = 9 ∨ t = 10 := by omega
        rcases this with rfl | rfl | rfl | rfl | rfl | rfl | rfl | rfl | rfl | rfl | rfl <;> rfl
    simp only [Nat.reduceAdd] at ih ⊢
    omega
end Go.Proofs.YtfgldglelijekaaGreatDoor
