/-
  Parts of the proof, one behind the other: contracts of the program and plain laws; no condition of their own.
-/
import Derived.Test.YtjhhdgmhocpceaaGreatDoorMh
import Derived.Lib.SlicesCompact
import Derived.Test.YtjhhdgmhocpceaaGreatDoorMb
import Derived.Test.YtjhhdgmhocpceaaGreatDoorMf
import Derived.Test.YtjhhdgmhocpceaaGreatDoorShelf
import Derived.Sort.OwnSortedInts
import Derived.Deep.LoopGhost
import Derived.BigGuardPart
import Derived.Test.YtjhhdgmhocpceaaGreatDoorMa
/-
  What is sorted, with neighbours struck that are the same, is the set: plain law.
-/
namespace Go.Proofs.YtjhhdgmhocpceaaGreatDoor
set_option linter.unusedSimpArgs false
set_option linter.unusedVariables false
set_option linter.unusedSectionVars false
open Go.ChangeShapes Go.WideShapes Go.ChangeAt Go.RowKit Go.Deep

section
variable {α : Type} [Inhabited α] [DecidableEq α] {lt : α → α → Bool}
theorem compG_mem (d : Array α) : ∀ m x, x ∈ Lib.compactUpTo d m ↔ ∃ j, j < m ∧ d[j]! = x
  | 0, x => by simp [Lib.compactUpTo]
  | m + 1, x => by
    have ih := compG_mem d m x
    rw [Lib.compactUpTo_succ, List.mem_append, ih]
    constructor
    · rintro (⟨j, hj, h⟩ | h)
      · exact ⟨j, by omega, h⟩
      · split at h
        · simp at h; exact ⟨m, by omega, h.symm⟩
        · simp at h
    · rintro ⟨j, hj, h⟩
      by_cases hjm : j = m
      · subst hjm
        cases hk : Lib.keeps d j with
        | true => right; simp [h]
        | false =>
          left
          have hn : ¬ (j = 0 ∨ d[j]! ≠ d[j - 1]!) := by simpa [Lib.keeps] using hk
          have h0 : j ≠ 0 := fun e => hn (.inl e)
          have h1 : d[j]! = d[j - 1]! := Decidable.byContradiction fun e => hn (.inr e)
          exact ⟨j - 1, by omega, by rw [← h1, h]⟩
      · exact .inl ⟨j, by omega, h⟩
theorem compG_strict (O : Ord lt) (d : Array α) (hs : ∀ i j, i < j → j < d.size → lt d[j]! d[i]! = false) : ∀ m, m ≤ d.size → Strict lt (Lib.compactUpTo d m)
  | 0, _ => by simp [Lib.compactUpTo, Strict]
  | m + 1, hm => by
    have ih := compG_strict O d hs m (by omega)
    rw [Lib.compactUpTo_succ]
    split
    · rename_i hk
      refine List.pairwise_append.2 ⟨ih, by simp, fun y hy z hz => ?_⟩
      simp at hz
      subst hz
      obtain ⟨j, hj, rfl⟩ := (compG_mem d m y).1 hy
      have hk' : m = 0 ∨ d[m]! ≠ d[m - 1]! := by simpa [Lib.keeps] using hk
      have h0 : d[m]! ≠ d[m - 1]! := by rcases hk' with h | h
                                        · omega
                                        · exact h
      have h1 := hs j m hj (by omega)
      have hlt : lt d[m - 1]! d[m]! = true := by
        rcases O.tot _ _ (Ne.symm h0) with h | h
        · exact h
        · rw [hs (m - 1) m (by omega) (by omega)] at h; cases h
      by_cases e : j = m - 1
      · rw [e]; exact hlt
      · have h2 := hs j (m - 1) (by omega) (by omega)
        by_cases e2 : d[j]! = d[m]!
        · rw [e2, hlt] at h2 <;> cases h2
        · rcases O.tot _ _ e2 with h | h
          · exact h
          · rw [h1] at h; cases h
    · simpa using ih
theorem compG_len (d : Array α) : ∀ m, (Lib.compactUpTo d m).length ≤ m
  | 0 => by simp [Lib.compactUpTo]
  | m + 1 => by
    have ih := compG_len d m
    rw [Lib.compactUpTo_succ]
    split <;> simp <;> omega
theorem compact_len (l : List α) : (Lib.compact l).length ≤ l.length := compG_len _ _
theorem compact_set (O : Ord lt) {m l : List α} (hs : m.Pairwise (fun a b => lt b a = false)) (hp : ∀ x, x ∈ m ↔ x ∈ l) : Lib.compact m = setS lt l := by
  unfold Lib.compact
  refine strict_ext O _ _ (compG_strict O m.toArray (fun i j hij hj => ?_) _ (by simp)) (strict_setS O l) (fun x => ?_)
  · rw [List.pairwise_iff_getElem] at hs
    have hj' : j < m.length := by simpa using hj
    have := hs i j (by omega) hj' hij
    rw [getElem!_pos m.toArray i (by simp; omega), getElem!_pos m.toArray j hj]
    simpa using this
  · rw [compG_mem, mem_setS, ← hp]
    constructor
    · rintro ⟨j, hj, rfl⟩
      rw [getElem!_pos m.toArray j (by simpa using hj)]; simp
    · intro h
      obtain ⟨j, hj, rfl⟩ := List.getElem_of_mem h
      exact ⟨j, hj, by rw [getElem!_pos m.toArray j (by simpa using hj)]; simp⟩
end

def leI (x y : Int) : Bool := decide (x ≤ y)
theorem sort_setI (l : List Int) : Lib.compact (l.mergeSort fun x y => decide (x ≤ y)) = setS ltI l := by
  have hp : (l.mergeSort fun x y => decide (x ≤ y)).Pairwise (fun a b => (decide (a ≤ b)) = true) := List.pairwise_mergeSort (fun a b c h1 h2 => by simp at *; omega) (fun a b => by simp; omega) l
  exact compact_set ordI (hp.imp fun h => by simp [ltI] at *; omega) (fun x => (List.mergeSort_perm l _).mem_iff)
end Go.Proofs.YtjhhdgmhocpceaaGreatDoor
/-
  Rules: sets of them, and their texts: plain laws; no walk.
-/
namespace Go.Proofs.YtjhhdgmhocpceaaGreatDoor
set_option linter.unusedSimpArgs false
set_option linter.unusedVariables false
set_option linter.unusedSectionVars false
open Go.ChangeShapes Go.WideShapes Go.ChangeAt Go.RowKit Go.Deep

def rulR (n : Int) : Bool := decide (1 ≤ n) && decide (n ≤ 35)
abbrev nameR (n : Int) : List UInt8 := tabN rulW n
def numR (s : List UInt8) : Int := idxX rulW s + 1
def ofR (l : List Int) : List Int := setS ltI (l.filter rulR)
def showR (l : List Int) : List UInt8 := if ofR l = [] then [45] else Lib.join ((ofR l).map nameR) [44]
theorem rul_in {n : Int} (h : rulR n = true) : ∃ k : Nat, n = (k : Int) + 1 ∧ k < 35 := by
  simp only [rulR, Bool.and_eq_true, decide_eq_true_eq] at h
  exact ⟨(n - 1).toNat, by omega, by omega⟩
theorem rul_idx (k : Nat) (hk : k < 35) : idxX rulW (rulW.getD k []) = (k : Int) := by
  have hk' : k < rulW.length := hk
  have := seekX_hit (rulW.getD k []) rulW 0 k hk' (tab_at _ k hk') (fun j hj hjk e => by
    rw [tab_at rulW j hj] at e
    have := rul_two ⟨j, hj⟩ ⟨k, hk⟩ e
    have h9 : j = k := congrArg Fin.val this
    omega)
  rw [Nat.zero_add] at this
  exact this
theorem nameR_in (k : Nat) (hk : k < 35) : nameR ((k : Int) + 1) = rulW.getD k [] := tab_in rulW k hk
theorem nameR_no {n : Int} (h : rulR n = false) : nameR n = [] := tab_out rulW (by simp [rulR] at h; omega)
theorem nameR_e (n : Int) : (nameR n == []) = !rulR n := by
  cases h : rulR n with
  | false => rw [nameR_no h]; rfl
  | true =>
    obtain ⟨k, rfl, hk⟩ := rul_in h
    rw [nameR_in k hk]
    have := rul_ne ⟨k, hk⟩
    simpa using this
theorem nameR_emp (n : Int) : (tabN rulW n).isEmpty = !rulR n := by
  have h : (tabN rulW n == []) = !rulR n := nameR_e n
  rw [← h]
  generalize tabN rulW n = x
  cases x <;> rfl
theorem nameR_len (n : Int) : (nameR n).length ≤ 9 := by
  cases h : rulR n with
  | false => rw [nameR_no h]; simp
  | true =>
    obtain ⟨k, rfl, hk⟩ := rul_in h
    rw [nameR_in k hk]
    exact (rul_len ⟨k, hk⟩).1
theorem nameR_comma (n : Int) : (44 : UInt8) ∉ nameR n := by
  cases h : rulR n with
  | false => rw [nameR_no h]; simp
  | true =>
    obtain ⟨k, rfl, hk⟩ := rul_in h
    rw [nameR_in k hk]
    have := (rul_len ⟨k, hk⟩).2.1
    intro hm
    have := List.all_eq_true.1 this 44 hm
    simp at this
theorem nameR_dash {n : Int} (h : rulR n = true) : nameR n ≠ [45] := by
  obtain ⟨k, rfl, hk⟩ := rul_in h
  rw [nameR_in k hk]
  exact (rul_len ⟨k, hk⟩).2.2
theorem numR_name {n : Int} (h : rulR n = true) : idxX rulW (nameR n) + 1 = n := by
  obtain ⟨k, rfl, hk⟩ := rul_in h
  rw [nameR_in k hk, rul_idx k hk]
theorem name_numR {s : List UInt8} (h : 0 ≤ idxX rulW s) : rulR (idxX rulW s + 1) = true ∧ nameR (idxX rulW s + 1) = s := by
  obtain ⟨k, hk⟩ : ∃ k : Nat, idxX rulW s = (k : Int) := ⟨(idxX rulW s).toNat, by omega⟩
  obtain ⟨h1, h2⟩ := seekX_at s rulW 0 k (by rw [Nat.zero_add]; exact hk)
  have h35 : k < 35 := h1
  rw [hk, nameR_in k h35, ← tab_at rulW k h1]
  exact ⟨by simp [rulR]; omega, h2⟩
theorem mem_ofR (l : List Int) (x : Int) : x ∈ ofR l ↔ x ∈ l ∧ rulR x = true := by unfold ofR; rw [mem_setS, List.mem_filter]
theorem strict_ofR (l : List Int) : Strict ltI (ofR l) := strict_setS ordI _
theorem ofR_len (l : List Int) : (ofR l).length ≤ l.length := Nat.le_trans (setS_len _) (List.length_filter_le _ _)
theorem ofR_self {l : List Int} (h1 : ∀ x ∈ l, rulR x = true) (h2 : Strict ltI l) : ofR l = l := by
  unfold ofR
  rw [List.filter_eq_self.2 h1, setS_of_strict ordI h2]
theorem ofR_of (l : List Int) : ofR (ofR l) = ofR l := ofR_self (fun x hx => ((mem_ofR l x).1 hx).2) (strict_ofR l)
theorem cut_showR {l : List Int} (h : ofR l ≠ []) : cutF 44 (showR l) = (ofR l).map nameR := by
  unfold showR
  rw [if_neg h]
  exact cut_join 44 _ (by simpa using h) (fun w hw => by obtain ⟨n, _, rfl⟩ := List.mem_map.1 hw; exact nameR_comma n)
theorem showR_ne {l : List Int} (h : ofR l ≠ []) : showR l ≠ [45] := by
  intro e
  have hc := cut_showR h
  rw [e, show cutF 44 [45] = [[45]] from by decide] at hc
  have hm : [45] ∈ (ofR l).map nameR := by rw [← hc]; simp
  obtain ⟨n, hn, e2⟩ := List.mem_map.1 hm
  exact nameR_dash ((mem_ofR l n).1 hn).2 e2

/-! Read back. -/
def okI (last : Option Int) (n : Int) : Bool := match last with
  | none => true
  | some m => decide (m < n)
def goR : List (List UInt8) → Option Int → Option (List Int)
  | [], _ => some []
  | x :: r, last => if 0 ≤ idxX rulW x ∧ okI last (idxX rulW x + 1) = true then (goR r (some (idxX rulW x + 1))).map ((idxX rulW x + 1) :: ·) else none
def endP : Option (List Int) → List Int × Bool
  | some l => (l, true)
  | none => ([], false)
def setRP (s : List UInt8) : List Int × Bool := if s = [45] then ([], true) else endP (goR (cutF 44 s) none)
def setRD (s : List UInt8) : List Int × Bool := if s = [45] then ([], true) else if showR ((cutF 44 s).map numR) = s then (ofR ((cutF 44 s).map numR), true) else ([], false)
theorem goR_all : ∀ {p : List (List UInt8)} {last : Option Int} {l : List Int}, goR p last = some l ↔ p = l.map nameR ∧ (∀ x ∈ l, rulR x = true) ∧ Strict ltI l ∧ (∀ m, last = some m → ∀ x ∈ l, m < x)
  | [], last, l => by
    unfold goR
    constructor
    · intro h
      injection h with h
      subst h
      exact ⟨rfl, by simp, List.Pairwise.nil, by simp⟩
    · rintro ⟨h, _⟩
      have : l = [] := by simpa using h.symm
      rw [this]
  | x :: r, last, l => by
    unfold goR
    constructor
    · intro h
      split at h
      · rename_i hc
        obtain ⟨l', h1, rfl⟩ := Option.map_eq_some_iff.1 h
        obtain ⟨g1, g2, g3, g4⟩ := goR_all.1 h1
        obtain ⟨n1, n2⟩ := name_numR hc.1
        refine ⟨by rw [List.map_cons, n2, ← g1], ?_, List.pairwise_cons.2 ⟨fun y hy => by have := g4 _ rfl y hy; simpa [ltI] using this, g3⟩, ?_⟩
        · intro y hy
          rcases List.mem_cons.1 hy with rfl | hy
          · exact n1
          · exact g2 y hy
        · intro m hm y hy
          subst hm
          have h2 := hc.2
          simp only [okI, decide_eq_true_eq] at h2
          rcases List.mem_cons.1 hy with rfl | hy
          · exact h2
          · have := g4 _ rfl y hy; omega
      · cases h
    · rintro ⟨h1, h2, h3, h4⟩
      cases l with
      | nil => simp at h1
      | cons n l' =>
        rw [List.map_cons] at h1
        injection h1 with h1 h1'
        have hn := numR_name (h2 n (by simp))
        rw [← h1] at hn
        unfold Strict at h3
        rw [List.pairwise_cons] at h3
        have hr := h2 n (by simp)
        simp only [rulR, Bool.and_eq_true, decide_eq_true_eq] at hr
        have hok : okI last n = true := by
          cases last with
          | none => rfl
          | some m => have := h4 m rfl n (by simp); simpa [okI] using this
        rw [hn, if_pos ⟨by omega, hok⟩, goR_all.2 ⟨h1', fun y hy => h2 y (by simp [hy]), h3.2, fun m hm y hy => by injection hm with hm; subst hm; have := h3.1 y hy; simpa [ltI] using this⟩]
        rfl
theorem map_num_name {l : List Int} (h : ∀ x ∈ l, rulR x = true) : (l.map nameR).map numR = l := by
  rw [List.map_map]
  refine (List.map_congr_left fun x hx => ?_).trans (List.map_id l)
  exact numR_name (h x hx)
theorem setR_eq (s : List UInt8) : setRP s = setRD s := by
  unfold setRP setRD
  by_cases h0 : s = [45]
  · rw [if_pos h0, if_pos h0]
  rw [if_neg h0, if_neg h0]
  cases hg : goR (cutF 44 s) none with
  | some l =>
    obtain ⟨g1, g2, g3, _⟩ := goR_all.1 hg
    have hne : l ≠ [] := by
      obtain ⟨a, t, e⟩ := cut_ne 44 s
      intro hl
      rw [hl, e] at g1
      simp at g1
    have ho := ofR_self g2 g3
    rw [g1, map_num_name g2]
    have hs : showR l = s := by
      unfold showR
      rw [ho, if_neg hne, ← g1, join_cut]
    rw [if_pos hs, ho]
    rfl
  | none =>
    rw [if_neg]
    · rfl
    · intro hs
      generalize (cutF 44 s).map numR = ns at hs
      have hne : ofR ns ≠ [] := by
        intro hn
        unfold showR at hs
        rw [if_pos hn] at hs
        exact h0 hs.symm
      have hc := cut_showR hne
      rw [hs] at hc
      have := (goR_all (p := cutF 44 s) (last := none) (l := ofR ns)).2 ⟨hc, fun x hx => ((mem_ofR ns x).1 hx).2, strict_ofR ns, by simp⟩
      rw [hg] at this
      cases this
theorem setR_show (l : List Int) : setRP (showR l) = (ofR l, true) := by
  by_cases hn : ofR l = []
  · have : showR l = [45] := by unfold showR; rw [if_pos hn]
    rw [this, hn]; rfl
  · unfold setRP
    rw [if_neg (showR_ne hn), cut_showR hn, goR_all.2 ⟨rfl, fun x hx => ((mem_ofR l x).1 hx).2, strict_ofR l, by simp⟩]
    rfl
theorem setRD_len (s : List UInt8) : (setRD s).1.length ≤ s.length + 1 := by
  unfold setRD
  split
  · simp
  · split
    · have h1 := ofR_len ((cutF 44 s).map numR)
      have h2 := cut_len 44 s
      rw [List.length_map] at h1
      simp only
      omega
    · simp

/-! A rising list, up to a number. -/
theorem upto_step (S : List Int) (hS : Strict ltI S) (r : Int) : S.filter (fun x => decide (x < r + 1)) = S.filter (fun x => decide (x < r)) ++ (if r ∈ S then [r] else []) := by
  induction S with
  | nil => simp
  | cons a t ih =>
    unfold Strict at hS
    rw [List.pairwise_cons] at hS
    have ih := ih hS.2
    rcases Int.lt_trichotomy a r with h | h | h
    · rw [List.filter_cons_of_pos (by simp; omega), List.filter_cons_of_pos (by simp; omega), ih]
      have : (r ∈ a :: t) ↔ r ∈ t := by simp; intro e; omega
      simp only [this, List.cons_append]
    · subst h
      have h1 : t.filter (fun x => decide (x < a + 1)) = [] := List.filter_eq_nil_iff.2 fun x hx => by have := hS.1 x hx; simp [ltI] at this ⊢; omega
      have h2 : t.filter (fun x => decide (x < a)) = [] := List.filter_eq_nil_iff.2 fun x hx => by have := hS.1 x hx; simp [ltI] at this ⊢; omega
      rw [List.filter_cons_of_pos (by simp; omega), List.filter_cons_of_neg (by simp), h1, h2, if_pos (by simp)]
      rfl
    · have h1 : ∀ y ∈ t, r < y := fun y hy => by have := hS.1 y hy; simp [ltI] at this; omega
      have h2 : ¬ r ∈ a :: t := by
        intro hm
        rcases List.mem_cons.1 hm with e | hm
        · omega
        · have := h1 r hm; omega
      rw [List.filter_cons_of_neg (by simp; omega), List.filter_cons_of_neg (by simp; omega), if_neg h2, ih, if_neg (fun hm => h2 (by simp [hm]))]
theorem upto_start (l : List Int) : (ofR l).filter (fun x => decide (x < 1)) = [] := List.filter_eq_nil_iff.2 fun x hx => by
  have := ((mem_ofR l x).1 hx).2
  simp [rulR] at this ⊢
  omega
theorem upto_end (l : List Int) : (ofR l).filter (fun x => decide (x < 36)) = ofR l := List.filter_eq_self.2 fun x hx => by
  have := ((mem_ofR l x).1 hx).2
  simp [rulR] at this ⊢
  omega
theorem showR_step (S : List Int) (k : Nat) (hk : k < S.length) (h0 : 0 < k) : Lib.join ((S.take (k + 1)).map nameR) [44] = Lib.join ((S.take k).map nameR) [44] ++ [44] ++ nameR S[k] := by
  rw [List.map_take, List.map_take, take_join_c 44 _ k (by simpa using hk), if_neg (by omega)]
  simp
end Go.Proofs.YtjhhdgmhocpceaaGreatDoor
/-
  Rows of numbers that the call itself has built.
-/
namespace Go.Proofs.YtjhhdgmhocpceaaGreatDoor
set_option linter.unusedSimpArgs false
set_option linter.unusedVariables false
set_option linter.unusedSectionVars false
open Go.ChangeShapes Go.WideShapes Go.ChangeAt Go.RowKit Go.Deep

/-! Numbers. -/
def intC (n : Int) : List Value := [.int .i64 n]
abbrev OwnI (B : Nat) (w : World) (v : Value) (l : List Int) : Prop := OwnC 3 1 intC B w v l
theorem st_ints : SliceTy Tryz.prog 33 3 (.int .i64 0) 1 8 := .mk' Tryz.underlying33 (by kernel_rfl) rfl (by omega)
theorem intC_len (x : Int) : (intC x).length = 1 := rfl
theorem intC_one (x : Int) : ∀ u ∈ intC x, u.oneCell' = true := by intro u hu; simp [intC] at hu; subst hu; rfl
theorem OwnC.readI {B : Nat} {w : World} {v : Value} {l : List Int} (h : OwnI B w v l) : ∃ a cap, v = .slice a l.length cap ∧ SlI w w.heap.size a l := h.read intC_len
end Go.Proofs.YtjhhdgmhocpceaaGreatDoor
/-
  A row of numbers of the call's own, sorted, and without those that stand twice.
-/
namespace Go.Proofs.YtjhhdgmhocpceaaGreatDoor
set_option linter.unusedSimpArgs false
set_option linter.unusedVariables false
set_option linter.unusedSectionVars false
open Go.ChangeShapes Go.WideShapes Go.ChangeAt Go.RowKit Go.Deep Go.Shelf Go.Sort

theorem flat_intC (l : List Int) : l.flatMap intC = l.map (Value.int .i64) := by induction l <;> simp_all [intC]
theorem OwnI.row {B : Nat} {w : World} {v : Value} {l : List Int} (h : OwnI B w v l) : w.ownsRow B 3 1 v l.length (l.map (Value.int .i64)) := by rw [← flat_intC]; exact h
theorem OwnI.of {B : Nat} {w : World} {v : Value} {l : List Int} (h : w.ownsRow B 3 1 v l.length (l.map (Value.int .i64))) : OwnI B w v l := by rw [← flat_intC] at h; exact h

theorem sort_ints {B : Nat} {w : World} {v : Value} {l : List Int} (h : OwnI B w v l) (hB : B ≤ w.heap.size) (hl : l.length ≤ 1048576) :
    Calls Tryz.prog 38 #[v] w fun e w' => e = .returned (.tuple #[]) ∧ OwnI B w' v (l.mergeSort fun x y => decide (x ≤ y)) ∧ Below B w w' := by
  have h0 := OwnI.row h
  rcases h0.2 with ⟨rfl, hn⟩ | ⟨g, cap, cur, rfl, hg, hh, h3, h4, h5, h6⟩
  · have hl0 : l = [] := List.eq_nil_of_length_eq_zero hn
    subst hl0
    refine (Tryz.slices_Sort_int_none none 0 w).mono fun e w' ⟨he, hw⟩ => ⟨he, ?_, ?_⟩
    · rw [hw, List.mergeSort_nil]; exact h
    · rw [hw]; exact Below.refl _ _
  · refine (Tryz.slices_Sort_int g 0 cap l w (holds_of_blockI hh (by simpa using h6)) (Array.getElem?_eq_some_iff.1 hh).1 (by omega)).mono fun e w' ⟨he, n, os, hw⟩ => ⟨he, ?_, ?_⟩
    · have hlen : (l.mergeSort fun x y => decide (x ≤ y)).length = l.length := List.length_mergeSort l
      refine OwnI.of ?_
      rw [hw, hlen]
      exact ownsRow_sortedI (ss := l) (by rw [hlen]) hg hh h3 h4 h5
    · rw [hw]
      exact own_grown (Below.refl B w) h0 (by exact grownBy_sortedI _) (Nat.le_refl _) hB

theorem compact_ints {B : Nat} {w : World} {v : Value} {l : List Int} (h : OwnI B w v l) (hB : B ≤ w.heap.size) (hl : l.length ≤ 1048576) :
    Calls Tryz.prog 39 #[v] w fun e w' => ∃ v', e = .returned v' ∧ OwnI B w' v' (Lib.compact l) ∧ Below B w w' := by
  have h0 := OwnI.row h
  rcases h0.2 with ⟨rfl, hn⟩ | ⟨g, cap, cur, rfl, hg, hh, h3, h4, h5, h6⟩
  · have hl0 : l = [] := List.eq_nil_of_length_eq_zero hn
    subst hl0
    refine (Tryz.slices_Compact_int_empty none 0 w).mono fun e w' ⟨he, hw⟩ => ⟨_, he, ?_, ?_⟩
    · rw [hw]; exact OwnC.nil _ _
    · rw [hw]; exact Below.refl _ _
  · have hcl := compact_len l
    refine (Tryz.slices_Compact_int g 0 cap l w (holds_of_blockI hh (by simpa using h6)) (by omega) h3).mono fun e w' ⟨he, n, hw⟩ => ⟨_, he, ?_, ?_⟩
    · refine OwnI.of ?_
      rw [hw, ← grow_empty (putRow _ _ _ _ _)]
      generalize Lib.compact l = c at hcl ⊢
      have hlen : (c ++ List.replicate (l.length - c.length) (0 : Int)).length = l.length := by simp; omega
      refine ⟨by simp, .inr ⟨g, cap, _, rfl, hg, heap_sortedI _ hh, by omega, h4, by simp [putCells, h5], ?_⟩⟩
      have ht := take_putCellsI cur (c ++ List.replicate (l.length - c.length) (0 : Int)) (by omega)
      rw [hlen] at ht
      have ht2 := congrArg (List.take c.length) ht
      rw [List.take_take, Nat.min_eq_left hcl] at ht2
      rw [Nat.mul_one, ht2, List.map_append, List.take_left' (by simp)]
    · rw [hw, ← grow_empty (putRow _ _ _ _ _)]
      exact own_grown (Below.refl B w) h0 (by exact grownBy_sortedI _) (Nat.le_refl _) hB
end Go.Proofs.YtjhhdgmhocpceaaGreatDoor
/-
  Rules: the set of those among some: both roads.
-/
namespace Go.Proofs.YtjhhdgmhocpceaaGreatDoor
set_option linter.unusedSimpArgs false
set_option linter.unusedVariables false
set_option linter.unusedSectionVars false
open Go.ChangeShapes Go.WideShapes Go.ChangeAt Go.RowKit Go.Deep Go.Shelf

theorem max_keep {w W : World} {m : Int} (hM : w.cell? MaxA = some (.int .i64 m)) (hW : Below w.heap.size w W) : W.cell? MaxA = some (.int .i64 m) :=
  (hW.cell (p := MaxA) (World.block_lt_of_cell? w MaxA hM)).trans hM
set_option maxHeartbeats 8000000 in
set_option maxRecDepth 100000 in
theorem rules_Of (a : Option Addr) (l : List Int) (cap : Nat) (hl : l.length ≤ 100000) (m : Int) (w : World) (hM : w.cell? MaxA = some (.int .i64 m)) (hS : SlI w w.heap.size a l) :
    Calls Tryz.prog 24 #[.slice a l.length cap] w fun e w' => ∃ v, e = .returned v ∧ OwnI w.heap.size w' v (ofR l) ∧ Below w.heap.size w w' := by
  have HR : Hid (ofR l = setS ltI (l.filter rulR)) := rfl
  generalize ofR l = R at HR ⊢
  have HS := Lib.hid hS
  have HM : Hid (∀ W, Below w.heap.size w W → W.cell? MaxA = some (.int .i64 m)) := fun W hW => max_keep hM hW
  clear hS hM
  go_enter Tryz.func24, Tryz.ntmps24
  go_wp2_with fail
  go_loopg [3, 8] l.length (fun g v i wr => ∃ (k : Nat) (out : List Int), k + g = l.length ∧ i = .int .i64 k ∧ out.length ≤ k ∧ OwnI w.heap.size wr v out ∧ Below w.heap.size w wr ∧ Hid (l.filter rulR = out ++ (l.drop k).filter rulR))
  case atStart => exact ⟨0, [], by omega, rfl, by simp, OwnC.nil _ _, Below.refl _ _, rfl⟩
  case round =>
    obtain ⟨k, out, hkg, rfl, hok, HO, hb, HU⟩ := hrel
    have HO := Lib.hid HO
    have HB := Lib.hid hb
    have HK := Lib.hid hkg
    by_cases hlt : k < l.length
    · obtain ⟨b, off, ha, hbb, c00⟩ := SlR.atI HS.out hlt
      subst ha
      have c0 : wr.cell? ⟨b, off + k, none⟩ = some (.int .i64 l[k]) := (hb.cell (p := ⟨b, off + k, none⟩) hbb).trans c00
      have hbx : b < wr.heap.size := Nat.lt_of_lt_of_le hbb hb.size
      have hd : l.drop k = l[k] :: l.drop (k + 1) := List.drop_eq_getElem_cons hlt
      have HT : Hid (rulR l[k] = true → l.filter rulR = (out ++ [l[k]]) ++ (l.drop (k + 1)).filter rulR) := fun h => by rw [HU.out, hd, List.filter_cons_of_pos h]; simp
      have HF : Hid (rulR l[k] = false → l.filter rulR = out ++ (l.drop (k + 1)).filter rulR) := fun h => by rw [HU.out, hd, List.filter_cons_of_neg (by simp [h])]
      have HN := Lib.hid (rules_Name l[k] m wr (HM.out wr hb))
      have hne : (tabN rulW l[k]).isEmpty = !rulR l[k] := nameR_emp _
      clear hd c00 hb hkg HU
      generalize l[k] = x at c0 HT HF HN hne
      generalize tabN rulW x = nm at HN hne
      generalize rulR x = r at HT HF hne
      cases r
      · have HU2 := Lib.hid (HF.out rfl)
        have hne1 : nm.isEmpty = true := hne
        clear HT HF hne
        go_wp2_with fail
        refine HN.out.mono ?_
        rintro e w' ⟨rfl, j, rfl⟩
        go_wp2_with fail
        go_roundg (l.length - (k + 1))
        case measure => have := HK.out; omega
        case rel => exact ⟨k + 1, out, by have := HK.out; omega, by go_num, by omega, HO.out.below (C := wr.heap.size) bel (Nat.le_refl _), HB.out.trans (Below.mono (B := wr.heap.size) bel HB.out.size), HU2.out⟩
      · have HU2 := Lib.hid (HT.out rfl)
        have hne1 : nm.isEmpty = false := hne
        clear HT HF hne
        go_wp2_with fail
        refine HN.out.mono ?_
        rintro e w' ⟨rfl, j, rfl⟩
        go_wp2_with (at_builtin; refine app_c (y := x) st_ints intC_len intC_one (by omega) (.tmp 15) (.tmp 17) rfl rfl rfl (HO.out.below (C := wr.heap.size) bel (Nat.le_refl _)) rfl (Blk.at_ _ _ _ (by simp)) rfl (by omega) (by have := HB.out.size; simp only [World.size_alloc, World.size_more]; omega) ?_; intro v' w2 hown hbw)
        have hb2 := HB.out.trans ((Below.mono (B := wr.heap.size) bel HB.out.size).trans hbw)
        have HB2 := Lib.hid hb2
        have HO2 := Lib.hid hown
        clear hbw hb2 hown
        go_wp2_with fail
        go_roundg (l.length - (k + 1))
        case measure => have := HK.out; omega
        case rel => exact ⟨k + 1, out ++ [x], by have := HK.out; omega, by go_num, by simp; omega, HO2.out, HB2.out, HU2⟩
    · have hU : l.filter rulR = out := by rw [HU.out, List.drop_of_length_le (by omega)]; simp
      have hR : R = Lib.compact (out.mergeSort fun x y => decide (x ≤ y)) := by rw [HR.out, hU, sort_setI]
      have HSO := Lib.hid (sort_ints HO.out hb.size (by omega))
      have hol : (out.mergeSort fun x y => decide (x ≤ y)).length ≤ 1048576 := by rw [List.length_mergeSort]; omega
      have HOL := Lib.hid hol
      clear hU HU HR hb hkg HO hol
      generalize (out.mergeSort fun x y => decide (x ≤ y)) = sr at HSO hR HOL
      go_wp2_with fail
      refine HSO.out.mono ?_
      rintro e w1 ⟨rfl, ho1, hb1⟩
      have HB1 := Lib.hid (HB.out.trans hb1)
      have HC := Lib.hid (compact_ints ho1 (Nat.le_trans HB.out.size hb1.size) HOL.out)
      clear ho1 hb1
      go_wp2_with fail
      refine HC.out.mono ?_
      rintro e w2 ⟨v2, rfl, ho2, hb2⟩
      have HB2 := Lib.hid (HB1.out.trans hb2)
      have HO2 := Lib.hid ho2
      clear ho2 hb2
      go_wp2_with fail
      go_ret
      exact ⟨_, rfl, by rw [hR]; exact HO2.out, HB2.out⟩

theorem ofI_step {l : List Int} {r : Int} (hr : 1 ≤ r) (hr2 : r ≤ 35) : (ofR l).filter (fun x => decide (x < r + 1)) = (ofR l).filter (fun x => decide (x < r)) ++ (if r ∈ l then [r] else []) := by
  rw [upto_step _ (strict_ofR l) r]
  have : (r ∈ ofR l) ↔ r ∈ l := by rw [mem_ofR]; simp [rulR, hr, hr2]
  simp only [this]
end Go.Proofs.YtjhhdgmhocpceaaGreatDoor
/-
  Rows of texts that the call itself has built.
-/
namespace Go.Proofs.YtjhhdgmhocpceaaGreatDoor
set_option linter.unusedSimpArgs false
set_option linter.unusedVariables false
set_option linter.unusedSectionVars false
open Go.ChangeShapes Go.WideShapes Go.ChangeAt Go.RowKit Go.Deep Go.Shelf

theorem st_texts : SliceTy Tryz.prog 46 9 (.string .empty) 1 16 := .mk' Tryz.underlying46 (by kernel_rfl) rfl (by omega)
def OwnX (B : Nat) (w : World) (v : Value) (l : List (List UInt8)) : Prop := w.ownsRow B 9 1 v l.length (l.map bstr)
theorem OwnX.nil (B : Nat) (w : World) : OwnX B w (.slice none 0 0) [] := World.ownsRow_nil _ _ _ _
theorem OwnX.alloc {B : Nat} {w : World} {v : Value} {l : List (List UInt8)} (h : OwnX B w v l) (o : Obj) : OwnX B (w.alloc o) v l := World.ownsRow.alloc h o
theorem OwnX.below {B C : Nat} {w w' : World} {v : Value} {l : List (List UInt8)} (h : OwnX B w v l) (hb : Below C w w') (hC : w.heap.size ≤ C) : OwnX B w' v l := own_below h hb hC
theorem OwnX.read {B : Nat} {w : World} {v : Value} {l : List (List UInt8)} (h : OwnX B w v l) (hl : ∀ x ∈ l, x.length ≤ maxLen) : ∃ a cap, v = .slice a l.length cap ∧ SlX w w.heap.size a l := by
  have e : l.map bstr = l.flatMap (fun s => [bstr s]) := by clear h hl; induction l <;> simp_all
  unfold OwnX at h
  rw [e] at h
  obtain ⟨a, cap, hv, hs⟩ := own_slr h (fun _ _ => rfl)
  exact ⟨a, cap, hv, hs.mono (Nat.le_refl _) (fun x hx cs hc => ⟨hc, hl x hx⟩)⟩
theorem OwnX.cap {B : Nat} {w : World} {v : Value} {l : List (List UInt8)} (h : OwnX B w v l) : ∃ a cap, v = .slice a l.length cap ∧ l.length ≤ cap := by
  have h0 : w.ownsRow B 9 1 v l.length (l.map bstr) := h
  rcases h0.2 with ⟨rfl, hn⟩ | ⟨g, cap, cur, rfl, hg, hh, h3, h4, h5, h6⟩
  · have : l = [] := List.eq_nil_of_length_eq_zero hn
    subst this
    exact ⟨none, 0, rfl, Nat.le_refl _⟩
  · exact ⟨_, cap, rfl, h3⟩
theorem app_text {ops : Array Oper} {rest : List Oper} {o : Oper} {a : Act} {Q : Exit → Act → World → Prop} {w : World}
    (s x : Operand) (hgd : o.guard = none) (ho : o.op = .call { callee := .builtin .append, args := #[s, x], argTypes := #[46, 46] })
    {B : Nat} {v : Value} {l : List (List UInt8)} {c : List UInt8} (hs : a.eval s = v) (hown : OwnX B w v l)
    {g cc : Nat} {e' : TypeId} (hx : a.eval x = .slice (some ⟨g, 0, none⟩) 1 cc) (hb : Blk w g e' #[bstr c])
    (hl : l.length + 1 ≤ 1048576) (hB : B ≤ w.heap.size)
    (h : ∀ v' w', OwnX B w' v' (l ++ [c]) → Below B w w' → wpList Tryz.prog ops Q rest (a.put o.dst v') w') : wpList Tryz.prog ops Q (o :: rest) a w := by
  refine wpList_app st_texts s x hgd ho hs hown hx hb rfl (by intro u hu; simp at hu; subst hu; rfl) (by unfold maxLen; omega) (by omega) hB (fun v' w' h1 h2 => h v' w' ?_ (own_grown (Below.refl B w) hown h2 (Nat.le_refl _) hB))
  unfold OwnX
  rw [List.map_append, List.length_append]
  exact h1
theorem pre_pre (p q : List UInt8) (l : List (List UInt8)) : preF p (preF q l) = preF (p ++ q) l := by cases l <;> simp [preF]
end Go.Proofs.YtjhhdgmhocpceaaGreatDoor
/-
  Faults: texts joined with any byte between.
-/
namespace Go.Proofs.YtjhhdgmhocpceaaGreatDoor
set_option linter.unusedSimpArgs false
set_option linter.unusedVariables false
set_option linter.unusedSectionVars false
open Go.ChangeShapes Go.WideShapes Go.ChangeAt Go.RowKit Go.Deep Go.Shelf

theorem join_leC (c : UInt8) (l : List (List UInt8)) (h : ∀ x ∈ l, x.length ≤ 1000) : (Lib.join l [c]).length ≤ 1001 * l.length := by
  cases l with
  | nil => simp [Lib.join_nil]
  | cons x r =>
    rw [Lib.join_length]
    have : ∀ m : List (List UInt8), (∀ x ∈ m, x.length ≤ 1000) → Lib.lens m ≤ 1000 * m.length := by
      intro m
      induction m with
      | nil => intro _; simp [Lib.lens]
      | cons y t ih =>
        intro h
        have := ih (fun x hx => h x (by simp [hx]))
        have := h y (by simp)
        simp only [Lib.lens, List.map_cons, List.sum_cons, List.length_cons] at *
        omega
    have := this (x :: r) h
    simp only [List.length_cons, List.length_nil] at *
    omega
theorem strings_joinC (c : UInt8) (a : Option Addr) (cap : Nat) (l : List (List UInt8)) (w : World) (hm : l.length ≤ 100000) (hw : ∀ x ∈ l, x.length ≤ 1000) (hcap : l.length ≤ cap) (hs : SlX w w.heap.size a l) :
    Calls Tryz.prog 25 #[.slice a l.length cap, bstr [c]] w fun e w' => e = .returned (bstr (Lib.join l [c])) ∧ Below w.heap.size w w' := by
  by_cases h0 : l = []
  · subst h0
    exact (Tryz.strings_Join_none a cap ⟨#[c]⟩ w).mono fun e w' ⟨he, hw⟩ => ⟨by rw [he]; rfl, by rw [hw]; exact Below.refl _ _⟩
  · have hp : 0 < l.length := List.length_pos_iff.2 h0
    obtain ⟨b, off, rfl, hb, _, _⟩ := hs.atX hp
    have hj := join_leC c l hw
    have hx : (l.map (fun s => (⟨s.toArray⟩ : ByteArray))).map (·.data.toList) = l := by rw [List.map_map]; exact (List.map_congr_left (fun _ _ => rfl)).trans (List.map_id l)
    have := Tryz.strings_Join b off cap (l.map (fun s => (⟨s.toArray⟩ : ByteArray))) ⟨#[c]⟩ w (fun j x hjx => by
      rw [List.getElem?_map] at hjx
      obtain ⟨y, hy, rfl⟩ := Option.map_eq_some_iff.1 hjx
      obtain ⟨hlt, rfl⟩ := List.getElem?_eq_some_iff.1 hy
      obtain ⟨b', off', e, _, hc, _⟩ := hs.atX hlt
      injection e with e
      injection e with e1 e2
      subst e1 e2
      exact hc) hb (by simp; omega) (by simpa using hcap) (by rw [hx]; show (Lib.join l [c]).length ≤ _; omega)
    rw [hx, List.length_map] at this
    exact this
end Go.Proofs.YtjhhdgmhocpceaaGreatDoor
/-
  Rules: a set's names as a text: both roads.
-/
namespace Go.Proofs.YtjhhdgmhocpceaaGreatDoor
set_option linter.unusedSimpArgs false
set_option linter.unusedVariables false
set_option linter.unusedSectionVars false
open Go.ChangeShapes Go.WideShapes Go.ChangeAt Go.RowKit Go.Deep Go.Shelf

set_option maxHeartbeats 8000000 in
set_option maxRecDepth 100000 in
theorem rules_Show (a : Option Addr) (l : List Int) (cap : Nat) (hl : l.length ≤ 100000) (m : Int) (w : World) (hM : w.cell? MaxA = some (.int .i64 m)) (hS : SlI w w.heap.size a l) :
    Calls Tryz.prog 10 #[.slice a l.length cap] w fun e w' => e = .returned (bstr (showR l)) ∧ ∃ j, w' = w.more j := by
  have HO := Lib.hid (rules_Of a l cap (by omega) m w hM hS)
  have hlen := ofR_len l
  have HW : Hid (showR l = if ofR l = [] then [45] else Lib.join ((ofR l).map nameR) [44]) := rfl
  have HM : Hid (∀ W, Below w.heap.size w W → W.cell? MaxA = some (.int .i64 m)) := fun W hW => max_keep hM hW
  generalize ofR l = S at HO HW hlen
  generalize showR l = R at HW ⊢
  clear hS hM
  go_enter Tryz.func10, Tryz.ntmps10
  go_wp2_with fail
  refine HO.out.mono ?_
  rintro e w1 ⟨v1, rfl, ho1, hb1⟩
  obtain ⟨a1, cap1, rfl, hs1⟩ := ho1.readI
  have HS1 := Lib.hid hs1
  have HB1 := Lib.hid hb1
  have HL := Lib.hid hlen
  clear hs1 hb1 ho1
  go_wp2_with fail
  go_loopg [3, 9] S.length (fun g v i wr => ∃ k : Nat, k + g = S.length ∧ i = .int .i64 k ∧ OwnX w1.heap.size wr v ((S.take k).map nameR) ∧ Below w1.heap.size w1 wr)
  case atStart => exact ⟨0, by omega, rfl, OwnX.nil _ _, Below.refl _ _⟩
  case round =>
    obtain ⟨k, hkg, rfl, HX, hb⟩ := hrel
    have HX := Lib.hid HX
    have HB := Lib.hid hb
    have HK := Lib.hid hkg
    by_cases hlt : k < S.length
    · obtain ⟨b, off, ha, hbb, c00⟩ := SlR.atI HS1.out hlt
      subst ha
      have c0 : wr.cell? ⟨b, off + k, none⟩ = some (.int .i64 S[k]) := (hb.cell (p := ⟨b, off + k, none⟩) hbb).trans c00
      have hbx : b < wr.heap.size := Nat.lt_of_lt_of_le hbb hb.size
      have HT : Hid (Calls Tryz.prog 17 #[.int .i64 S[k]] wr fun e w' => e = .returned (bstr (nameR S[k])) ∧ ∃ j', w' = wr.more j') := rules_Name _ m wr (HM.out _ (HB1.out.trans (hb.mono HB1.out.size)))
      have hU : (S.take (k + 1)).map nameR = (S.take k).map nameR ++ [nameR S[k]] := by rw [List.take_add_one, List.getElem?_eq_getElem hlt, List.map_append]; rfl
      have hlk : ((S.take k).map nameR).length ≤ k := by simp; omega
      have HU := Lib.hid hU
      clear hU
      generalize S[k] = x at c0 HT HU
      generalize nameR x = t at HT HU
      generalize (S.take k).map nameR = out at HX HU hlk
      have HLK := Lib.hid hlk
      clear c00 hb hkg hlk
      go_wp2_with fail
      refine HT.out.mono ?_
      rintro e w2 ⟨rfl, j, rfl⟩
      go_wp2_with (at_builtin; refine app_text (.tmp 13) (.tmp 16) rfl rfl rfl (HX.out.below (C := wr.heap.size) bel (Nat.le_refl _)) rfl (Blk.at_ _ _ _ (by simp)) (by have := HLK.out; have := HL.out; omega) (by have := HB.out.size; simp only [World.size_alloc, World.size_more]; omega) ?_; intro v' w2 hown hbw)
      have hb2 := HB.out.trans ((Below.mono (B := wr.heap.size) bel HB.out.size).trans hbw)
      have HB2 := Lib.hid hb2
      have HX2 := Lib.hid hown
      clear hbw hb2 hown
      go_wp2_with fail
      go_roundg (S.length - (k + 1))
      case measure => have := HK.out; omega
      case rel => exact ⟨k + 1, by have := HK.out; omega, by go_num, by rw [HU.out]; exact HX2.out, HB2.out⟩
    · have hk : S.take k = S := List.take_of_length_le (by omega)
      have hlen2 : ∀ x ∈ S.map nameR, x.length ≤ 1000 := by simp only [List.mem_map]; rintro x ⟨f, _, rfl⟩; exact Nat.le_trans (nameR_len f) (by omega)
      have hX := HX.out
      rw [hk] at hX
      obtain ⟨a3, cap3, rfl, hsl⟩ := hX.read (fun x hx => by have := hlen2 x hx; unfold maxLen; omega)
      obtain ⟨_, _, hv, hcap⟩ := hX.cap
      injection hv with e1 e2 e3
      subst e3
      by_cases h0 : S = []
      · have hr : R = [45] := by rw [HW.out, if_pos h0]
        subst h0 hr
        clear hX hsl hlen2 hcap HX hkg hb hk e1 HW HS1 HL
        simp only [List.map_nil, List.length_nil]
        go_wp2_with fail
        go_ret
        exact ⟨rfl, (HB1.out.trans (HB.out.mono HB1.out.size)).junk⟩
      · have hne : ¬ (S.map nameR).length = 0 := by simpa using h0
        have hnb : (((S.map nameR).length : Int) == 0) = false := by rw [beq_eq_false_iff_ne]; omega
        have hR : R = Lib.join (S.map nameR) [44] := by rw [HW.out, if_neg h0]
        have HJ := Lib.hid (strings_joinC 44 a3 cap3 (S.map nameR) wr (by have := HL.out; simp; omega) hlen2 hcap hsl)
        rw [← hR] at HJ
        clear hX hsl hlen2 hcap HX hkg hb hk e1 HW hR h0
        generalize S.map nameR = out at HJ hne hnb
        go_wp2_with fail
        refine HJ.out.mono ?_
        rintro e w2 ⟨rfl, hb3⟩
        have HB3 := Lib.hid ((HB1.out.trans (HB.out.mono HB1.out.size)).trans (hb3.mono (Nat.le_trans HB1.out.size HB.out.size)))
        clear hb3
        go_wp2_with fail
        go_ret
        exact ⟨rfl, HB3.out.junk⟩

end Go.Proofs.YtjhhdgmhocpceaaGreatDoor
/-
  Faults: their order, and sets of them: plain laws.
-/
namespace Go.Proofs.YtjhhdgmhocpceaaGreatDoor
set_option linter.unusedSimpArgs false
set_option linter.unusedVariables false
set_option linter.unusedSectionVars false
open Go.ChangeShapes Go.WideShapes Go.ChangeAt Go.RowKit Go.Deep

structure Fl where
  scope : Int
  code : Int
deriving DecidableEq
def Fl.cells (f : Fl) : List Value := [.int .i64 f.scope, .int .i64 f.code]
def ltFl (a b : Fl) : Bool := if a.scope = b.scope then decide (a.code < b.code) else decide (a.scope < b.scope)
theorem Fl.ext' {a b : Fl} (h1 : a.scope = b.scope) (h2 : a.code = b.code) : a = b := by cases a; cases b; simp_all
theorem ordFl : Ord ltFl := by
  refine ⟨fun a => by simp [ltFl], fun a b c h1 h2 => ?_, fun a b h => ?_⟩
  · unfold ltFl at *
    split at h1 <;> split at h2 <;> split <;> simp only [decide_eq_true_eq] at * <;> omega
  · unfold ltFl
    by_cases hs : a.scope = b.scope
    · rw [if_pos hs, if_pos hs.symm]
      have : a.code ≠ b.code := fun e => h (Fl.ext' hs e)
      simp only [decide_eq_true_eq]; omega
    · rw [if_neg hs, if_neg (Ne.symm hs)]
      simp only [decide_eq_true_eq]; omega
def flR (f : Fl) : Bool := (decide (f.scope = 1) || decide (f.scope = 2)) && (decide (0 ≤ f.code) && decide (f.code < 4294967296))
def ofF (l : List Fl) : List Fl := setS ltFl (l.filter flR)
theorem mem_ofF (l : List Fl) (x : Fl) : x ∈ ofF l ↔ x ∈ l ∧ flR x = true := by unfold ofF; rw [mem_setS, List.mem_filter]
theorem strict_ofF (l : List Fl) : Strict ltFl (ofF l) := strict_setS ordFl _
theorem ofF_len (l : List Fl) : (ofF l).length ≤ l.length := Nat.le_trans (setS_len _) (List.length_filter_le _ _)
theorem ofF_congr {l m : List Fl} (h : ∀ x, flR x = true → (x ∈ l ↔ x ∈ m)) : ofF l = ofF m := by
  unfold ofF
  refine setS_congr ordFl fun x => ?_
  rw [List.mem_filter, List.mem_filter]
  constructor
  · rintro ⟨h1, h2⟩; exact ⟨(h x h2).1 h1, h2⟩
  · rintro ⟨h1, h2⟩; exact ⟨(h x h2).2 h1, h2⟩
theorem ofF_idem (l : List Fl) : ofF (ofF l) = ofF l := ofF_congr fun x hx => by rw [mem_ofF]; simp [hx]
theorem ofF_of {l : List Fl} (hs : Strict ltFl l) (hr : ∀ x ∈ l, flR x = true) : ofF l = l := by
  unfold ofF
  rw [List.filter_eq_self.2 hr]
  exact setS_of_strict ordFl hs
theorem flR_zero : flR ⟨0, 0⟩ = false := rfl
/-- The document's best one, step by step: no fault that is right stands for none. -/
def optFl : Option Fl → Fl
  | none => ⟨0, 0⟩
  | some f => f
end Go.Proofs.YtjhhdgmhocpceaaGreatDoor
