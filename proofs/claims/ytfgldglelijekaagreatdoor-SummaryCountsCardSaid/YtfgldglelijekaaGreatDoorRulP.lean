/-
  Rules: sets of them, and their texts: plain laws; no walk.
-/
import Derived.Test.YtfgldglelijekaaGreatDoorRul2
import Derived.Test.YtfgldglelijekaaGreatDoorMa
import Derived.Test.YtfgldglelijekaaGreatDoorDigQ
namespace Go.Proofs.YtfgldglelijekaaGreatDoor
set_option linter.unusedSimpArgs false
set_option linter.unusedVariables false
set_option linter.unusedSectionVars false
open Go.ChangeShapes Go.WideShapes Go.ChangeAt Go.RowKit Go.Deep

def rulR (n : Int) : Bool := decide (1 ≤ n) && decide (n ≤ 35)
abbrev nameR (n : Int) : List UInt8 := tabN rulW n
def numR (s : List UInt8) : Int := idxX rulW s + 1
def ofR (l : List Int) : List Int := setS ltI (l.filter rulR)
def showR (l : List Int) : List UInt8 := if ofR l = [] then [45] else Lib.join ((ofR l).map nameR) [44]
theorem rul_in {n : Int} (h : rulR n = true) : ∃ k : Nat, n = (k : Int) + 1 ∧ k < 35 := by
  simp only [rulR, Bool.and_eq_true, decide_eq_true_eq] at h
  exact ⟨(n - 1).toNat, by omega, by omega⟩
theorem rul_idx (k : Nat) (hk : k < 35) : idxX rulW (rulW.getD k []) = (k : Int) := by
  have hk' : k < rulW.length := hk
  have := seekX_hit (rulW.getD k []) rulW 0 k hk' (tab_at _ k hk') (fun j hj hjk e => by
    rw [tab_at rulW j hj] at e
    have := rul_two ⟨j, hj⟩ ⟨k, hk⟩ e
    have h9 : j = k := congrArg Fin.val this
    omega)
  rw [Nat.zero_add] at this
  exact this
theorem nameR_in (k : Nat) (hk : k < 35) : nameR ((k : Int) + 1) = rulW.getD k [] := tab_in rulW k hk
theorem nameR_no {n : Int} (h : rulR n = false) : nameR n = [] := tab_out rulW (by simp [rulR] at h; omega)
theorem nameR_e (n : Int) : (nameR n == []) = !rulR n := by
  cases h : rulR n with
  | false => rw [nameR_no h]; rfl
  | true =>
    obtain ⟨k, rfl, hk⟩ := rul_in h
    rw [nameR_in k hk]
    have := rul_ne ⟨k, hk⟩
    simpa using this
theorem nameR_emp (n : Int) : (tabN rulW n).isEmpty = !rulR n := by
  have h : (tabN rulW n == []) = !rulR n := nameR_e n
  rw [← h]
  generalize tabN rulW n = x
  cases x <;> rfl
theorem nameR_len (n : Int) : (nameR n).length ≤ 9 := by
  cases h : rulR n with
  | false => rw [nameR_no h]; simp
  | true =>
    obtain ⟨k, rfl, hk⟩ := rul_in h
    rw [nameR_in k hk]
    exact (rul_len ⟨k, hk⟩).1
theorem nameR_comma (n : Int) : (44 : UInt8) ∉ nameR n := by
  cases h : rulR n with
  | false => rw [nameR_no h]; simp
  | true =>
    obtain ⟨k, rfl, hk⟩ := rul_in h
    rw [nameR_in k hk]
    have := (rul_len ⟨k, hk⟩).2.1
    intro hm
    have := List.all_eq_true.1 this 44 hm
    simp at this
theorem nameR_dash {n : Int} (h : rulR n = true) : nameR n ≠ [45] := by
  obtain ⟨k, rfl, hk⟩ := rul_in h
  rw [nameR_in k hk]
  exact (rul_len ⟨k, hk⟩).2.2
theorem numR_name {n : Int} (h : rulR n = true) : idxX rulW (nameR n) + 1 = n := by
  obtain ⟨k, rfl, hk⟩ := rul_in h
  rw [nameR_in k hk, rul_idx k hk]
theorem name_numR {s : List UInt8} (h : 0 ≤ idxX rulW s) : rulR (idxX rulW s + 1) = true ∧ nameR (idxX rulW s + 1) = s := by
  obtain ⟨k, hk⟩ : ∃ k : Nat, idxX rulW s = (k : Int) := ⟨(idxX rulW s).toNat, by omega⟩
  obtain ⟨h1, h2⟩ := seekX_at s rulW 0 k (by rw [Nat.zero_add]; exact hk)
  have h35 : k < 35 := h1
  rw [hk, nameR_in k h35, ← tab_at rulW k h1]
  exact ⟨by simp [rulR]; omega, h2⟩
theorem mem_ofR (l : List Int) (x : Int) : x ∈ ofR l ↔ x ∈ l ∧ rulR x = true := by unfold ofR; rw [mem_setS, List.mem_filter]
theorem strict_ofR (l : List Int) : Strict ltI (ofR l) := strict_setS ordI _
theorem ofR_len (l : List Int) : (ofR l).length ≤ l.length := Nat.le_trans (setS_len _) (List.length_filter_le _ _)
theorem ofR_self {l : List Int} (h1 : ∀ x ∈ l, rulR x = true) (h2 : Strict ltI l) : ofR l = l := by
  unfold ofR
  rw [List.filter_eq_self.2 h1, setS_of_strict ordI h2]
theorem ofR_of (l : List Int) : ofR (ofR l) = ofR l := ofR_self (fun x hx => ((mem_ofR l x).1 hx).2) (strict_ofR l)
theorem cut_showR {l : List Int} (h : ofR l ≠ []) : cutF 44 (showR l) = (ofR l).map nameR := by
  unfold showR
  rw [if_neg h]
  exact cut_join 44 _ (by simpa using h) (fun w hw => by obtain ⟨n, _, rfl⟩ := List.mem_map.1 hw; exact nameR_comma n)
theorem showR_ne {l : List Int} (h : ofR l ≠ []) : showR l ≠ [45] := by
  intro e
  have hc := cut_showR h
  rw [e, show cutF 44 [45] = [[45]] from by decide] at hc
  have hm : [45] ∈ (ofR l).map nameR := by rw [← hc]; simp
  obtain ⟨n, hn, e2⟩ := List.mem_map.1 hm
  exact nameR_dash ((mem_ofR l n).1 hn).2 e2

/-! Read back. -/
def okI (last : Option Int) (n : Int) : Bool := match last with
  | none => true
  | some m => decide (m < n)
def goR : List (List UInt8) → Option Int → Option (List Int)
  | [], _ => some []
  | x :: r, last => if 0 ≤ idxX rulW x ∧ okI last (idxX rulW x + 1) = true then (goR r (some (idxX rulW x + 1))).map ((idxX rulW x + 1) :: ·) else none
def endP : Option (List Int) → List Int × Bool
  | some l => (l, true)
  | none => ([], false)
def setRP (s : List UInt8) : List Int × Bool := if s = [45] then ([], true) else endP (goR (cutF 44 s) none)
def setRD (s : List UInt8) : List Int × Bool := if s = [45] then ([], true) else if showR ((cutF 44 s).map numR) = s then (ofR ((cutF 44 s).map numR), true) else ([], false)
theorem goR_all : ∀ {p : List (List UInt8)} {last : Option Int} {l : List Int}, goR p last = some l ↔ p = l.map nameR ∧ (∀ x ∈ l, rulR x = true) ∧ Strict ltI l ∧ (∀ m, last = some m → ∀ x ∈ l, m < x)
  | [], last, l => by
    unfold goR
    constructor
    · intro h
      injection h with h
      subst h
      exact ⟨rfl, by simp, List.Pairwise.nil, by simp⟩
    · rintro ⟨h, _⟩
      have : l = [] := by simpa using h.symm
      rw [this]
  | x :: r, last, l => by
    unfold goR
    constructor
    · intro h
      split at h
      · rename_i hc
        obtain ⟨l', h1, rfl⟩ := Option.map_eq_some_iff.1 h
        obtain ⟨g1, g2, g3, g4⟩ := goR_all.1 h1
        obtain ⟨n1, n2⟩ := name_numR hc.1
        refine ⟨by rw [List.map_cons, n2, ← g1], ?_, List.pairwise_cons.2 ⟨fun y hy => by have := g4 _ rfl y hy; simpa [ltI] using this, g3⟩, ?_⟩
        · intro y hy
          rcases List.mem_cons.1 hy with rfl | hy
          · exact n1
          · exact g2 y hy
        · intro m hm y hy
          subst hm
          have h2 := hc.2
          simp only [okI, decide_eq_true_eq] at h2
          rcases List.mem_cons.1 hy with rfl | hy
          · exact h2
          · have := g4 _ rfl y hy; omega
      · cases h
    · rintro ⟨h1, h2, h3, h4⟩
      cases l with
      | nil => simp at h1
      | cons n l' =>
        rw [List.map_cons] at h1
        injection h1 with h1 h1'
        have hn := numR_name (h2 n (by simp))
        rw [← h1] at hn
        unfold Strict at h3
        rw [List.pairwise_cons] at h3
        have hr := h2 n (by simp)
        simp only [rulR, Bool.and_eq_true, decide_eq_true_eq] at hr
        have hok : okI last n = true := by
          cases last with
          | none => rfl
          | some m => have := h4 m rfl n (by simp); simpa [okI] using this
        rw [hn, if_pos ⟨by omega, hok⟩, goR_all.2 ⟨h1', fun y hy => h2 y (by simp [hy]), h3.2, fun m hm y hy => by injection hm with hm; subst hm; have := h3.1 y hy; simpa [ltI] using this⟩]
        rfl
theorem map_num_name {l : List Int} (h : ∀ x ∈ l, rulR x = true) : (l.map nameR).map numR = l := by
  rw [List.map_map]
  refine (List.map_congr_left fun x hx => ?_).trans (List.map_id l)
  exact numR_name (h x hx)
theorem setR_eq (s : List UInt8) : setRP s = setRD s := by
  unfold setRP setRD
  by_cases h0 : s = [45]
  · rw [if_pos h0, if_pos h0]
  rw [if_neg h0, if_neg h0]
  cases hg : goR (cutF 44 s) none with
  | some l =>
    obtain ⟨g1, g2, g3, _⟩ := goR_all.1 hg
    have hne : l ≠ [] := by
      obtain ⟨a, t, e⟩ := cut_ne 44 s
      intro hl
      rw [hl, e] at g1
      simp at g1
    have ho := ofR_self g2 g3
    rw [g1, map_num_name g2]
    have hs : showR l = s := by
      unfold showR
      rw [ho, if_neg hne, ← g1, join_cut]
    rw [if_pos hs, ho]
    rfl
  | none =>
    rw [if_neg]
    · rfl
    · intro hs
      generalize (cutF 44 s).map numR = ns at hs
      have hne : ofR ns ≠ [] := by
        intro hn
        unfold showR at hs
        rw [if_pos hn] at hs
        exact h0 hs.symm
      have hc := cut_showR hne
      rw [hs] at hc
      have := (goR_all (p := cutF 44 s) (last := none) (l := ofR ns)).2 ⟨hc, fun x hx => ((mem_ofR ns x).1 hx).2, strict_ofR ns, by simp⟩
      rw [hg] at this
      cases this
theorem setR_show (l : List Int) : setRP (showR l) = (ofR l, true) := by
  by_cases hn : ofR l = []
  · have : showR l = [45] := by unfold showR; rw [if_pos hn]
    rw [this, hn]; rfl
  · unfold setRP
    rw [if_neg (showR_ne hn), cut_showR hn, goR_all.2 ⟨rfl, fun x hx => ((mem_ofR l x).1 hx).2, strict_ofR l, by simp⟩]
    rfl
theorem setRD_len (s : List UInt8) : (setRD s).1.length ≤ s.length + 1 := by
  unfold setRD
  split
  · simp
  · split
    · have h1 := ofR_len ((cutF 44 s).map numR)
      have h2 := cut_len 44 s
      rw [List.length_map] at h1
      simp only
      omega
    · simp

/-! A rising list, up to a number. -/
theorem upto_step (S : List Int) (hS : Strict ltI S) (r : Int) : S.filter (fun x => decide (x < r + 1)) = S.filter (fun x => decide (x < r)) ++ (if r ∈ S then [r] else []) := by
  induction S with
  | nil => simp
  | cons a t ih =>
    unfold Strict at hS
    rw [List.pairwise_cons] at hS
    have ih := ih hS.2
    rcases Int.lt_trichotomy a r with h | h | h
    · rw [List.filter_cons_of_pos (by simp; omega), List.filter_cons_of_pos (by simp; omega), ih]
      have : (r ∈ a :: t) ↔ r ∈ t := by simp; intro e; omega
      simp only [this, List.cons_append]
    · subst h
      have h1 : t.filter (fun x => decide (x < a + 1)) = [] := List.filter_eq_nil_iff.2 fun x hx => by have := hS.1 x hx; simp [ltI] at this ⊢; omega
      have h2 : t.filter (fun x => decide (x < a)) = [] := List.filter_eq_nil_iff.2 fun x hx => by have := hS.1 x hx; simp [ltI] at this ⊢; omega
      rw [List.filter_cons_of_pos (by simp; omega), List.filter_cons_of_neg (by simp), h1, h2, if_pos (by simp)]
      rfl
    · have h1 : ∀ y ∈ t, r < y := fun y hy => by have := hS.1 y hy; simp [ltI] at this; omega
      have h2 : ¬ r ∈ a :: t := by
        intro hm
        rcases List.mem_cons.1 hm with e | hm
        · omega
        · have := h1 r hm; omega
      rw [List.filter_cons_of_neg (by simp; omega), List.filter_cons_of_neg (by simp; omega), if_neg h2, ih, if_neg (fun hm => h2 (by simp [hm]))]
theorem upto_start (l : List Int) : (ofR l).filter (fun x => decide (x < 1)) = [] := List.filter_eq_nil_iff.2 fun x hx => by
  have := ((mem_ofR l x).1 hx).2
  simp [rulR] at this ⊢
  omega
theorem upto_end (l : List Int) : (ofR l).filter (fun x => decide (x < 36)) = ofR l := List.filter_eq_self.2 fun x hx => by
  have := ((mem_ofR l x).1 hx).2
  simp [rulR] at this ⊢
  omega
theorem showR_step (S : List Int) (k : Nat) (hk : k < S.length) (h0 : 0 < k) : Lib.join ((S.take (k + 1)).map nameR) [44] = Lib.join ((S.take k).map nameR) [44] ++ [44] ++ nameR S[k] := by
  rw [List.map_take, List.map_take, take_join_c 44 _ k (by simpa using hk), if_neg (by omega)]
  simp
end Go.Proofs.YtfgldglelijekaaGreatDoor
