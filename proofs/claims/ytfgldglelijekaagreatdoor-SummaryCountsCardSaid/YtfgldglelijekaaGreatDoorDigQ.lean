/-
  Numbers as digits: plain laws of limits and of lists.
-/
import Derived.Test.YtfgldglelijekaaGreatDoorDigP
import Derived.Test.YtfgldglelijekaaGreatDoorMa
namespace Go.Proofs.YtfgldglelijekaaGreatDoor
set_option linter.unusedSimpArgs false
set_option linter.unusedVariables false
set_option linter.unusedSectionVars false
open Go.ChangeShapes Go.WideShapes Go.ChangeAt Go.RowKit Go.Deep

def natGo (most : Int) : List UInt8 → Int → Option Int
  | [], n => some n
  | c :: r, n => if (c.toNat : Int) < 48 ∨ 57 < (c.toNat : Int) then none else if most < 10 * n + ((c.toNat : Int) - 48) then none else natGo most r (10 * n + ((c.toNat : Int) - 48))
def natE : Option Int → Int × Bool
  | some n => (n, true)
  | none => (0, false)
def natF (s : List UInt8) (most : Int) : Int × Bool := if s = [] ∨ most < 0 then (0, false) else natE (natGo most s 0)

def listF (l : List Int) : List UInt8 := Lib.join (l.map Lib.itoa) [44]
def readAll : List (List UInt8) → Option (List Int)
  | [] => some []
  | x :: r => if (readF x).2 = true then (readAll r).map ((readF x).1 :: ·) else none
def rlE : Option (List Int) → List Int × Bool
  | some l => (l, true)
  | none => ([], false)
def rlF (s : List UInt8) : List Int × Bool := if s = [] then ([], true) else rlE (readAll (cutF 44 s))
def goodI (n : Int) : Prop := -9223372036854775808 ≤ n ∧ n ≤ 9223372036854775807
theorem itoa_ne (n : Int) : Lib.itoa n ≠ [] := by
  rcases Int.lt_or_le n 0 with h | h
  · obtain ⟨m, rfl⟩ : ∃ m : Nat, n = -(m : Int) := ⟨n.natAbs, by omega⟩
    rw [itoa_minus m (by omega)]; simp
  · obtain ⟨m, rfl⟩ : ∃ m : Nat, n = (m : Int) := ⟨n.toNat, by omega⟩
    rw [itoa_pos m]; exact dec_ne m
theorem itoa_free (n : Int) : (44 : UInt8) ∉ Lib.itoa n := by
  intro h
  rcases Int.lt_or_le n 0 with h0 | h0
  · obtain ⟨m, rfl⟩ : ∃ m : Nat, n = -(m : Int) := ⟨n.natAbs, by omega⟩
    rw [itoa_minus m (by omega)] at h
    rcases List.mem_cons.1 h with h | h
    · cases h
    · have := dec_bytes m m (Nat.le_refl _) _ h
      simp at this
  · obtain ⟨m, rfl⟩ : ∃ m : Nat, n = (m : Int) := ⟨n.toNat, by omega⟩
    rw [itoa_pos m] at h
    have := dec_bytes m m (Nat.le_refl _) _ h
    simp at this
theorem readAll_itoa : ∀ (l : List Int), (∀ n ∈ l, goodI n) → readAll (l.map Lib.itoa) = some l
  | [], _ => rfl
  | n :: r, h => by
    have h1 := h n (by simp)
    rw [List.map_cons, readAll, readF_itoa h1.1 h1.2, if_pos rfl, readAll_itoa r (fun x hx => h x (by simp [hx]))]
    rfl
theorem rlF_list (l : List Int) (h : ∀ n ∈ l, goodI n) : rlF (listF l) = (l, true) := by
  unfold rlF listF
  by_cases hl : l = []
  · subst hl; rfl
  · have hne : l.map Lib.itoa ≠ [] := by simpa using hl
    have hj : Lib.join (l.map Lib.itoa) [44] ≠ [] := by
      cases l with
      | nil => exact absurd rfl hl
      | cons n r =>
        rw [List.map_cons, Lib.join_cons]
        have := itoa_ne n
        simp [this]
    rw [if_neg hj, cut_join 44 _ hne (fun w hw => by obtain ⟨n, _, rfl⟩ := List.mem_map.1 hw; exact itoa_free n), readAll_itoa l h]
    rfl
theorem readAll_some : ∀ (p : List (List UInt8)) (l : List Int), readAll p = some l → l.map Lib.itoa = p ∧ ∀ n ∈ l, goodI n
  | [], l, h => by simp only [readAll] at h; injection h with h; subst h; simp
  | x :: r, l, h => by
    rw [readAll] at h
    cases hx : (readF x).2
    · rw [hx] at h; simp at h
    · rw [hx, if_pos rfl] at h
      cases hr : readAll r with
      | none => rw [hr] at h; cases h
      | some t =>
        rw [hr] at h
        simp only [Option.map_some, Option.some.injEq] at h
        subst h
        obtain ⟨h1, h2⟩ := readAll_some r t hr
        obtain ⟨h3, h4, h5⟩ := readF_yes hx
        refine ⟨by rw [List.map_cons, h1, h3], fun n hn => ?_⟩
        rcases List.mem_cons.1 hn with rfl | hn
        · exact ⟨h4, h5⟩
        · exact h2 n hn
theorem rlF_back {s : List UInt8} (h : (rlF s).2 = true) : listF (rlF s).1 = s ∧ ∀ n ∈ (rlF s).1, goodI n := by
  unfold rlF at h ⊢
  by_cases h0 : s = []
  · rw [if_pos h0]; subst h0; exact ⟨rfl, by simp⟩
  · rw [if_neg h0] at h ⊢
    cases hr : readAll (cutF 44 s) with
    | none => rw [hr] at h; cases h
    | some l =>
      obtain ⟨h1, h2⟩ := readAll_some _ _ hr
      refine ⟨?_, h2⟩
      show Lib.join (l.map Lib.itoa) [44] = s
      rw [h1, join_cut]
theorem readAll_append : ∀ (p q : List (List UInt8)) (l : List Int), readAll p = some l → readAll (p ++ q) = (readAll q).map (l ++ ·)
  | [], q, l, h => by simp only [readAll] at h; injection h with h; subst h; cases h : readAll q <;> simp [h]
  | x :: r, q, l, h => by
    rw [readAll] at h
    cases hx : (readF x).2
    · rw [hx] at h; simp at h
    · rw [hx, if_pos rfl] at h
      cases hr : readAll r with
      | none => rw [hr] at h; cases h
      | some t =>
        rw [hr] at h
        simp only [Option.map_some, Option.some.injEq] at h
        subst h
        rw [List.cons_append, readAll, hx, if_pos rfl, readAll_append r q t hr]
        cases readAll q <;> rfl
theorem readAll_len : ∀ (p : List (List UInt8)) (l : List Int), readAll p = some l → l.length = p.length
  | [], l, h => by simp only [readAll] at h; injection h with h; subst h; rfl
  | x :: r, l, h => by
    rw [readAll] at h
    cases hx : (readF x).2
    · rw [hx] at h; simp at h
    · rw [hx, if_pos rfl] at h
      cases hr : readAll r with
      | none => rw [hr] at h; cases h
      | some t =>
        rw [hr] at h
        simp only [Option.map_some, Option.some.injEq] at h
        subst h
        simp [readAll_len r t hr]
theorem rlF_len (s : List UInt8) : (rlF s).1.length ≤ s.length + 1 := by
  unfold rlF
  split
  · simp
  · cases h : readAll (cutF 44 s) with
    | none => simp [rlE]
    | some l => have := readAll_len _ _ h; have := cut_len 44 s; simp [rlE]; omega
theorem take_join_c (c : UInt8) (l : List (List UInt8)) (k : Nat) (hlt : k < l.length) : Lib.join (l.take (k + 1)) [c] = if k = 0 then l[k] else Lib.join (l.take k) [c] ++ [c] ++ l[k] := by
  cases l with
  | nil => simp at hlt
  | cons x r =>
    cases k with
    | zero => simp [Lib.join_one]
    | succ k =>
      rw [if_neg (by omega), List.take_succ_cons, List.take_succ_cons, Lib.join_cons, Lib.join_cons]
      have hk : k < r.length := by simpa using hlt
      rw [Lib.joinTail_take_succ [c] r k r[k] (List.getElem?_eq_getElem hk)]
      simp
theorem list_step (l : List Int) (k : Nat) (hlt : k < l.length) : listF (l.take (k + 1)) = if k = 0 then Lib.itoa l[k] else listF (l.take k) ++ [44] ++ Lib.itoa l[k] := by
  unfold listF
  rw [List.map_take, List.map_take, take_join_c 44 _ k (by simpa using hlt)]
  simp
theorem list_len (l : List Int) (h : ∀ n ∈ l, goodI n) : (listF l).length ≤ 21 * l.length := by
  have : ∀ k, k ≤ l.length → (listF (l.take k)).length ≤ 21 * k := by
    intro k
    induction k with
    | zero => intro _; simp [listF, Lib.join_nil]
    | succ k ih =>
      intro hk
      have h1 := ih (by omega)
      have hb := h _ (List.getElem_mem (show k < l.length by omega))
      have h2 := itoa_len hb.1 hb.2
      rw [list_step l k (by omega)]
      split
      · omega
      · simp; omega
  have := this l.length (Nat.le_refl _)
  rwa [List.take_length] at this
end Go.Proofs.YtfgldglelijekaaGreatDoor
