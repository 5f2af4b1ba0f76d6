/-
  Parts of the proof, one behind the other: contracts of the program and plain laws; no condition of their own.
-/
import Derived.Test.YtmlbomblbdbikaaGreatDoorMa
import Derived.Lib.AtoiAllCases
import Derived.Lib.ItoaLen
import Derived.Test.YtmlbomblbdbikaaGreatDoorMh
import Derived.Laws.Tables
/-
  Numbers as digits: plain laws.
-/
namespace Go.Proofs.YtmlbomblbdbikaaGreatDoor
set_option linter.unusedSimpArgs false
set_option linter.unusedVariables false
set_option linter.unusedSectionVars false
open Go.ChangeShapes Go.WideShapes Go.ChangeAt Go.RowKit Go.Deep

theorem dec_lo {n : Nat} (h : n < 10) : Lib.decDigits n = [UInt8.ofNat (48 + n)] := by rw [Lib.decDigits, dif_pos h]
theorem dec_hi {n : Nat} (h : ¬ n < 10) : Lib.decDigits n = Lib.decDigits (n / 10) ++ [UInt8.ofNat (48 + n % 10)] := by rw [Lib.decDigits, dif_neg h]
theorem dec_byte {d : Nat} (h : d < 10) : (UInt8.ofNat (48 + d)).toNat = 48 + d := by
  rw [UInt8.toNat_ofNat', Nat.mod_eq_of_lt (by omega)]
theorem dec_ne (n : Nat) : Lib.decDigits n ≠ [] := by
  by_cases h : n < 10
  · rw [dec_lo h]; simp
  · rw [dec_hi h]; simp
theorem dec_bytes : ∀ (k n : Nat), n ≤ k → ∀ c ∈ Lib.decDigits n, 48 ≤ c.toNat ∧ c.toNat ≤ 57
  | k, n, h, c, hc => by
    by_cases h10 : n < 10
    · rw [dec_lo h10] at hc
      simp only [List.mem_singleton] at hc
      subst hc
      rw [dec_byte h10]; omega
    · rw [dec_hi h10] at hc
      rcases List.mem_append.1 hc with hc | hc
      · cases k with
        | zero => omega
        | succ k => exact dec_bytes k (n / 10) (by omega) c hc
      · simp only [List.mem_singleton] at hc
        subst hc
        rw [dec_byte (by omega)]; omega
theorem dec_len : ∀ (k n : Nat), n < 10 ^ (k + 1) → (Lib.decDigits n).length ≤ k + 1
  | 0, n, h => by rw [dec_lo (by omega)]; simp
  | k + 1, n, h => by
    by_cases h10 : n < 10
    · rw [dec_lo h10]; simp
    · rw [dec_hi h10]
      have := dec_len k (n / 10) (by rw [Nat.pow_succ] at h; omega)
      simp; omega
theorem itoa_pos (n : Nat) : Lib.itoa (n : Int) = Lib.decDigits n := by unfold Lib.itoa; rw [if_neg (by omega)]; simp
theorem itoa_minus (n : Nat) (h : 1 ≤ n) : Lib.itoa (-(n : Int)) = 45 :: Lib.decDigits n := by unfold Lib.itoa; rw [if_pos (by omega)]; simp
theorem itoa_len {n : Int} (h0 : -9223372036854775808 ≤ n) (h1 : n ≤ 9223372036854775807) : (Lib.itoa n).length ≤ 20 := by
  rcases Int.lt_or_le n 0 with h | h
  · obtain ⟨m, rfl⟩ : ∃ m : Nat, n = -(m : Int) := ⟨n.natAbs, by omega⟩
    rw [itoa_minus m (by omega)]
    have := dec_len 18 m (by omega)
    simp; omega
  · obtain ⟨m, rfl⟩ : ∃ m : Nat, n = (m : Int) := ⟨n.toNat, by omega⟩
    rw [itoa_pos m]
    have := dec_len 18 m (by omega)
    omega

theorem parse_append : ∀ (x y : List UInt8) (a u : Nat), Lib.parseUint10 a x = .ok u → Lib.parseUint10 a (x ++ y) = Lib.parseUint10 u y
  | [], y, a, u, h => by simp only [Lib.parseUint10] at h; injection h with h; subst h; rfl
  | c :: r, y, a, u, h => by
    rw [List.cons_append]
    rw [Lib.parseUint10] at h ⊢
    by_cases h1 : 48 ≤ c.toNat ∧ c.toNat ≤ 57
    · rw [if_pos h1] at h
      rw [if_pos h1]
      by_cases h2 : 1844674407370955162 ≤ a
      · rw [if_pos h2] at h; cases h
      · rw [if_neg h2] at h
        rw [if_neg h2]
        by_cases h3 : 18446744073709551616 ≤ a * 10 + (c.toNat - 48)
        · rw [if_pos h3] at h; cases h
        · rw [if_neg h3] at h
          rw [if_neg h3]
          exact parse_append r y _ u h
    · rw [if_neg h1] at h; cases h
theorem parse_one {a d : Nat} (hd : d < 10) (ha : a * 10 + d < 18446744073709551616) : Lib.parseUint10 a [UInt8.ofNat (48 + d)] = .ok (a * 10 + d) := by
  unfold Lib.parseUint10
  rw [dec_byte hd, if_pos (by omega), if_neg (by omega), if_neg (by omega)]
  simp [Lib.parseUint10]
theorem parse_dec : ∀ (k n : Nat), n ≤ k → n < 18446744073709551616 → Lib.parseUint10 0 (Lib.decDigits n) = .ok n
  | k, n, h, hn => by
    by_cases h10 : n < 10
    · rw [dec_lo h10, parse_one h10 (by omega)]; simp
    · rw [dec_hi h10]
      cases k with
      | zero => omega
      | succ k =>
        rw [parse_append _ _ _ _ (parse_dec k (n / 10) (by omega) (by omega)), parse_one (by omega) (by omega)]
        congr 1; omega
theorem dec_head (n : Nat) : ∃ c r, Lib.decDigits n = c :: r ∧ 48 ≤ c.toNat ∧ c.toNat ≤ 57 := by
  have := dec_bytes n n (Nat.le_refl _)
  cases h : Lib.decDigits n with
  | nil => exact absurd h (dec_ne n)
  | cons c r => exact ⟨c, r, rfl, this c (by rw [h]; simp)⟩
theorem atoi_itoa {n : Int} (h0 : -9223372036854775808 ≤ n) (h1 : n ≤ 9223372036854775807) : Lib.atoiAll (Lib.itoa n) = .ok n := by
  rcases Int.lt_or_le n 0 with h | h
  · obtain ⟨m, rfl⟩ : ∃ m : Nat, n = -(m : Int) := ⟨n.natAbs, by omega⟩
    rw [itoa_minus m (by omega), Lib.atoiAll_minus]
    unfold Lib.parseMag
    rw [if_neg (dec_ne m), parse_dec m m (Nat.le_refl _) (by omega)]
    simp only [Lib.signed]
    rw [if_neg (by omega)]
  · obtain ⟨m, rfl⟩ : ∃ m : Nat, n = (m : Int) := ⟨n.toNat, by omega⟩
    rw [itoa_pos m]
    have hp := parse_dec m m (Nat.le_refl _) (by omega)
    obtain ⟨c, r, he, hc0, hc1⟩ := dec_head m
    rw [he] at hp ⊢
    rw [Lib.atoiAll_plain c r (by omega) (by omega)]
    unfold Lib.parseMag
    rw [if_neg (by simp), hp]
    simp only [Lib.signless]
    rw [if_neg (by omega)]
def readF (s : List UInt8) : Int × Bool :=
  match Lib.atoiAll s with
  | .ok v => if Lib.itoa v = s then (v, true) else (0, false)
  | _ => (0, false)
theorem readF_itoa {n : Int} (h0 : -9223372036854775808 ≤ n) (h1 : n ≤ 9223372036854775807) : readF (Lib.itoa n) = (n, true) := by
  unfold readF; rw [atoi_itoa h0 h1]; simp
theorem readF_ok {s : List UInt8} {v : Int} (h : Lib.atoiAll s = .ok v) : readF s = if Lib.itoa v = s then (v, true) else (0, false) := by
  unfold readF; rw [h]
theorem readF_bad {s : List UInt8} (h : ∀ v, Lib.atoiAll s ≠ .ok v) : readF s = (0, false) := by
  unfold readF
  split
  · rename_i v hv; exact absurd hv (h v)
  · rfl
theorem readF_yes {s : List UInt8} (h : (readF s).2 = true) : Lib.itoa (readF s).1 = s ∧ -9223372036854775808 ≤ (readF s).1 ∧ (readF s).1 ≤ 9223372036854775807 := by
  by_cases hok : ∃ v, Lib.atoiAll s = .ok v
  · obtain ⟨v, ha⟩ := hok
    rw [readF_ok ha] at h ⊢
    by_cases hs : Lib.itoa v = s
    · rw [if_pos hs]; exact ⟨hs, Lib.atoiAll_bounds ha⟩
    · rw [if_neg hs] at h; cases h
  · rw [readF_bad fun v hv => hok ⟨v, hv⟩] at h; cases h
theorem readF_no {s : List UInt8} (h : (readF s).2 = false) : readF s = (0, false) := by
  by_cases hok : ∃ v, Lib.atoiAll s = .ok v
  · obtain ⟨v, ha⟩ := hok
    rw [readF_ok ha] at h ⊢
    by_cases hs : Lib.itoa v = s
    · rw [if_pos hs] at h; cases h
    · rw [if_neg hs]
  · exact readF_bad fun v hv => hok ⟨v, hv⟩

/-! The document's reading. -/
def vlGo : List UInt8 → Int → Option Int
  | [], n => some n
  | c :: r, n => if (c.toNat : Int) < 48 ∨ 57 < (c.toNat : Int) then none else if n < -922337203685477580 ∨ (n = -922337203685477580 ∧ 8 < (c.toNat : Int) - 48) then none else vlGo r (10 * n - ((c.toNat : Int) - 48))
def vlF (s : List UInt8) : Int × Bool := match vlGo s 0 with
  | some n => (n, !s.isEmpty)
  | none => (0, false)
theorem vlGo_lo : ∀ (s : List UInt8) (n m : Int), -9223372036854775808 ≤ n → n ≤ 0 → vlGo s n = some m → -9223372036854775808 ≤ m ∧ m ≤ 0
  | [], n, m, h0, h1, h => by simp only [vlGo] at h; injection h with h; subst h; exact ⟨h0, h1⟩
  | c :: r, n, m, h0, h1, h => by
    unfold vlGo at h
    split at h
    · cases h
    · split at h
      · cases h
      · exact vlGo_lo r _ m (by omega) (by omega) h
theorem vlGo_append : ∀ (x y : List UInt8) (a u : Int), vlGo x a = some u → vlGo (x ++ y) a = vlGo y u
  | [], y, a, u, h => by simp only [vlGo] at h; injection h with h; subst h; rfl
  | c :: r, y, a, u, h => by
    rw [List.cons_append]
    rw [vlGo] at h ⊢
    split at h
    · cases h
    · rename_i h1
      rw [if_neg h1]
      split at h
      · cases h
      · rename_i h2
        rw [if_neg h2]
        exact vlGo_append r y _ u h
theorem vl_one {a : Int} {d : Nat} (hd : d < 10) (ha : ¬ (a < -922337203685477580 ∨ (a = -922337203685477580 ∧ 8 < d))) : vlGo [UInt8.ofNat (48 + d)] a = some (10 * a - d) := by
  rw [vlGo, dec_byte hd, if_neg (by omega), if_neg (by omega)]
  simp only [vlGo]
  congr 1; omega
theorem vl_dec : ∀ (k n : Nat), n ≤ k → n ≤ 9223372036854775808 → vlGo (Lib.decDigits n) 0 = some (-(n : Int))
  | k, n, h, hn => by
    by_cases h10 : n < 10
    · rw [dec_lo h10, vl_one h10 (by omega)]; congr 1; omega
    · rw [dec_hi h10]
      cases k with
      | zero => omega
      | succ k =>
        rw [vlGo_append _ _ _ _ (vl_dec k (n / 10) (by omega) (by omega)), vl_one (by omega) (by omega)]
        congr 1; omega
def readB (s : List UInt8) : Int × Bool :=
  match s with
  | [] => (0, false)
  | c :: r => if (c == 45) = true then vlF r else (-(vlF s).1, (vlF s).2)
def readR (s : List UInt8) : Int × Bool :=
  if 20 < (s.length : Int) ∨ s = [] then (0, false)
  else if (s.head?.map (· == 45)) = some true then (if (vlF s.tail).2 = true ∧ Lib.itoa (vlF s.tail).1 = s then ((vlF s.tail).1, true) else (0, false))
  else if (vlF s).1 = -9223372036854775808 then (0, false)
  else if (vlF s).2 = true ∧ Lib.itoa (-(vlF s).1) = s then (-(vlF s).1, true) else (0, false)
theorem vlF_bd (s : List UInt8) : -9223372036854775808 ≤ (vlF s).1 ∧ (vlF s).1 ≤ 0 := by
  unfold vlF
  cases h : vlGo s 0 with
  | none => exact ⟨by simp, by simp⟩
  | some n => exact vlGo_lo s 0 n (by omega) (by omega) h
theorem readR_itoa {n : Int} (h0 : -9223372036854775808 ≤ n) (h1 : n ≤ 9223372036854775807) : readR (Lib.itoa n) = (n, true) := by
  have hl := itoa_len h0 h1
  unfold readR
  rcases Int.lt_or_le n 0 with h | h
  · obtain ⟨m, rfl⟩ : ∃ m : Nat, n = -(m : Int) := ⟨n.natAbs, by omega⟩
    have hv : vlF (Lib.decDigits m) = (-(m : Int), true) := by
      unfold vlF
      rw [vl_dec m m (Nat.le_refl _) (by omega)]
      simp only [Prod.mk.injEq, true_and]
      cases hd : Lib.decDigits m with
      | nil => exact absurd hd (dec_ne m)
      | cons => rfl
    have hi := itoa_minus m (by omega)
    rw [hi] at hl ⊢
    rw [if_neg (by simp at hl ⊢; omega), if_pos (by simp), List.tail_cons, hv]
    rw [if_pos ⟨rfl, hi⟩]
  · obtain ⟨m, rfl⟩ : ∃ m : Nat, n = (m : Int) := ⟨n.toNat, by omega⟩
    have hv : vlF (Lib.decDigits m) = (-(m : Int), true) := by
      unfold vlF
      rw [vl_dec m m (Nat.le_refl _) (by omega)]
      simp only [Prod.mk.injEq, true_and]
      cases hd : Lib.decDigits m with
      | nil => exact absurd hd (dec_ne m)
      | cons => rfl
    have hi := itoa_pos m
    rw [hi] at hl ⊢
    have hne := dec_ne m
    obtain ⟨c, r, he, hc0, hc1⟩ := dec_head m
    have hh : (Lib.decDigits m).head?.map (· == 45) = some false := by
      rw [he]
      simp only [List.head?_cons, Option.map_some, Option.some.injEq, beq_eq_false_iff_ne, ne_eq]
      intro e; subst e; simp at hc0
    rw [if_neg (by simp only [hne, or_false]; omega), hh, if_neg (by simp), hv, if_neg (by simp only; omega)]
    rw [if_pos ⟨rfl, by simp only [Int.neg_neg]; exact hi⟩]
    simp
theorem readR_yes {s : List UInt8} (h : (readR s).2 = true) : Lib.itoa (readR s).1 = s ∧ -9223372036854775808 ≤ (readR s).1 ∧ (readR s).1 ≤ 9223372036854775807 := by
  have b1 := vlF_bd s
  have b2 := vlF_bd s.tail
  unfold readR at h ⊢
  split
  · rename_i c; rw [if_pos c] at h; cases h
  · rename_i c; rw [if_neg c] at h
    split
    · rename_i d; rw [if_pos d] at h
      split
      · rename_i e; exact ⟨e.2, by simp only; omega, by simp only; omega⟩
      · rename_i e; rw [if_neg e] at h; cases h
    · rename_i d; rw [if_neg d] at h
      split
      · rename_i e; rw [if_pos e] at h; cases h
      · rename_i e; rw [if_neg e] at h
        split
        · rename_i f; exact ⟨f.2, by simp only; omega, by simp only; omega⟩
        · rename_i f; rw [if_neg f] at h; cases h
theorem readR_no {s : List UInt8} (h : (readR s).2 = false) : readR s = (0, false) := by
  unfold readR at h ⊢
  split
  · rfl
  · rename_i c; rw [if_neg c] at h
    split
    · rename_i d; rw [if_pos d] at h
      split
      · rename_i e; rw [if_pos e] at h; cases h
      · rfl
    · rename_i d; rw [if_neg d] at h
      split
      · rfl
      · rename_i e; rw [if_neg e] at h
        split
        · rename_i f; rw [if_pos f] at h; cases h
        · rfl
theorem read_eq (s : List UInt8) : readF s = readR s := by
  cases h : (readF s).2 with
  | true =>
    obtain ⟨h1, h2, h3⟩ := readF_yes h
    have := readR_itoa h2 h3
    rw [h1] at this
    rw [this]
    exact Prod.ext rfl h
  | false =>
    cases h' : (readR s).2 with
    | true =>
      obtain ⟨h1, h2, h3⟩ := readR_yes h'
      have := readF_itoa h2 h3
      rw [h1] at this
      rw [this] at h
      cases h
    | false => rw [readF_no h, readR_no h']
end Go.Proofs.YtmlbomblbdbikaaGreatDoor
/-
  Numbers as digits: plain laws of limits and of lists.
-/
namespace Go.Proofs.YtmlbomblbdbikaaGreatDoor
set_option linter.unusedSimpArgs false
set_option linter.unusedVariables false
set_option linter.unusedSectionVars false
open Go.ChangeShapes Go.WideShapes Go.ChangeAt Go.RowKit Go.Deep

def natGo (most : Int) : List UInt8 → Int → Option Int
  | [], n => some n
  | c :: r, n => if (c.toNat : Int) < 48 ∨ 57 < (c.toNat : Int) then none else if most < 10 * n + ((c.toNat : Int) - 48) then none else natGo most r (10 * n + ((c.toNat : Int) - 48))
def natE : Option Int → Int × Bool
  | some n => (n, true)
  | none => (0, false)
def natF (s : List UInt8) (most : Int) : Int × Bool := if s = [] ∨ most < 0 then (0, false) else natE (natGo most s 0)

def listF (l : List Int) : List UInt8 := Lib.join (l.map Lib.itoa) [44]
def readAll : List (List UInt8) → Option (List Int)
  | [] => some []
  | x :: r => if (readF x).2 = true then (readAll r).map ((readF x).1 :: ·) else none
def rlE : Option (List Int) → List Int × Bool
  | some l => (l, true)
  | none => ([], false)
def rlF (s : List UInt8) : List Int × Bool := if s = [] then ([], true) else rlE (readAll (cutF 44 s))
def goodI (n : Int) : Prop := -9223372036854775808 ≤ n ∧ n ≤ 9223372036854775807
theorem itoa_ne (n : Int) : Lib.itoa n ≠ [] := by
  rcases Int.lt_or_le n 0 with h | h
  · obtain ⟨m, rfl⟩ : ∃ m : Nat, n = -(m : Int) := ⟨n.natAbs, by omega⟩
    rw [itoa_minus m (by omega)]; simp
  · obtain ⟨m, rfl⟩ : ∃ m : Nat, n = (m : Int) := ⟨n.toNat, by omega⟩
    rw [itoa_pos m]; exact dec_ne m
theorem itoa_free (n : Int) : (44 : UInt8) ∉ Lib.itoa n := by
  intro h
  rcases Int.lt_or_le n 0 with h0 | h0
  · obtain ⟨m, rfl⟩ : ∃ m : Nat, n = -(m : Int) := ⟨n.natAbs, by omega⟩
    rw [itoa_minus m (by omega)] at h
    rcases List.mem_cons.1 h with h | h
    · cases h
    · have := dec_bytes m m (Nat.le_refl _) _ h
      simp at this
  · obtain ⟨m, rfl⟩ : ∃ m : Nat, n = (m : Int) := ⟨n.toNat, by omega⟩
    rw [itoa_pos m] at h
    have := dec_bytes m m (Nat.le_refl _) _ h
    simp at this
theorem readAll_itoa : ∀ (l : List Int), (∀ n ∈ l, goodI n) → readAll (l.map Lib.itoa) = some l
  | [], _ => rfl
  | n :: r, h => by
    have h1 := h n (by simp)
    rw [List.map_cons, readAll, readF_itoa h1.1 h1.2, if_pos rfl, readAll_itoa r (fun x hx => h x (by simp [hx]))]
    rfl
theorem rlF_list (l : List Int) (h : ∀ n ∈ l, goodI n) : rlF (listF l) = (l, true) := by
  unfold rlF listF
  by_cases hl : l = []
  · subst hl; rfl
  · have hne : l.map Lib.itoa ≠ [] := by simpa using hl
    have hj : Lib.join (l.map Lib.itoa) [44] ≠ [] := by
      cases l with
      | nil => exact absurd rfl hl
      | cons n r =>
        rw [List.map_cons, Lib.join_cons]
        have := itoa_ne n
        simp [this]
    rw [if_neg hj, cut_join 44 _ hne (fun w hw => by obtain ⟨n, _, rfl⟩ := List.mem_map.1 hw; exact itoa_free n), readAll_itoa l h]
    rfl
theorem readAll_some : ∀ (p : List (List UInt8)) (l : List Int), readAll p = some l → l.map Lib.itoa = p ∧ ∀ n ∈ l, goodI n
  | [], l, h => by simp only [readAll] at h; injection h with h; subst h; simp
  | x :: r, l, h => by
    rw [readAll] at h
    cases hx : (readF x).2
    · rw [hx] at h; simp at h
    · rw [hx, if_pos rfl] at h
      cases hr : readAll r with
      | none => rw [hr] at h; cases h
      | some t =>
        rw [hr] at h
        simp only [Option.map_some, Option.some.injEq] at h
        subst h
        obtain ⟨h1, h2⟩ := readAll_some r t hr
        obtain ⟨h3, h4, h5⟩ := readF_yes hx
        refine ⟨by rw [List.map_cons, h1, h3], fun n hn => ?_⟩
        rcases List.mem_cons.1 hn with rfl | hn
        · exact ⟨h4, h5⟩
        · exact h2 n hn
theorem rlF_back {s : List UInt8} (h : (rlF s).2 = true) : listF (rlF s).1 = s ∧ ∀ n ∈ (rlF s).1, goodI n := by
  unfold rlF at h ⊢
  by_cases h0 : s = []
  · rw [if_pos h0]; subst h0; exact ⟨rfl, by simp⟩
  · rw [if_neg h0] at h ⊢
    cases hr : readAll (cutF 44 s) with
    | none => rw [hr] at h; cases h
    | some l =>
      obtain ⟨h1, h2⟩ := readAll_some _ _ hr
      refine ⟨?_, h2⟩
      show Lib.join (l.map Lib.itoa) [44] = s
      rw [h1, join_cut]
theorem readAll_append : ∀ (p q : List (List UInt8)) (l : List Int), readAll p = some l → readAll (p ++ q) = (readAll q).map (l ++ ·)
  | [], q, l, h => by simp only [readAll] at h; injection h with h; subst h; cases h : readAll q <;> simp [h]
  | x :: r, q, l, h => by
    rw [readAll] at h
    cases hx : (readF x).2
    · rw [hx] at h; simp at h
    · rw [hx, if_pos rfl] at h
      cases hr : readAll r with
      | none => rw [hr] at h; cases h
      | some t =>
        rw [hr] at h
        simp only [Option.map_some, Option.some.injEq] at h
        subst h
        rw [List.cons_append, readAll, hx, if_pos rfl, readAll_append r q t hr]
        cases readAll q <;> rfl
theorem readAll_len : ∀ (p : List (List UInt8)) (l : List Int), readAll p = some l → l.length = p.length
  | [], l, h => by simp only [readAll] at h; injection h with h; subst h; rfl
  | x :: r, l, h => by
    rw [readAll] at h
    cases hx : (readF x).2
    · rw [hx] at h; simp at h
    · rw [hx, if_pos rfl] at h
      cases hr : readAll r with
      | none => rw [hr] at h; cases h
      | some t =>
        rw [hr] at h
        simp only [Option.map_some, Option.some.injEq] at h
        subst h
        simp [readAll_len r t hr]
theorem rlF_len (s : List UInt8) : (rlF s).1.length ≤ s.length + 1 := by
  unfold rlF
  split
  · simp
  · cases h : readAll (cutF 44 s) with
    | none => simp [rlE]
    | some l => have := readAll_len _ _ h; have := cut_len 44 s; simp [rlE]; omega
theorem take_join_c (c : UInt8) (l : List (List UInt8)) (k : Nat) (hlt : k < l.length) : Lib.join (l.take (k + 1)) [c] = if k = 0 then l[k] else Lib.join (l.take k) [c] ++ [c] ++ l[k] := by
  cases l with
  | nil => simp at hlt
  | cons x r =>
    cases k with
    | zero => simp [Lib.join_one]
    | succ k =>
      rw [if_neg (by omega), List.take_succ_cons, List.take_succ_cons, Lib.join_cons, Lib.join_cons]
      have hk : k < r.length := by simpa using hlt
      rw [Lib.joinTail_take_succ [c] r k r[k] (List.getElem?_eq_getElem hk)]
      simp
theorem list_step (l : List Int) (k : Nat) (hlt : k < l.length) : listF (l.take (k + 1)) = if k = 0 then Lib.itoa l[k] else listF (l.take k) ++ [44] ++ Lib.itoa l[k] := by
  unfold listF
  rw [List.map_take, List.map_take, take_join_c 44 _ k (by simpa using hlt)]
  simp
theorem list_len (l : List Int) (h : ∀ n ∈ l, goodI n) : (listF l).length ≤ 21 * l.length := by
  have : ∀ k, k ≤ l.length → (listF (l.take k)).length ≤ 21 * k := by
    intro k
    induction k with
    | zero => intro _; simp [listF, Lib.join_nil]
    | succ k ih =>
      intro hk
      have h1 := ih (by omega)
      have hb := h _ (List.getElem_mem (show k < l.length by omega))
      have h2 := itoa_len hb.1 hb.2
      rw [list_step l k (by omega)]
      split
      · omega
      · simp; omega
  have := this l.length (Nat.le_refl _)
  rwa [List.take_length] at this
end Go.Proofs.YtmlbomblbdbikaaGreatDoor
/-
  Records: their words, their lines: plain laws.
-/
namespace Go.Proofs.YtmlbomblbdbikaaGreatDoor
set_option linter.unusedSimpArgs false
set_option linter.unusedVariables false
set_option linter.unusedSectionVars false
open Go.ChangeShapes Go.WideShapes Go.ChangeAt Go.RowKit Go.Deep

def sideF (n : Int) : List UInt8 := if n = 0 then [99, 108, 105, 101, 110, 116] else if n = 1 then [115, 101, 114, 118, 101, 114] else []
def kindF (n : Int) : List UInt8 := if n = 1 then [97, 108, 108, 111, 119, 101, 100] else if n = 2 then [105, 103, 110, 111, 114, 101, 100] else if n = 3 then [114, 101, 106, 101, 99, 116, 101, 100] else if n = 4 then [108, 105, 109, 105, 116, 101, 100] else []
def tyNames : List (List UInt8) := [[68, 65, 84, 65], [72, 69, 65, 68, 69, 82, 83], [80, 82, 73, 79, 82, 73, 84, 89], [82, 83, 84, 95, 83, 84, 82, 69, 65, 77], [83, 69, 84, 84, 73, 78, 71, 83], [80, 85, 83, 72, 95, 80, 82, 79, 77, 73, 83, 69], [80, 73, 78, 71], [71, 79, 65, 87, 65, 89], [87, 73, 78, 68, 79, 87, 95, 85, 80, 68, 65, 84, 69], [67, 79, 78, 84, 73, 78, 85, 65, 84, 73, 79, 78]]
def tyName (n : Nat) : List UInt8 := tyNames.getD n []
def nameF (t : Int) : List UInt8 := if t = -1 then [80, 82, 69, 70, 65, 67, 69] else if 0 ≤ t ∧ t ≤ 9 then tyName t.toNat else if 9 < t ∧ t ≤ 255 then [84, 89, 80, 69, 95] ++ Lib.itoa t else []
def scanF (f : Int → List UInt8) (s : List UInt8) : Nat → Int → Int × Bool
  | 0, _ => (0, false)
  | g + 1, t => if f t = s then (t, true) else scanF f s g (t + 1)
def byNameF (s : List UInt8) : Int × Bool := scanF nameF s 257 (-1)
theorem scan_true (f : Int → List UInt8) (s : List UInt8) : ∀ (g : Nat) (t n : Int), scanF f s g t = (n, true) → f n = s ∧ t ≤ n ∧ n < t + g
  | 0, t, n, h => by simp [scanF] at h
  | g + 1, t, n, h => by
    unfold scanF at h
    split at h
    · rename_i hf
      obtain ⟨rfl, _⟩ := Prod.mk.inj h
      exact ⟨hf, Int.le_refl _, by omega⟩
    · have := scan_true f s g (t + 1) n h
      exact ⟨this.1, by omega, by omega⟩
theorem scan_false (f : Int → List UInt8) (s : List UInt8) : ∀ (g : Nat) (t : Int), (scanF f s g t).2 = false → scanF f s g t = (0, false)
  | 0, t, h => rfl
  | g + 1, t, h => by
    unfold scanF at h ⊢
    split
    · rename_i hf; rw [if_pos hf] at h; cases h
    · rename_i hf; rw [if_neg hf] at h; exact scan_false f s g (t + 1) h
theorem scan_hit (f : Int → List UInt8) (s : List UInt8) (n : Int) (hn : f n = s) : ∀ (g : Nat) (t : Int), t ≤ n → n < t + g → (∀ m, t ≤ m → m < n → f m ≠ s) → scanF f s g t = (n, true)
  | 0, t, h1, h2, _ => by omega
  | g + 1, t, h1, h2, h3 => by
    unfold scanF
    by_cases ht : t = n
    · subst ht; rw [if_pos hn]
    · rw [if_neg (h3 t (Int.le_refl _) (by omega))]
      exact scan_hit f s n hn g (t + 1) (by omega) (by omega) (fun m h4 h5 => h3 m (by omega) h5)
theorem scan_none (f : Int → List UInt8) (s : List UInt8) : ∀ (g : Nat) (t : Int), (∀ m, t ≤ m → m < t + g → f m ≠ s) → scanF f s g t = (0, false)
  | 0, t, _ => rfl
  | g + 1, t, h => by
    unfold scanF
    rw [if_neg (h t (Int.le_refl _) (by omega))]
    exact scan_none f s g (t + 1) (fun m h4 h5 => h m (by omega) (by omega))
theorem itoa_inj {a b : Int} (ha : goodI a) (hb : goodI b) (h : Lib.itoa a = Lib.itoa b) : a = b := by
  have h1 := atoi_itoa ha.1 ha.2
  have h2 := atoi_itoa hb.1 hb.2
  rw [h, h2] at h1
  injection h1 with h1
  exact h1.symm
theorem tyName_ne (n : Nat) (h : n ≤ 9) : tyName n ≠ [] := by
  have : ∀ m : Fin 10, tyName m.val ≠ [] := by decide
  exact this ⟨n, by omega⟩
theorem tyName_inj : ∀ m n : Fin 10, tyName m.val = tyName n.val → m = n := by decide
theorem tyName_pre : ∀ m : Fin 10, tyName m.val ≠ [80, 82, 69, 70, 65, 67, 69] ∧ (tyName m.val).head? ≠ some 84 := by decide
theorem nameF_ne {t : Int} (h0 : -1 ≤ t) (h1 : t ≤ 255) : nameF t ≠ [] := by
  unfold nameF
  split
  · simp
  · split
    · exact tyName_ne _ (by omega)
    · rw [if_pos (by omega)]; simp
theorem nameF_out {t : Int} (h : t < -1 ∨ 255 < t) : nameF t = [] := by
  unfold nameF
  rw [if_neg (by omega), if_neg (by omega), if_neg (by omega)]
theorem nameF_inj {a b : Int} (a0 : -1 ≤ a) (a1 : a ≤ 255) (b0 : -1 ≤ b) (b1 : b ≤ 255) (h : nameF a = nameF b) : a = b := by
  unfold nameF at h
  by_cases ca : a = -1
  · rw [if_pos ca] at h
    by_cases cb : b = -1
    · omega
    · rw [if_neg cb] at h
      by_cases db : 0 ≤ b ∧ b ≤ 9
      · rw [if_pos db] at h
        exact absurd h.symm (tyName_pre ⟨b.toNat, by omega⟩).1
      · rw [if_neg db, if_pos (by omega)] at h
        simp at h
  · rw [if_neg ca] at h
    by_cases cb : b = -1
    · rw [if_pos cb] at h
      by_cases da : 0 ≤ a ∧ a ≤ 9
      · rw [if_pos da] at h
        exact absurd h (tyName_pre ⟨a.toNat, by omega⟩).1
      · rw [if_neg da, if_pos (by omega)] at h
        simp at h
    · rw [if_neg cb] at h
      by_cases da : 0 ≤ a ∧ a ≤ 9 <;> by_cases db : 0 ≤ b ∧ b ≤ 9
      · rw [if_pos da, if_pos db] at h
        have := tyName_inj ⟨a.toNat, by omega⟩ ⟨b.toNat, by omega⟩ h
        simp only [Fin.mk.injEq] at this
        omega
      · rw [if_pos da, if_neg db, if_pos (by omega)] at h
        have := (tyName_pre ⟨a.toNat, by omega⟩).2
        rw [h] at this
        exact absurd rfl this
      · rw [if_neg da, if_pos (by omega), if_pos db] at h
        have := (tyName_pre ⟨b.toNat, by omega⟩).2
        rw [← h] at this
        exact absurd rfl this
      · rw [if_neg da, if_pos (by omega), if_neg db, if_pos (by omega)] at h
        exact itoa_inj ⟨by omega, by omega⟩ ⟨by omega, by omega⟩ (List.append_cancel_left h)
theorem byName_name {t : Int} (h0 : -1 ≤ t) (h1 : t ≤ 255) : byNameF (nameF t) = (t, true) :=
  scan_hit _ _ t rfl _ _ h0 (by omega) (fun m h2 h3 e => by have := nameF_inj h2 (by omega) h0 h1 e; omega)
theorem byName_nil : byNameF [] = (0, false) := scan_none _ _ _ _ (fun m h2 h3 => nameF_ne h2 (by omega))

structure Rec where
  fr : Int
  ty : Int
  fl : Int
  st : Int
  ln : Int
  kd : Int
deriving DecidableEq
def zRec : Rec := ⟨0, 0, 0, 0, 0, 0⟩
def inB (n m : Int) : Bool := decide (0 ≤ n) && decide (n ≤ m)
def headR (ln ty fl st : Int) : Bool := inB ln 16777215 && (inB ty 255 && (inB fl 255 && inB st 2147483647))
def recR (r : Rec) : Bool := (decide (r.fr = 0) || decide (r.fr = 1)) && (inB (r.kd - 1) 3 && if r.ty = -1 then (decide (r.fr = 0) && (decide (r.fl = 0) && (decide (r.st = 0) && decide (r.ln = 24)))) else headR r.ln r.ty r.fl r.st)
theorem inB_iff {n m : Int} : inB n m = true ↔ 0 ≤ n ∧ n ≤ m := by simp [inB]
structure RecOk (r : Rec) : Prop where
  fr : r.fr = 0 ∨ r.fr = 1
  kd : 1 ≤ r.kd ∧ r.kd ≤ 4
  ty : -1 ≤ r.ty ∧ r.ty ≤ 255
  fl : 0 ≤ r.fl ∧ r.fl ≤ 255
  st : 0 ≤ r.st ∧ r.st ≤ 2147483647
  ln : 0 ≤ r.ln ∧ r.ln ≤ 16777215
theorem recR_ok {r : Rec} (h : recR r = true) : RecOk r := by
  unfold recR at h
  simp only [Bool.and_eq_true, Bool.or_eq_true, decide_eq_true_eq, inB_iff] at h
  obtain ⟨h1, h2, h3⟩ := h
  split at h3
  · rename_i ht
    simp only [Bool.and_eq_true, decide_eq_true_eq] at h3
    exact ⟨h1, by omega, by omega, by omega, by omega, by omega⟩
  · unfold headR at h3
    simp only [Bool.and_eq_true, inB_iff] at h3
    exact ⟨h1, by omega, by omega, by omega, by omega, by omega⟩
def recWords (r : Rec) : List (List UInt8) := [[102, 114, 97, 109, 101], sideF r.fr, nameF r.ty, Lib.itoa r.fl, Lib.itoa r.st, Lib.itoa r.ln, kindF r.kd]
def recLine (r : Rec) : List UInt8 := Lib.join (recWords r) [32]
theorem okW_of {w : List UInt8} (h : w ≠ []) (hb : ∀ c ∈ w, 33 ≤ c.toNat) : okW w = true := by
  rw [okW_R]
  have h1 : w.isEmpty = false := by cases w <;> simp_all
  have h2 : w.any badB = false := by
    rw [List.any_eq_false]
    intro c hc
    have := hb c hc
    unfold badB
    simp only [Bool.or_eq_true, beq_iff_eq]
    rintro (e | e) <;> subst e <;> simp at this
  rw [h1, h2]; rfl
theorem itoa_bytes (n : Int) : ∀ c ∈ Lib.itoa n, 33 ≤ c.toNat := by
  intro c hc
  rcases Int.lt_or_le n 0 with h | h
  · obtain ⟨m, rfl⟩ : ∃ m : Nat, n = -(m : Int) := ⟨n.natAbs, by omega⟩
    rw [itoa_minus m (by omega)] at hc
    rcases List.mem_cons.1 hc with rfl | hc
    · decide
    · have := dec_bytes m m (Nat.le_refl _) c hc; omega
  · obtain ⟨m, rfl⟩ : ∃ m : Nat, n = (m : Int) := ⟨n.toNat, by omega⟩
    rw [itoa_pos m] at hc
    have := dec_bytes m m (Nat.le_refl _) c hc; omega
theorem okW_itoa (n : Int) : okW (Lib.itoa n) = true := okW_of (itoa_ne n) (itoa_bytes n)
theorem tyName_ok : ∀ m : Fin 10, okW (tyName m.val) = true := by decide
theorem nameF_ok {t : Int} (h0 : -1 ≤ t) (h1 : t ≤ 255) : okW (nameF t) = true := by
  unfold nameF
  split
  · decide
  · split
    · exact tyName_ok ⟨t.toNat, by omega⟩
    · rw [if_pos (by omega)]
      refine okW_of (by simp) fun c hc => ?_
      rcases List.mem_append.1 hc with hc | hc
      · have : ∀ x ∈ ([84, 89, 80, 69, 95] : List UInt8), 33 ≤ x.toNat := by decide
        exact this c hc
      · exact itoa_bytes t c hc
theorem sideF_ok {n : Int} (h : n = 0 ∨ n = 1) : okW (sideF n) = true := by rcases h with rfl | rfl <;> decide
theorem kindF_cases {n : Int} (h : 1 ≤ n ∧ n ≤ 4) : n = 1 ∨ n = 2 ∨ n = 3 ∨ n = 4 := by omega
theorem kindF_ok {n : Int} (h : 1 ≤ n ∧ n ≤ 4) : okW (kindF n) = true := by rcases kindF_cases h with rfl | rfl | rfl | rfl <;> decide
theorem recWords_ok {r : Rec} (h : RecOk r) : (recWords r).all okW = true := by
  unfold recWords
  simp only [List.all_cons, List.all_nil, Bool.and_true, Bool.and_eq_true]
  exact ⟨by decide, sideF_ok h.fr, nameF_ok h.ty.1 h.ty.2, okW_itoa _, okW_itoa _, okW_itoa _, kindF_ok h.kd⟩
theorem nameF_len {t : Int} (h0 : -1 ≤ t) (h1 : t ≤ 255) : (nameF t).length ≤ 30 := by
  unfold nameF
  split
  · decide
  · split
    · have : ∀ m : Fin 10, (tyName m.val).length ≤ 30 := by decide
      exact this ⟨t.toNat, by omega⟩
    · rw [if_pos (by omega)]
      have := itoa_len (n := t) (by omega) (by omega)
      simp; omega
theorem sideF_len (n : Int) : (sideF n).length ≤ 30 := by unfold sideF; repeat' split
                                                          all_goals decide
theorem kindF_len (n : Int) : (kindF n).length ≤ 30 := by unfold kindF; repeat' split
                                                          all_goals decide
theorem recWords_len {r : Rec} (h : RecOk r) : ∀ x ∈ recWords r, x.length ≤ 30 := by
  intro x hx
  unfold recWords at hx
  simp only [List.mem_cons, List.not_mem_nil, or_false] at hx
  rcases hx with rfl | rfl | rfl | rfl | rfl | rfl | rfl
  · decide
  · exact sideF_len _
  · exact nameF_len h.ty.1 h.ty.2
  · have := itoa_len (n := r.fl) (by have := h.fl; omega) (by have := h.fl; omega); omega
  · have := itoa_len (n := r.st) (by have := h.st; omega) (by have := h.st; omega); omega
  · have := itoa_len (n := r.ln) (by have := h.ln; omega) (by have := h.ln; omega); omega
  · exact kindF_len _
theorem recLine_split {r : Rec} (h : RecOk r) : splitF (recLine r) = (recWords r, true) := split_line _ (recWords_ok h)
theorem lineF_rec {r : Rec} (h : RecOk r) : lineF (recWords r) = (recLine r, true) := by unfold lineF recLine; rw [if_pos (recWords_ok h)]

/-! The program's road back. -/
def sideB (s : List UInt8) : Int × Bool := scanF sideF s 2 0
def kindB (s : List UInt8) : Int × Bool := scanF kindF s 4 1
def rdRec (l : List (List UInt8)) : Rec × Bool :=
  match l with
  | [w0, w1, w2, w3, w4, w5, w6] =>
    if w0 = [102, 114, 97, 109, 101] then
      if ((sideB w1).2 && ((byNameF w2).2 && ((readF w3).2 && ((readF w4).2 && ((readF w5).2 && ((kindB w6).2 && recR ⟨(sideB w1).1, (byNameF w2).1, (readF w3).1, (readF w4).1, (readF w5).1, (kindB w6).1⟩)))))) = true then
        (⟨(sideB w1).1, (byNameF w2).1, (readF w3).1, (readF w4).1, (readF w5).1, (kindB w6).1⟩, true)
      else (zRec, false)
    else (zRec, false)
  | _ => (zRec, false)
def readRecF (line : List UInt8) : Rec × Bool := if (splitF line).2 = true then rdRec (splitF line).1 else (zRec, false)
theorem sideB_side {n : Int} (h : n = 0 ∨ n = 1) : sideB (sideF n) = (n, true) := by rcases h with rfl | rfl <;> decide
theorem kindB_kind {n : Int} (h : 1 ≤ n ∧ n ≤ 4) : kindB (kindF n) = (n, true) := by rcases kindF_cases h with rfl | rfl | rfl | rfl <;> decide
theorem readRec_line {r : Rec} (h : recR r = true) : readRecF (recLine r) = (r, true) := by
  have ho := recR_ok h
  unfold readRecF
  rw [recLine_split ho, if_pos rfl]
  unfold recWords rdRec
  simp only [if_true]
  rw [sideB_side ho.fr, byName_name ho.ty.1 ho.ty.2, kindB_kind ho.kd, readF_itoa (n := r.fl) (by have := ho.fl; omega) (by have := ho.fl; omega), readF_itoa (n := r.st) (by have := ho.st; omega) (by have := ho.st; omega),
    readF_itoa (n := r.ln) (by have := ho.ln; omega) (by have := ho.ln; omega)]
  simp only [Bool.true_and]
  rw [if_pos h]
theorem split_back {s : List UInt8} (h : (splitF s).2 = true) : Lib.join (splitF s).1 [32] = s := by
  unfold splitF at h ⊢
  by_cases h0 : s = []
  · rw [if_pos h0]; subst h0; rfl
  · rw [if_neg h0] at h ⊢
    by_cases ha : (cutF 32 s).all okW = true
    · rw [if_pos ha]; exact join_cut 32 s
    · rw [if_neg ha] at h; cases h
theorem scan_pair {f : Int → List UInt8} {s : List UInt8} {g : Nat} {t : Int} (h : (scanF f s g t).2 = true) : f (scanF f s g t).1 = s := (scan_true f s g t _ (Prod.ext rfl h)).1
theorem rdRec_yes {l : List (List UInt8)} (h : (rdRec l).2 = true) : recR (rdRec l).1 = true ∧ l = recWords (rdRec l).1 := by
  match l, h with
  | [w0, w1, w2, w3, w4, w5, w6], h =>
    unfold rdRec at h ⊢
    simp only at h ⊢
    by_cases h0 : w0 = [102, 114, 97, 109, 101]
    · rw [if_pos h0] at h ⊢
      split at h
      · rename_i hc
        rw [if_pos hc]
        simp only [Bool.and_eq_true] at hc
        obtain ⟨c1, c2, c3, c4, c5, c6, c7⟩ := hc
        refine ⟨c7, ?_⟩
        unfold recWords
        simp only
        rw [show sideF (sideB w1).1 = w1 from scan_pair c1, show nameF (byNameF w2).1 = w2 from scan_pair c2, (readF_yes c3).1, (readF_yes c4).1, (readF_yes c5).1, show kindF (kindB w6).1 = w6 from scan_pair c6, h0]
      · cases h
    · rw [if_neg h0] at h; cases h
  | [], h => cases h
  | [_], h => cases h
  | [_, _], h => cases h
  | [_, _, _], h => cases h
  | [_, _, _, _], h => cases h
  | [_, _, _, _, _], h => cases h
  | [_, _, _, _, _, _], h => cases h
  | _ :: _ :: _ :: _ :: _ :: _ :: _ :: _ :: _, h => cases h
theorem rdRec_no {l : List (List UInt8)} (h : (rdRec l).2 = false) : rdRec l = (zRec, false) := by
  match l, h with
  | [w0, w1, w2, w3, w4, w5, w6], h =>
    unfold rdRec at h ⊢
    simp only at h ⊢
    split
    · rename_i h0
      rw [if_pos h0] at h
      split
      · rename_i hc; rw [if_pos hc] at h; cases h
      · rfl
    · rfl
  | [], h => rfl
  | [_], h => rfl
  | [_, _], h => rfl
  | [_, _, _], h => rfl
  | [_, _, _, _], h => rfl
  | [_, _, _, _, _], h => rfl
  | [_, _, _, _, _, _], h => rfl
  | _ :: _ :: _ :: _ :: _ :: _ :: _ :: _ :: _, h => rfl
theorem readRec_yes {line : List UInt8} (h : (readRecF line).2 = true) : recR (readRecF line).1 = true ∧ recLine (readRecF line).1 = line := by
  unfold readRecF at h ⊢
  by_cases hs : (splitF line).2 = true
  · rw [if_pos hs] at h ⊢
    obtain ⟨h1, h2⟩ := rdRec_yes h
    refine ⟨h1, ?_⟩
    unfold recLine
    rw [← h2, split_back hs]
  · rw [if_neg hs] at h; cases h
theorem readRec_no {line : List UInt8} (h : (readRecF line).2 = false) : readRecF line = (zRec, false) := by
  unfold readRecF at h ⊢
  by_cases hs : (splitF line).2 = true
  · rw [if_pos hs] at h ⊢; exact rdRec_no h
  · rw [if_neg hs]

/-! The document's road back. -/
def findF (l : List (List UInt8)) (s : List UInt8) : Int := if s ∈ l then (l.idxOf s : Int) else -1
def rfRec (l : List (List UInt8)) : Rec :=
  match l with
  | [_, w1, w2, w3, w4, w5, w6] => ⟨findF [[99, 108, 105, 101, 110, 116], [115, 101, 114, 118, 101, 114]] w1, (byNameF w2).1, (readF w3).1, (readF w4).1, (readF w5).1, 1 + findF [[97, 108, 108, 111, 119, 101, 100], [105, 103, 110, 111, 114, 101, 100], [114, 101, 106, 101, 99, 116, 101, 100], [108, 105, 109, 105, 116, 101, 100]] w6⟩
  | _ => zRec
def readRecR (line : List UInt8) : Rec × Bool :=
  if (splitF line).2 = true ∧ (splitF line).1.length = 7 then
    if recR (rfRec (splitF line).1) = true ∧ recLine (rfRec (splitF line).1) = line then (rfRec (splitF line).1, true) else (zRec, false)
  else (zRec, false)
theorem findF_side {n : Int} (h : n = 0 ∨ n = 1) : findF [[99, 108, 105, 101, 110, 116], [115, 101, 114, 118, 101, 114]] (sideF n) = n := by rcases h with rfl | rfl <;> decide
theorem findF_kind {n : Int} (h : 1 ≤ n ∧ n ≤ 4) : 1 + findF [[97, 108, 108, 111, 119, 101, 100], [105, 103, 110, 111, 114, 101, 100], [114, 101, 106, 101, 99, 116, 101, 100], [108, 105, 109, 105, 116, 101, 100]] (kindF n) = n := by rcases kindF_cases h with rfl | rfl | rfl | rfl <;> decide
theorem rfRec_words {r : Rec} (h : RecOk r) : rfRec (recWords r) = r := by
  unfold rfRec recWords
  simp only
  rw [findF_side h.fr, byName_name h.ty.1 h.ty.2, findF_kind h.kd, readF_itoa (n := r.fl) (by have := h.fl; omega) (by have := h.fl; omega), readF_itoa (n := r.st) (by have := h.st; omega) (by have := h.st; omega),
    readF_itoa (n := r.ln) (by have := h.ln; omega) (by have := h.ln; omega)]
theorem readRecR_line {r : Rec} (h : recR r = true) : readRecR (recLine r) = (r, true) := by
  have ho := recR_ok h
  unfold readRecR
  rw [recLine_split ho, if_pos ⟨rfl, rfl⟩]
  simp only
  rw [rfRec_words ho, if_pos ⟨h, rfl⟩]
theorem readRecR_yes {line : List UInt8} (h : (readRecR line).2 = true) : recR (readRecR line).1 = true ∧ recLine (readRecR line).1 = line := by
  unfold readRecR at h ⊢
  split at h
  · rename_i hc
    rw [if_pos hc]
    split at h
    · rename_i hd
      rw [if_pos hd]
      exact hd
    · cases h
  · cases h
theorem readRecR_no {line : List UInt8} (h : (readRecR line).2 = false) : readRecR line = (zRec, false) := by
  unfold readRecR at h ⊢
  split at h
  · rename_i hc
    rw [if_pos hc]
    split at h
    · cases h
    · rename_i hd; rw [if_neg hd]
  · rename_i hc; rw [if_neg hc]
theorem readRec_eq (line : List UInt8) : readRecF line = readRecR line := by
  cases h : (readRecF line).2 with
  | true =>
    obtain ⟨h1, h2⟩ := readRec_yes h
    have := readRecR_line h1
    rw [h2] at this
    rw [this]
    exact Prod.ext rfl h
  | false =>
    cases h' : (readRecR line).2 with
    | true =>
      obtain ⟨h1, h2⟩ := readRecR_yes h'
      have := readRec_line h1
      rw [h2] at this
      rw [this] at h
      cases h
    | false => rw [readRec_no h, readRecR_no h']
end Go.Proofs.YtmlbomblbdbikaaGreatDoor
/-
  Rules: their names, their sections, and what they ask.
-/
namespace Go.Proofs.YtmlbomblbdbikaaGreatDoor
set_option linter.unusedSimpArgs false
set_option linter.unusedVariables false
set_option linter.unusedSectionVars false
open Go.ChangeShapes Go.WideShapes Go.ChangeAt Go.RowKit Go.Deep Go.Shelf

def rulT : List UInt8 := [102, 105, 114, 115, 116, 32, 112, 114, 101, 102, 97, 99, 101, 32, 115, 105, 122, 101, 32, 111, 114, 100, 101, 114, 32, 102, 111, 114, 109, 32, 118, 97, 108, 117, 101, 32, 97, 99, 107, 32, 115, 112, 114, 101, 97, 100, 32, 97, 119, 97, 121, 32, 105, 100, 108, 101, 32, 110, 117, 109, 98, 101, 114, 32, 114, 101, 115, 101, 114, 118, 101, 100, 32, 101, 110, 100, 101, 100, 32, 99, 108, 111, 115, 101, 100, 32, 114, 101, 115, 101, 116, 32, 102, 111, 114, 103, 111, 116, 116, 101, 110, 32, 115, 116, 101, 112, 32, 119, 105, 110, 100, 111, 119, 32, 99, 111, 110, 110, 32, 115, 116, 114, 101, 97, 109, 32, 112, 117, 115, 104, 32, 112, 114, 111, 109, 105, 115, 101, 32, 112, 114, 111, 109, 105, 115, 101, 100, 32, 109, 97, 110, 121, 32, 116, 97, 98, 108, 101, 32, 117, 112, 100, 97, 116, 101, 32, 109, 105, 115, 115, 105, 110, 103, 32, 102, 105, 101, 108, 100, 32, 98, 97, 114, 114, 101, 100, 32, 112, 115, 101, 117, 100, 111, 32, 108, 101, 110, 103, 116, 104, 32, 98, 111, 100, 121, 32, 116, 114, 97, 105, 108, 101, 114, 32, 115, 97, 102, 101, 32, 99, 108, 105, 101, 110, 116]
def rulW : List (List UInt8) := [[102, 105, 114, 115, 116], [112, 114, 101, 102, 97, 99, 101], [115, 105, 122, 101], [111, 114, 100, 101, 114], [102, 111, 114, 109], [118, 97, 108, 117, 101], [97, 99, 107], [115, 112, 114, 101, 97, 100], [97, 119, 97, 121], [105, 100, 108, 101], [110, 117, 109, 98, 101, 114], [114, 101, 115, 101, 114, 118, 101, 100], [101, 110, 100, 101, 100], [99, 108, 111, 115, 101, 100], [114, 101, 115, 101, 116], [102, 111, 114, 103, 111, 116, 116, 101, 110], [115, 116, 101, 112], [119, 105, 110, 100, 111, 119], [99, 111, 110, 110], [115, 116, 114, 101, 97, 109], [112, 117, 115, 104], [112, 114, 111, 109, 105, 115, 101], [112, 114, 111, 109, 105, 115, 101, 100], [109, 97, 110, 121], [116, 97, 98, 108, 101], [117, 112, 100, 97, 116, 101], [109, 105, 115, 115, 105, 110, 103], [102, 105, 101, 108, 100], [98, 97, 114, 114, 101, 100], [112, 115, 101, 117, 100, 111], [108, 101, 110, 103, 116, 104], [98, 111, 100, 121], [116, 114, 97, 105, 108, 101, 114], [115, 97, 102, 101], [99, 108, 105, 101, 110, 116]]
def secT : List UInt8 := [51, 46, 52, 32, 51, 46, 52, 32, 52, 46, 50, 32, 54, 46, 49, 48, 32, 54, 32, 54, 46, 53, 46, 50, 32, 54, 46, 53, 46, 51, 32, 54, 46, 57, 46, 50, 32, 54, 46, 56, 32, 53, 46, 49, 32, 53, 46, 49, 46, 49, 32, 53, 46, 49, 32, 53, 46, 49, 32, 53, 46, 49, 32, 53, 46, 49, 32, 53, 46, 49, 32, 54, 46, 57, 32, 54, 46, 57, 46, 49, 32, 54, 46, 57, 46, 49, 32, 54, 46, 57, 46, 49, 32, 54, 46, 54, 32, 54, 46, 54, 32, 53, 46, 49, 46, 49, 32, 53, 46, 49, 46, 50, 32, 52, 46, 51, 32, 52, 46, 51, 46, 49, 32, 52, 46, 51, 46, 49, 32, 56, 46, 50, 46, 49, 32, 56, 46, 50, 46, 50, 32, 56, 46, 51, 32, 56, 46, 49, 46, 49, 32, 56, 46, 49, 32, 56, 46, 49, 32, 56, 46, 52, 32, 56, 46, 52]
def secW : List (List UInt8) := [[51, 46, 52], [51, 46, 52], [52, 46, 50], [54, 46, 49, 48], [54], [54, 46, 53, 46, 50], [54, 46, 53, 46, 51], [54, 46, 57, 46, 50], [54, 46, 56], [53, 46, 49], [53, 46, 49, 46, 49], [53, 46, 49], [53, 46, 49], [53, 46, 49], [53, 46, 49], [53, 46, 49], [54, 46, 57], [54, 46, 57, 46, 49], [54, 46, 57, 46, 49], [54, 46, 57, 46, 49], [54, 46, 54], [54, 46, 54], [53, 46, 49, 46, 49], [53, 46, 49, 46, 50], [52, 46, 51], [52, 46, 51, 46, 49], [52, 46, 51, 46, 49], [56, 46, 50, 46, 49], [56, 46, 50, 46, 50], [56, 46, 51], [56, 46, 49, 46, 49], [56, 46, 49], [56, 46, 49], [56, 46, 52], [56, 46, 52]]
def askW : List (List UInt8) := [[116, 104, 101, 32, 102, 105, 114, 115, 116, 32, 102, 114, 97, 109, 101, 32, 111, 102, 32, 101, 97, 99, 104, 32, 115, 105, 100, 101, 32, 105, 115, 32, 83, 69, 84, 84, 73, 78, 71, 83, 32, 119, 105, 116, 104, 111, 117, 116, 32, 65, 67, 75], [116, 104, 101, 32, 99, 108, 105, 101, 110, 116, 39, 115, 32, 102, 105, 114, 115, 116, 32, 50, 52, 32, 98, 121, 116, 101, 115, 32, 97, 114, 101, 32, 116, 104, 101, 32, 112, 114, 101, 102, 97, 99, 101], [97, 32, 102, 114, 97, 109, 101, 32, 105, 115, 32, 110, 111, 116, 32, 108, 111, 110, 103, 101, 114, 32, 116, 104, 97, 110, 32, 105, 116, 115, 32, 114, 101, 99, 101, 105, 118, 101, 114, 32, 108, 101, 116, 115], [110, 111, 116, 104, 105, 110, 103, 32, 115, 116, 97, 110, 100, 115, 32, 98, 101, 116, 119, 101, 101, 110, 32, 116, 104, 101, 32, 112, 97, 114, 116, 115, 32, 111, 102, 32, 97, 32, 102, 105, 101, 108, 100, 32, 98, 108, 111, 99, 107], [97, 32, 102, 114, 97, 109, 101, 32, 105, 115, 32, 114, 105, 103, 104, 116, 32, 105, 110, 32, 105, 116, 115, 101, 108, 102], [115, 101, 116, 116, 105, 110, 103, 115, 32, 104, 97, 118, 101, 32, 118, 97, 108, 117, 101, 115, 32, 116, 104, 97, 116, 32, 109, 97, 121, 32, 98, 101], [119, 104, 97, 116, 32, 105, 115, 32, 97, 99, 107, 110, 111, 119, 108, 101, 100, 103, 101, 100, 32, 119, 97, 115, 32, 115, 101, 110, 116], [115, 101, 116, 116, 105, 110, 103, 115, 32, 109, 97, 107, 101, 32, 110, 111, 32, 119, 105, 110, 100, 111, 119, 32, 116, 111, 111, 32, 108, 97, 114, 103, 101], [116, 104, 101, 32, 108, 97, 115, 116, 32, 115, 116, 114, 101, 97, 109, 32, 111, 102, 32, 71, 79, 65, 87, 65, 89, 32, 100, 111, 101, 115, 32, 110, 111, 116, 32, 114, 105, 115, 101], [110, 111, 116, 104, 105, 110, 103, 32, 105, 115, 32, 115, 101, 110, 116, 32, 111, 110, 32, 97, 32, 115, 116, 114, 101, 97, 109, 32, 116, 104, 97, 116, 32, 119, 97, 115, 32, 110, 111, 116, 32, 98, 101, 103, 117, 110], [110, 101, 119, 32, 115, 116, 114, 101, 97, 109, 115, 32, 104, 97, 118, 101, 32, 110, 117, 109, 98, 101, 114, 115, 32, 116, 104, 97, 116, 32, 114, 105, 115, 101], [108, 105, 116, 116, 108, 101, 32, 105, 115, 32, 115, 101, 110, 116, 32, 111, 110, 32, 97, 32, 115, 116, 114, 101, 97, 109, 32, 116, 104, 97, 116, 32, 119, 97, 115, 32, 112, 114, 111, 109, 105, 115, 101, 100], [110, 111, 116, 104, 105, 110, 103, 32, 109, 111, 114, 101, 32, 105, 115, 32, 115, 101, 110, 116, 32, 98, 121, 32, 119, 104, 111, 32, 104, 97, 115, 32, 101, 110, 100, 101, 100], [110, 111, 116, 104, 105, 110, 103, 32, 105, 115, 32, 115, 101, 110, 116, 32, 111, 110, 32, 97, 32, 115, 116, 114, 101, 97, 109, 32, 116, 104, 97, 116, 32, 98, 111, 116, 104, 32, 104, 97, 118, 101, 32, 101, 110, 100, 101, 100], [110, 111, 116, 104, 105, 110, 103, 32, 105, 115, 32, 115, 101, 110, 116, 32, 111, 110, 32, 97, 32, 115, 116, 114, 101, 97, 109, 32, 98, 121, 32, 119, 104, 111, 32, 104, 97, 115, 32, 114, 101, 115, 101, 116, 32, 105, 116], [110, 111, 116, 104, 105, 110, 103, 32, 105, 115, 32, 115, 101, 110, 116, 32, 111, 110, 32, 97, 32, 115, 116, 114, 101, 97, 109, 32, 116, 104, 97, 116, 32, 119, 97, 115, 32, 102, 111, 114, 103, 111, 116, 116, 101, 110], [97, 32, 119, 105, 110, 100, 111, 119, 32, 103, 114, 111, 119, 115, 32, 98, 121, 32, 111, 110, 101, 32, 97, 116, 32, 108, 101, 97, 115, 116], [97, 32, 119, 105, 110, 100, 111, 119, 32, 100, 111, 101, 115, 32, 110, 111, 116, 32, 98, 101, 99, 111, 109, 101, 32, 116, 111, 111, 32, 108, 97, 114, 103, 101], [100, 97, 116, 97, 32, 115, 116, 97, 121, 32, 119, 105, 116, 104, 105, 110, 32, 116, 104, 101, 32, 99, 111, 110, 110, 101, 99, 116, 105, 111, 110, 39, 115, 32, 119, 105, 110, 100, 111, 119], [100, 97, 116, 97, 32, 115, 116, 97, 121, 32, 119, 105, 116, 104, 105, 110, 32, 116, 104, 101, 32, 115, 116, 114, 101, 97, 109, 39, 115, 32, 119, 105, 110, 100, 111, 119], [110, 111, 116, 104, 105, 110, 103, 32, 105, 115, 32, 112, 114, 111, 109, 105, 115, 101, 100, 32, 116, 111, 32, 119, 104, 111, 32, 100, 111, 101, 115, 32, 110, 111, 116, 32, 119, 97, 110, 116, 32, 105, 116], [112, 114, 111, 109, 105, 115, 101, 115, 32, 97, 114, 101, 32, 109, 97, 100, 101, 32, 111, 110, 32, 97, 32, 115, 116, 114, 101, 97, 109, 32, 111, 102, 32, 116, 104, 101, 32, 99, 108, 105, 101, 110, 116, 39, 115, 32, 116, 104, 97, 116, 32, 105, 115, 32, 111, 112, 101, 110], [112, 114, 111, 109, 105, 115, 101, 100, 32, 115, 116, 114, 101, 97, 109, 115, 32, 104, 97, 118, 101, 32, 110, 117, 109, 98, 101, 114, 115, 32, 116, 104, 97, 116, 32, 114, 105, 115, 101], [110, 111, 116, 32, 116, 111, 111, 32, 109, 97, 110, 121, 32, 115, 116, 114, 101, 97, 109, 115, 32, 97, 114, 101, 32, 111, 112, 101, 110], [97, 32, 102, 105, 101, 108, 100, 32, 98, 108, 111, 99, 107, 32, 99, 97, 110, 32, 98, 101, 32, 114, 101, 97, 100], [97, 32, 116, 97, 98, 108, 101, 32, 105, 115, 32, 110, 111, 116, 32, 116, 111, 111, 32, 108, 97, 114, 103, 101], [97, 32, 116, 97, 98, 108, 101, 32, 116, 104, 97, 116, 32, 109, 117, 115, 116, 32, 98, 101, 99, 111, 109, 101, 32, 115, 109, 97, 108, 108, 101, 114, 32, 100, 111, 101, 115], [110, 97, 109, 101, 115, 32, 97, 110, 100, 32, 118, 97, 108, 117, 101, 115, 32, 104, 97, 118, 101, 32, 98, 121, 116, 101, 115, 32, 116, 104, 97, 116, 32, 109, 97, 121, 32, 98, 101], [110, 111, 32, 102, 105, 101, 108, 100, 32, 105, 115, 32, 111, 110, 101, 32, 111, 102, 32, 116, 104, 101, 32, 99, 111, 110, 110, 101, 99, 116, 105, 111, 110, 39, 115, 32, 111, 119, 110], [116, 104, 101, 32, 112, 115, 101, 117, 100, 111, 45, 102, 105, 101, 108, 100, 115, 32, 97, 114, 101, 32, 116, 104, 111, 115, 101, 32, 116, 104, 97, 116, 32, 109, 117, 115, 116, 32, 98, 101], [100, 97, 116, 97, 32, 104, 97, 118, 101, 32, 116, 104, 101, 32, 108, 101, 110, 103, 116, 104, 32, 116, 104, 97, 116, 32, 119, 97, 115, 32, 116, 111, 108, 100], [100, 97, 116, 97, 32, 115, 116, 97, 110, 100, 32, 119, 104, 101, 114, 101, 32, 116, 104, 101, 121, 32, 109, 97, 121], [102, 105, 101, 108, 100, 115, 32, 98, 101, 104, 105, 110, 100, 32, 100, 97, 116, 97, 32, 101, 110, 100, 32, 116, 104, 101, 32, 115, 116, 114, 101, 97, 109], [119, 104, 97, 116, 32, 105, 115, 32, 112, 114, 111, 109, 105, 115, 101, 100, 32, 105, 115, 32, 97, 115, 107, 101, 100, 32, 98, 121, 32, 71, 69, 84, 32, 111, 114, 32, 72, 69, 65, 68], [99, 108, 105, 101, 110, 116, 115, 32, 112, 114, 111, 109, 105, 115, 101, 32, 110, 111, 116, 104, 105, 110, 103]]
set_option maxRecDepth 100000 in
theorem rul_cut : cutF 32 rulT = rulW := by decide +kernel
set_option maxRecDepth 100000 in
theorem sec_cut : cutF 32 secT = secW := by decide +kernel
/-- The text that stands for a rule in a table; none: the empty text. -/
def tabN (l : List (List UInt8)) (n : Int) : List UInt8 := if n < 1 ∨ 35 < n then [] else l.getD (n - 1).toNat []
theorem tab_at (l : List (List UInt8)) (k : Nat) (h : k < l.length) : l[k] = l.getD k [] := by rw [List.getD_eq_getElem?_getD, List.getElem?_eq_getElem h]; rfl
theorem tab_in (l : List (List UInt8)) (k : Nat) (h : k < 35) : tabN l ((k : Int) + 1) = l.getD k [] := by unfold tabN; rw [if_neg (by omega)]; congr 1; omega
theorem tab_out (l : List (List UInt8)) {n : Int} (h : n < 1 ∨ 35 < n) : tabN l n = [] := by unfold tabN; rw [if_pos h]
theorem rul_two : ∀ i j : Fin 35, rulW.getD i.val [] = rulW.getD j.val [] → i = j := by decide +kernel
theorem rul_ne : ∀ i : Fin 35, rulW.getD i.val [] ≠ [] := by decide +kernel
theorem rul_len : ∀ i : Fin 35, (rulW.getD i.val []).length ≤ 9 ∧ (rulW.getD i.val []).all (fun c => !(c == 44)) = true ∧ rulW.getD i.val [] ≠ [45] := by decide +kernel
theorem SlX_zero {w : World} {B g : Nat} {l : List (List UInt8)} (h : SlX w B (some ⟨g, 0, none⟩) l) {k : Nat} (hk : k < l.length) : g < B ∧ w.cell? ⟨g, k, none⟩ = some (bstr l[k]) := by
  obtain ⟨b, off, e, hb, hc, _⟩ := h.atX hk
  injection e with e
  injection e with e1 e2
  subst e1 e2
  rw [Nat.zero_add] at hc
  exact ⟨hb, hc⟩

/-! What a rule asks. -/
theorem ask_lit : ∀ m : Fin 35, askW[m.val]? = some (askW.getD m.val []) := by decide +kernel
theorem wpList_buildV {P : Program} {ops : Array Oper} {rest : List Oper} {o : Oper} {a : Act} {w : World} {Q : Exit → Act → World → Prop} (hg : o.guard = none) (t : TypeId) (parts : Array (Nat × Operand)) (ho : o.op = .build t parts) (cells : Array Value)
    (hf : P.built t (parts.map fun (i, x) => (i, a.eval x)).toList = some cells)
    (h : wpList P ops Q rest (a.put o.dst (.agg cells)) w) : wpList P ops Q (o :: rest) a w :=
  wpList_build hg t parts ho (by rw [hf]; rfl) (by rw [hf]; exact h)
theorem setRow_new (w : World) (t : TypeId) (a b : Array Value) : (w.alloc (.cells a t)).setRow w.heap.size b = w.alloc (.cells b t) := by
  unfold World.setRow World.alloc
  congr 1
  apply Array.ext_getElem?
  intro i
  rw [Array.getElem?_modify, Array.getElem?_push, Array.getElem?_push]
  by_cases h : w.heap.size = i
  · subst h; simp
  · rw [if_neg h, if_neg (fun e => h e.symm), if_neg (fun e => h e.symm)]
def AsksV : Value := .agg (askW.map bstr).toArray
end Go.Proofs.YtmlbomblbdbikaaGreatDoor
/-
  Rules: the document's tables, and what a rule asks.
-/
namespace Go.Proofs.YtmlbomblbdbikaaGreatDoor
set_option linter.unusedSimpArgs false
set_option linter.unusedVariables false
set_option linter.unusedSectionVars false
open Go.ChangeShapes Go.WideShapes Go.ChangeAt Go.RowKit Go.Deep Go.Shelf

/-- A row of texts that is new. -/
def NamesR (n : Nat) (f : Nat → List UInt8) (w : World) (e : Ending) (w' : World) : Prop := ∃ g j, e = .returned (.slice (some ⟨g, 0, none⟩) n n) ∧ (∀ k, k < n → w'.cell? ⟨g, k, none⟩ = some (bstr (f k))) ∧ g < w'.heap.size ∧ w' = w.more j
theorem names_moreR {n : Nat} {f : Nat → List UInt8} {w : World} {t : TypeId} {cs : Array Value} (h : ∀ k, k < n → cs[k]? = some (bstr (f k))) : NamesR n f w (.returned (.slice (some ⟨w.heap.size, 0, none⟩) n n)) (w.alloc (.cells cs t)) := by
  obtain ⟨j, hj⟩ : ∃ j, w.alloc (.cells cs t) = w.more j := Below.junk bel
  exact ⟨_, j, rfl, fun k hk => (Blk.new w t cs).cell k |>.trans (h k hk), by simp, hj⟩
theorem ref38_names_lit : ∀ m : Fin 35, (rulW)[m.val]? = some ((fun k => rulW.getD k []) m.val) := by decide +kernel
theorem ref38_sections_lit : ∀ m : Fin 35, (secW)[m.val]? = some ((fun k => secW.getD k []) m.val) := by decide +kernel
theorem ref38_sentences_lit : ∀ m : Fin 18, (askW.take 18)[m.val]? = some ((fun k => askW.getD k []) m.val) := by decide +kernel
theorem ref38_others_lit : ∀ m : Fin 17, (askW.drop 18)[m.val]? = some ((fun k => askW.getD (18 + k) []) m.val) := by decide +kernel
end Go.Proofs.YtmlbomblbdbikaaGreatDoor
