/-
  Numbers as digits: plain laws.
-/
import Derived.Test.YtfgldglelijekaaGreatDoorMa
import Derived.Lib.AtoiAllCases
import Derived.Lib.ItoaLen
namespace Go.Proofs.YtfgldglelijekaaGreatDoor
set_option linter.unusedSimpArgs false
set_option linter.unusedVariables false
set_option linter.unusedSectionVars false
open Go.ChangeShapes Go.WideShapes Go.ChangeAt Go.RowKit Go.Deep

theorem dec_lo {n : Nat} (h : n < 10) : Lib.decDigits n = [UInt8.ofNat (48 + n)] := by rw [Lib.decDigits, dif_pos h]
theorem dec_hi {n : Nat} (h : ¬ n < 10) : Lib.decDigits n = Lib.decDigits (n / 10) ++ [UInt8.ofNat (48 + n % 10)] := by rw [Lib.decDigits, dif_neg h]
theorem dec_byte {d : Nat} (h : d < 10) : (UInt8.ofNat (48 + d)).toNat = 48 + d := by
  rw [UInt8.toNat_ofNat', Nat.mod_eq_of_lt (by omega)]
theorem dec_ne (n : Nat) : Lib.decDigits n ≠ [] := by
  by_cases h : n < 10
  · rw [dec_lo h]; simp
  · rw [dec_hi h]; simp
theorem dec_bytes : ∀ (k n : Nat), n ≤ k → ∀ c ∈ Lib.decDigits n, 48 ≤ c.toNat ∧ c.toNat ≤ 57
  | k, n, h, c, hc => by
    by_cases h10 : n < 10
    · rw [dec_lo h10] at hc
      simp only [List.mem_singleton] at hc
      subst hc
      rw [dec_byte h10]; omega
    · rw [dec_hi h10] at hc
      rcases List.mem_append.1 hc with hc | hc
      · cases k with
        | zero => omega
        | succ k => exact dec_bytes k (n / 10) (by omega) c hc
      · simp only [List.mem_singleton] at hc
        subst hc
        rw [dec_byte (by omega)]; omega
theorem dec_len : ∀ (k n : Nat), n < 10 ^ (k + 1) → (Lib.decDigits n).length ≤ k + 1
  | 0, n, h => by rw [dec_lo (by omega)]; simp
  | k + 1, n, h => by
    by_cases h10 : n < 10
    · rw [dec_lo h10]; simp
    · rw [dec_hi h10]
      have := dec_len k (n / 10) (by rw [Nat.pow_succ] at h; omega)
      simp; omega
theorem itoa_pos (n : Nat) : Lib.itoa (n : Int) = Lib.decDigits n := by unfold Lib.itoa; rw [if_neg (by omega)]; simp
theorem itoa_minus (n : Nat) (h : 1 ≤ n) : Lib.itoa (-(n : Int)) = 45 :: Lib.decDigits n := by unfold Lib.itoa; rw [if_pos (by omega)]; simp
theorem itoa_len {n : Int} (h0 : -9223372036854775808 ≤ n) (h1 : n ≤ 9223372036854775807) : (Lib.itoa n).length ≤ 20 := by
  rcases Int.lt_or_le n 0 with h | h
  · obtain ⟨m, rfl⟩ : ∃ m : Nat, n = -(m : Int) := ⟨n.natAbs, by omega⟩
    rw [itoa_minus m (by omega)]
    have := dec_len 18 m (by omega)
    simp; omega
  · obtain ⟨m, rfl⟩ : ∃ m : Nat, n = (m : Int) := ⟨n.toNat, by omega⟩
    rw [itoa_pos m]
    have := dec_len 18 m (by omega)
    omega

theorem parse_append : ∀ (x y : List UInt8) (a u : Nat), Lib.parseUint10 a x = .ok u → Lib.parseUint10 a (x ++ y) = Lib.parseUint10 u y
  | [], y, a, u, h => by simp only [Lib.parseUint10] at h; injection h with h; subst h; rfl
  | c :: r, y, a, u, h => by
    rw [List.cons_append]
    rw [Lib.parseUint10] at h ⊢
    by_cases h1 : 48 ≤ c.toNat ∧ c.toNat ≤ 57
    · rw [if_pos h1] at h
      rw [if_pos h1]
      by_cases h2 : 1844674407370955162 ≤ a
      · rw [if_pos h2] at h; cases h
      · rw [if_neg h2] at h
        rw [if_neg h2]
        by_cases h3 : 18446744073709551616 ≤ a * 10 + (c.toNat - 48)
        · rw [if_pos h3] at h; cases h
        · rw [if_neg h3] at h
          rw [if_neg h3]
          exact parse_append r y _ u h
    · rw [if_neg h1] at h; cases h
theorem parse_one {a d : Nat} (hd : d < 10) (ha : a * 10 + d < 18446744073709551616) : Lib.parseUint10 a [UInt8.ofNat (48 + d)] = .ok (a * 10 + d) := by
  unfold Lib.parseUint10
  rw [dec_byte hd, if_pos (by omega), if_neg (by omega), if_neg (by omega)]
  simp [Lib.parseUint10]
theorem parse_dec : ∀ (k n : Nat), n ≤ k → n < 18446744073709551616 → Lib.parseUint10 0 (Lib.decDigits n) = .ok n
  | k, n, h, hn => by
    by_cases h10 : n < 10
    · rw [dec_lo h10, parse_one h10 (by omega)]; simp
    · rw [dec_hi h10]
      cases k with
      | zero => omega
      | succ k =>
        rw [parse_append _ _ _ _ (parse_dec k (n / 10) (by omega) (by omega)), parse_one (by omega) (by omega)]
        congr 1; omega
theorem dec_head (n : Nat) : ∃ c r, Lib.decDigits n = c :: r ∧ 48 ≤ c.toNat ∧ c.toNat ≤ 57 := by
  have := dec_bytes n n (Nat.le_refl _)
  cases h : Lib.decDigits n with
  | nil => exact absurd h (dec_ne n)
  | cons c r => exact ⟨c, r, rfl, this c (by rw [h]; simp)⟩
theorem atoi_itoa {n : Int} (h0 : -9223372036854775808 ≤ n) (h1 : n ≤ 9223372036854775807) : Lib.atoiAll (Lib.itoa n) = .ok n := by
  rcases Int.lt_or_le n 0 with h | h
  · obtain ⟨m, rfl⟩ : ∃ m : Nat, n = -(m : Int) := ⟨n.natAbs, by omega⟩
    rw [itoa_minus m (by omega), Lib.atoiAll_minus]
    unfold Lib.parseMag
    rw [if_neg (dec_ne m), parse_dec m m (Nat.le_refl _) (by omega)]
    simp only [Lib.signed]
    rw [if_neg (by omega)]
  · obtain ⟨m, rfl⟩ : ∃ m : Nat, n = (m : Int) := ⟨n.toNat, by omega⟩
    rw [itoa_pos m]
    have hp := parse_dec m m (Nat.le_refl _) (by omega)
    obtain ⟨c, r, he, hc0, hc1⟩ := dec_head m
    rw [he] at hp ⊢
    rw [Lib.atoiAll_plain c r (by omega) (by omega)]
    unfold Lib.parseMag
    rw [if_neg (by simp), hp]
    simp only [Lib.signless]
    rw [if_neg (by omega)]
def readF (s : List UInt8) : Int × Bool :=
  match Lib.atoiAll s with
  | .ok v => if Lib.itoa v = s then (v, true) else (0, false)
  | _ => (0, false)
theorem readF_itoa {n : Int} (h0 : -9223372036854775808 ≤ n) (h1 : n ≤ 9223372036854775807) : readF (Lib.itoa n) = (n, true) := by
  unfold readF; rw [atoi_itoa h0 h1]; simp
theorem readF_ok {s : List UInt8} {v : Int} (h : Lib.atoiAll s = .ok v) : readF s = if Lib.itoa v = s then (v, true) else (0, false) := by
  unfold readF; rw [h]
theorem readF_bad {s : List UInt8} (h : ∀ v, Lib.atoiAll s ≠ .ok v) : readF s = (0, false) := by
  unfold readF
  split
  · rename_i v hv; exact absurd hv (h v)
  · rfl
theorem readF_yes {s : List UInt8} (h : (readF s).2 = true) : Lib.itoa (readF s).1 = s ∧ -9223372036854775808 ≤ (readF s).1 ∧ (readF s).1 ≤ 9223372036854775807 := by
  by_cases hok : ∃ v, Lib.atoiAll s = .ok v
  · obtain ⟨v, ha⟩ := hok
    rw [readF_ok ha] at h ⊢
    by_cases hs : Lib.itoa v = s
    · rw [if_pos hs]; exact ⟨hs, Lib.atoiAll_bounds ha⟩
    · rw [if_neg hs] at h; cases h
  · rw [readF_bad fun v hv => hok ⟨v, hv⟩] at h; cases h
theorem readF_no {s : List UInt8} (h : (readF s).2 = false) : readF s = (0, false) := by
  by_cases hok : ∃ v, Lib.atoiAll s = .ok v
  · obtain ⟨v, ha⟩ := hok
    rw [readF_ok ha] at h ⊢
    by_cases hs : Lib.itoa v = s
    · rw [if_pos hs] at h; cases h
    · rw [if_neg hs]
  · exact readF_bad fun v hv => hok ⟨v, hv⟩

/-! The document's reading. -/
def vlGo : List UInt8 → Int → Option Int
  | [], n => some n
  | c :: r, n => if (c.toNat : Int) < 48 ∨ 57 < (c.toNat : Int) then none else if n < -922337203685477580 ∨ (n = -922337203685477580 ∧ 8 < (c.toNat : Int) - 48) then none else vlGo r (10 * n - ((c.toNat : Int) - 48))
def vlF (s : List UInt8) : Int × Bool := match vlGo s 0 with
  | some n => (n, !s.isEmpty)
  | none => (0, false)
theorem vlGo_lo : ∀ (s : List UInt8) (n m : Int), -9223372036854775808 ≤ n → n ≤ 0 → vlGo s n = some m → -9223372036854775808 ≤ m ∧ m ≤ 0
  | [], n, m, h0, h1, h => by simp only [vlGo] at h; injection h with h; subst h; exact ⟨h0, h1⟩
  | c :: r, n, m, h0, h1, h => by
    unfold vlGo at h
    split at h
    · cases h
    · split at h
      · cases h
      · exact vlGo_lo r _ m (by omega) (by omega) h
theorem vlGo_append : ∀ (x y : List UInt8) (a u : Int), vlGo x a = some u → vlGo (x ++ y) a = vlGo y u
  | [], y, a, u, h => by simp only [vlGo] at h; injection h with h; subst h; rfl
  | c :: r, y, a, u, h => by
    rw [List.cons_append]
    rw [vlGo] at h ⊢
    split at h
    · cases h
    · rename_i h1
      rw [if_neg h1]
      split at h
      · cases h
      · rename_i h2
        rw [if_neg h2]
        exact vlGo_append r y _ u h
theorem vl_one {a : Int} {d : Nat} (hd : d < 10) (ha : ¬ (a < -922337203685477580 ∨ (a = -922337203685477580 ∧ 8 < d))) : vlGo [UInt8.ofNat (48 + d)] a = some (10 * a - d) := by
  rw [vlGo, dec_byte hd, if_neg (by omega), if_neg (by omega)]
  simp only [vlGo]
  congr 1; omega
theorem vl_dec : ∀ (k n : Nat), n ≤ k → n ≤ 9223372036854775808 → vlGo (Lib.decDigits n) 0 = some (-(n : Int))
  | k, n, h, hn => by
    by_cases h10 : n < 10
    · rw [dec_lo h10, vl_one h10 (by omega)]; congr 1; omega
    · rw [dec_hi h10]
      cases k with
      | zero => omega
      | succ k =>
        rw [vlGo_append _ _ _ _ (vl_dec k (n / 10) (by omega) (by omega)), vl_one (by omega) (by omega)]
        congr 1; omega
def readB (s : List UInt8) : Int × Bool :=
  match s with
  | [] => (0, false)
  | c :: r => if (c == 45) = true then vlF r else (-(vlF s).1, (vlF s).2)
def readR (s : List UInt8) : Int × Bool :=
  if 20 < (s.length : Int) ∨ s = [] then (0, false)
  else if (s.head?.map (· == 45)) = some true then (if (vlF s.tail).2 = true ∧ Lib.itoa (vlF s.tail).1 = s then ((vlF s.tail).1, true) else (0, false))
  else if (vlF s).1 = -9223372036854775808 then (0, false)
  else if (vlF s).2 = true ∧ Lib.itoa (-(vlF s).1) = s then (-(vlF s).1, true) else (0, false)
theorem vlF_bd (s : List UInt8) : -9223372036854775808 ≤ (vlF s).1 ∧ (vlF s).1 ≤ 0 := by
  unfold vlF
  cases h : vlGo s 0 with
  | none => exact ⟨by simp, by simp⟩
  | some n => exact vlGo_lo s 0 n (by omega) (by omega) h
theorem readR_itoa {n : Int} (h0 : -9223372036854775808 ≤ n) (h1 : n ≤ 9223372036854775807) : readR (Lib.itoa n) = (n, true) := by
  have hl := itoa_len h0 h1
  unfold readR
  rcases Int.lt_or_le n 0 with h | h
  · obtain ⟨m, rfl⟩ : ∃ m : Nat, n = -(m : Int) := ⟨n.natAbs, by omega⟩
    have hv : vlF (Lib.decDigits m) = (-(m : Int), true) := by
      unfold vlF
      rw [vl_dec m m (Nat.le_refl _) (by omega)]
      simp only [Prod.mk.injEq, true_and]
      cases hd : Lib.decDigits m with
      | nil => exact absurd hd (dec_ne m)
      | cons => rfl
    have hi := itoa_minus m (by omega)
    rw [hi] at hl ⊢
    rw [if_neg (by simp at hl ⊢; omega), if_pos (by simp), List.tail_cons, hv]
    rw [if_pos ⟨rfl, hi⟩]
  · obtain ⟨m, rfl⟩ : ∃ m : Nat, n = (m : Int) := ⟨n.toNat, by omega⟩
    have hv : vlF (Lib.decDigits m) = (-(m : Int), true) := by
      unfold vlF
      rw [vl_dec m m (Nat.le_refl _) (by omega)]
      simp only [Prod.mk.injEq, true_and]
      cases hd : Lib.decDigits m with
      | nil => exact absurd hd (dec_ne m)
      | cons => rfl
    have hi := itoa_pos m
    rw [hi] at hl ⊢
    have hne := dec_ne m
    obtain ⟨c, r, he, hc0, hc1⟩ := dec_head m
    have hh : (Lib.decDigits m).head?.map (· == 45) = some false := by
      rw [he]
      simp only [List.head?_cons, Option.map_some, Option.some.injEq, beq_eq_false_iff_ne, ne_eq]
      intro e; subst e; simp at hc0
    rw [if_neg (by simp only [hne, or_false]; omega), hh, if_neg (by simp), hv, if_neg (by simp only; omega)]
    rw [if_pos ⟨rfl, by simp only [Int.neg_neg]; exact hi⟩]
    simp
theorem readR_yes {s : List UInt8} (h : (readR s).2 = true) : Lib.itoa (readR s).1 = s ∧ -9223372036854775808 ≤ (readR s).1 ∧ (readR s).1 ≤ 9223372036854775807 := by
  have b1 := vlF_bd s
  have b2 := vlF_bd s.tail
  unfold readR at h ⊢
  split
  · rename_i c; rw [if_pos c] at h; cases h
  · rename_i c; rw [if_neg c] at h
    split
    · rename_i d; rw [if_pos d] at h
      split
      · rename_i e; exact ⟨e.2, by simp only; omega, by simp only; omega⟩
      · rename_i e; rw [if_neg e] at h; cases h
    · rename_i d; rw [if_neg d] at h
      split
      · rename_i e; rw [if_pos e] at h; cases h
      · rename_i e; rw [if_neg e] at h
        split
        · rename_i f; exact ⟨f.2, by simp only; omega, by simp only; omega⟩
        · rename_i f; rw [if_neg f] at h; cases h
theorem readR_no {s : List UInt8} (h : (readR s).2 = false) : readR s = (0, false) := by
  unfold readR at h ⊢
  split
  · rfl
  · rename_i c; rw [if_neg c] at h
    split
    · rename_i d; rw [if_pos d] at h
      split
      · rename_i e; rw [if_pos e] at h; cases h
      · rfl
    · rename_i d; rw [if_neg d] at h
      split
      · rfl
      · rename_i e; rw [if_neg e] at h
        split
        · rename_i f; rw [if_pos f] at h; cases h
        · rfl
theorem read_eq (s : List UInt8) : readF s = readR s := by
  cases h : (readF s).2 with
  | true =>
    obtain ⟨h1, h2, h3⟩ := readF_yes h
    have := readR_itoa h2 h3
    rw [h1] at this
    rw [this]
    exact Prod.ext rfl h
  | false =>
    cases h' : (readR s).2 with
    | true =>
      obtain ⟨h1, h2, h3⟩ := readR_yes h'
      have := readF_itoa h2 h3
      rw [h1] at this
      rw [this] at h
      cases h
    | false => rw [readF_no h, readR_no h']
end Go.Proofs.YtfgldglelijekaaGreatDoor
