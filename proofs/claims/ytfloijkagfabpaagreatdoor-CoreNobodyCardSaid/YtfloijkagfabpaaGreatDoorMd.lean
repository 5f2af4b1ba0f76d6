/-
  Parts of the proof, one behind the other: contracts of the program and plain laws; no condition of their own.
-/
import Derived.Test.YtfloijkagfabpaaGreatDoorBase
import Derived.Lib.AtoiAllCases
import Derived.Lib.ItoaLen
import Derived.Lib.Bytealg
import Derived.Test.YtfloijkagfabpaaGreatDoorMc
import Derived.Test.YtfloijkagfabpaaGreatDoorMa
import Derived.Deep.LoopGhost
import Derived.BigGuardPart
import Derived.Lib.SplitLaws
import Derived.Lib.Join
/-
  Numbers as digits: plain laws.
-/
namespace Go.Proofs.YtfloijkagfabpaaGreatDoor
set_option linter.unusedSimpArgs false
set_option linter.unusedVariables false
set_option linter.unusedSectionVars false
open Go.ChangeShapes Go.WideShapes Go.ChangeAt Go.RowKit Go.Deep

theorem dec_lo {n : Nat} (h : n < 10) : Lib.decDigits n = [UInt8.ofNat (48 + n)] := by rw [Lib.decDigits, dif_pos h]
theorem dec_hi {n : Nat} (h : ¬ n < 10) : Lib.decDigits n = Lib.decDigits (n / 10) ++ [UInt8.ofNat (48 + n % 10)] := by rw [Lib.decDigits, dif_neg h]
theorem dec_byte {d : Nat} (h : d < 10) : (UInt8.ofNat (48 + d)).toNat = 48 + d := by
  rw [UInt8.toNat_ofNat', Nat.mod_eq_of_lt (by omega)]
theorem dec_ne (n : Nat) : Lib.decDigits n ≠ [] := by
  by_cases h : n < 10
  · rw [dec_lo h]; simp
  · rw [dec_hi h]; simp
theorem dec_bytes : ∀ (k n : Nat), n ≤ k → ∀ c ∈ Lib.decDigits n, 48 ≤ c.toNat ∧ c.toNat ≤ 57
  | k, n, h, c, hc => by
    by_cases h10 : n < 10
    · rw [dec_lo h10] at hc
      simp only [List.mem_singleton] at hc
      subst hc
      rw [dec_byte h10]; omega
    · rw [dec_hi h10] at hc
      rcases List.mem_append.1 hc with hc | hc
      · cases k with
        | zero => omega
        | succ k => exact dec_bytes k (n / 10) (by omega) c hc
      · simp only [List.mem_singleton] at hc
        subst hc
        rw [dec_byte (by omega)]; omega
theorem dec_len : ∀ (k n : Nat), n < 10 ^ (k + 1) → (Lib.decDigits n).length ≤ k + 1
  | 0, n, h => by rw [dec_lo (by omega)]; simp
  | k + 1, n, h => by
    by_cases h10 : n < 10
    · rw [dec_lo h10]; simp
    · rw [dec_hi h10]
      have := dec_len k (n / 10) (by rw [Nat.pow_succ] at h; omega)
      simp; omega
theorem itoa_pos (n : Nat) : Lib.itoa (n : Int) = Lib.decDigits n := by unfold Lib.itoa; rw [if_neg (by omega)]; simp
theorem itoa_minus (n : Nat) (h : 1 ≤ n) : Lib.itoa (-(n : Int)) = 45 :: Lib.decDigits n := by unfold Lib.itoa; rw [if_pos (by omega)]; simp
theorem itoa_len {n : Int} (h0 : -9223372036854775808 ≤ n) (h1 : n ≤ 9223372036854775807) : (Lib.itoa n).length ≤ 20 := by
  rcases Int.lt_or_le n 0 with h | h
  · obtain ⟨m, rfl⟩ : ∃ m : Nat, n = -(m : Int) := ⟨n.natAbs, by omega⟩
    rw [itoa_minus m (by omega)]
    have := dec_len 18 m (by omega)
    simp; omega
  · obtain ⟨m, rfl⟩ : ∃ m : Nat, n = (m : Int) := ⟨n.toNat, by omega⟩
    rw [itoa_pos m]
    have := dec_len 18 m (by omega)
    omega

theorem parse_append : ∀ (x y : List UInt8) (a u : Nat), Lib.parseUint10 a x = .ok u → Lib.parseUint10 a (x ++ y) = Lib.parseUint10 u y
  | [], y, a, u, h => by simp only [Lib.parseUint10] at h; injection h with h; subst h; rfl
  | c :: r, y, a, u, h => by
    rw [List.cons_append]
    rw [Lib.parseUint10] at h ⊢
    by_cases h1 : 48 ≤ c.toNat ∧ c.toNat ≤ 57
    · rw [if_pos h1] at h
      rw [if_pos h1]
      by_cases h2 : 1844674407370955162 ≤ a
      · rw [if_pos h2] at h; cases h
      · rw [if_neg h2] at h
        rw [if_neg h2]
        by_cases h3 : 18446744073709551616 ≤ a * 10 + (c.toNat - 48)
        · rw [if_pos h3] at h; cases h
        · rw [if_neg h3] at h
          rw [if_neg h3]
          exact parse_append r y _ u h
    · rw [if_neg h1] at h; cases h
theorem parse_one {a d : Nat} (hd : d < 10) (ha : a * 10 + d < 18446744073709551616) : Lib.parseUint10 a [UInt8.ofNat (48 + d)] = .ok (a * 10 + d) := by
  unfold Lib.parseUint10
  rw [dec_byte hd, if_pos (by omega), if_neg (by omega), if_neg (by omega)]
  simp [Lib.parseUint10]
theorem parse_dec : ∀ (k n : Nat), n ≤ k → n < 18446744073709551616 → Lib.parseUint10 0 (Lib.decDigits n) = .ok n
  | k, n, h, hn => by
    by_cases h10 : n < 10
    · rw [dec_lo h10, parse_one h10 (by omega)]; simp
    · rw [dec_hi h10]
      cases k with
      | zero => omega
      | succ k =>
        rw [parse_append _ _ _ _ (parse_dec k (n / 10) (by omega) (by omega)), parse_one (by omega) (by omega)]
        congr 1; omega
theorem dec_head (n : Nat) : ∃ c r, Lib.decDigits n = c :: r ∧ 48 ≤ c.toNat ∧ c.toNat ≤ 57 := by
  have := dec_bytes n n (Nat.le_refl _)
  cases h : Lib.decDigits n with
  | nil => exact absurd h (dec_ne n)
  | cons c r => exact ⟨c, r, rfl, this c (by rw [h]; simp)⟩
theorem atoi_itoa {n : Int} (h0 : -9223372036854775808 ≤ n) (h1 : n ≤ 9223372036854775807) : Lib.atoiAll (Lib.itoa n) = .ok n := by
  rcases Int.lt_or_le n 0 with h | h
  · obtain ⟨m, rfl⟩ : ∃ m : Nat, n = -(m : Int) := ⟨n.natAbs, by omega⟩
    rw [itoa_minus m (by omega), Lib.atoiAll_minus]
    unfold Lib.parseMag
    rw [if_neg (dec_ne m), parse_dec m m (Nat.le_refl _) (by omega)]
    simp only [Lib.signed]
    rw [if_neg (by omega)]
  · obtain ⟨m, rfl⟩ : ∃ m : Nat, n = (m : Int) := ⟨n.toNat, by omega⟩
    rw [itoa_pos m]
    have hp := parse_dec m m (Nat.le_refl _) (by omega)
    obtain ⟨c, r, he, hc0, hc1⟩ := dec_head m
    rw [he] at hp ⊢
    rw [Lib.atoiAll_plain c r (by omega) (by omega)]
    unfold Lib.parseMag
    rw [if_neg (by simp), hp]
    simp only [Lib.signless]
    rw [if_neg (by omega)]
def readF (s : List UInt8) : Int × Bool :=
  match Lib.atoiAll s with
  | .ok v => if Lib.itoa v = s then (v, true) else (0, false)
  | _ => (0, false)
theorem readF_itoa {n : Int} (h0 : -9223372036854775808 ≤ n) (h1 : n ≤ 9223372036854775807) : readF (Lib.itoa n) = (n, true) := by
  unfold readF; rw [atoi_itoa h0 h1]; simp
theorem readF_ok {s : List UInt8} {v : Int} (h : Lib.atoiAll s = .ok v) : readF s = if Lib.itoa v = s then (v, true) else (0, false) := by
  unfold readF; rw [h]
theorem readF_bad {s : List UInt8} (h : ∀ v, Lib.atoiAll s ≠ .ok v) : readF s = (0, false) := by
  unfold readF
  split
  · rename_i v hv; exact absurd hv (h v)
  · rfl
theorem readF_yes {s : List UInt8} (h : (readF s).2 = true) : Lib.itoa (readF s).1 = s ∧ -9223372036854775808 ≤ (readF s).1 ∧ (readF s).1 ≤ 9223372036854775807 := by
  by_cases hok : ∃ v, Lib.atoiAll s = .ok v
  · obtain ⟨v, ha⟩ := hok
    rw [readF_ok ha] at h ⊢
    by_cases hs : Lib.itoa v = s
    · rw [if_pos hs]; exact ⟨hs, Lib.atoiAll_bounds ha⟩
    · rw [if_neg hs] at h; cases h
  · rw [readF_bad fun v hv => hok ⟨v, hv⟩] at h; cases h
theorem readF_no {s : List UInt8} (h : (readF s).2 = false) : readF s = (0, false) := by
  by_cases hok : ∃ v, Lib.atoiAll s = .ok v
  · obtain ⟨v, ha⟩ := hok
    rw [readF_ok ha] at h ⊢
    by_cases hs : Lib.itoa v = s
    · rw [if_pos hs] at h; cases h
    · rw [if_neg hs]
  · exact readF_bad fun v hv => hok ⟨v, hv⟩

/-! The document's reading. -/
def vlGo : List UInt8 → Int → Option Int
  | [], n => some n
  | c :: r, n => if (c.toNat : Int) < 48 ∨ 57 < (c.toNat : Int) then none else if n < -922337203685477580 ∨ (n = -922337203685477580 ∧ 8 < (c.toNat : Int) - 48) then none else vlGo r (10 * n - ((c.toNat : Int) - 48))
def vlF (s : List UInt8) : Int × Bool := match vlGo s 0 with
  | some n => (n, !s.isEmpty)
  | none => (0, false)
theorem vlGo_lo : ∀ (s : List UInt8) (n m : Int), -9223372036854775808 ≤ n → n ≤ 0 → vlGo s n = some m → -9223372036854775808 ≤ m ∧ m ≤ 0
  | [], n, m, h0, h1, h => by simp only [vlGo] at h; injection h with h; subst h; exact ⟨h0, h1⟩
  | c :: r, n, m, h0, h1, h => by
    unfold vlGo at h
    split at h
    · cases h
    · split at h
      · cases h
      · exact vlGo_lo r _ m (by omega) (by omega) h
theorem vlGo_append : ∀ (x y : List UInt8) (a u : Int), vlGo x a = some u → vlGo (x ++ y) a = vlGo y u
  | [], y, a, u, h => by simp only [vlGo] at h; injection h with h; subst h; rfl
  | c :: r, y, a, u, h => by
    rw [List.cons_append]
    rw [vlGo] at h ⊢
    split at h
    · cases h
    · rename_i h1
      rw [if_neg h1]
      split at h
      · cases h
      · rename_i h2
        rw [if_neg h2]
        exact vlGo_append r y _ u h
theorem vl_one {a : Int} {d : Nat} (hd : d < 10) (ha : ¬ (a < -922337203685477580 ∨ (a = -922337203685477580 ∧ 8 < d))) : vlGo [UInt8.ofNat (48 + d)] a = some (10 * a - d) := by
  rw [vlGo, dec_byte hd, if_neg (by omega), if_neg (by omega)]
  simp only [vlGo]
  congr 1; omega
theorem vl_dec : ∀ (k n : Nat), n ≤ k → n ≤ 9223372036854775808 → vlGo (Lib.decDigits n) 0 = some (-(n : Int))
  | k, n, h, hn => by
    by_cases h10 : n < 10
    · rw [dec_lo h10, vl_one h10 (by omega)]; congr 1; omega
    · rw [dec_hi h10]
      cases k with
      | zero => omega
      | succ k =>
        rw [vlGo_append _ _ _ _ (vl_dec k (n / 10) (by omega) (by omega)), vl_one (by omega) (by omega)]
        congr 1; omega
def readB (s : List UInt8) : Int × Bool :=
  match s with
  | [] => (0, false)
  | c :: r => if (c == 45) = true then vlF r else (-(vlF s).1, (vlF s).2)
def readR (s : List UInt8) : Int × Bool :=
  if 20 < (s.length : Int) ∨ s = [] then (0, false)
  else if (s.head?.map (· == 45)) = some true then (if (vlF s.tail).2 = true ∧ Lib.itoa (vlF s.tail).1 = s then ((vlF s.tail).1, true) else (0, false))
  else if (vlF s).1 = -9223372036854775808 then (0, false)
  else if (vlF s).2 = true ∧ Lib.itoa (-(vlF s).1) = s then (-(vlF s).1, true) else (0, false)
theorem vlF_bd (s : List UInt8) : -9223372036854775808 ≤ (vlF s).1 ∧ (vlF s).1 ≤ 0 := by
  unfold vlF
  cases h : vlGo s 0 with
  | none => exact ⟨by simp, by simp⟩
  | some n => exact vlGo_lo s 0 n (by omega) (by omega) h
theorem readR_itoa {n : Int} (h0 : -9223372036854775808 ≤ n) (h1 : n ≤ 9223372036854775807) : readR (Lib.itoa n) = (n, true) := by
  have hl := itoa_len h0 h1
  unfold readR
  rcases Int.lt_or_le n 0 with h | h
  · obtain ⟨m, rfl⟩ : ∃ m : Nat, n = -(m : Int) := ⟨n.natAbs, by omega⟩
    have hv : vlF (Lib.decDigits m) = (-(m : Int), true) := by
      unfold vlF
      rw [vl_dec m m (Nat.le_refl _) (by omega)]
      simp only [Prod.mk.injEq, true_and]
      cases hd : Lib.decDigits m with
      | nil => exact absurd hd (dec_ne m)
      | cons => rfl
    have hi := itoa_minus m (by omega)
    rw [hi] at hl ⊢
    rw [if_neg (by simp at hl ⊢; omega), if_pos (by simp), List.tail_cons, hv]
    rw [if_pos ⟨rfl, hi⟩]
  · obtain ⟨m, rfl⟩ : ∃ m : Nat, n = (m : Int) := ⟨n.toNat, by omega⟩
    have hv : vlF (Lib.decDigits m) = (-(m : Int), true) := by
      unfold vlF
      rw [vl_dec m m (Nat.le_refl _) (by omega)]
      simp only [Prod.mk.injEq, true_and]
      cases hd : Lib.decDigits m with
      | nil => exact absurd hd (dec_ne m)
      | cons => rfl
    have hi := itoa_pos m
    rw [hi] at hl ⊢
    have hne := dec_ne m
    obtain ⟨c, r, he, hc0, hc1⟩ := dec_head m
    have hh : (Lib.decDigits m).head?.map (· == 45) = some false := by
      rw [he]
      simp only [List.head?_cons, Option.map_some, Option.some.injEq, beq_eq_false_iff_ne, ne_eq]
      intro e; subst e; simp at hc0
    rw [if_neg (by simp only [hne, or_false]; omega), hh, if_neg (by simp), hv, if_neg (by simp only; omega)]
    rw [if_pos ⟨rfl, by simp only [Int.neg_neg]; exact hi⟩]
    simp
theorem readR_yes {s : List UInt8} (h : (readR s).2 = true) : Lib.itoa (readR s).1 = s ∧ -9223372036854775808 ≤ (readR s).1 ∧ (readR s).1 ≤ 9223372036854775807 := by
  have b1 := vlF_bd s
  have b2 := vlF_bd s.tail
  unfold readR at h ⊢
  split
  · rename_i c; rw [if_pos c] at h; cases h
  · rename_i c; rw [if_neg c] at h
    split
    · rename_i d; rw [if_pos d] at h
      split
      · rename_i e; exact ⟨e.2, by simp only; omega, by simp only; omega⟩
      · rename_i e; rw [if_neg e] at h; cases h
    · rename_i d; rw [if_neg d] at h
      split
      · rename_i e; rw [if_pos e] at h; cases h
      · rename_i e; rw [if_neg e] at h
        split
        · rename_i f; exact ⟨f.2, by simp only; omega, by simp only; omega⟩
        · rename_i f; rw [if_neg f] at h; cases h
theorem readR_no {s : List UInt8} (h : (readR s).2 = false) : readR s = (0, false) := by
  unfold readR at h ⊢
  split
  · rfl
  · rename_i c; rw [if_neg c] at h
    split
    · rename_i d; rw [if_pos d] at h
      split
      · rename_i e; rw [if_pos e] at h; cases h
      · rfl
    · rename_i d; rw [if_neg d] at h
      split
      · rfl
      · rename_i e; rw [if_neg e] at h
        split
        · rename_i f; rw [if_pos f] at h; cases h
        · rfl
theorem read_eq (s : List UInt8) : readF s = readR s := by
  cases h : (readF s).2 with
  | true =>
    obtain ⟨h1, h2, h3⟩ := readF_yes h
    have := readR_itoa h2 h3
    rw [h1] at this
    rw [this]
    exact Prod.ext rfl h
  | false =>
    cases h' : (readR s).2 with
    | true =>
      obtain ⟨h1, h2, h3⟩ := readR_yes h'
      have := readF_itoa h2 h3
      rw [h1] at this
      rw [this] at h
      cases h
    | false => rw [readF_no h, readR_no h']
end Go.Proofs.YtfloijkagfabpaaGreatDoor
/-
  Words: plain laws.
-/
namespace Go.Proofs.YtfloijkagfabpaaGreatDoor
set_option linter.unusedSimpArgs false
set_option linter.unusedVariables false
set_option linter.unusedSectionVars false
open Go.ChangeShapes Go.WideShapes Go.ChangeAt Go.RowKit Go.Deep

theorem all_bytes {P : UInt8 → Prop} (h : ∀ n : Fin 256, P (UInt8.ofNat n.val)) (c : UInt8) : P c := by
  have := h ⟨c.toNat, c.toNat_lt⟩
  simpa using this
abbrev hexD : List UInt8 := [48, 49, 50, 51, 52, 53, 54, 55, 56, 57, 97, 98, 99, 100, 101, 102]
def plB (c : UInt8) : Bool := decide (32 < c.toNat) && decide (c.toNat < 127) && !(c == 37)
def pairB (c : UInt8) : List UInt8 := [hexD.getD (c.toNat / 16) 0, hexD.getD (c.toNat % 16) 0]
def quB (c : UInt8) : List UInt8 := if plB c = true then [c] else 37 :: pairB c
def quoteF (l : List UInt8) : List UInt8 := if l = [] then [37] else l.flatMap quB
def hexI (c : UInt8) : Int := Lib.indexByte hexD c
def byteOf (h l : UInt8) : UInt8 := UInt8.ofNat (16 * (hexI h).toNat + (hexI l).toNat)
theorem hexI_bd (c : UInt8) : -1 ≤ hexI c ∧ hexI c ≤ 15 := all_bytes (P := fun c => -1 ≤ hexI c ∧ hexI c ≤ 15) (by decide +kernel) c
theorem hexI_back (c : UInt8) : 0 ≤ hexI c → hexD.getD (hexI c).toNat 0 = c := all_bytes (P := fun c => 0 ≤ hexI c → hexD.getD (hexI c).toNat 0 = c) (by decide +kernel) c
theorem hexI_of (n : Nat) (h : n < 16) : hexI (hexD.getD n 0) = n := by
  have : ∀ m : Fin 16, hexI (hexD.getD m.val 0) = m.val := by decide +kernel
  exact this ⟨n, h⟩
theorem byteOf_nat {h l : UInt8} (hh : 0 ≤ hexI h) (hl : 0 ≤ hexI l) : (byteOf h l).toNat = 16 * (hexI h).toNat + (hexI l).toNat := by
  have := hexI_bd h
  have := hexI_bd l
  unfold byteOf
  rw [UInt8.toNat_ofNat', Nat.mod_eq_of_lt (by omega)]
theorem pairB_byteOf {h l : UInt8} (hh : 0 ≤ hexI h) (hl : 0 ≤ hexI l) : pairB (byteOf h l) = [h, l] := by
  have b1 := hexI_bd h
  have b2 := hexI_bd l
  unfold pairB
  rw [byteOf_nat hh hl, show (16 * (hexI h).toNat + (hexI l).toNat) / 16 = (hexI h).toNat by omega, show (16 * (hexI h).toNat + (hexI l).toNat) % 16 = (hexI l).toNat by omega, hexI_back h hh, hexI_back l hl]
theorem byteOf_pair (c : UInt8) : byteOf (hexD.getD (c.toNat / 16) 0) (hexD.getD (c.toNat % 16) 0) = c := by
  have := c.toNat_lt
  unfold byteOf
  rw [hexI_of _ (by omega), hexI_of _ (by omega)]
  simp only [Int.toNat_natCast]
  rw [Nat.div_add_mod]
  simp
theorem pl_37 {c : UInt8} (h : plB c = true) : c ≠ 37 := by
  intro he; subst he; simp [plB] at h

/-! There and back. -/
def unqP : List UInt8 → Option (List UInt8)
  | [] => some []
  | [c] => if plB c = true then some [c] else none
  | [c, d] => if plB c = true then (if plB d = true then some [c, d] else none) else none
  | c :: h :: l :: r => if plB c = true then (unqP (h :: l :: r)).map (c :: ·) else if (c == 37) = true ∧ 0 ≤ hexI h ∧ 0 ≤ hexI l ∧ plB (byteOf h l) = false then (unqP r).map (byteOf h l :: ·) else none
def unqR : List UInt8 → Option (List UInt8)
  | [] => some []
  | [c] => if (c == 37) = false then some [c] else none
  | [c, d] => if (c == 37) = false then (if (d == 37) = false then some [c, d] else none) else none
  | c :: h :: l :: r => if (c == 37) = false then (unqR (h :: l :: r)).map (c :: ·) else if 0 ≤ hexI h ∧ 0 ≤ hexI l then (unqR r).map (byteOf h l :: ·) else none
theorem unqP_plain {c : UInt8} {r : List UInt8} (h : plB c = true) : unqP (c :: r) = (unqP r).map (c :: ·) := by
  match r with
  | [] => simp [unqP, h]
  | [d] => by_cases hd : plB d = true <;> simp [unqP, h, hd]
  | a :: b :: r => simp [unqP, h]
theorem unqR_plain {c : UInt8} {r : List UInt8} (h : (c == 37) = false) : unqR (c :: r) = (unqR r).map (c :: ·) := by
  match r with
  | [] => simp only [unqR, h, if_true]; rfl
  | [d] => cases hd : (d == 37) <;> simp only [unqR, h, hd, if_true] <;> rfl
  | a :: b :: r => simp only [unqR, h, if_true]
theorem unqP_R : ∀ (n : Nat) (w o : List UInt8), w.length ≤ n → unqP w = some o → unqR w = some o ∧ o.flatMap quB = w
  | _, [], o, _, h => by simp [unqP] at h; subst h; exact ⟨rfl, rfl⟩
  | 0, c :: r, _, hn, _ => by simp at hn
  | n + 1, c :: r, o, hn, h => by
    by_cases hc : plB c = true
    · rw [unqP_plain hc] at h
      obtain ⟨o', h1, rfl⟩ := Option.map_eq_some_iff.1 h
      have ih := unqP_R n r o' (by simpa using hn) h1
      have h37 : (c == 37) = false := by simpa using pl_37 hc
      rw [unqR_plain h37, ih.1]
      refine ⟨rfl, ?_⟩
      rw [List.flatMap_cons, ih.2]
      simp [quB, hc]
    · match r, h with
      | [], h => simp [unqP, hc] at h
      | [d], h => simp [unqP, hc] at h
      | a :: b :: r', h =>
        simp only [unqP, if_neg hc] at h
        by_cases hg : (c == 37) = true ∧ 0 ≤ hexI a ∧ 0 ≤ hexI b ∧ plB (byteOf a b) = false
        · rw [if_pos hg] at h
          obtain ⟨o', h1, rfl⟩ := Option.map_eq_some_iff.1 h
          have ih := unqP_R n r' o' (by simp at hn; omega) h1
          obtain ⟨g1, g2, g3, g4⟩ := hg
          simp only [unqR, g1]
          rw [if_neg (by simp), if_pos ⟨g2, g3⟩, ih.1]
          refine ⟨rfl, ?_⟩
          rw [List.flatMap_cons, ih.2]
          have hc37 : c = 37 := by simpa using g1
          simp only [quB, g4, Bool.false_eq_true, if_false, pairB_byteOf g2 g3, hc37]
          rfl
        · rw [if_neg hg] at h; cases h
theorem unqR_P : ∀ (n : Nat) (w o : List UInt8), w.length ≤ n → unqR w = some o → o.flatMap quB = w → unqP w = some o
  | _, [], o, _, h, _ => by simp [unqR] at h; subst h; rfl
  | 0, c :: r, _, hn, _, _ => by simp at hn
  | n + 1, c :: r, o, hn, h, hq => by
    cases h37 : (c == 37) with
    | false =>
      rw [unqR_plain h37] at h
      obtain ⟨o', h1, rfl⟩ := Option.map_eq_some_iff.1 h
      rw [List.flatMap_cons] at hq
      by_cases hc : plB c = true
      · have e : quB c = [c] := by simp [quB, hc]
        rw [e] at hq
        have := unqR_P n r o' (by simpa using hn) h1 (by simpa using hq)
        rw [unqP_plain hc, this]
        rfl
      · exfalso
        have e : quB c = 37 :: pairB c := by simp [quB, hc]
        rw [e] at hq
        simp only [List.cons_append, List.cons.injEq] at hq
        have := hq.1
        subst this
        simp at h37
    | true =>
      have hc37 : c = 37 := by simpa using h37
      match r, h with
      | [], h => simp [unqR, h37] at h
      | [d], h => simp [unqR, h37] at h
      | a :: b :: r', h =>
        simp only [unqR, h37] at h
        rw [if_neg (by simp)] at h
        by_cases hg : 0 ≤ hexI a ∧ 0 ≤ hexI b
        · rw [if_pos hg] at h
          obtain ⟨o', h1, rfl⟩ := Option.map_eq_some_iff.1 h
          rw [List.flatMap_cons] at hq
          by_cases hp : plB (byteOf a b) = true
          · exfalso
            have e : quB (byteOf a b) = [byteOf a b] := by simp [quB, hp]
            rw [e] at hq
            simp only [List.cons_append, List.cons.injEq] at hq
            exact pl_37 hp (hq.1.trans hc37)
          · have hp' : plB (byteOf a b) = false := by simpa using hp
            have e : quB (byteOf a b) = [37, a, b] := by simp only [quB, hp', Bool.false_eq_true, if_false, pairB_byteOf hg.1 hg.2]
            rw [e] at hq
            simp only [List.cons_append, List.nil_append, List.cons.injEq, true_and] at hq
            have ih := unqR_P n r' o' (by simp at hn; omega) h1 hq.2
            have hnc : ¬ plB c = true := by rw [hc37]; decide
            simp only [unqP, if_neg hnc]
            rw [if_pos ⟨h37, hg.1, hg.2, hp'⟩, ih]
            rfl
        · rw [if_neg hg] at h; cases h
def unquoteF (w : List UInt8) : List UInt8 × Bool :=
  if w = [37] then ([], true) else match unqP w with
    | some o => (o, !o.isEmpty)
    | none => ([], false)
def unquoteR (w : List UInt8) : List UInt8 × Bool :=
  if w = [37] then ([], true) else match unqR w with
    | some o => if quoteF o = w then (o, true) else ([], false)
    | none => ([], false)
theorem unquote_eq (w : List UInt8) : unquoteF w = unquoteR w := by
  unfold unquoteF unquoteR
  by_cases h0 : w = [37]
  · rw [if_pos h0, if_pos h0]
  · rw [if_neg h0, if_neg h0]
    cases hp : unqP w with
    | some o =>
      have := unqP_R _ w o (Nat.le_refl _) hp
      rw [this.1]
      simp only
      by_cases ho : o = []
      · subst ho
        have hw : w = [] := by simpa using this.2.symm
        rw [if_neg (by rw [hw]; simp [quoteF])]
        rfl
      · have e : quoteF o = w := by rw [quoteF, if_neg ho]; exact this.2
        rw [if_pos e]
        cases o with
        | nil => exact absurd rfl ho
        | cons => rfl
    | none =>
      cases hr : unqR w with
      | none => rfl
      | some o =>
        simp only
        by_cases hq : quoteF o = w
        · exfalso
          by_cases ho : o = []
          · subst ho; exact h0 (by simpa [quoteF] using hq.symm)
          · have := unqR_P _ w o (Nat.le_refl _) hr (by simpa [quoteF, ho] using hq)
            rw [hp] at this
            cases this
        · rw [if_neg hq]
theorem unqP_append : ∀ (c : UInt8) (r : List UInt8), unqP (quB c ++ r) = (unqP r).map (c :: ·) := by
  intro c r
  by_cases hc : plB c = true
  · have e : quB c = [c] := by simp [quB, hc]
    rw [e, List.cons_append, List.nil_append, unqP_plain hc]
  · have hc' : plB c = false := by simpa using hc
    have hlt := c.toNat_lt
    have e : quB c = [37, hexD.getD (c.toNat / 16) 0, hexD.getD (c.toNat % 16) 0] := by simp only [quB, hc', Bool.false_eq_true, if_false, pairB]
    have h1 := hexI_of (c.toNat / 16) (by omega)
    have h2 := hexI_of (c.toNat % 16) (by omega)
    rw [e]
    simp only [List.cons_append, List.nil_append]
    rw [unqP, if_neg (by decide), if_pos ⟨rfl, by rw [h1]; omega, by rw [h2]; omega, by rw [byteOf_pair]; exact hc'⟩, byteOf_pair]
theorem unqP_quote : ∀ (l : List UInt8), unqP (l.flatMap quB) = some l
  | [] => rfl
  | c :: r => by rw [List.flatMap_cons, unqP_append, unqP_quote r]; rfl
theorem unquote_quote (l : List UInt8) : unquoteF (quoteF l) = (l, true) := by
  unfold unquoteF quoteF
  by_cases h : l = []
  · subst h; rfl
  · rw [if_neg h]
    rw [if_neg (by
      intro he
      have := unqP_quote l
      rw [he] at this
      simp [unqP, plB] at this), unqP_quote l]
    cases l with
    | nil => exact absurd rfl h
    | cons => rfl
end Go.Proofs.YtfloijkagfabpaaGreatDoor
/-
  Slices of texts.
-/
namespace Go.Proofs.YtfloijkagfabpaaGreatDoor
set_option linter.unusedSimpArgs false
set_option linter.unusedVariables false
set_option linter.unusedSectionVars false
open Go.ChangeShapes Go.WideShapes Go.ChangeAt Go.RowKit Go.Deep Go.Shelf

/-! Slices of texts. -/
def txtIs (s : List UInt8) (cs : List Value) : Prop := cs = [bstr s] ∧ s.length ≤ maxLen
abbrev SlX (w : World) (B : Nat) (a : Option Addr) (l : List (List UInt8)) : Prop := SlR w B 1 txtIs a l
theorem SlR.atX {w : World} {B : Nat} {a : Option Addr} {l : List (List UInt8)} (h : SlR w B 1 txtIs a l) {k : Nat} (hk : k < l.length) : ∃ b off, a = some ⟨b, off, none⟩ ∧ b < B ∧ w.cell? ⟨b, off + k, none⟩ = some (bstr l[k]) ∧ l[k].length ≤ 9223372036854775807 := by
  obtain ⟨b, off, cs, ha, hb, ⟨rfl, h1⟩, hc⟩ := h k hk
  have := hc 0 _ rfl
  rw [Nat.mul_one, Nat.add_zero] at this
  unfold maxLen at h1
  exact ⟨b, off, ha, hb, this, h1⟩
theorem slX_new {w : World} {g : Nat} {t : TypeId} {cs : Array Value} {l : List (List UInt8)} (h : Blk w g t cs) (hl : cs.toList = l.map bstr) (hR : ∀ x ∈ l, x.length ≤ maxLen) : SlX w (g + 1) (some ⟨g, 0, none⟩) l :=
  SlR.of_blk (c := fun s => [bstr s]) h (by rw [hl]; clear h hl hR; induction l <;> simp_all) (fun _ _ => rfl) (fun x hx => ⟨rfl, hR x hx⟩)
def okW (w : List UInt8) : Bool := !w.isEmpty && !decide (0 ≤ Lib.indexByte w 32) && !decide (0 ≤ Lib.indexByte w 10)
theorem slX_pre {w : World} {g : Nat} {t : TypeId} {cs : Array Value} {l r : List (List UInt8)} (h : Blk w g t cs) (hl : cs.toList = (l ++ r).map bstr) (hR : ∀ x ∈ l ++ r, x.length ≤ maxLen) : SlX w w.heap.size (some ⟨g, 0, none⟩) l := by
  have h1 := (slX_new h hl hR).take l.length
  rw [List.take_left] at h1
  exact h1.mono h.lt (fun _ _ _ h => h)
end Go.Proofs.YtfloijkagfabpaaGreatDoor
/-
  Lines of words: cut at a byte, joined with it. No program in sight but for what a word is.
-/
namespace Go.Proofs.YtfloijkagfabpaaGreatDoor
set_option linter.unusedSimpArgs false
set_option linter.unusedVariables false
set_option linter.unusedSectionVars false
open Go.ChangeShapes Go.WideShapes Go.ChangeAt Go.RowKit Go.Deep Go.Shelf

def preF (p : List UInt8) : List (List UInt8) → List (List UInt8)
  | [] => [p]
  | h :: t => (p ++ h) :: t
def cutF (c : UInt8) : List UInt8 → List (List UInt8)
  | [] => [[]]
  | x :: r => if x = c then [] :: cutF c r else preF [x] (cutF c r)
theorem cut_ne (c : UInt8) (s : List UInt8) : ∃ h t, cutF c s = h :: t := by
  cases s with
  | nil => exact ⟨_, _, rfl⟩
  | cons x r =>
    unfold cutF
    split
    · exact ⟨_, _, rfl⟩
    · cases cutF c r <;> exact ⟨_, _, rfl⟩
theorem index_cons_eq (c : UInt8) (l : List UInt8) : Lib.index (c :: l) [c] = 0 := by rw [Lib.index]; simp [List.isPrefixOf]
theorem index_cons_ne (b c : UInt8) (l : List UInt8) (h : b ≠ c) : Lib.index (b :: l) [c] = if Lib.index l [c] == -1 then -1 else Lib.index l [c] + 1 := by
  have hp : ([c] : List UInt8).isPrefixOf (b :: l) = false := by simp [List.isPrefixOf, Ne.symm h]
  rw [Lib.index, hp]; simp
theorem split_cut (c : UInt8) : ∀ s : List UInt8, Lib.split s [c] = cutF c s
  | [] => by unfold Lib.split; rw [Lib.count_miss (by simp [Lib.index])]; rfl
  | x :: r => by
    have ih := split_cut c r
    unfold cutF
    by_cases h : x = c
    · subst h
      rw [if_pos rfl, ← ih]
      unfold Lib.split
      rw [Lib.count_cons_eq, Nat.add_comm, Lib.splitK, if_neg (by rw [index_cons_eq]; decide), index_cons_eq]
      rfl
    · rw [if_neg h, ← ih]
      unfold Lib.split
      rw [Lib.count_cons_ne _ _ _ h]
      by_cases hm : Lib.index r [c] = -1
      · rw [Lib.count_miss hm]; rfl
      · have hge := Lib.index_ge r [c]
        obtain ⟨j, hj⟩ : ∃ j : Nat, Lib.index r [c] = j := ⟨(Lib.index r [c]).toNat, by omega⟩
        have hix : Lib.index (x :: r) [c] = ((j + 1 : Nat) : Int) := by rw [index_cons_ne _ _ _ h, if_neg (fun e => hm (beq_iff_eq.1 e)), hj]; omega
        have hmm : ¬ (Lib.index r [c] == -1) = true := fun e => hm (beq_iff_eq.1 e)
        have hmm2 : ¬ (Lib.index (x :: r) [c] == -1) = true := fun e => by have := beq_iff_eq.1 e; omega
        rw [Lib.count_hit (by simp) hj, Nat.add_comm, Lib.splitK, Lib.splitK, if_neg hmm, if_neg hmm2, hix, hj]
        have e1 : ((j + 1 : Nat) : Int).toNat = j + 1 := by omega
        have e2 : (j : Int).toNat = j := by omega
        rw [e1, e2]
        rfl
theorem cut_free (c : UInt8) : ∀ (s : List UInt8), ∀ w ∈ cutF c s, c ∉ w
  | [], w, h => by simp [cutF] at h; subst h; simp
  | x :: r, w, h => by
    have ih := cut_free c r
    unfold cutF at h
    split at h
    · rcases List.mem_cons.1 h with rfl | h
      · simp
      · exact ih w h
    · rename_i hx
      obtain ⟨a, t, e⟩ := cut_ne c r
      rw [e] at h ih
      rcases List.mem_cons.1 h with rfl | h
      · have := ih a (by simp)
        simp [this]
        exact fun e => hx e.symm
      · exact ih w (by simp [h])
theorem cut_short (c : UInt8) : ∀ (s : List UInt8), ∀ w ∈ cutF c s, w.length ≤ s.length
  | [], w, h => by simp [cutF] at h; subst h; simp
  | x :: r, w, h => by
    have ih := cut_short c r
    unfold cutF at h
    split at h
    · rcases List.mem_cons.1 h with rfl | h
      · simp
      · have := ih w h; simp; omega
    · obtain ⟨a, t, e⟩ := cut_ne c r
      rw [e] at h ih
      rcases List.mem_cons.1 h with rfl | h
      · have := ih a (by simp); simp; omega
      · have := ih w (by simp [h]); simp; omega
theorem cut_len (c : UInt8) : ∀ (s : List UInt8), (cutF c s).length ≤ s.length + 1
  | [] => by simp [cutF]
  | x :: r => by
    have ih := cut_len c r
    unfold cutF
    split
    · simp; omega
    · obtain ⟨a, t, e⟩ := cut_ne c r
      rw [e] at ih ⊢
      simp [preF] at ih ⊢; omega
theorem join_two (w v : List UInt8) (t : List (List UInt8)) (s : List UInt8) : Lib.join (w :: v :: t) s = w ++ (s ++ Lib.join (v :: t) s) := by
  rw [Lib.join_cons, Lib.join_cons]; simp [Lib.joinTail]
theorem join_cut (c : UInt8) : ∀ s : List UInt8, Lib.join (cutF c s) [c] = s
  | [] => by simp [cutF, Lib.join_one]
  | x :: r => by
    have ih := join_cut c r
    unfold cutF
    obtain ⟨a, t, e⟩ := cut_ne c r
    rw [e] at ih ⊢
    split
    · rename_i h
      rw [join_two, ih, h]; rfl
    · show Lib.join ((x :: a) :: t) [c] = _
      rw [Lib.join_cons] at ih ⊢
      rw [← ih]; rfl
theorem cut_none (c : UInt8) : ∀ w : List UInt8, c ∉ w → cutF c w = [w]
  | [], _ => rfl
  | x :: r, h => by
    simp only [List.mem_cons, not_or] at h
    unfold cutF
    rw [if_neg (fun e => h.1 e.symm), cut_none c r h.2]; rfl
theorem cut_app (c : UInt8) (r : List UInt8) : ∀ w : List UInt8, c ∉ w → cutF c (w ++ c :: r) = w :: cutF c r
  | [], _ => by simp [cutF]
  | x :: s, h => by
    simp only [List.mem_cons, not_or] at h
    show cutF c (x :: (s ++ c :: r)) = _
    conv => lhs; unfold cutF
    rw [if_neg (fun e => h.1 e.symm), cut_app c r s h.2]; rfl
theorem cut_join (c : UInt8) : ∀ l : List (List UInt8), l ≠ [] → (∀ w ∈ l, c ∉ w) → cutF c (Lib.join l [c]) = l
  | [], h, _ => absurd rfl h
  | [w], _, h => by rw [Lib.join_one]; exact cut_none c w (h w (by simp))
  | w :: v :: t, _, h => by
    rw [join_two]
    show cutF c (w ++ c :: Lib.join (v :: t) [c]) = _
    rw [cut_app c _ w (h w (by simp)), cut_join c (v :: t) (by simp) (fun x hx => h x (List.mem_cons_of_mem _ hx))]
theorem cut_pre (c : UInt8) (p r : List UInt8) (h : c ∉ p) : cutF c (p ++ r) = preF p (cutF c r) := by
  induction p with
  | nil => obtain ⟨a, t, e⟩ := cut_ne c r; rw [List.nil_append, e]; rfl
  | cons x s ih =>
    simp only [List.mem_cons, not_or] at h
    show cutF c (x :: (s ++ r)) = _
    rw [cutF, if_neg (fun e => h.1 e.symm), ih h.2]
    obtain ⟨a, t, e⟩ := cut_ne c r
    rw [e]; rfl

theorem index_mem (w : List UInt8) (c : UInt8) : decide (0 ≤ Lib.indexByte w c) = w.any (· == c) := by
  induction w with
  | nil => rfl
  | cons b l ih =>
    have hge := Lib.indexByte_ge l c
    rw [Lib.indexByte, List.any_cons, ← ih]
    cases h : (b == c)
    · simp only [Bool.false_eq_true, if_false, Bool.false_or]
      split
      · rename_i h2
        have := beq_iff_eq.1 h2
        simp [this]
      · rename_i h2
        have : ¬ Lib.indexByte l c = -1 := fun e => h2 (beq_iff_eq.2 e)
        have h0 : 0 ≤ Lib.indexByte l c := by omega
        simp only [h0, decide_true]
        simp
        omega
    · simp
def badB (x : UInt8) : Bool := x == 32 || x == 10
theorem okW_R (w : List UInt8) : okW w = (!w.isEmpty && !w.any badB) := by
  unfold okW
  rw [index_mem, index_mem]
  have : w.any badB = (w.any (· == 32) || w.any (· == 10)) := by
    induction w with
    | nil => rfl
    | cons a l ih => rw [List.any_cons, List.any_cons, List.any_cons, ih]; unfold badB; cases (a == 32) <;> cases (a == 10) <;> cases (l.any (· == 32)) <;> rfl
  rw [this]
  cases w.isEmpty <;> cases w.any (· == 32) <;> cases w.any (· == 10) <;> rfl
theorem okW_free {w : List UInt8} (h : okW w = true) : (32 : UInt8) ∉ w ∧ w ≠ [] := by
  unfold okW at h
  rw [index_mem, index_mem] at h
  simp at h
  exact ⟨fun hm => h.1.2 32 hm rfl, h.1.1⟩

def lineF (l : List (List UInt8)) : List UInt8 × Bool := if l.all okW = true then (Lib.join l [32], true) else ([], false)
def splitF (s : List UInt8) : List (List UInt8) × Bool := if s = [] then ([], true) else if (cutF 32 s).all okW = true then (cutF 32 s, true) else ([], false)
theorem join_ne {l : List (List UInt8)} (h : l.all okW = true) (hl : l ≠ []) : Lib.join l [32] ≠ [] := by
  cases l with
  | nil => exact absurd rfl hl
  | cons w t =>
    rw [Lib.join_cons]
    have := (okW_free (w := w) (by simp at h; exact h.1)).2
    simp [this]
theorem split_line (l : List (List UInt8)) (h : l.all okW = true) : splitF (Lib.join l [32]) = (l, true) := by
  by_cases hl : l = []
  · subst hl; rfl
  · unfold splitF
    rw [if_neg (join_ne h hl), cut_join 32 l hl (fun w hw => (okW_free (List.all_eq_true.1 h w hw)).1), if_pos h]
def linesF (s : List UInt8) : List (List UInt8) × Bool := if (cutF 10 s).getLast? = some [] then ((cutF 10 s).dropLast, true) else ([], false)
end Go.Proofs.YtfloijkagfabpaaGreatDoor
/-
  Numbers as digits: plain laws of limits and of lists.
-/
namespace Go.Proofs.YtfloijkagfabpaaGreatDoor
set_option linter.unusedSimpArgs false
set_option linter.unusedVariables false
set_option linter.unusedSectionVars false
open Go.ChangeShapes Go.WideShapes Go.ChangeAt Go.RowKit Go.Deep

def natGo (most : Int) : List UInt8 → Int → Option Int
  | [], n => some n
  | c :: r, n => if (c.toNat : Int) < 48 ∨ 57 < (c.toNat : Int) then none else if most < 10 * n + ((c.toNat : Int) - 48) then none else natGo most r (10 * n + ((c.toNat : Int) - 48))
def natE : Option Int → Int × Bool
  | some n => (n, true)
  | none => (0, false)
def natF (s : List UInt8) (most : Int) : Int × Bool := if s = [] ∨ most < 0 then (0, false) else natE (natGo most s 0)

def listF (l : List Int) : List UInt8 := Lib.join (l.map Lib.itoa) [44]
def readAll : List (List UInt8) → Option (List Int)
  | [] => some []
  | x :: r => if (readF x).2 = true then (readAll r).map ((readF x).1 :: ·) else none
def rlE : Option (List Int) → List Int × Bool
  | some l => (l, true)
  | none => ([], false)
def rlF (s : List UInt8) : List Int × Bool := if s = [] then ([], true) else rlE (readAll (cutF 44 s))
def goodI (n : Int) : Prop := -9223372036854775808 ≤ n ∧ n ≤ 9223372036854775807
theorem itoa_ne (n : Int) : Lib.itoa n ≠ [] := by
  rcases Int.lt_or_le n 0 with h | h
  · obtain ⟨m, rfl⟩ : ∃ m : Nat, n = -(m : Int) := ⟨n.natAbs, by omega⟩
    rw [itoa_minus m (by omega)]; simp
  · obtain ⟨m, rfl⟩ : ∃ m : Nat, n = (m : Int) := ⟨n.toNat, by omega⟩
    rw [itoa_pos m]; exact dec_ne m
theorem itoa_free (n : Int) : (44 : UInt8) ∉ Lib.itoa n := by
  intro h
  rcases Int.lt_or_le n 0 with h0 | h0
  · obtain ⟨m, rfl⟩ : ∃ m : Nat, n = -(m : Int) := ⟨n.natAbs, by omega⟩
    rw [itoa_minus m (by omega)] at h
    rcases List.mem_cons.1 h with h | h
    · cases h
    · have := dec_bytes m m (Nat.le_refl _) _ h
      simp at this
  · obtain ⟨m, rfl⟩ : ∃ m : Nat, n = (m : Int) := ⟨n.toNat, by omega⟩
    rw [itoa_pos m] at h
    have := dec_bytes m m (Nat.le_refl _) _ h
    simp at this
theorem readAll_itoa : ∀ (l : List Int), (∀ n ∈ l, goodI n) → readAll (l.map Lib.itoa) = some l
  | [], _ => rfl
  | n :: r, h => by
    have h1 := h n (by simp)
    rw [List.map_cons, readAll, readF_itoa h1.1 h1.2, if_pos rfl, readAll_itoa r (fun x hx => h x (by simp [hx]))]
    rfl
theorem rlF_list (l : List Int) (h : ∀ n ∈ l, goodI n) : rlF (listF l) = (l, true) := by
  unfold rlF listF
  by_cases hl : l = []
  · subst hl; rfl
  · have hne : l.map Lib.itoa ≠ [] := by simpa using hl
    have hj : Lib.join (l.map Lib.itoa) [44] ≠ [] := by
      cases l with
      | nil => exact absurd rfl hl
      | cons n r =>
        rw [List.map_cons, Lib.join_cons]
        have := itoa_ne n
        simp [this]
    rw [if_neg hj, cut_join 44 _ hne (fun w hw => by obtain ⟨n, _, rfl⟩ := List.mem_map.1 hw; exact itoa_free n), readAll_itoa l h]
    rfl
theorem readAll_some : ∀ (p : List (List UInt8)) (l : List Int), readAll p = some l → l.map Lib.itoa = p ∧ ∀ n ∈ l, goodI n
  | [], l, h => by simp only [readAll] at h; injection h with h; subst h; simp
  | x :: r, l, h => by
    rw [readAll] at h
    cases hx : (readF x).2
    · rw [hx] at h; simp at h
    · rw [hx, if_pos rfl] at h
      cases hr : readAll r with
      | none => rw [hr] at h; cases h
      | some t =>
        rw [hr] at h
        simp only [Option.map_some, Option.some.injEq] at h
        subst h
        obtain ⟨h1, h2⟩ := readAll_some r t hr
        obtain ⟨h3, h4, h5⟩ := readF_yes hx
        refine ⟨by rw [List.map_cons, h1, h3], fun n hn => ?_⟩
        rcases List.mem_cons.1 hn with rfl | hn
        · exact ⟨h4, h5⟩
        · exact h2 n hn
theorem rlF_back {s : List UInt8} (h : (rlF s).2 = true) : listF (rlF s).1 = s ∧ ∀ n ∈ (rlF s).1, goodI n := by
  unfold rlF at h ⊢
  by_cases h0 : s = []
  · rw [if_pos h0]; subst h0; exact ⟨rfl, by simp⟩
  · rw [if_neg h0] at h ⊢
    cases hr : readAll (cutF 44 s) with
    | none => rw [hr] at h; cases h
    | some l =>
      obtain ⟨h1, h2⟩ := readAll_some _ _ hr
      refine ⟨?_, h2⟩
      show Lib.join (l.map Lib.itoa) [44] = s
      rw [h1, join_cut]
theorem readAll_append : ∀ (p q : List (List UInt8)) (l : List Int), readAll p = some l → readAll (p ++ q) = (readAll q).map (l ++ ·)
  | [], q, l, h => by simp only [readAll] at h; injection h with h; subst h; cases h : readAll q <;> simp [h]
  | x :: r, q, l, h => by
    rw [readAll] at h
    cases hx : (readF x).2
    · rw [hx] at h; simp at h
    · rw [hx, if_pos rfl] at h
      cases hr : readAll r with
      | none => rw [hr] at h; cases h
      | some t =>
        rw [hr] at h
        simp only [Option.map_some, Option.some.injEq] at h
        subst h
        rw [List.cons_append, readAll, hx, if_pos rfl, readAll_append r q t hr]
        cases readAll q <;> rfl
theorem readAll_len : ∀ (p : List (List UInt8)) (l : List Int), readAll p = some l → l.length = p.length
  | [], l, h => by simp only [readAll] at h; injection h with h; subst h; rfl
  | x :: r, l, h => by
    rw [readAll] at h
    cases hx : (readF x).2
    · rw [hx] at h; simp at h
    · rw [hx, if_pos rfl] at h
      cases hr : readAll r with
      | none => rw [hr] at h; cases h
      | some t =>
        rw [hr] at h
        simp only [Option.map_some, Option.some.injEq] at h
        subst h
        simp [readAll_len r t hr]
theorem rlF_len (s : List UInt8) : (rlF s).1.length ≤ s.length + 1 := by
  unfold rlF
  split
  · simp
  · cases h : readAll (cutF 44 s) with
    | none => simp [rlE]
    | some l => have := readAll_len _ _ h; have := cut_len 44 s; simp [rlE]; omega
theorem take_join_c (c : UInt8) (l : List (List UInt8)) (k : Nat) (hlt : k < l.length) : Lib.join (l.take (k + 1)) [c] = if k = 0 then l[k] else Lib.join (l.take k) [c] ++ [c] ++ l[k] := by
  cases l with
  | nil => simp at hlt
  | cons x r =>
    cases k with
    | zero => simp [Lib.join_one]
    | succ k =>
      rw [if_neg (by omega), List.take_succ_cons, List.take_succ_cons, Lib.join_cons, Lib.join_cons]
      have hk : k < r.length := by simpa using hlt
      rw [Lib.joinTail_take_succ [c] r k r[k] (List.getElem?_eq_getElem hk)]
      simp
theorem list_step (l : List Int) (k : Nat) (hlt : k < l.length) : listF (l.take (k + 1)) = if k = 0 then Lib.itoa l[k] else listF (l.take k) ++ [44] ++ Lib.itoa l[k] := by
  unfold listF
  rw [List.map_take, List.map_take, take_join_c 44 _ k (by simpa using hlt)]
  simp
theorem list_len (l : List Int) (h : ∀ n ∈ l, goodI n) : (listF l).length ≤ 21 * l.length := by
  have : ∀ k, k ≤ l.length → (listF (l.take k)).length ≤ 21 * k := by
    intro k
    induction k with
    | zero => intro _; simp [listF, Lib.join_nil]
    | succ k ih =>
      intro hk
      have h1 := ih (by omega)
      have hb := h _ (List.getElem_mem (show k < l.length by omega))
      have h2 := itoa_len hb.1 hb.2
      rw [list_step l k (by omega)]
      split
      · omega
      · simp; omega
  have := this l.length (Nat.le_refl _)
  rwa [List.take_length] at this
end Go.Proofs.YtfloijkagfabpaaGreatDoor
