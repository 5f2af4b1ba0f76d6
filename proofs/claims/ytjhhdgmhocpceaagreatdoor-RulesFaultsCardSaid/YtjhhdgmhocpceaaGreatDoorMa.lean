/-
  Parts of the proof, one behind the other: contracts of the program and plain laws; no condition of their own.
-/
import Derived.Test.YtjhhdgmhocpceaaGreatDoorBase
import Derived.Lib.AtoiAllCases
import Derived.Lib.ItoaLen
import Derived.Maps.AppendAt
import Derived.Deep.AppendLies
import Derived.Deep.RegionHeld3
import Derived.Test.YtjhhdgmhocpceaaGreatDoorShelf
import Derived.Lib.SlBytesRow
import Derived.Lib.BufferRead
import Derived.Deep.QuietTactic
import Derived.BigQuiet
/-
  Numbers as digits: plain laws.
-/
namespace Go.Proofs.YtjhhdgmhocpceaaGreatDoor
set_option linter.unusedSimpArgs false
set_option linter.unusedVariables false
set_option linter.unusedSectionVars false
open Go.ChangeShapes Go.WideShapes Go.ChangeAt Go.RowKit Go.Deep

theorem dec_lo {n : Nat} (h : n < 10) : Lib.decDigits n = [UInt8.ofNat (48 + n)] := by rw [Lib.decDigits, dif_pos h]
theorem dec_hi {n : Nat} (h : ¬ n < 10) : Lib.decDigits n = Lib.decDigits (n / 10) ++ [UInt8.ofNat (48 + n % 10)] := by rw [Lib.decDigits, dif_neg h]
theorem dec_byte {d : Nat} (h : d < 10) : (UInt8.ofNat (48 + d)).toNat = 48 + d := by
  rw [UInt8.toNat_ofNat', Nat.mod_eq_of_lt (by omega)]
theorem dec_ne (n : Nat) : Lib.decDigits n ≠ [] := by
  by_cases h : n < 10
  · rw [dec_lo h]; simp
  · rw [dec_hi h]; simp
theorem dec_bytes : ∀ (k n : Nat), n ≤ k → ∀ c ∈ Lib.decDigits n, 48 ≤ c.toNat ∧ c.toNat ≤ 57
  | k, n, h, c, hc => by
    by_cases h10 : n < 10
    · rw [dec_lo h10] at hc
      simp only [List.mem_singleton] at hc
      subst hc
      rw [dec_byte h10]; omega
    · rw [dec_hi h10] at hc
      rcases List.mem_append.1 hc with hc | hc
      · cases k with
        | zero => omega
        | succ k => exact dec_bytes k (n / 10) (by omega) c hc
      · simp only [List.mem_singleton] at hc
        subst hc
        rw [dec_byte (by omega)]; omega
theorem dec_len : ∀ (k n : Nat), n < 10 ^ (k + 1) → (Lib.decDigits n).length ≤ k + 1
  | 0, n, h => by rw [dec_lo (by omega)]; simp
  | k + 1, n, h => by
    by_cases h10 : n < 10
    · rw [dec_lo h10]; simp
    · rw [dec_hi h10]
      have := dec_len k (n / 10) (by rw [Nat.pow_succ] at h; omega)
      simp; omega
theorem itoa_pos (n : Nat) : Lib.itoa (n : Int) = Lib.decDigits n := by unfold Lib.itoa; rw [if_neg (by omega)]; simp
theorem itoa_minus (n : Nat) (h : 1 ≤ n) : Lib.itoa (-(n : Int)) = 45 :: Lib.decDigits n := by unfold Lib.itoa; rw [if_pos (by omega)]; simp
theorem itoa_len {n : Int} (h0 : -9223372036854775808 ≤ n) (h1 : n ≤ 9223372036854775807) : (Lib.itoa n).length ≤ 20 := by
  rcases Int.lt_or_le n 0 with h | h
  · obtain ⟨m, rfl⟩ : ∃ m : Nat, n = -(m : Int) := ⟨n.natAbs, by omega⟩
    rw [itoa_minus m (by omega)]
    have := dec_len 18 m (by omega)
    simp; omega
  · obtain ⟨m, rfl⟩ : ∃ m : Nat, n = (m : Int) := ⟨n.toNat, by omega⟩
    rw [itoa_pos m]
    have := dec_len 18 m (by omega)
    omega

theorem parse_append : ∀ (x y : List UInt8) (a u : Nat), Lib.parseUint10 a x = .ok u → Lib.parseUint10 a (x ++ y) = Lib.parseUint10 u y
  | [], y, a, u, h => by simp only [Lib.parseUint10] at h; injection h with h; subst h; rfl
  | c :: r, y, a, u, h => by
    rw [List.cons_append]
    rw [Lib.parseUint10] at h ⊢
    by_cases h1 : 48 ≤ c.toNat ∧ c.toNat ≤ 57
    · rw [if_pos h1] at h
      rw [if_pos h1]
      by_cases h2 : 1844674407370955162 ≤ a
      · rw [if_pos h2] at h; cases h
      · rw [if_neg h2] at h
        rw [if_neg h2]
        by_cases h3 : 18446744073709551616 ≤ a * 10 + (c.toNat - 48)
        · rw [if_pos h3] at h; cases h
        · rw [if_neg h3] at h
          rw [if_neg h3]
          exact parse_append r y _ u h
    · rw [if_neg h1] at h; cases h
theorem parse_one {a d : Nat} (hd : d < 10) (ha : a * 10 + d < 18446744073709551616) : Lib.parseUint10 a [UInt8.ofNat (48 + d)] = .ok (a * 10 + d) := by
  unfold Lib.parseUint10
  rw [dec_byte hd, if_pos (by omega), if_neg (by omega), if_neg (by omega)]
  simp [Lib.parseUint10]
theorem parse_dec : ∀ (k n : Nat), n ≤ k → n < 18446744073709551616 → Lib.parseUint10 0 (Lib.decDigits n) = .ok n
  | k, n, h, hn => by
    by_cases h10 : n < 10
    · rw [dec_lo h10, parse_one h10 (by omega)]; simp
    · rw [dec_hi h10]
      cases k with
      | zero => omega
      | succ k =>
        rw [parse_append _ _ _ _ (parse_dec k (n / 10) (by omega) (by omega)), parse_one (by omega) (by omega)]
        congr 1; omega
theorem dec_head (n : Nat) : ∃ c r, Lib.decDigits n = c :: r ∧ 48 ≤ c.toNat ∧ c.toNat ≤ 57 := by
  have := dec_bytes n n (Nat.le_refl _)
  cases h : Lib.decDigits n with
  | nil => exact absurd h (dec_ne n)
  | cons c r => exact ⟨c, r, rfl, this c (by rw [h]; simp)⟩
theorem atoi_itoa {n : Int} (h0 : -9223372036854775808 ≤ n) (h1 : n ≤ 9223372036854775807) : Lib.atoiAll (Lib.itoa n) = .ok n := by
  rcases Int.lt_or_le n 0 with h | h
  · obtain ⟨m, rfl⟩ : ∃ m : Nat, n = -(m : Int) := ⟨n.natAbs, by omega⟩
    rw [itoa_minus m (by omega), Lib.atoiAll_minus]
    unfold Lib.parseMag
    rw [if_neg (dec_ne m), parse_dec m m (Nat.le_refl _) (by omega)]
    simp only [Lib.signed]
    rw [if_neg (by omega)]
  · obtain ⟨m, rfl⟩ : ∃ m : Nat, n = (m : Int) := ⟨n.toNat, by omega⟩
    rw [itoa_pos m]
    have hp := parse_dec m m (Nat.le_refl _) (by omega)
    obtain ⟨c, r, he, hc0, hc1⟩ := dec_head m
    rw [he] at hp ⊢
    rw [Lib.atoiAll_plain c r (by omega) (by omega)]
    unfold Lib.parseMag
    rw [if_neg (by simp), hp]
    simp only [Lib.signless]
    rw [if_neg (by omega)]
def readF (s : List UInt8) : Int × Bool :=
  match Lib.atoiAll s with
  | .ok v => if Lib.itoa v = s then (v, true) else (0, false)
  | _ => (0, false)
theorem readF_itoa {n : Int} (h0 : -9223372036854775808 ≤ n) (h1 : n ≤ 9223372036854775807) : readF (Lib.itoa n) = (n, true) := by
  unfold readF; rw [atoi_itoa h0 h1]; simp
theorem readF_ok {s : List UInt8} {v : Int} (h : Lib.atoiAll s = .ok v) : readF s = if Lib.itoa v = s then (v, true) else (0, false) := by
  unfold readF; rw [h]
theorem readF_bad {s : List UInt8} (h : ∀ v, Lib.atoiAll s ≠ .ok v) : readF s = (0, false) := by
  unfold readF
  split
  · rename_i v hv; exact absurd hv (h v)
  · rfl
theorem readF_yes {s : List UInt8} (h : (readF s).2 = true) : Lib.itoa (readF s).1 = s ∧ -9223372036854775808 ≤ (readF s).1 ∧ (readF s).1 ≤ 9223372036854775807 := by
  by_cases hok : ∃ v, Lib.atoiAll s = .ok v
  · obtain ⟨v, ha⟩ := hok
    rw [readF_ok ha] at h ⊢
    by_cases hs : Lib.itoa v = s
    · rw [if_pos hs]; exact ⟨hs, Lib.atoiAll_bounds ha⟩
    · rw [if_neg hs] at h; cases h
  · rw [readF_bad fun v hv => hok ⟨v, hv⟩] at h; cases h
theorem readF_no {s : List UInt8} (h : (readF s).2 = false) : readF s = (0, false) := by
  by_cases hok : ∃ v, Lib.atoiAll s = .ok v
  · obtain ⟨v, ha⟩ := hok
    rw [readF_ok ha] at h ⊢
    by_cases hs : Lib.itoa v = s
    · rw [if_pos hs] at h; cases h
    · rw [if_neg hs]
  · exact readF_bad fun v hv => hok ⟨v, hv⟩

/-! The document's reading. -/
def vlGo : List UInt8 → Int → Option Int
  | [], n => some n
  | c :: r, n => if (c.toNat : Int) < 48 ∨ 57 < (c.toNat : Int) then none else if n < -922337203685477580 ∨ (n = -922337203685477580 ∧ 8 < (c.toNat : Int) - 48) then none else vlGo r (10 * n - ((c.toNat : Int) - 48))
def vlF (s : List UInt8) : Int × Bool := match vlGo s 0 with
  | some n => (n, !s.isEmpty)
  | none => (0, false)
theorem vlGo_lo : ∀ (s : List UInt8) (n m : Int), -9223372036854775808 ≤ n → n ≤ 0 → vlGo s n = some m → -9223372036854775808 ≤ m ∧ m ≤ 0
  | [], n, m, h0, h1, h => by simp only [vlGo] at h; injection h with h; subst h; exact ⟨h0, h1⟩
  | c :: r, n, m, h0, h1, h => by
    unfold vlGo at h
    split at h
    · cases h
    · split at h
      · cases h
      · exact vlGo_lo r _ m (by omega) (by omega) h
theorem vlGo_append : ∀ (x y : List UInt8) (a u : Int), vlGo x a = some u → vlGo (x ++ y) a = vlGo y u
  | [], y, a, u, h => by simp only [vlGo] at h; injection h with h; subst h; rfl
  | c :: r, y, a, u, h => by
    rw [List.cons_append]
    rw [vlGo] at h ⊢
    split at h
    · cases h
    · rename_i h1
      rw [if_neg h1]
      split at h
      · cases h
      · rename_i h2
        rw [if_neg h2]
        exact vlGo_append r y _ u h
theorem vl_one {a : Int} {d : Nat} (hd : d < 10) (ha : ¬ (a < -922337203685477580 ∨ (a = -922337203685477580 ∧ 8 < d))) : vlGo [UInt8.ofNat (48 + d)] a = some (10 * a - d) := by
  rw [vlGo, dec_byte hd, if_neg (by omega), if_neg (by omega)]
  simp only [vlGo]
  congr 1; omega
theorem vl_dec : ∀ (k n : Nat), n ≤ k → n ≤ 9223372036854775808 → vlGo (Lib.decDigits n) 0 = some (-(n : Int))
  | k, n, h, hn => by
    by_cases h10 : n < 10
    · rw [dec_lo h10, vl_one h10 (by omega)]; congr 1; omega
    · rw [dec_hi h10]
      cases k with
      | zero => omega
      | succ k =>
        rw [vlGo_append _ _ _ _ (vl_dec k (n / 10) (by omega) (by omega)), vl_one (by omega) (by omega)]
        congr 1; omega
def readB (s : List UInt8) : Int × Bool :=
  match s with
  | [] => (0, false)
  | c :: r => if (c == 45) = true then vlF r else (-(vlF s).1, (vlF s).2)
def readR (s : List UInt8) : Int × Bool :=
  if 20 < (s.length : Int) ∨ s = [] then (0, false)
  else if (s.head?.map (· == 45)) = some true then (if (vlF s.tail).2 = true ∧ Lib.itoa (vlF s.tail).1 = s then ((vlF s.tail).1, true) else (0, false))
  else if (vlF s).1 = -9223372036854775808 then (0, false)
  else if (vlF s).2 = true ∧ Lib.itoa (-(vlF s).1) = s then (-(vlF s).1, true) else (0, false)
theorem vlF_bd (s : List UInt8) : -9223372036854775808 ≤ (vlF s).1 ∧ (vlF s).1 ≤ 0 := by
  unfold vlF
  cases h : vlGo s 0 with
  | none => exact ⟨by simp, by simp⟩
  | some n => exact vlGo_lo s 0 n (by omega) (by omega) h
theorem readR_itoa {n : Int} (h0 : -9223372036854775808 ≤ n) (h1 : n ≤ 9223372036854775807) : readR (Lib.itoa n) = (n, true) := by
  have hl := itoa_len h0 h1
  unfold readR
  rcases Int.lt_or_le n 0 with h | h
  · obtain ⟨m, rfl⟩ : ∃ m : Nat, n = -(m : Int) := ⟨n.natAbs, by omega⟩
    have hv : vlF (Lib.decDigits m) = (-(m : Int), true) := by
      unfold vlF
      rw [vl_dec m m (Nat.le_refl _) (by omega)]
      simp only [Prod.mk.injEq, true_and]
      cases hd : Lib.decDigits m with
      | nil => exact absurd hd (dec_ne m)
      | cons => rfl
    have hi := itoa_minus m (by omega)
    rw [hi] at hl ⊢
    rw [if_neg (by simp at hl ⊢; omega), if_pos (by simp), List.tail_cons, hv]
    rw [if_pos ⟨rfl, hi⟩]
  · obtain ⟨m, rfl⟩ : ∃ m : Nat, n = (m : Int) := ⟨n.toNat, by omega⟩
    have hv : vlF (Lib.decDigits m) = (-(m : Int), true) := by
      unfold vlF
      rw [vl_dec m m (Nat.le_refl _) (by omega)]
      simp only [Prod.mk.injEq, true_and]
      cases hd : Lib.decDigits m with
      | nil => exact absurd hd (dec_ne m)
      | cons => rfl
    have hi := itoa_pos m
    rw [hi] at hl ⊢
    have hne := dec_ne m
    obtain ⟨c, r, he, hc0, hc1⟩ := dec_head m
    have hh : (Lib.decDigits m).head?.map (· == 45) = some false := by
      rw [he]
      simp only [List.head?_cons, Option.map_some, Option.some.injEq, beq_eq_false_iff_ne, ne_eq]
      intro e; subst e; simp at hc0
    rw [if_neg (by simp only [hne, or_false]; omega), hh, if_neg (by simp), hv, if_neg (by simp only; omega)]
    rw [if_pos ⟨rfl, by simp only [Int.neg_neg]; exact hi⟩]
    simp
theorem readR_yes {s : List UInt8} (h : (readR s).2 = true) : Lib.itoa (readR s).1 = s ∧ -9223372036854775808 ≤ (readR s).1 ∧ (readR s).1 ≤ 9223372036854775807 := by
  have b1 := vlF_bd s
  have b2 := vlF_bd s.tail
  unfold readR at h ⊢
  split
  · rename_i c; rw [if_pos c] at h; cases h
  · rename_i c; rw [if_neg c] at h
    split
    · rename_i d; rw [if_pos d] at h
      split
      · rename_i e; exact ⟨e.2, by simp only; omega, by simp only; omega⟩
      · rename_i e; rw [if_neg e] at h; cases h
    · rename_i d; rw [if_neg d] at h
      split
      · rename_i e; rw [if_pos e] at h; cases h
      · rename_i e; rw [if_neg e] at h
        split
        · rename_i f; exact ⟨f.2, by simp only; omega, by simp only; omega⟩
        · rename_i f; rw [if_neg f] at h; cases h
theorem readR_no {s : List UInt8} (h : (readR s).2 = false) : readR s = (0, false) := by
  unfold readR at h ⊢
  split
  · rfl
  · rename_i c; rw [if_neg c] at h
    split
    · rename_i d; rw [if_pos d] at h
      split
      · rename_i e; rw [if_pos e] at h; cases h
      · rfl
    · rename_i d; rw [if_neg d] at h
      split
      · rfl
      · rename_i e; rw [if_neg e] at h
        split
        · rename_i f; rw [if_pos f] at h; cases h
        · rfl
theorem read_eq (s : List UInt8) : readF s = readR s := by
  cases h : (readF s).2 with
  | true =>
    obtain ⟨h1, h2, h3⟩ := readF_yes h
    have := readR_itoa h2 h3
    rw [h1] at this
    rw [this]
    exact Prod.ext rfl h
  | false =>
    cases h' : (readR s).2 with
    | true =>
      obtain ⟨h1, h2, h3⟩ := readR_yes h'
      have := readF_itoa h2 h3
      rw [h1] at this
      rw [this] at h
      cases h
    | false => rw [readF_no h, readR_no h']
end Go.Proofs.YtjhhdgmhocpceaaGreatDoor
/-
  A world that has grown: what a callee leaves behind that only makes memory. With these rules the walk keeps the blocks of its own written out across calls.
-/
namespace Go
structure Junk where
  heap : Array Obj
  drawn : Nat
def World.more (w : World) (j : Junk) : World := { w with heap := w.heap ++ j.heap, drawn := j.drawn }
section
variable {w : World} {j k : Junk}
@[simp, go_sem] theorem World.size_more : (w.more j).heap.size = w.heap.size + j.heap.size := by simp [World.more]
@[simp, go_sem] theorem World.tape_more : (w.more j).tape = w.tape := rfl
theorem World.heap_more (n : Nat) (hn : n < w.heap.size) : (w.more j).heap[n]? = w.heap[n]? := by
  show (w.heap ++ j.heap)[n]? = _
  rw [Array.getElem?_append_left hn]
@[go_sem] theorem World.cell?_more (n i : Nat) (s : Option Nat) (hn : n < w.heap.size) : (w.more j).cell? ⟨n, i, s⟩ = w.cell? ⟨n, i, s⟩ := by
  unfold World.cell?; rw [World.heap_more n hn]
@[go_sem] theorem World.frozen?_more (n i : Nat) (s : Option Nat) (hn : n < w.heap.size) : (w.more j).frozen? ⟨n, i, s⟩ = w.frozen? ⟨n, i, s⟩ := by
  unfold World.frozen?; rw [World.heap_more n hn]
@[go_sem] theorem World.setCell_more (n i : Nat) (s : Option Nat) (v : Value) (hn : n < w.heap.size) : (w.more j).setCell ⟨n, i, s⟩ v = (w.setCell ⟨n, i, s⟩ v).more j := by
  unfold World.setCell World.more
  congr 1
  apply Array.ext_getElem?
  intro q
  simp only [Array.getElem?_modify, Array.getElem?_append, Array.size_modify]
  by_cases hq : n = q
  · subst hq; simp [hn]
  · simp [hq]
@[go_sem] theorem World.more_drew : w.drew.more j = w.more j := rfl
@[go_sem] theorem World.more_drewN (n : Nat) : (w.drewN n).more j = w.more j := rfl
@[go_sem] theorem World.more_more : (w.more j).more k = w.more ⟨j.heap ++ k.heap, k.drawn⟩ := by
  simp [World.more, Array.append_assoc]
@[go_sem] theorem lt_new1 {a c0 : Nat} : (a < a + 1 + c0) = True := eq_true (by omega)
@[go_sem] theorem lt_old1 {a b c0 : Nat} (h : a < b) : (a < b + c0) = True := eq_true (by omega)
@[go_sem] theorem lt_new2 {a c0 c1 : Nat} : (a < a + 1 + c0 + c1) = True := eq_true (by omega)
@[go_sem] theorem lt_old2 {a b c0 c1 : Nat} (h : a < b) : (a < b + c0 + c1) = True := eq_true (by omega)
@[go_sem] theorem lt_new3 {a c0 c1 c2 : Nat} : (a < a + 1 + c0 + c1 + c2) = True := eq_true (by omega)
@[go_sem] theorem lt_old3 {a b c0 c1 c2 : Nat} (h : a < b) : (a < b + c0 + c1 + c2) = True := eq_true (by omega)
@[go_sem] theorem lt_new4 {a c0 c1 c2 c3 : Nat} : (a < a + 1 + c0 + c1 + c2 + c3) = True := eq_true (by omega)
@[go_sem] theorem lt_old4 {a b c0 c1 c2 c3 : Nat} (h : a < b) : (a < b + c0 + c1 + c2 + c3) = True := eq_true (by omega)
@[go_sem] theorem lt_new5 {a c0 c1 c2 c3 c4 : Nat} : (a < a + 1 + c0 + c1 + c2 + c3 + c4) = True := eq_true (by omega)
@[go_sem] theorem lt_old5 {a b c0 c1 c2 c3 c4 : Nat} (h : a < b) : (a < b + c0 + c1 + c2 + c3 + c4) = True := eq_true (by omega)
@[go_sem] theorem lt_new6 {a c0 c1 c2 c3 c4 c5 : Nat} : (a < a + 1 + c0 + c1 + c2 + c3 + c4 + c5) = True := eq_true (by omega)
@[go_sem] theorem lt_old6 {a b c0 c1 c2 c3 c4 c5 : Nat} (h : a < b) : (a < b + c0 + c1 + c2 + c3 + c4 + c5) = True := eq_true (by omega)
@[go_sem] theorem lt_new7 {a c0 c1 c2 c3 c4 c5 c6 : Nat} : (a < a + 1 + c0 + c1 + c2 + c3 + c4 + c5 + c6) = True := eq_true (by omega)
@[go_sem] theorem lt_old7 {a b c0 c1 c2 c3 c4 c5 c6 : Nat} (h : a < b) : (a < b + c0 + c1 + c2 + c3 + c4 + c5 + c6) = True := eq_true (by omega)
@[go_sem] theorem lt_new8 {a c0 c1 c2 c3 c4 c5 c6 c7 : Nat} : (a < a + 1 + c0 + c1 + c2 + c3 + c4 + c5 + c6 + c7) = True := eq_true (by omega)
@[go_sem] theorem lt_old8 {a b c0 c1 c2 c3 c4 c5 c6 c7 : Nat} (h : a < b) : (a < b + c0 + c1 + c2 + c3 + c4 + c5 + c6 + c7) = True := eq_true (by omega)
@[go_sem] theorem lt_new9 {a c0 c1 c2 c3 c4 c5 c6 c7 c8 : Nat} : (a < a + 1 + c0 + c1 + c2 + c3 + c4 + c5 + c6 + c7 + c8) = True := eq_true (by omega)
@[go_sem] theorem lt_old9 {a b c0 c1 c2 c3 c4 c5 c6 c7 c8 : Nat} (h : a < b) : (a < b + c0 + c1 + c2 + c3 + c4 + c5 + c6 + c7 + c8) = True := eq_true (by omega)
@[go_sem] theorem lt_new10 {a c0 c1 c2 c3 c4 c5 c6 c7 c8 c9 : Nat} : (a < a + 1 + c0 + c1 + c2 + c3 + c4 + c5 + c6 + c7 + c8 + c9) = True := eq_true (by omega)
@[go_sem] theorem lt_old10 {a b c0 c1 c2 c3 c4 c5 c6 c7 c8 c9 : Nat} (h : a < b) : (a < b + c0 + c1 + c2 + c3 + c4 + c5 + c6 + c7 + c8 + c9) = True := eq_true (by omega)
@[go_sem] theorem lt_new11 {a c0 c1 c2 c3 c4 c5 c6 c7 c8 c9 c10 : Nat} : (a < a + 1 + c0 + c1 + c2 + c3 + c4 + c5 + c6 + c7 + c8 + c9 + c10) = True := eq_true (by omega)
@[go_sem] theorem lt_old11 {a b c0 c1 c2 c3 c4 c5 c6 c7 c8 c9 c10 : Nat} (h : a < b) : (a < b + c0 + c1 + c2 + c3 + c4 + c5 + c6 + c7 + c8 + c9 + c10) = True := eq_true (by omega)
@[go_sem] theorem lt_new12 {a c0 c1 c2 c3 c4 c5 c6 c7 c8 c9 c10 c11 : Nat} : (a < a + 1 + c0 + c1 + c2 + c3 + c4 + c5 + c6 + c7 + c8 + c9 + c10 + c11) = True := eq_true (by omega)
@[go_sem] theorem lt_old12 {a b c0 c1 c2 c3 c4 c5 c6 c7 c8 c9 c10 c11 : Nat} (h : a < b) : (a < b + c0 + c1 + c2 + c3 + c4 + c5 + c6 + c7 + c8 + c9 + c10 + c11) = True := eq_true (by omega)
@[go_sem] theorem lt_new13 {a c0 c1 c2 c3 c4 c5 c6 c7 c8 c9 c10 c11 c12 : Nat} : (a < a + 1 + c0 + c1 + c2 + c3 + c4 + c5 + c6 + c7 + c8 + c9 + c10 + c11 + c12) = True := eq_true (by omega)
@[go_sem] theorem lt_old13 {a b c0 c1 c2 c3 c4 c5 c6 c7 c8 c9 c10 c11 c12 : Nat} (h : a < b) : (a < b + c0 + c1 + c2 + c3 + c4 + c5 + c6 + c7 + c8 + c9 + c10 + c11 + c12) = True := eq_true (by omega)
@[go_sem] theorem lt_new14 {a c0 c1 c2 c3 c4 c5 c6 c7 c8 c9 c10 c11 c12 c13 : Nat} : (a < a + 1 + c0 + c1 + c2 + c3 + c4 + c5 + c6 + c7 + c8 + c9 + c10 + c11 + c12 + c13) = True := eq_true (by omega)
@[go_sem] theorem lt_old14 {a b c0 c1 c2 c3 c4 c5 c6 c7 c8 c9 c10 c11 c12 c13 : Nat} (h : a < b) : (a < b + c0 + c1 + c2 + c3 + c4 + c5 + c6 + c7 + c8 + c9 + c10 + c11 + c12 + c13) = True := eq_true (by omega)
@[go_sem] theorem lt_new15 {a c0 c1 c2 c3 c4 c5 c6 c7 c8 c9 c10 c11 c12 c13 c14 : Nat} : (a < a + 1 + c0 + c1 + c2 + c3 + c4 + c5 + c6 + c7 + c8 + c9 + c10 + c11 + c12 + c13 + c14) = True := eq_true (by omega)
@[go_sem] theorem lt_old15 {a b c0 c1 c2 c3 c4 c5 c6 c7 c8 c9 c10 c11 c12 c13 c14 : Nat} (h : a < b) : (a < b + c0 + c1 + c2 + c3 + c4 + c5 + c6 + c7 + c8 + c9 + c10 + c11 + c12 + c13 + c14) = True := eq_true (by omega)
@[go_sem] theorem lt_new16 {a c0 c1 c2 c3 c4 c5 c6 c7 c8 c9 c10 c11 c12 c13 c14 c15 : Nat} : (a < a + 1 + c0 + c1 + c2 + c3 + c4 + c5 + c6 + c7 + c8 + c9 + c10 + c11 + c12 + c13 + c14 + c15) = True := eq_true (by omega)
@[go_sem] theorem lt_old16 {a b c0 c1 c2 c3 c4 c5 c6 c7 c8 c9 c10 c11 c12 c13 c14 c15 : Nat} (h : a < b) : (a < b + c0 + c1 + c2 + c3 + c4 + c5 + c6 + c7 + c8 + c9 + c10 + c11 + c12 + c13 + c14 + c15) = True := eq_true (by omega)
end
namespace RowKit
theorem Below.ofMore {B : Nat} {a w : World} (h : Below B a w) (hB : B ≤ w.heap.size) (j : Junk) : Below B a (w.more j) :=
  h.trans ⟨rfl, rfl, rfl, by simp, fun k hk => World.heap_more k (by omega)⟩
theorem Below.junk {w w' : World} (h : Below w.heap.size w w') : ∃ j, w' = w.more j := by
  refine ⟨⟨w'.heap.extract w.heap.size w'.heap.size, w'.drawn⟩, ?_⟩
  have e : w'.heap = w.heap ++ w'.heap.extract w.heap.size w'.heap.size := by
    apply Array.ext_getElem?
    intro k
    rw [Array.getElem?_append]
    split
    · rename_i hk; exact h.block k hk
    · rename_i hk
      rw [Array.getElem?_extract]
      have := h.size
      by_cases hk2 : k < w'.heap.size
      · rw [if_pos (by omega)]; congr 1; omega
      · rw [if_neg (by omega), Array.getElem?_eq_none (by omega)]
  cases w'
  cases w
  obtain ⟨h1, h2, h3, h4, h5⟩ := h
  simp only at h1 h2 h3 e
  subst h1 h2 h3
  simp only [World.more]
  exact congrArg (fun x => ({ heap := x, tape := _, drawn := _, os := _, output := _ } : World)) e
theorem Below.allocS {a w : World} (h : Below a.heap.size a w) (o : Obj) : Below a.heap.size a (w.alloc o) := h.alloc h.size o
theorem Below.moreS {a w : World} (h : Below a.heap.size a w) (j : Junk) : Below a.heap.size a (w.more j) := h.ofMore h.size j
theorem outs {P : Program} {f : Nat} {args : Array Value} {w : World} {v : Value} (h : Calls P f args w fun e w' => e = .returned v ∧ Below w.heap.size w w') : Calls P f args w fun e w' => e = .returned v ∧ ∃ j, w' = w.more j :=
  h.mono fun _ _ ⟨he, hb⟩ => ⟨he, hb.junk⟩
end RowKit
end Go
namespace Go.Proofs.YtjhhdgmhocpceaaGreatDoor
set_option linter.unusedSimpArgs false
set_option linter.unusedVariables false
set_option linter.unusedSectionVars false
open Go.ChangeShapes Go.WideShapes Go.ChangeAt Go.RowKit Go.Deep
theorem Blk.more {w : World} {g : Nat} {t : TypeId} {cs : Array Value} (h : Blk w g t cs) (j : Junk) : Blk (w.more j) g t cs := (World.heap_more g h.lt).trans h
/-! Short words: what a walk asks of a grown world. -/
theorem bel {B : Nat} {a w : World} (h : Below B a w := by repeat (first | (with_reducible exact Below.refl _ _) | (with_reducible refine Below.allocS ?_ _) | (with_reducible refine Below.moreS ?_ _) | (with_reducible refine Below.drew ?_) | (with_reducible refine below_drewN ?_ _))) : Below B a w := h
theorem blk {w : World} {g : Nat} {t : TypeId} {cs : Array Value} (h : Blk w g t cs := by repeat (first | ((with_reducible apply Blk.at_); (simp; done)) | (with_reducible apply Blk.alloc) | (with_reducible apply Blk.more) | (with_reducible apply Blk.drew))) : Blk w g t cs := h
theorem mo {P : Program} {f : FuncId} {args : Array Value} {w : World} {v : Value} {Q : Ending → World → Prop} (h : Calls P f args w fun e w' => e = .returned v ∧ ∃ j, w' = w.more j) (k : ∀ j, Q (.returned v) (w.more j)) : Calls P f args w Q :=
  h.mono fun _ _ ⟨he, j, hj⟩ => he ▸ hj ▸ k j
theorem mq {P : Program} {f : FuncId} {args : Array Value} {w : World} {v : Value} {Q : Ending → World → Prop} (h : Calls P f args w fun e w' => e = .returned v ∧ w = w') (k : Q (.returned v) w) : Calls P f args w Q :=
  h.mono fun _ _ ⟨he, hj⟩ => he ▸ hj ▸ k
end Go.Proofs.YtjhhdgmhocpceaaGreatDoor
/-
  An append whose source is a slice that is known element by element; slices of slices.
-/
namespace Go.Proofs.YtjhhdgmhocpceaaGreatDoor
set_option linter.unusedSimpArgs false
set_option linter.unusedVariables false
set_option linter.unusedSectionVars false
open Go.ChangeShapes Go.WideShapes Go.ChangeAt Go.RowKit Go.Deep

theorem run_append_nil {P : Program} (w : World) (base : Nat) (t ty e : TypeId) (i : TypeInfo) (size : Nat) (ht : P.underlying t = some (.slice e)) (hi : P.info? e = some i)
    (v : Value) (n : Nat) (xs : List Value) (hown : w.ownsRow base e size v n xs) (A : Option Addr) (c : Nat) (hA : A = none) : (Builtin.append_ #[t, t] ty #[v, .slice A 0 c]).run P w = .ok v w := by
  subst hA
  rcases hown.2 with ⟨rfl, rfl⟩ | ⟨g, cap, cur, rfl, _, _, hnc, _⟩
  · simp [Builtin.append_, run_underlying ht, sizeOf, typeInfo, hi, Builtin.lenOf, Builtin.firstCells]
  · simp [Builtin.append_, run_underlying ht, sizeOf, typeInfo, hi, Builtin.lenOf, Builtin.firstCells, hnc, storeCells]

/-- One append: onto a row of the call's own, from a slice that reads as ms. -/
theorem wpList_app_sl {α : Type} {P : Program} {ops : Array Oper} {rest : List Oper} {o : Oper} {a : Act} {Q : Exit → Act → World → Prop} {w : World} {t e : TypeId} {z : Value} {size bytes : Nat} (hT : SliceTy P t e z size bytes)
    (s x : Operand) (hgd : o.guard = none) (ho : o.op = .call { callee := .builtin .append, args := #[s, x], argTypes := #[t, t] })
    {base n : Nat} {v : Value} {xs : List Value} (hs : a.eval s = v) (hown : w.ownsRow base e size v n xs)
    {A : Option Addr} {m c B : Nat} {R : α → List Value → Prop} {cf : α → List Value} {ms : List α} (hx : a.eval x = .slice A m c) (hm : ms.length = m) (hr : SlR w B size R A ms) (hR : ∀ y ∈ ms, ∀ cs, R y cs → cs = cf y) (hc : ∀ y ∈ ms, (cf y).length = size) (h1 : ∀ y ∈ ms, ∀ u ∈ cf y, u.oneCell' = true)
    (h63 : n + m ≤ maxLen) (hbytes : (n + m) * bytes ≤ 140737488355328) (hbase : base ≤ w.heap.size)
    (h : ∀ v' w', w'.ownsRow base e size v' (n + m) (xs ++ ms.flatMap cf) → w.grownBy w' v.ownBlock → wpList P ops Q rest (a.put o.dst v') w') : wpList P ops Q (o :: rest) a w := by
  subst hm
  obtain ⟨i, ht, hi, hz, hsz, hby, hzs, h0⟩ := hT
  rcases A with _ | ad
  · have hms : ms = [] := by
      rcases Nat.eq_zero_or_pos ms.length with hn | hp
      · exact List.eq_nil_of_length_eq_zero hn
      · obtain ⟨_, _, _, hA, _⟩ := hr 0 hp
        cases hA
    subst hms
    refine wpList_plain hgd fun _ hK => ?_
    unfold Oper.wp execOp
    simp only [ho, resolve, invoke, builtin, Sem.run_bind, Sem.run_pure, Result.andThen_ok, List.map_toArray, List.map_cons, List.map_nil, hs, hx, run_append_nil (P := P) w base t o.type e i size ht hi v n xs hown none c rfl, List.length_nil]
    exact hK _ _ (h v w (by simpa using hown) (World.grownBy.refl w _))
  · have hlen : (ms.flatMap cf).length = ms.length * size := by
      clear h hr hR h1 h63 hbytes hx
      induction ms with
      | nil => simp
      | cons y r ih =>
        simp only [List.flatMap_cons, List.length_append, List.length_cons, Nat.add_mul, Nat.one_mul]
        rw [ih (fun z hz => hc z (by simp [hz])), hc y (by simp)]
        omega
    refine wpList_append_own w hgd s x t ho base e i z size bytes ht hi hz hsz hby hzs h0 v n xs hs hown ad ms.length c (ms.flatMap cf) hx hlen ?_ ?_ h63 hbytes hbase (fun v' w' h2 h3 _ => h v' w' h2 h3)
    · intro j u hu
      have hj : j < ms.length * size := by rw [← hlen]; exact (List.getElem?_eq_some_iff.1 hu).1
      have hk : j / size < ms.length := Nat.div_lt_of_lt_mul (by rw [Nat.mul_comm]; exact hj)
      obtain ⟨b, off, cs, hA, _, hRk, hcell⟩ := hr _ hk
      injection hA with hA
      subst hA
      have hcs := hR _ (List.getElem_mem hk) _ hRk
      subst hcs
      have hjr : j % size < (cf ms[j / size]).length := by rw [hc _ (List.getElem_mem hk)]; exact Nat.mod_lt _ h0
      have hj2 : j / size * size + j % size = j := by rw [Nat.mul_comm]; exact Nat.div_add_mod j size
      have hu2 := flat_get ms hc _ hk _ _ (List.getElem?_eq_getElem hjr)
      rw [hj2, hu] at hu2
      have := hcell (j % size) _ (List.getElem?_eq_getElem hjr)
      rw [Nat.add_assoc, hj2] at this
      have e1 : (⟨b, off, none⟩ : Addr).add j = ⟨b, off + j, none⟩ := by unfold Addr.add; by_cases hz : j = 0 <;> simp [hz]
      rw [e1, this, hu2]
    · intro u hu
      obtain ⟨y, hy, hu⟩ := List.mem_flatMap.1 hu
      exact h1 y hy u hu

theorem SlR.take {α : Type} {w : World} {B size : Nat} {R : α → List Value → Prop} {a : Option Addr} {l : List α} (h : SlR w B size R a l) (n : Nat) : SlR w B size R a (l.take n) := by
  intro k hk
  have hk' : k < l.length := by simp at hk; omega
  obtain ⟨b, off, cs, ha, hb, hr, hc⟩ := h k hk'
  exact ⟨b, off, cs, ha, hb, by simpa using hr, hc⟩
theorem SlR.drop {α : Type} {w : World} {B size : Nat} {R : α → List Value → Prop} {a : Option Addr} {l : List α} (h : SlR w B size R a l) (n : Nat) : SlR w B size R (a.map (·.add (n * size))) (l.drop n) := by
  intro k hk
  have hk' : n + k < l.length := by simp at hk; omega
  obtain ⟨b, off, cs, ha, hb, hr, hc⟩ := h (n + k) hk'
  subst ha
  have e1 : (⟨b, off, none⟩ : Addr).add (n * size) = ⟨b, off + n * size, none⟩ := by unfold Addr.add; by_cases hz : n * size = 0 <;> simp [hz]
  refine ⟨b, off + n * size, cs, by simp [e1], hb, by simpa using hr, fun j u hu => ?_⟩
  have := hc j u hu
  rw [Nat.add_mul] at this
  rw [← this]
  congr 2
  omega
theorem SlR.drop_if {α : Type} {w : World} {B size cap : Nat} {R : α → List Value → Prop} {a : Option Addr} {l : List α} (h : SlR w B size R a l) (n : Nat) (hc : l.length ≤ cap) : SlR w B size R (if cap = n then a else a.map (·.add (n * size))) (l.drop n) := by
  split
  · rename_i hn
    rw [List.drop_of_length_le (by omega)]
    exact .nil
  · exact h.drop n
theorem fd_cells : ∀ (y : Fd) (cs : List Value), y.Is cs → cs = y.cells := fun _ _ h => h.1
end Go.Proofs.YtjhhdgmhocpceaaGreatDoor
/-
  An append as one step of a region that draws its order.
-/
namespace Go.Proofs.YtjhhdgmhocpceaaGreatDoor
set_option linter.unusedSimpArgs false
set_option linter.unusedVariables false
set_option linter.unusedSectionVars false
open Go.ChangeShapes Go.WideShapes Go.ChangeAt Go.RowKit Go.Deep

theorem step_core {P : Program} {ops : Array Oper} {o : Oper} {a : Act} {K : Act → World → Prop} {Q : Exit → Act → World → Prop} {E : Prop} {w w' : World} {t : TypeId} {v V v' : Value} (hgd : o.guard = none) (s x : Operand)
    (ho : o.op = .call { callee := .builtin .append, args := #[s, x], argTypes := #[t, t] }) (hs : a.eval s = v) (hx : a.eval x = V)
    (hrun : (Builtin.append_ #[t, t] o.type #[v, V]).run P w = .ok v' w') (h : K (a.put o.dst v') w') : if Region.wanted o (yielded ops a.tmps) = true then Oper.wp P o a w K Q else E := by
  have hw : Region.wanted o (yielded ops a.tmps) = true := by simp [Region.wanted, hgd]
  rw [if_pos hw]
  unfold Oper.wp
  simp [execOp, ho, resolve, invoke, builtin, hs, hx, hrun, Result.andThen]
  exact h

theorem run_app_sl {α : Type} {P : Program} {w : World} {t e ty : TypeId} {z : Value} {size bytes : Nat} (hT : SliceTy P t e z size bytes)
    {base n : Nat} {v : Value} {xs : List Value} (hown : w.ownsRow base e size v n xs)
    {A : Option Addr} {c B : Nat} {R : α → List Value → Prop} {cf : α → List Value} {ms : List α} (hr : SlR w B size R A ms) (hR : ∀ y ∈ ms, ∀ cs, R y cs → cs = cf y) (hc : ∀ y ∈ ms, (cf y).length = size) (h1 : ∀ y ∈ ms, ∀ u ∈ cf y, u.oneCell' = true)
    (h63 : n + ms.length ≤ maxLen) (hbytes : (n + ms.length) * bytes ≤ 140737488355328) (hbase : base ≤ w.heap.size) :
    ∃ v' w', (Builtin.append_ #[t, t] ty #[v, .slice A ms.length c]).run P w = .ok v' w' ∧ w'.ownsRow base e size v' (n + ms.length) (xs ++ ms.flatMap cf) ∧ w.grownBy w' v.ownBlock := by
  obtain ⟨i, ht, hi, hz, hsz, hby, hzs, h0⟩ := hT
  rcases A with _ | ad
  · have hms : ms = [] := by
      rcases Nat.eq_zero_or_pos ms.length with hn | hp
      · exact List.eq_nil_of_length_eq_zero hn
      · obtain ⟨_, _, _, hA, _⟩ := hr 0 hp
        cases hA
    subst hms
    exact ⟨v, w, run_append_nil (P := P) w base t ty e i size ht hi v n xs hown none c rfl, by simpa using hown, World.grownBy.refl w _⟩
  · have hlen : (ms.flatMap cf).length = ms.length * size := by
      clear hr hR h1 h63 hbytes
      induction ms with
      | nil => simp
      | cons y r ih =>
        simp only [List.flatMap_cons, List.length_append, List.length_cons, Nat.add_mul, Nat.one_mul]
        rw [ih (fun z hz => hc z (by simp [hz])), hc y (by simp)]
        omega
    obtain ⟨v', w', e1, e2, e3, _⟩ := run_append_own w base t ty e i z size bytes ht hi hz hsz hby hzs h0 v n xs hown ad ms.length c (ms.flatMap cf) hlen (by
      intro j u hu
      have hj : j < ms.length * size := by rw [← hlen]; exact (List.getElem?_eq_some_iff.1 hu).1
      have hk : j / size < ms.length := Nat.div_lt_of_lt_mul (by rw [Nat.mul_comm]; exact hj)
      obtain ⟨b, off, cs, hA, _, hRk, hcell⟩ := hr _ hk
      injection hA with hA
      subst hA
      have hcs := hR _ (List.getElem_mem hk) _ hRk
      subst hcs
      have hjr : j % size < (cf ms[j / size]).length := by rw [hc _ (List.getElem_mem hk)]; exact Nat.mod_lt _ h0
      have hj2 : j / size * size + j % size = j := by rw [Nat.mul_comm]; exact Nat.div_add_mod j size
      have hu2 := flat_get ms hc _ hk _ _ (List.getElem?_eq_getElem hjr)
      rw [hj2, hu] at hu2
      have := hcell (j % size) _ (List.getElem?_eq_getElem hjr)
      rw [Nat.add_assoc, hj2] at this
      have e1 : (⟨b, off, none⟩ : Addr).add j = ⟨b, off + j, none⟩ := by unfold Addr.add; by_cases hz : j = 0 <;> simp [hz]
      rw [e1, this, hu2]) (by
      intro u hu
      obtain ⟨y, hy, hu⟩ := List.mem_flatMap.1 hu
      exact h1 y hy u hu) h63 hbytes hbase
    exact ⟨v', w', e1, e2, e3⟩

/-- One append, from a slice that reads as ms. -/
theorem step_app_sl {α : Type} {P : Program} {ops : Array Oper} {o : Oper} {a : Act} {K : Act → World → Prop} {Q : Exit → Act → World → Prop} {E : Prop} {w : World} {t e : TypeId} {z : Value} {size bytes : Nat} (hT : SliceTy P t e z size bytes)
    (s x : Operand) (hgd : o.guard = none) (ho : o.op = .call { callee := .builtin .append, args := #[s, x], argTypes := #[t, t] })
    {base n : Nat} {v : Value} {xs : List Value} (hs : a.eval s = v) (hown : w.ownsRow base e size v n xs)
    {A : Option Addr} {m c B : Nat} {R : α → List Value → Prop} {cf : α → List Value} {ms : List α} (hx : a.eval x = .slice A m c) (hm : ms.length = m) (hr : SlR w B size R A ms) (hR : ∀ y ∈ ms, ∀ cs, R y cs → cs = cf y) (hc : ∀ y ∈ ms, (cf y).length = size) (h1 : ∀ y ∈ ms, ∀ u ∈ cf y, u.oneCell' = true)
    (h63 : n + m ≤ maxLen) (hbytes : (n + m) * bytes ≤ 140737488355328) (hbase : base ≤ w.heap.size)
    (h : ∀ v' w', w'.ownsRow base e size v' (n + m) (xs ++ ms.flatMap cf) → w.grownBy w' v.ownBlock → K (a.put o.dst v') w') : if Region.wanted o (yielded ops a.tmps) = true then Oper.wp P o a w K Q else E := by
  subst hm
  obtain ⟨v', w', e1, e2, e3⟩ := run_app_sl (ty := o.type) (c := c) hT hown hr hR hc h1 h63 hbytes hbase
  exact step_core hgd s x ho hs hx e1 (h v' w' e2 e3)

/-- One append, from a block. -/
theorem step_app {P : Program} {ops : Array Oper} {o : Oper} {a : Act} {K : Act → World → Prop} {Q : Exit → Act → World → Prop} {E : Prop} {w : World} {t e : TypeId} {z : Value} {size bytes : Nat} (hT : SliceTy P t e z size bytes)
    (s x : Operand) (hgd : o.guard = none) (ho : o.op = .call { callee := .builtin .append, args := #[s, x], argTypes := #[t, t] })
    {base n : Nat} {v : Value} {xs : List Value} (hs : a.eval s = v) (hown : w.ownsRow base e size v n xs)
    {g m c : Nat} {e' : TypeId} {news : Array Value} (hx : a.eval x = .slice (some ⟨g, 0, none⟩) m c) (hb : Blk w g e' news) (hl : news.size = m * size) (h1 : ∀ u ∈ news.toList, u.oneCell' = true)
    (h63 : n + m ≤ maxLen) (hbytes : (n + m) * bytes ≤ 140737488355328) (hbase : base ≤ w.heap.size)
    (h : ∀ v' w', w'.ownsRow base e size v' (n + m) (xs ++ news.toList) → w.grownBy w' v.ownBlock → K (a.put o.dst v') w') : if Region.wanted o (yielded ops a.tmps) = true then Oper.wp P o a w K Q else E := by
  obtain ⟨i, ht, hi, hz, hsz, hby, hzs, h0⟩ := hT
  obtain ⟨v', w', e1, e2, e3, _⟩ := run_append_own w base t o.type e i z size bytes ht hi hz hsz hby hzs h0 v n xs hown ⟨g, 0, none⟩ m c news.toList (by simpa using hl) (by
    intro j u hu
    have e1 : (⟨g, 0, none⟩ : Addr).add j = ⟨g, j, none⟩ := by unfold Addr.add; by_cases hj : j = 0 <;> simp [hj]
    rw [e1, hb.cell j]
    simpa using hu) h1 h63 hbytes hbase
  exact step_core hgd s x ho hs hx e1 (h v' w' e2 e3)
end Go.Proofs.YtjhhdgmhocpceaaGreatDoor
/-
  Bytes of a call's own: appended to, read, turned into a text.
-/
namespace Go.Proofs.YtjhhdgmhocpceaaGreatDoor
set_option linter.unusedSimpArgs false
set_option linter.unusedVariables false
set_option linter.unusedSectionVars false
open Go.ChangeShapes Go.WideShapes Go.ChangeAt Go.RowKit Go.Deep

theorem byteCells_snoc (l : List UInt8) (c : UInt8) : Lib.byteCells (l ++ [c]) = Lib.byteCells l ++ [.int .u8 (c.toNat : Int)] := by
  rw [Lib.byteCells, Lib.byteCells, List.map_append]; rfl
theorem byteCells_len (l : List UInt8) : (Lib.byteCells l).length = l.length := by simp [Lib.byteCells]
theorem st_bytes : SliceTy Tryz.prog 22 5 (.int .u8 0) 1 1 := .mk' Tryz.underlying22 (by kernel_rfl) rfl (by omega)
def OwnB (B : Nat) (w : World) (v : Value) (l : List UInt8) : Prop := w.ownsRow B 5 1 v l.length (Lib.byteCells l)
theorem OwnB.nil (B : Nat) (w : World) : OwnB B w (.slice none 0 0) [] := World.ownsRow_nil _ _ _ _
theorem OwnB.alloc {B : Nat} {w : World} {v : Value} {l : List UInt8} (h : OwnB B w v l) (o : Obj) : OwnB B (w.alloc o) v l := World.ownsRow.alloc h o
theorem OwnB.below {B C : Nat} {w w' : World} {v : Value} {l : List UInt8} (h : OwnB B w v l) (hb : Below C w w') (hC : w.heap.size ≤ C) : OwnB B w' v l := own_below h hb hC
theorem OwnB.more {B : Nat} {w : World} {v : Value} {l : List UInt8} (h : OwnB B w v l) (j : Junk) : OwnB B (w.more j) v l := h.below (C := w.heap.size) (Below.moreS (Below.refl _ _) j) (Nat.le_refl _)
theorem app_byte {ops : Array Oper} {rest : List Oper} {o : Oper} {a : Act} {Q : Exit → Act → World → Prop} {w : World}
    (s x : Operand) (hgd : o.guard = none) (ho : o.op = .call { callee := .builtin .append, args := #[s, x], argTypes := #[22, 22] })
    {B : Nat} {v : Value} {l : List UInt8} {c : UInt8} (hs : a.eval s = v) (hown : OwnB B w v l)
    {g cc : Nat} {e' : TypeId} (hx : a.eval x = .slice (some ⟨g, 0, none⟩) 1 cc) (hb : Blk w g e' #[.int .u8 (c.toNat : Int)])
    (hl : l.length + 1 ≤ 140737488355328) (hB : B ≤ w.heap.size)
    (h : ∀ v' w', OwnB B w' v' (l ++ [c]) → Below B w w' → wpList Tryz.prog ops Q rest (a.put o.dst v') w') : wpList Tryz.prog ops Q (o :: rest) a w := by
  refine wpList_app st_bytes s x hgd ho hs hown hx hb rfl (by intro u hu; simp at hu; subst hu; rfl) (by unfold maxLen; omega) (by omega) hB (fun v' w' h1 h2 => h v' w' ?_ (own_grown (Below.refl B w) hown h2 (Nat.le_refl _) hB))
  unfold OwnB
  rw [byteCells_snoc, List.length_append]
  exact h1
theorem OwnB.bytes {B : Nat} {w : World} {v : Value} {l : List UInt8} (h : OwnB B w v l) : (v = .slice none 0 0 ∧ l = []) ∨ ∃ g cap, v = .slice (some ⟨g, 0, none⟩) l.length cap ∧ B ≤ g ∧ g < w.heap.size ∧ Lib.Bytes w g 0 ⟨l.toArray⟩ := by
  rcases h.2 with ⟨rfl, hn⟩ | ⟨g, cap, cur, rfl, hg, hh, h3, h4, h5, h6⟩
  · exact .inl ⟨rfl, List.eq_nil_of_length_eq_zero hn⟩
  · refine .inr ⟨g, cap, rfl, hg, (World.ownsRow.lt h g rfl).2, fun i hi => ?_⟩
    have hi' : i < l.length := hi
    have := World.ownsRow.cells h (g := g) rfl i (.int .u8 (l[i].toNat : Int)) (by simp [Lib.byteCells, hi'])
    have e1 : (⟨g, 0, none⟩ : Addr).add i = ⟨g, 0 + i, none⟩ := by unfold Addr.add; by_cases hj : i = 0 <;> simp [hj]
    rw [e1] at this
    exact this
theorem OwnB.text {B : Nat} {w : World} {v : Value} {l : List UInt8} (h : OwnB B w v l) : (convert 22 9 v).run Tryz.prog w = .ok (bstr l) w := by
  rcases h.bytes with ⟨rfl, rfl⟩ | ⟨g, cap, rfl, _, _, hb⟩
  · exact Lib.run_convert_nil_bytes w _ _ _ 0 Tryz.underlying22 Tryz.underlying5 Tryz.underlying9
  · exact Lib.run_convert_whole w _ _ _ Tryz.underlying22 Tryz.underlying5 Tryz.underlying9 g 0 ⟨l.toArray⟩ hb cap
theorem OwnB.len {B : Nat} {w : World} {v : Value} {l : List UInt8} (h : OwnB B w v l) : ∃ a cap, v = .slice a l.length cap := by
  rcases h.bytes with ⟨rfl, rfl⟩ | ⟨g, cap, rfl, _⟩
  · exact ⟨none, 0, rfl⟩
  · exact ⟨_, cap, rfl⟩

/-! Bytes that are read. -/
def byteIs (x : UInt8) (cs : List Value) : Prop := cs = [.int .u8 (x.toNat : Int)]
abbrev SlB (w : World) (B : Nat) (a : Option Addr) (l : List UInt8) : Prop := SlR w B 1 byteIs a l
theorem SlR.atB {w : World} {B : Nat} {a : Option Addr} {l : List UInt8} (h : SlR w B 1 byteIs a l) {k : Nat} (hk : k < l.length) : ∃ b off, a = some ⟨b, off, none⟩ ∧ b < B ∧ w.cell? ⟨b, off + k, none⟩ = some (.int .u8 (l[k].toNat : Int)) := by
  obtain ⟨b, off, cs, ha, hb, rfl, hc⟩ := h k hk
  have := hc 0 _ rfl
  rw [Nat.mul_one, Nat.add_zero] at this
  exact ⟨b, off, ha, hb, this⟩
theorem OwnB.read {B : Nat} {w : World} {v : Value} {l : List UInt8} (h : OwnB B w v l) : ∃ a cap, v = .slice a l.length cap ∧ SlB w w.heap.size a l := by
  rcases h.bytes with ⟨rfl, rfl⟩ | ⟨g, cap, rfl, _, hlt, hb⟩
  · exact ⟨none, 0, rfl, .nil⟩
  · refine ⟨_, cap, rfl, fun k hk => ⟨g, 0, _, rfl, hlt, rfl, fun j u hu => ?_⟩⟩
    match j, hu with
    | 0, hu =>
      simp at hu
      subst hu
      rw [Nat.mul_one, Nat.add_zero]
      exact hb k hk

theorem OwnB.drew {B : Nat} {w : World} {v : Value} {l : List UInt8} (h : OwnB B w v l) : OwnB B w.drew v l := h
/-- An appended byte as a step of a region that draws its order. -/
theorem step_byte {ops : Array Oper} {o : Oper} {a : Act} {K : Act → World → Prop} {Q : Exit → Act → World → Prop} {E : Prop} {w : World}
    (s x : Operand) (hgd : o.guard = none) (ho : o.op = .call { callee := .builtin .append, args := #[s, x], argTypes := #[22, 22] })
    {B : Nat} {v : Value} {l : List UInt8} {c : UInt8} (hs : a.eval s = v) (hown : OwnB B w v l)
    {g cc : Nat} {e' : TypeId} (hx : a.eval x = .slice (some ⟨g, 0, none⟩) 1 cc) (hb : Blk w g e' #[.int .u8 (c.toNat : Int)])
    (hl : l.length + 1 ≤ 140737488355328) (hB : B ≤ w.heap.size)
    (h : ∀ v' w', OwnB B w' v' (l ++ [c]) → Below B w w' → K (a.put o.dst v') w') : if Region.wanted o (yielded ops a.tmps) = true then Oper.wp Tryz.prog o a w K Q else E := by
  refine step_app st_bytes s x hgd ho hs hown hx hb rfl (by intro u hu; simp at hu; subst hu; rfl) (by unfold maxLen; omega) (by omega) hB (fun v' w' h1 h2 => h v' w' ?_ (own_grown (Below.refl B w) hown h2 (Nat.le_refl _) hB))
  unfold OwnB
  rw [byteCells_snoc, List.length_append]
  exact h1
end Go.Proofs.YtjhhdgmhocpceaaGreatDoor
/-
  A region that draws its order, whose operations read, or call what only makes memory: walked once, over grown worlds.
-/
namespace Go.Proofs.YtjhhdgmhocpceaaGreatDoor
set_option linter.unusedSimpArgs false
set_option linter.unusedVariables false
set_option linter.unusedSectionVars false
open Go.ChangeShapes Go.WideShapes Go.ChangeAt Go.RowKit Go.Deep

instance : Inhabited Junk := ⟨⟨#[], 0⟩⟩
theorem more_self (w : World) : w = w.more ⟨#[], w.drawn⟩ := by simp [World.more]
theorem wp_region_more {P : Program} {id : Nat} {Q : Exit → Act → World → Prop} {a : Act} {w : World} {l : List Oper} (hm : P.follows .mixedOrders = true) (hB : Region.lexB .any l.toArray = true)
    (h : wpQuiet P l.toArray (fun w' => ∃ j : Junk, w' = w.more j) (fun a' => ∀ w', (∃ j : Junk, w' = w.more j) → Q .normal a' w') l a) : (Code.region id l.toArray true).wp P Q a w :=
  wp_region_quiet (C := fun w' => ∃ j : Junk, w' = w.more j) hm hB ⟨⟨#[], w.drawn + 1⟩, by simp [World.more]⟩ (by simpa using h)
theorem more_of {P : Program} {f : FuncId} {args : Array Value} {w : World} {j : Junk} {v : Value}
    (h : Calls P f args (w.more j) fun e w' => e = .returned v ∧ ∃ k, w' = (w.more j).more k) : Calls P f args (w.more j) fun e w'' => e = .returned v ∧ ∃ k, w'' = w.more k :=
  h.mono fun _ _ ⟨he, k, hk⟩ => ⟨he, ⟨j.heap ++ k.heap, k.drawn⟩, by rw [hk, World.more_more]⟩
theorem more_of_same {P : Program} {f : FuncId} {args : Array Value} {w : World} {j : Junk} {v : Value}
    (h : Calls P f args (w.more j) fun e w' => e = .returned v ∧ w.more j = w') : Calls P f args (w.more j) fun e w'' => e = .returned v ∧ ∃ k, w'' = w.more k :=
  h.mono fun _ _ ⟨he, hk⟩ => ⟨he, j, hk.symm⟩
end Go.Proofs.YtjhhdgmhocpceaaGreatDoor
