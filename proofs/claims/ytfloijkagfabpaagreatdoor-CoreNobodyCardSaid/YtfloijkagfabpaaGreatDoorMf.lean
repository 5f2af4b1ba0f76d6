/-
  Parts of the proof, one behind the other: contracts of the program and plain laws; no condition of their own.
-/
import Derived.Test.YtfloijkagfabpaaGreatDoorMe
import Derived.Test.YtfloijkagfabpaaGreatDoorDig2
import Derived.Test.YtfloijkagfabpaaGreatDoorRec1
import Derived.Laws.StructEq
import Derived.Test.YtfloijkagfabpaaGreatDoorBase
import Derived.Test.YtfloijkagfabpaaGreatDoorMa
import Derived.Test.YtfloijkagfabpaaGreatDoorMc
import Derived.Laws.BitsAllLaws
import Derived.Laws.BitsLemmas
/-
  Numbers as digits: a text's value, the document's.
-/
namespace Go.Proofs.YtfloijkagfabpaaGreatDoor
set_option linter.unusedSimpArgs false
set_option linter.unusedVariables false
set_option linter.unusedSectionVars false
open Go.ChangeShapes Go.WideShapes Go.ChangeAt Go.RowKit Go.Deep Go.Shelf

def vlE (s : List UInt8) : Option Int → Int × Bool
  | some n => (n, !s.isEmpty)
  | none => (0, false)
end Go.Proofs.YtfloijkagfabpaaGreatDoor
/-
  Numbers as digits: a text read as a number, the document's road.
-/
namespace Go.Proofs.YtfloijkagfabpaaGreatDoor
set_option linter.unusedSimpArgs false
set_option linter.unusedVariables false
set_option linter.unusedSectionVars false
open Go.ChangeShapes Go.WideShapes Go.ChangeAt Go.RowKit Go.Deep Go.Shelf

theorem readR_long {s : List UInt8} (h : 20 < (s.length : Int)) : readR s = (0, false) := by unfold readR; rw [if_pos (.inl h)]
theorem head45 (c : UInt8) (r : List UInt8) : ((c :: r).head?.map (· == 45) = some true) ↔ ((c.toNat : Int) == 45) = true := by
  simp only [List.head?_cons, Option.map_some, Option.some.injEq, beq_iff_eq, ← UInt8.toNat_inj]
  show c.toNat = 45 ↔ _
  omega
theorem readR_minus {c : UInt8} {r : List UInt8} (h : ¬ 20 < ((c :: r).length : Int)) (hc : ((c.toNat : Int) == 45) = true) :
    readR (c :: r) = if (vlF r).2 = true ∧ Lib.itoa (vlF r).1 = c :: r then ((vlF r).1, true) else (0, false) := by
  unfold readR
  rw [if_neg (by simp only [reduceCtorEq, or_false]; exact h), if_pos ((head45 c r).2 hc)]
  rfl
theorem readR_plus {c : UInt8} {r : List UInt8} (h : ¬ 20 < ((c :: r).length : Int)) (hc : ((c.toNat : Int) == 45) = false) :
    readR (c :: r) = if (vlF (c :: r)).1 = -9223372036854775808 then (0, false) else if (vlF (c :: r)).2 = true ∧ Lib.itoa (-(vlF (c :: r)).1) = c :: r then (-(vlF (c :: r)).1, true) else (0, false) := by
  unfold readR
  rw [if_neg (by simp only [reduceCtorEq, or_false]; exact h), if_neg (fun e => by rw [(head45 c r).1 e] at hc; cases hc)]

end Go.Proofs.YtfloijkagfabpaaGreatDoor
/-
  Records: names of sides, kinds and types, both roads.
-/
namespace Go.Proofs.YtfloijkagfabpaaGreatDoor
set_option linter.unusedSimpArgs false
set_option linter.unusedVariables false
set_option linter.unusedSectionVars false
open Go.ChangeShapes Go.WideShapes Go.ChangeAt Go.RowKit Go.Deep Go.Shelf

def EnvP (w : World) : Prop := Lib.TabIs Tryz.prog w "internal/strconv.uint64pow10" .u64 Lib.pow10Tab
set_option maxRecDepth 100000 in
theorem kinds_Known (n : Int) (w : World) : Calls Tryz.prog 87 #[.int .i64 n] w fun e w' => e = .returned (.bool (inB n 9)) ∧ w = w' := by
  by_cases h0 : 0 ≤ n <;> by_cases h1 : n ≤ 9
  all_goals
    go_enter Tryz.func87, Tryz.ntmps87
    go_wp2_with fail
    go_ret
    exact ⟨by simp [inB, h0, h1], rfl⟩
set_option maxRecDepth 100000 in
theorem head_within (n m : Int) (w : World) : Calls Tryz.prog 144 #[.int .i64 n, .int .i64 m] w fun e w' => e = .returned (.bool (inB n m)) ∧ w = w' := by
  by_cases h0 : 0 ≤ n <;> by_cases h1 : n ≤ m
  all_goals
    go_enter Tryz.func144, Tryz.ntmps144
    go_wp2_with fail
    go_ret
    exact ⟨by simp [inB, h0, h1], rfl⟩
set_option maxRecDepth 100000 in
theorem head_Right (ln ty fl st : Int) (rs : Bool) (w : World) : Calls Tryz.prog 74 #[.agg #[.int .i64 ln, .int .i64 ty, .int .i64 fl, .int .i64 st, .bool rs]] w fun e w' => e = .returned (.bool (headR ln ty fl st)) ∧ ∃ j, w' = w.more j := by
  have H1 : Hid (∀ W, Calls Tryz.prog 144 #[.int .i64 ln, .int .i64 16777215] W fun e w' => e = .returned (.bool (inB ln 16777215)) ∧ W = w') := head_within ln 16777215
  have H2 : Hid (∀ W, Calls Tryz.prog 144 #[.int .i64 ty, .int .i64 255] W fun e w' => e = .returned (.bool (inB ty 255)) ∧ W = w') := head_within ty 255
  have H3 : Hid (∀ W, Calls Tryz.prog 144 #[.int .i64 fl, .int .i64 255] W fun e w' => e = .returned (.bool (inB fl 255)) ∧ W = w') := head_within fl 255
  have H4 : Hid (∀ W, Calls Tryz.prog 144 #[.int .i64 st, .int .i64 2147483647] W fun e w' => e = .returned (.bool (inB st 2147483647)) ∧ W = w') := head_within st 2147483647
  unfold headR
  generalize inB ln 16777215 = b1 at H1 ⊢
  generalize inB ty 255 = b2 at H2 ⊢
  generalize inB fl 255 = b3 at H3 ⊢
  generalize inB st 2147483647 = b4 at H4 ⊢
  cases b1 <;> cases b2 <;> cases b3
  all_goals
    go_enter Tryz.func74, Tryz.ntmps74
    go_wp2_with (first
      | (go_at_call 144; (with_reducible refine (H1.out _).mono ?_); rintro e w' ⟨rfl, rfl⟩)
      | (go_at_call 144; (with_reducible refine (H2.out _).mono ?_); rintro e w' ⟨rfl, rfl⟩)
      | (go_at_call 144; (with_reducible refine (H3.out _).mono ?_); rintro e w' ⟨rfl, rfl⟩)
      | (go_at_call 144; (with_reducible refine (H4.out _).mono ?_); rintro e w' ⟨rfl, rfl⟩))
    go_ret
    exact ⟨rfl, Below.junk bel⟩

def NamesPost (n : Nat) (f : Nat → List UInt8) (w : World) (e : Ending) (w' : World) : Prop := ∃ g, e = .returned (.slice (some ⟨g, 0, none⟩) n n) ∧ (∀ k, k < n → w'.cell? ⟨g, k, none⟩ = some (bstr (f k))) ∧ g < w'.heap.size ∧ Below w.heap.size w w'
theorem names_post {n : Nat} {f : Nat → List UInt8} {w : World} {t : TypeId} {cs : Array Value} (h : ∀ k, k < n → cs[k]? = some (bstr (f k))) : NamesPost n f w (.returned (.slice (some ⟨w.heap.size, 0, none⟩) n n)) (w.alloc (.cells cs t)) :=
  ⟨_, rfl, fun k hk => (Blk.new w t cs).cell k |>.trans (h k hk), by simp, (Below.refl _ _).alloc (Nat.le_refl _) _⟩
def sideN (k : Nat) : List UInt8 := [[99, 108, 105, 101, 110, 116], [115, 101, 114, 118, 101, 114]].getD k []
def kindN (k : Nat) : List UInt8 := [[97, 108, 108, 111, 119, 101, 100], [105, 103, 110, 111, 114, 101, 100], [114, 101, 106, 101, 99, 116, 101, 100], [108, 105, 109, 105, 116, 101, 100]].getD k []
theorem scan_step (f : Int → List UInt8) (s : List UInt8) (g : Nat) (t : Int) : scanF f s (g + 1) t = if f t = s then (t, true) else scanF f s g (t + 1) := rfl
end Go.Proofs.YtfloijkagfabpaaGreatDoor
/-
  Numbers as bytes: powers of 256; the greatest number of so many bytes.
-/
namespace Go.Proofs.YtfloijkagfabpaaGreatDoor
set_option linter.unusedSimpArgs false
set_option linter.unusedVariables false
set_option linter.unusedSectionVars false
open Go.ChangeShapes Go.WideShapes Go.ChangeAt Go.RowKit Go.Deep Go.Shelf

def powB (k : Nat) : Int := if k = 0 then 1 else if k = 1 then 256 else if k = 2 then 65536 else if k = 3 then 16777216 else 4294967296
theorem powB_step {k : Nat} (h : k < 4) : 256 * powB k = powB (k + 1) ∧ IntKind.i64.wrap (256 * powB k) = powB (k + 1) := by
  match k, h with
  | 0, _ => exact ⟨by decide, by decide⟩
  | 1, _ => exact ⟨by decide, by decide⟩
  | 2, _ => exact ⟨by decide, by decide⟩
  | 3, _ => exact ⟨by decide, by decide⟩
set_option maxHeartbeats 4000000 in
set_option maxRecDepth 100000 in
theorem ref01_power (n : Nat) (hn : n ≤ 4) (w : World) : Calls Tryz.prog 250 #[.int .i64 (n : Int)] w fun e w' => e = .returned (.int .i64 (powB n)) ∧ w = w' := by
  go_enter Tryz.func250, Tryz.ntmps250
  go_wp2_with fail
  go_loopw [3, 4] (fun v i wr => ∃ k : Nat, k ≤ n ∧ v = .int .i64 (powB k) ∧ i = .int .i64 k ∧ wr = w) (fun _ i _ => n - (intOf i).toNat)
  case atStart => exact ⟨0, by omega, rfl, rfl, rfl⟩
  case round =>
    obtain ⟨k, hk, rfl, rfl, rfl⟩ := hrel
    by_cases hlt : k < n
    · have hlt2 : (k : Int) < n := by omega
      obtain ⟨_, h2⟩ := powB_step (k := k) (by omega)
      obtain ⟨R, hR⟩ : ∃ R, R = powB k := ⟨_, rfl⟩
      obtain ⟨Q, hQ⟩ : ∃ Q, Q = powB (k + 1) := ⟨_, rfl⟩
      rw [← hR] at h2 ⊢
      rw [← hQ] at h2
      have HQ := Lib.hid hQ
      clear hR hQ
      go_wp2_with fail
      go_round
      case rel => exact ⟨k + 1, by omega, by rw [← HQ.out], by go_num, by trivial⟩
      case measure => simp [intOf]; omega
    · obtain rfl : k = n := by omega
      have hlt2 : ¬ (k : Int) < k := by omega
      go_wp2_with fail
      go_ret
      exact ⟨rfl, rfl⟩
set_option maxRecDepth 100000 in
theorem octet_top2 (w : World) : Calls Tryz.prog 297 #[.int .i64 2] w fun e w' => e = .returned (.tuple #[.int .i64 65535, .bool true]) ∧ w = w' := by
  go_enter Tryz.func297, Tryz.ntmps297
  go_wp2_with fail
  go_ret2
  exact ⟨rfl, rfl⟩
set_option maxRecDepth 100000 in
theorem octet_top4 (w : World) : Calls Tryz.prog 297 #[.int .i64 4] w fun e w' => e = .returned (.tuple #[.int .i64 4294967295, .bool true]) ∧ w = w' := by
  go_enter Tryz.func297, Tryz.ntmps297
  go_wp2_with fail
  go_ret2
  exact ⟨rfl, rfl⟩
end Go.Proofs.YtfloijkagfabpaaGreatDoor
/-
  Octets and kinds of frames: a number of some bytes, the flags that a frame has, to which streams it belongs; the program's and the document's.
-/
namespace Go.Proofs.YtfloijkagfabpaaGreatDoor
set_option linter.unusedSimpArgs false
set_option linter.unusedVariables false
set_option linter.unusedSectionVars false
open Go.ChangeShapes Go.WideShapes Go.ChangeAt Go.RowKit Go.Deep Go.Shelf

def beN (l : List UInt8) : Nat := l.foldl (fun n x => 256 * n + x.toNat) 0
theorem beN_snoc (l : List UInt8) (x : UInt8) : beN (l ++ [x]) = 256 * beN l + x.toNat := by simp [beN, List.foldl_append]
theorem beN_lt : ∀ (k : Nat) (l : List UInt8), l.length = k → beN l < 256 ^ k
  | 0, l, h => by obtain rfl := List.eq_nil_of_length_eq_zero h; simp [beN]
  | k + 1, l, h => by
    obtain ⟨r, x, rfl⟩ : ∃ r x, l = r ++ [x] := ⟨l.dropLast, l.getLast (by intro e; simp [e] at h), (List.dropLast_concat_getLast _).symm⟩
    have := beN_lt k r (by simpa using h)
    have hx := x.toNat_lt
    rw [beN_snoc, Nat.pow_succ]
    omega
theorem beN_small {l : List UInt8} (h : l.length ≤ 4) : beN l < 4294967296 := by
  have := beN_lt _ l rfl
  have : (256 : Nat) ^ l.length ≤ 256 ^ 4 := Nat.pow_le_pow_right (by decide) h
  omega
theorem wraps_i63 : ∀ n : Int, 0 ≤ n → n < 2 ^ 63 → IntKind.i64.wrap n = n := fun n h1 h2 => IntWalk.i64_in n (by omega)
theorem or_byte (n : Nat) (x : UInt8) (hn : n < 16777216) : bits .or .i64 ((n : Int) * 256) (wrap64 (x.toNat : Int)) = ((256 * n + x.toNat : Nat) : Int) := by
  have hx := x.toNat_lt
  rw [show wrap64 (x.toNat : Int) = (x.toNat : Int) from IntWalk.wrap64_in _ (by omega), show ((n : Int) * 256) = ((n * 256 : Nat) : Int) by omega]
  rw [(bits_nat .i64 63 (by decide) wraps_i63 (n * 256) x.toNat (by omega) (by omega)).2, nat_join 8 (n * 256) x.toNat (by omega) (by omega)]
  omega
set_option maxRecDepth 100000 in
theorem octet_top (k : Nat) (h1 : 1 ≤ k) (h2 : k ≤ 4) (w : World) : Calls Tryz.prog 297 #[.int .i64 k] w fun e w' => (∃ n : Int, e = .returned (.tuple #[.int .i64 n, .bool true])) ∧ w = w' := by
  obtain rfl | rfl | rfl | rfl : k = 1 ∨ k = 2 ∨ k = 3 ∨ k = 4 := by omega
  all_goals
    go_enter Tryz.func297, Tryz.ntmps297
    go_wp2_with fail
    go_ret2
    exact ⟨⟨_, rfl⟩, rfl⟩
def getF (k : Nat) (l : List UInt8) : Int × Int := if k ≤ l.length then ((beN (l.take k) : Int), 0) else (0, 3)
set_option maxHeartbeats 4000000 in
set_option maxRecDepth 100000 in
theorem octet_Get (k : Nat) (h1 : 1 ≤ k) (h2 : k ≤ 4) (a : Option Addr) (c : Nat) (l : List UInt8) (w : World) (h : SlB w w.heap.size a l) (hc : l.length ≤ c) :
    Calls Tryz.prog 261 #[.slice a l.length c, .int .i64 k] w fun e w' => e = .returned (.tuple #[.int .i64 (getF k l).1, .int .i64 (getF k l).2]) ∧ w = w' := by
  have HT : Hid (∀ W, Calls Tryz.prog 297 #[.int .i64 k] W fun e w' => (∃ n : Int, e = .returned (.tuple #[.int .i64 n, .bool true])) ∧ W = w') := octet_top k h1 h2
  have HS := Lib.hid h
  clear h
  by_cases hk : k ≤ l.length
  · have hk2 : ¬ (l.length : Int) < (k : Int) := by omega
    have hk3 : k ≤ c := by omega
    have HG : Hid (getF k l = ((beN (l.take k) : Int), 0)) := by show _ = _; unfold getF; rw [if_pos hk]
    generalize getF k l = G at HG ⊢
    go_enter Tryz.func261, Tryz.ntmps261
    go_wp2_with (go_at_call 297; refine (HT.out _).mono ?_; rintro e w' ⟨⟨n, rfl⟩, rfl⟩)
    go_loopw [8, 26] (fun v i wr => ∃ m : Nat, m ≤ k ∧ v = .int .i64 (beN (l.take m) : Int) ∧ i = .int .i64 m ∧ wr = w) (fun _ i _ => k - (intOf i).toNat)
    case atStart => exact ⟨0, by omega, rfl, rfl, rfl⟩
    case round =>
      obtain ⟨m, hm, rfl, rfl, rfl⟩ := hrel
      by_cases hlt : m < k
      · have hlt2 : (m : Int) < k := by omega
        obtain ⟨b, o, rfl, hbb, hcell⟩ := SlR.atB HS.out (k := m) (by omega)
        have hb4 : beN (l.take m) < 16777216 := by
          have := beN_lt m (l.take m) (by simp; omega)
          have : (256 : Nat) ^ m ≤ 256 ^ 3 := Nat.pow_le_pow_right (by decide) (by omega)
          omega
        obtain ⟨x, hx⟩ : ∃ x, x = l[m] := ⟨_, rfl⟩
        have hn : beN (l.take (m + 1)) = 256 * beN (l.take m) + x.toNat := by rw [hx, List.take_succ_eq_append_getElem (by omega), beN_snoc]
        rw [← hx] at hcell
        have ho := or_byte (beN (l.take m)) x hb4
        rw [← hn] at ho
        have HN := Lib.hid ho
        clear hx hn ho
        go_wp2_with fail
        go_round
        case rel => exact ⟨m + 1, by omega, by rw [HN.out], by go_num, by trivial⟩
        case measure => simp [intOf]; omega
      · obtain rfl : m = k := by omega
        have hlt2 : ¬ (m : Int) < m := by omega
        go_wp2_with fail
        go_ret2
        rw [HG.out]
        exact ⟨rfl, rfl⟩
  · have hk2 : (l.length : Int) < (k : Int) := by omega
    have HG : Hid (getF k l = (0, 3)) := by show _ = _; unfold getF; rw [if_neg hk]
    generalize getF k l = G at HG ⊢
    go_enter Tryz.func261, Tryz.ntmps261
    go_wp2_with (go_at_call 297; refine (HT.out _).mono ?_; rintro e w' ⟨⟨n, rfl⟩, rfl⟩)
    go_ret2
    rw [HG.out]
    exact ⟨rfl, rfl⟩
theorem beN_sum (l : List UInt8) (k m : Nat) (hk : k ≤ 4) (hm : m < k) (hl : k ≤ l.length) : (beN (l.take (m + 1)) : Int) * powB (k - (m + 1)) = (beN (l.take m) : Int) * powB (k - m) + ((l[m]'(by omega)).toNat : Int) * powB (k - 1 - m) := by
  rw [List.take_succ_eq_append_getElem (by omega), beN_snoc]
  have e : k - (m + 1) = k - 1 - m := by omega
  have e2 : k - m = k - 1 - m + 1 := by omega
  rw [e, e2, ← (powB_step (k := k - 1 - m) (by omega)).1]
  rw [Int.natCast_add, Int.natCast_mul, Int.add_mul]
  congr 1
  rw [Int.mul_comm ((256 : Nat) : Int), Int.mul_assoc]
  rfl
def lowF (n : Int) : Int × Bool := if 0 ≤ n ∧ n < 4294967296 then (if 2147483648 ≤ n then (n - 2147483648, true) else (n, false)) else (0, false)
theorem nat_high (n : Nat) (h : n < 4294967296) : n &&& 2147483648 = if 2147483648 ≤ n then 2147483648 else 0 := by
  have := nat_bit 31 n
  rw [show (2 : Nat) ^ 31 = 2147483648 by decide] at this
  rw [this]
  split <;> omega
theorem nat_low (n : Nat) (h : n < 4294967296) : n &&& 18446744071562067967 = n % 2147483648 := by
  have e : n = n &&& 4294967295 := by
    have := Nat.and_two_pow_sub_one_eq_mod n 32
    rw [show (2 : Nat) ^ 32 - 1 = 4294967295 by decide, show (2 : Nat) ^ 32 = 4294967296 by decide] at this
    omega
  have := Nat.and_two_pow_sub_one_eq_mod n 31
  rw [show (2 : Nat) ^ 31 - 1 = 2147483647 by decide, show (2 : Nat) ^ 31 = 2147483648 by decide] at this
  rw [e, Nat.and_assoc, show 4294967295 &&& 18446744071562067967 = 2147483647 by decide, ← e, this]
theorem andNot_high (n : Nat) (h : n < 4294967296) : bits .andNot .i64 (n : Int) 2147483648 = ((n % 2147483648 : Nat) : Int) := by
  show IntKind.i64.wrap ((BitVec.ofInt 64 (n : Int) &&& ~~~BitVec.ofInt 64 ((2147483648 : Nat) : Int)).toNat : Int) = _
  rw [BitVec.toNat_and, BitVec.toNat_not, ofInt_u64 n (by omega), ofInt_u64 2147483648 (by omega), show 2 ^ 64 - 1 - 2147483648 = 18446744071562067967 by decide, nat_low n h]
  exact wraps_i63 _ (by omega) (by omega)
set_option maxRecDepth 100000 in
theorem octet_Low (n : Nat) (hn : n < 4294967296) (w : World) : Calls Tryz.prog 262 #[.int .i64 (n : Int)] w fun e w' => e = .returned (.tuple #[.int .i64 (lowF n).1, .bool (lowF n).2]) ∧ w = w' := by
  have h0 : ¬ (n : Int) < 0 := by omega
  have h1 : ¬ (n : Int) ≥ 4294967296 := by omega
  have h2 := (bits_nat .i64 63 (by decide) wraps_i63 n 2147483648 (by omega) (by decide)).1
  rw [nat_high n hn] at h2
  have h3 : bits .andNot .i64 (n : Int) 2147483648 = (lowF n).1 := by
    rw [andNot_high n hn]
    unfold lowF
    rw [if_pos (by omega)]
    split <;> simp only <;> omega
  have h4 : (lowF n).2 = decide (2147483648 ≤ n) := by
    unfold lowF
    rw [if_pos (by omega)]
    by_cases h : 2147483648 ≤ n
    · rw [if_pos (by omega)]; simp [h]
    · rw [if_neg (by omega)]; simp [h]
  generalize lowF n = L at h3 h4 ⊢
  by_cases h : 2147483648 ≤ n
  all_goals
    simp only [h, if_true, if_false, decide_true, decide_false] at h2 h4
    have h5 : bits .and .i64 (n : Int) 2147483648 = _ := h2
    clear h2
    go_enter Tryz.func262, Tryz.ntmps262
    go_wp2_with fail
    go_ret2
    exact ⟨by rw [← h3]; rfl, rfl⟩
end Go.Proofs.YtfloijkagfabpaaGreatDoor
/-
  The cursor: what it has left, a number, bytes. Its block is written in place; all other blocks stay.
-/
namespace Go.Proofs.YtfloijkagfabpaaGreatDoor
set_option linter.unusedSimpArgs false
set_option linter.unusedVariables false
set_option linter.unusedSectionVars false
open Go.ChangeShapes Go.WideShapes Go.ChangeAt Go.RowKit Go.Deep Go.Shelf

abbrev CurT : TypeId := 313
theorem Gp.imp {p q : Nat → Prop} {w w' : World} (h : Gp p w w') (hpq : ∀ k, p k → q k) : Gp q w w' := ⟨h.os, h.tape, h.output, h.size, fun k hk hn => h.block k hk (fun hp => hn (hpq k hp))⟩
theorem Gp.then {p : Nat → Prop} {w1 w3 w5 : World} (h : Gp p w1 w3) (hb : Below w1.heap.size w3 w5) : Gp p w1 w5 := ⟨hb.os.trans h.os, hb.tape.trans h.tape, hb.output.trans h.output, Nat.le_trans h.size hb.size, fun k hk hn => (hb.block k hk).trans (h.block k hk hn)⟩
/-- A cursor: where its bytes lie, its bytes, and how many it has passed. -/
def Cur (w : World) (C : Nat) (A : Option Addr × Nat) (l : List UInt8) (n : Nat) : Prop := n ≤ l.length ∧ Blk w C CurT #[.slice A.1 l.length A.2, .int .i64 (n : Int)] ∧ SlB w w.heap.size A.1 l ∧ l.length ≤ A.2
theorem SlB.off {w : World} {B : Nat} {a : Option Addr} {l : List UInt8} (h : SlB w B a l) {g : Nat} {t : TypeId} {cs : Array Value} (hg : Blk w g t cs) (hcs : ∀ (i : Nat) (x : UInt8), cs[i]? ≠ some (.int .u8 (x.toNat : Int))) : ∀ k, k < l.length → ∃ b o, a = some ⟨b, o, none⟩ ∧ b ≠ g := by
  intro k hk
  obtain ⟨b, o, ha, hb, hc⟩ := SlR.atB h hk
  refine ⟨b, o, ha, fun e => ?_⟩
  subst e
  rw [hg.cell] at hc
  exact hcs _ _ hc
theorem SlB.gp {p : Nat → Prop} {w w' : World} {a : Option Addr} {l : List UInt8} (h : SlB w w.heap.size a l) (hg : Gp p w w') (hp : ∀ k, p k → ∃ t cs, Blk w k t cs ∧ ∀ (i : Nat) (x : UInt8), cs[i]? ≠ some (.int .u8 (x.toNat : Int))) : SlB w' w'.heap.size a l := by
  intro k hk
  obtain ⟨b, o, cs, ha, hb, hR, hc⟩ := h k hk
  have hne : ¬ p b := fun hpb => by
    obtain ⟨t, cs2, hb2, hx⟩ := hp b hpb
    obtain ⟨b3, o3, ha3, hn⟩ := SlB.off h hb2 hx k hk
    rw [ha] at ha3
    injection ha3 with ha3
    injection ha3 with ha3
    exact hn ha3.symm
  exact ⟨b, o, cs, ha, Nat.lt_of_lt_of_le hb hg.size, hR, fun j v hj => (hg.cell b _ hb hne).trans (hc j v hj)⟩
theorem SlB.grow {w w' : World} {a : Option Addr} {l : List UInt8} (h : SlB w w.heap.size a l) (hb : Below w.heap.size w w') : SlB w' w'.heap.size a l := (h.below hb (Nat.le_refl _)).mono hb.size (fun _ _ _ h => h)
theorem cur_cells {a : Option Addr} {n c : Nat} {x : Int} : ∀ (i : Nat) (y : UInt8), (#[.slice a n c, .int .i64 x] : Array Value)[i]? ≠ some (.int .u8 (y.toNat : Int))
  | 0, y => by simp
  | 1, y => by simp
  | i + 2, y => by simp
theorem Cur.gp {p : Nat → Prop} {w w' : World} {C : Nat} {A : Option Addr × Nat} {l : List UInt8} {n : Nat} (h : Cur w C A l n) (hg : Gp p w w') (hC : ¬ p C) (hp : ∀ k, p k → ∃ t cs, Blk w k t cs ∧ ∀ (i : Nat) (x : UInt8), cs[i]? ≠ some (.int .u8 (x.toNat : Int))) : Cur w' C A l n := by
  obtain ⟨hn, hb, hs, hc⟩ := h
  exact ⟨hn, hg.blk hb hC, SlB.gp hs hg hp, hc⟩
theorem Cur.below {w w' : World} {C : Nat} {A : Option Addr × Nat} {l : List UInt8} {n : Nat} (h : Cur w C A l n) (hb : Below w.heap.size w w') : Cur w' C A l n := by
  obtain ⟨hn, hk, hs, hc⟩ := h
  exact ⟨hn, hk.below hb hk.lt, (hs.below hb (Nat.le_refl _)).mono hb.size (fun _ _ _ h => h), hc⟩
theorem OwnB.full {B : Nat} {w : World} {v : Value} {l : List UInt8} (h : OwnB B w v l) : ∃ a cap, v = .slice a l.length cap ∧ l.length ≤ cap ∧ SlB w w.heap.size a l ∧ ∀ p, a = some p → B ≤ p.block := by
  obtain ⟨a, cap, rfl, hs⟩ := h.read
  refine ⟨a, cap, rfl, ?_, hs, ?_⟩
  all_goals rcases (show w.ownsRow B 5 1 _ l.length (Lib.byteCells l) from h).2 with ⟨he, hn⟩ | ⟨g, cap', cur, he, hg, hh, h3, h4, h5, h6⟩
  · have : l = [] := List.eq_nil_of_length_eq_zero hn
    subst this
    exact Nat.zero_le _
  · injection he with _ _ e3
    rw [e3]
    exact h3
  · injection he with e1 _ _
    intro p hp
    rw [e1] at hp
    cases hp
  · injection he with e1 _ _
    intro p hp
    rw [e1] at hp
    cases hp
    exact hg
set_option maxRecDepth 100000 in
theorem cursor_New (a : Option Addr) (c : Nat) (l : List UInt8) (w : World) (h : SlB w w.heap.size a l) (hl : l.length ≤ 1099511627776) :
    Calls Tryz.prog 147 #[.slice a l.length c] w fun e w' => ∃ C A, e = .returned (.pointer (some ⟨C, 0, none⟩)) ∧ Cur w' C A l 0 ∧ w.heap.size ≤ C ∧ Below w.heap.size w w' := by
  have HC := Lib.hid (slices_CloneB a c l w h hl)
  clear h
  go_enter Tryz.func147, Tryz.ntmps147
  go_wp2_with (go_at_call 37; refine HC.out.mono ?_; rintro e w1 ⟨v', rfl, ho, hb⟩; obtain ⟨a1, c1, rfl, hc1, hs1, -⟩ := OwnB.full ho; have HB := Lib.hid hb; have HS := Lib.hid hs1; clear ho hb hs1)
  go_ret
  refine ⟨_, (a1, c1), rfl, ⟨Nat.zero_le _, show Blk _ _ CurT #[.slice a1 l.length c1, .int .i64 0] from blk, (HS.out.below bel (Nat.le_refl _)).mono (by simp) (fun _ _ _ h => h), hc1⟩, HB.out.size, HB.out.alloc HB.out.size _⟩
set_option maxRecDepth 100000 in
theorem cursor_rest (C : Nat) (A : Option Addr × Nat) (l : List UInt8) (n : Nat) (w : World) (h : Cur w C A l n) :
    Calls Tryz.prog 214 #[.pointer (some ⟨C, 0, none⟩)] w fun e w' => (∃ a c, e = .returned (.slice a (l.length - n) c) ∧ SlB w w.heap.size a (l.drop n) ∧ l.length - n ≤ c) ∧ ∃ j, w' = w.more j := by
  obtain ⟨hn, hk, hs, hc⟩ := h
  obtain ⟨a, c⟩ := A
  simp only at hk hs hc
  have h0 : w.cell? ⟨C, 0, none⟩ = some (.slice a l.length c) := hk.cell 0
  have h1 : w.cell? ⟨C, 1, none⟩ = some (.int .i64 (n : Int)) := hk.cell 1
  have hlt := hk.lt
  have HS := Lib.hid hs
  clear hk hs
  go_enter Tryz.func214, Tryz.ntmps214
  go_wp2_with fail
  refine wp_region_more (by kernel_rfl) (by kernel_rfl) ?_
  repeat (quiet_step (first | fail))
  refine wpQuiet_nil ?_
  intro w' hw'
  obtain ⟨j, rfl⟩ := hw'
  go_wp2_with fail
  · go_ret
    obtain rfl : l.length = n := by omega
    exact ⟨⟨_, _, rfl, by rw [List.drop_length]; exact .nil, by omega⟩, _, rfl⟩
  · go_ret
    exact ⟨⟨_, _, rfl, by have := SlR.drop HS.out n; rwa [Nat.mul_one] at this, by omega⟩, _, rfl⟩
set_option maxRecDepth 100000 in
theorem cursor_Left (C : Nat) (A : Option Addr × Nat) (l : List UInt8) (n : Nat) (w : World) (h : Cur w C A l n) :
    Calls Tryz.prog 150 #[.pointer (some ⟨C, 0, none⟩)] w fun e w' => e = .returned (.int .i64 ((l.length - n : Nat) : Int)) ∧ ∃ j, w' = w.more j := by
  have HR := Lib.hid (cursor_rest C A l n w h)
  clear h
  go_enter Tryz.func150, Tryz.ntmps150
  go_wp2_with (go_at_call 214; refine HR.out.mono ?_; rintro e w1 ⟨⟨a1, c1, rfl, hs1, hc1⟩, j, rfl⟩)
  go_ret
  exact ⟨rfl, _, rfl⟩
set_option maxRecDepth 100000 in
theorem cursor_pass (C : Nat) (A : Option Addr × Nat) (l : List UInt8) (n k : Nat) (w : World) (h : Cur w C A l n) (hk : n + k ≤ l.length) (hl : l.length ≤ 1099511627776) :
    Calls Tryz.prog 215 #[.pointer (some ⟨C, 0, none⟩), .int .i64 (k : Int)] w fun e w' => e = .returned (.tuple #[]) ∧ Cur w' C A l (n + k) ∧ Gp (fun q => q = C) w w' := by
  obtain ⟨hn, hb, hs, hc⟩ := h
  obtain ⟨a, c⟩ := A
  simp only at hb hs hc
  have h1 : w.cell? ⟨C, 1, none⟩ = some (.int .i64 (n : Int)) := hb.cell 1
  have h2 := hb.frozen 1
  have hlt := hb.lt
  have hw : IntKind.i64.wrap ((n : Int) + k) = ((n + k : Nat) : Int) := by rw [IntWalk.i64_in _ (by omega)]; omega
  have HS := Lib.hid hs
  have HB := Lib.hid hb
  clear hb hs
  go_enter Tryz.func215, Tryz.ntmps215
  go_wp2_with fail
  refine bodyPost_end (results_none rfl _ _ _) rfl ?_
  have hg : Gp (fun q => q = C) w (w.setCell ⟨C, 1, none⟩ (.int .i64 ((n + k : Nat) : Int))) := Gp.set _ rfl
  exact ⟨rfl, ⟨hk, HB.out.set_ 1 _, SlB.gp HS.out hg (fun q hq => ⟨_, _, hq ▸ HB.out, cur_cells⟩), hc⟩, hg⟩
/-- A number read: what it is, and whether it was there. -/
def numF (k : Nat) (l : List UInt8) (n : Nat) : Int × Int := getF k (l.drop n)
set_option maxRecDepth 100000 in
theorem cursor_Number (C : Nat) (A : Option Addr × Nat) (l : List UInt8) (n k : Nat) (h1 : 1 ≤ k) (h2 : k ≤ 4) (w : World) (h : Cur w C A l n) (hl : l.length ≤ 1099511627776) :
    Calls Tryz.prog 211 #[.pointer (some ⟨C, 0, none⟩), .int .i64 (k : Int)] w fun e w' => e = .returned (.tuple #[.int .i64 (numF k l n).1, .int .i64 (numF k l n).2]) ∧ Cur w' C A l (if n + k ≤ l.length then n + k else n) ∧ Gp (fun q => q = C) w w' := by
  have HR := Lib.hid (cursor_rest C A l n w h)
  have HG : Hid (∀ a c W, SlB w w.heap.size a (l.drop n) → Below w.heap.size w W → l.length - n ≤ c → Calls Tryz.prog 261 #[.slice a ((l.length - n : Nat) : Nat) c, .int .i64 k] W fun e w' => e = .returned (.tuple #[.int .i64 (numF k l n).1, .int .i64 (numF k l n).2]) ∧ W = w') := fun a c W hs hb hc => by
    have := octet_Get k h1 h2 a c (l.drop n) W ((hs.below hb (Nat.le_refl _)).mono hb.size (fun _ _ _ h => h)) (by simpa using hc)
    rwa [List.length_drop] at this
  have HP : Hid (n + k ≤ l.length → ∀ W, Below w.heap.size w W → Calls Tryz.prog 215 #[.pointer (some ⟨C, 0, none⟩), .int .i64 (k : Int)] W fun e w' => e = .returned (.tuple #[]) ∧ Cur w' C A l (n + k) ∧ Gp (fun q => q = C) W w') := fun hk W hb => cursor_pass C A l n k W (h.below hb) hk hl
  have HC := Lib.hid h
  have hn : (numF k l n).2 = if n + k ≤ l.length then 0 else 3 := by
    have := h.1
    unfold numF getF
    rw [List.length_drop]
    by_cases hk : n + k ≤ l.length
    · rw [if_pos (by omega), if_pos hk]
    · rw [if_neg (by omega), if_neg hk]
  generalize numF k l n = R at HG hn ⊢
  obtain ⟨v, er⟩ := R
  simp only at hn
  clear h
  by_cases hk : n + k ≤ l.length
  · rw [if_pos hk] at hn ⊢
    subst hn
    have HP2 := Lib.hid (HP.out hk)
    clear hk HP
    go_enter Tryz.func211, Tryz.ntmps211
    go_wp2_with (go_at_call 214; refine HR.out.mono ?_; rintro e w1 ⟨⟨a1, c1, rfl, hs1, hc1⟩, j, rfl⟩; have HS := Lib.hid hs1; have HC1 := Lib.hid hc1; clear hs1 hc1)
    refine (HG.out a1 c1 _ HS.out bel HC1.out).mono ?_
    rintro e w' ⟨rfl, rfl⟩
    go_wp2_with fail
    refine (HP2.out _ bel).mono ?_
    rintro e w2 ⟨rfl, hc2, hg2⟩
    have HG2 : Hid (Gp (fun q => q = C) w w2) := (Gp.of_below bel).trans hg2
    have HC2 := Lib.hid hc2
    clear hc2 hg2
    go_wp2_with fail
    go_ret2
    exact ⟨rfl, HC2.out, HG2.out⟩
  · rw [if_neg hk] at hn ⊢
    subst hn
    clear hk HP
    go_enter Tryz.func211, Tryz.ntmps211
    go_wp2_with (go_at_call 214; refine HR.out.mono ?_; rintro e w1 ⟨⟨a1, c1, rfl, hs1, hc1⟩, j, rfl⟩; have HS := Lib.hid hs1; have HC1 := Lib.hid hc1; clear hs1 hc1)
    refine (HG.out a1 c1 _ HS.out bel HC1.out).mono ?_
    rintro e w' ⟨rfl, rfl⟩
    go_wp2_with fail
    go_ret2
    exact ⟨rfl, HC.out.below bel, Gp.of_below bel⟩
set_option maxRecDepth 100000 in
theorem cursor_Bytes (C : Nat) (A : Option Addr × Nat) (l : List UInt8) (n k : Nat) (hk : n + k ≤ l.length) (w : World) (h : Cur w C A l n) (hl : l.length ≤ 1099511627776) :
    Calls Tryz.prog 152 #[.pointer (some ⟨C, 0, none⟩), .int .i64 (k : Int)] w fun e w' => ∃ a c, e = .returned (.tuple #[.slice a k c, .int .i64 0]) ∧ SlB w' w'.heap.size a ((l.drop n).take k) ∧ k ≤ c ∧ (∀ p, a = some p → w.heap.size ≤ p.block) ∧ Cur w' C A l (n + k) ∧ Gp (fun q => q = C) w w' := by
  have HR : Hid (∀ W, Below w.heap.size w W → Calls Tryz.prog 214 #[.pointer (some ⟨C, 0, none⟩)] W fun e w' => (∃ a c, e = .returned (.slice a (l.length - n) c) ∧ SlB W W.heap.size a (l.drop n) ∧ l.length - n ≤ c) ∧ ∃ j, w' = W.more j) := fun W hb => cursor_rest C A l n W (h.below hb)
  have HL : Hid (∀ W, Below w.heap.size w W → Calls Tryz.prog 150 #[.pointer (some ⟨C, 0, none⟩)] W fun e w' => e = .returned (.int .i64 ((l.length - n : Nat) : Int)) ∧ ∃ j, w' = W.more j) := fun W hb => cursor_Left C A l n W (h.below hb)
  have HP : Hid (∀ W, Below w.heap.size w W → Calls Tryz.prog 215 #[.pointer (some ⟨C, 0, none⟩), .int .i64 (k : Int)] W fun e w' => e = .returned (.tuple #[]) ∧ Cur w' C A l (n + k) ∧ Gp (fun q => q = C) W w') := fun W hb => cursor_pass C A l n k W (h.below hb) hk hl
  have HC := Lib.hid h
  have HK := Lib.hid hk
  have g0 : ¬ (k : Int) < 0 := by omega
  have g1 : ¬ (k : Int) > ((l.length - n : Nat) : Int) := by omega
  have g2 : k ≤ l.length - n := by omega
  obtain ⟨r, hr⟩ : ∃ r, r = l.length - n := ⟨_, rfl⟩
  rw [← hr] at g1 g2
  have HRR := Lib.hid hr
  rw [← hr] at HR HL
  clear h hk hr
  go_enter Tryz.func152, Tryz.ntmps152
  go_wp2_with (go_at_call 150; refine (HL.out _ bel).mono ?_; rintro e w' ⟨rfl, j, rfl⟩)
  refine (HR.out _ bel).mono ?_
  rintro e w1 ⟨⟨a1, c1, rfl, hs1, hc1⟩, j1, rfl⟩
  have HS := Lib.hid hs1
  clear hs1
  have g3 : k ≤ c1 := by omega
  have HCl : Hid (∀ W, SlB W W.heap.size a1 (l.drop n) → Calls Tryz.prog 37 #[.slice a1 k c1] W fun e w' => ∃ v', e = .returned v' ∧ OwnB W.heap.size w' v' ((l.drop n).take k) ∧ Below W.heap.size W w') := fun W hs => by
    have hle : ((l.drop n).take k).length = k := by have := HK.out; simp; omega
    have := slices_CloneB a1 c1 ((l.drop n).take k) W (SlR.take hs k) (by rw [hle]; have := HK.out; omega)
    rwa [hle] at this
  go_wp2_with fail
  refine (HCl.out _ (HS.out.grow belm)).mono ?_
  rintro e w2 ⟨v', rfl, ho, hb⟩
  have HB2 : Hid (Below w.heap.size w w2) := Below.trans (B := w.heap.size) bel (hb.mono (by simp))
  obtain ⟨a2, c2, rfl, hc2, hs2, hn2⟩ := OwnB.full ho
  have hle : ((l.drop n).take k).length = k := by have := HK.out; simp; omega
  rw [hle] at hc2 ⊢
  have HS2 := Lib.hid hs2
  have HN2 : Hid (∀ p, a2 = some p → w.heap.size ≤ p.block) := fun p hp => by have := hn2 p hp; simp at this; omega
  have HC2 := Lib.hid hc2
  clear ho hb hs2 hn2 hc2 hle
  go_wp2_with fail
  refine (HP.out _ HB2.out).mono ?_
  rintro e w3 ⟨rfl, hc3, hg3⟩
  have HC3 := Lib.hid hc3
  have HG3 := Lib.hid hg3
  clear hc3 hg3
  go_wp2_with fail
  go_ret2
  refine ⟨a2, c2, rfl, SlB.gp HS2.out HG3.out (fun q hq => ?_), HC2.out, HN2.out, HC3.out, (Gp.of_below HB2.out).trans HG3.out⟩
  obtain ⟨_, hb5, _⟩ := HC.out.below HB2.out
  exact ⟨_, _, hq ▸ hb5, cur_cells⟩
end Go.Proofs.YtfloijkagfabpaaGreatDoor
/-
  The reader of a frame: numbers, one behind the other; whether one was not there.
-/
namespace Go.Proofs.YtfloijkagfabpaaGreatDoor
set_option linter.unusedSimpArgs false
set_option linter.unusedVariables false
set_option linter.unusedSectionVars false
open Go.ChangeShapes Go.WideShapes Go.ChangeAt Go.RowKit Go.Deep Go.Shelf

abbrev RdrT : TypeId := 255
def Rdr (w : World) (C R : Nat) (l : List UInt8) (n : Nat) (sh : Bool) : Prop := (∃ A, Cur w C A l n) ∧ Blk w R RdrT #[.pointer (some ⟨C, 0, none⟩), .bool sh] ∧ C ≠ R ∧ l.length ≤ 1099511627776
theorem rdr_cells {p : Option Addr} {b : Bool} : ∀ (i : Nat) (y : UInt8), (#[.pointer p, .bool b] : Array Value)[i]? ≠ some (.int .u8 (y.toNat : Int))
  | 0, y => by simp
  | 1, y => by simp
  | i + 2, y => by simp
theorem Rdr.gp {p : Nat → Prop} {w w' : World} {C R : Nat} {l : List UInt8} {n : Nat} {sh : Bool} (h : Rdr w C R l n sh) (hg : Gp p w w') (hC : ¬ p C) (hR : ¬ p R) (hp : ∀ k, p k → ∃ t cs, Blk w k t cs ∧ ∀ (i : Nat) (x : UInt8), cs[i]? ≠ some (.int .u8 (x.toNat : Int))) : Rdr w' C R l n sh :=
  ⟨h.1.imp fun _ hc => hc.gp hg hC hp, hg.blk h.2.1 hR, h.2.2⟩
theorem Rdr.below {w w' : World} {C R : Nat} {l : List UInt8} {n : Nat} {sh : Bool} (h : Rdr w C R l n sh) (hb : Below w.heap.size w w') : Rdr w' C R l n sh := ⟨h.1.imp fun _ hc => hc.below hb, h.2.1.below hb h.2.1.lt, h.2.2⟩
def nxtN (k : Nat) (l : List UInt8) (n : Nat) : Nat := if n + k ≤ l.length then n + k else n
def nxtS (k : Nat) (l : List UInt8) (n : Nat) (sh : Bool) : Bool := sh || decide (¬ n + k ≤ l.length)
def NumP (C R k : Nat) (l : List UInt8) (n : Nat) (sh : Bool) (w : World) (e : Ending) (w' : World) : Prop := e = .returned (.int .i64 (numF k l n).1) ∧ Rdr w' C R l (nxtN k l n) (nxtS k l n sh) ∧ Gp (P2 C R) w w'
set_option maxRecDepth 100000 in
theorem reader_number (C R : Nat) (l : List UInt8) (n k : Nat) (sh : Bool) (h1 : 1 ≤ k) (h2 : k ≤ 4) (w : World) (h : Rdr w C R l n sh) :
    Calls Tryz.prog 148 #[.pointer (some ⟨R, 0, none⟩), .int .i64 (k : Int)] w (NumP C R k l n sh w) := by
  obtain ⟨⟨A, hc⟩, hb, hne, hl⟩ := h
  have HN := Lib.hid (cursor_Number C A l n k h1 h2 w hc hl)
  have c0 : w.cell? ⟨R, 0, none⟩ = some (.pointer (some ⟨C, 0, none⟩)) := hb.cell 0
  have hn : (numF k l n).2 = if n + k ≤ l.length then 0 else 3 := by
    have := hc.1
    unfold numF getF
    rw [List.length_drop]
    by_cases hk : n + k ≤ l.length
    · rw [if_pos (by omega), if_pos hk]
    · rw [if_neg (by omega), if_neg hk]
  have HNX : Hid ((if n + k ≤ l.length then n + k else n) = nxtN k l n) := rfl
  have HSX : Hid (nxtS k l n sh = (sh || decide (¬ n + k ≤ l.length))) := rfl
  rw [HNX.out] at HN
  unfold NumP
  generalize nxtS k l n sh = S at HSX ⊢
  generalize nxtN k l n = N at HN HNX ⊢
  generalize numF k l n = V at HN hn ⊢
  obtain ⟨v, er⟩ := V
  simp only at hn
  have HB := Lib.hid hb
  have HL := Lib.hid hl
  clear hc hb h1 h2
  have hS : S = (sh || decide (¬ n + k ≤ l.length)) := HSX.out
  obtain ⟨ok, hok⟩ : ∃ ok : Bool, ok = decide (n + k ≤ l.length) := ⟨_, rfl⟩
  have hS2 : S = (sh || !ok) := by rw [hS, hok, decide_not]
  have hn2 : er = if ok = true then 0 else 3 := by rw [hn, hok]; simp
  have HNE := Lib.hid hne
  clear hS hn HSX HNX hok hne hl
  cases ok <;> cases sh
  all_goals
    simp only [Bool.not_true, Bool.not_false, Bool.or_true, Bool.or_false, if_true, if_false, Bool.false_eq_true] at hS2 hn2
    subst hS2 hn2
    go_enter Tryz.func148, Tryz.ntmps148
    go_wp2_with fail
    refine HN.out.mono ?_
    rintro e w1 ⟨rfl, hc1, hg1⟩
    have HC1 := Lib.hid hc1
    have HG1 := Lib.hid hg1
    have hb1 := hg1.blk HB.out (fun e => HNE.out e.symm)
    have HB1 := Lib.hid hb1
    have d1 := hb1.cell 1
    have f1 := hb1.frozen 1
    have l1 := hb1.lt
    clear hc1 hg1 hb1
    go_wp2_with fail
    go_ret
    exact ⟨rfl, ⟨⟨A, HC1.out.gp (p := fun q => q = R) (Gp.set _ rfl) HNE.out (fun q hq => ⟨_, _, hq ▸ HB1.out, rdr_cells⟩)⟩, HB1.out.set_ 1 _, HNE.out, HL.out⟩, (HG1.out.imp (fun q hq => .inl hq)).trans (Gp.set _ (.inr rfl))⟩
set_option maxRecDepth 100000 in
theorem reader_low (C R : Nat) (l : List UInt8) (n : Nat) (sh : Bool) (w : World) (h : Rdr w C R l n sh) :
    Calls Tryz.prog 213 #[.pointer (some ⟨R, 0, none⟩)] w fun e w' => e = .returned (.tuple #[.int .i64 (lowF (numF 4 l n).1).1, .bool (lowF (numF 4 l n).1).2]) ∧ Rdr w' C R l (nxtN 4 l n) (nxtS 4 l n sh) ∧ Gp (P2 C R) w w' := by
  have HN := Lib.hid (reader_number C R l n 4 sh (by decide) (by decide) w h)
  obtain ⟨v, hv, hv2⟩ : ∃ v : Nat, (numF 4 l n).1 = (v : Int) ∧ v < 4294967296 := by
    unfold numF getF
    split
    · exact ⟨_, rfl, beN_small (by simp; omega)⟩
    · exact ⟨0, rfl, by decide⟩
  have HL : Hid (∀ W, Calls Tryz.prog 262 #[.int .i64 (v : Int)] W fun e w' => e = .returned (.tuple #[.int .i64 (lowF v).1, .bool (lowF v).2]) ∧ W = w') := octet_Low v hv2
  unfold NumP at HN
  rw [hv] at HN ⊢
  generalize lowF v = L at HL ⊢
  clear h hv
  go_enter Tryz.func213, Tryz.ntmps213
  go_wp2_with fail
  refine HN.out.mono ?_
  rintro e w1 ⟨rfl, hc1, hg1⟩
  have HC1 := Lib.hid hc1
  have HG1 := Lib.hid hg1
  clear hc1 hg1
  go_wp2_with (go_at_call 262; (with_reducible refine (HL.out _).mono ?_); rintro e w' ⟨rfl, rfl⟩)
  go_ret2
  exact ⟨rfl, HC1.out, HG1.out⟩
end Go.Proofs.YtfloijkagfabpaaGreatDoor
