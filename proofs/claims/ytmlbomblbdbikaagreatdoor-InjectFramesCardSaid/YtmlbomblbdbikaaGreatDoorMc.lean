/-
  Parts of the proof, one behind the other: contracts of the program and plain laws; no condition of their own.
-/
import Derived.Test.YtmlbomblbdbikaaGreatDoorMb
import Derived.Test.YtmlbomblbdbikaaGreatDoorMa
import Derived.BigGuardPart
import Derived.Deep.LoopGhost
import Derived.Deep.Draws
import Derived.Laws.CopyOwn
import Derived.Laws.BitsAllLaws
import Derived.Laws.BitsLemmas
import Derived.Lib.AtoiErrMem
import Derived.Lib.Buffer
/-
  Numbers that begin within a byte: both roads.
-/
namespace Go.Proofs.YtmlbomblbdbikaaGreatDoor
set_option linter.unusedSimpArgs false
set_option linter.unusedVariables false
set_option linter.unusedSectionVars false
open Go.ChangeShapes Go.WideShapes Go.ChangeAt Go.RowKit Go.Deep Go.Shelf

set_option maxRecDepth 100000 in
theorem prefix_full (b : Nat) (h : b = 4 ∨ b = 5 ∨ b = 6 ∨ b = 7) (w : World) : Calls Tryz.prog 90 #[.int .i64 b] w fun e w' => e = .returned (.tuple #[.int .i64 ((2 ^ b - 1 : Nat) : Int), .bool true]) ∧ ∃ j, w' = w.more j := by
  rcases h with rfl | rfl | rfl | rfl
  all_goals
    go_enter Tryz.func90, Tryz.ntmps90
    go_wp2_with fail
    go_ret2
    exact ⟨rfl, Below.junk bel⟩
/-- Two to the power of n. -/
def pw (n : Nat) : Int := ((2 ^ n : Nat) : Int)
theorem pw_succ (n : Nat) : pw (n + 1) = 2 * pw n := by unfold pw; rw [Nat.pow_succ]; omega
theorem pw_le {n m : Nat} (h : n ≤ m) : 1 ≤ pw n ∧ pw n ≤ pw m := by
  unfold pw
  have h1 : (2 : Nat) ^ n ≤ 2 ^ m := Nat.pow_le_pow_right (by decide) h
  have h2 : 0 < (2 : Nat) ^ n := Nat.pow_pos (by decide)
  omega
theorem pw_35 : pw 35 = 34359738368 := by unfold pw; simp
set_option maxRecDepth 100000 in
theorem ref18_power (b : Nat) (h : b ≤ 35) (w : World) : Calls Tryz.prog 58 #[.int .i64 b] w fun e w' => e = .returned (.int .i64 (pw b)) ∧ w = w' := by
  go_enter Tryz.func58, Tryz.ntmps58
  go_wp2_with fail
  go_loopg [3, 4] b (fun g v i wr => ∃ m : Nat, m + g = b ∧ v = .int .i64 (pw m) ∧ i = .int .i64 m ∧ wr = w)
  case atStart => exact ⟨0, by omega, rfl, rfl, rfl⟩
  case round =>
    obtain ⟨m, hm, rfl, rfl, rfl⟩ := hrel
    by_cases hlt : m < b
    · have hlt2 : (m : Int) < b := by omega
      have hp := pw_le (n := m) (m := 35) (by omega)
      have hp35 := pw_35
      have e2 : IntKind.i64.wrap (2 * pw m) = pw (m + 1) := by rw [pw_succ]; exact IntWalk.i64_in _ (by omega)
      obtain ⟨q, rfl⟩ : ∃ q, gk = q + 1 := ⟨gk - 1, by omega⟩
      have HLT : Hid (m < b ∧ m + (q + 1) = b ∧ b ≤ 35) := ⟨hlt, hm, h⟩
      have hw3 : IntKind.i64.wrap ((m : Int) + 1) = (m : Int) + 1 := IntWalk.i64_in _ (by omega)
      clear hp hp35 hlt h hm
      go_wp2_with fail
      go_roundg q
      case measure => exact Nat.lt_succ_self q
      case rel => exact ⟨m + 1, by have := HLT.out; omega, rfl, by go_num, rfl⟩
    · obtain rfl : m = b := by omega
      go_wp2_with fail
      go_ret
      exact ⟨rfl, rfl⟩
theorem and_mask {bits : Nat} (hb : bits = 4 ∨ bits = 5 ∨ bits = 6 ∨ bits = 7) (x : UInt8) : Go.bits BinOp.and .i64 (x.toNat : Int) ((2 ^ bits - 1 : Nat) : Int) = ((x.toNat % 2 ^ bits : Nat) : Int) := by
  have h : ∀ n : Fin 256, ∀ b : Fin 4, Go.bits BinOp.and .i64 ((n.val : Nat) : Int) ((2 ^ (b.val + 4) - 1 : Nat) : Int) = ((n.val % 2 ^ (b.val + 4) : Nat) : Int) := by decide +kernel
  rcases hb with rfl | rfl | rfl | rfl
  · exact h ⟨x.toNat, x.toNat_lt⟩ 0
  · exact h ⟨x.toNat, x.toNat_lt⟩ 1
  · exact h ⟨x.toNat, x.toNat_lt⟩ 2
  · exact h ⟨x.toNat, x.toNat_lt⟩ 3
theorem and_127 (x : UInt8) : Go.bits BinOp.and .u8 (x.toNat : Int) 127 = ((x.toNat % 128 : Nat) : Int) := by
  have h : ∀ n : Fin 256, Go.bits BinOp.and .u8 ((n.val : Nat) : Int) 127 = ((n.val % 128 : Nat) : Int) := by decide +kernel
  exact h ⟨x.toNat, x.toNat_lt⟩
theorem pfxGo_succ (l : List UInt8) (f k : Nat) (n : Int) : pfxGo l (f + 1) k n = if l.length ≤ k then (0, 0, 3)
    else if (l.getD k 0).toNat < 128 then
      (if 2147483647 < n + (((l.getD k 0).toNat % 128 * 2 ^ (7 * (k - 1)) : Nat) : Int) then (0, 0, 5) else (n + (((l.getD k 0).toNat % 128 * 2 ^ (7 * (k - 1)) : Nat) : Int), (k : Int) + 1, 0))
    else pfxGo l f (k + 1) (n + (((l.getD k 0).toNat % 128 * 2 ^ (7 * (k - 1)) : Nat) : Int)) := by rw [pfxGo]
theorem pfx_byte {w : World} {b o : Nat} {x : UInt8} {r : List UInt8} (h : SlB w w.heap.size (some ⟨b, o, none⟩) (x :: r)) {k : Nat} (hk : k ≤ 4) (hr : k < r.length) {f : Nat} {n : Int} {R : Int × Int × Int} (hR : R = pfxGo (x :: r) (f + 1) (k + 1) n) :
    ∃ (y : UInt8) (M E : Int), w.cell? ⟨b, o + (k + 1), none⟩ = some (.int .u8 (y.toNat : Int)) ∧ Go.bits BinOp.and .u8 (y.toNat : Int) 127 = M ∧ (y.toNat : Int) < 256 ∧ (0 ≤ M ∧ M < 128) ∧ M * 2 ^ (7 * k) = E ∧ (0 ≤ E ∧ E ≤ 34091302912) ∧
      R = if (y.toNat : Int) < 128 then (if 2147483647 < n + E then (0, 0, 5) else (n + E, (k : Int) + 1 + 1, 0)) else pfxGo (x :: r) f (k + 1 + 1) (n + E) := by
  obtain ⟨b', o', heq, _, hc⟩ := SlR.atB h (k := k + 1) (by simp only [List.length_cons]; omega)
  cases heq
  have hy : (x :: r).getD (k + 1) 0 = (x :: r)[k + 1]'(by simp only [List.length_cons]; omega) := by rw [List.getD_eq_getElem?_getD, List.getElem?_eq_getElem (by simp only [List.length_cons]; omega)]; rfl
  refine ⟨_, _, _, hc, and_127 _, by have := ((x :: r)[k + 1]'(by simp only [List.length_cons]; omega)).toNat_lt; omega, by omega, rfl, ?_, ?_⟩
  · have hM := Nat.mod_lt ((x :: r)[k + 1]'(by simp only [List.length_cons]; omega)).toNat (show 0 < 128 by decide)
    generalize ((x :: r)[k + 1]'(by simp only [List.length_cons]; omega)).toNat % 128 = m at hM
    obtain rfl | rfl | rfl | rfl | rfl : k = 0 ∨ k = 1 ∨ k = 2 ∨ k = 3 ∨ k = 4 := by omega
    all_goals simp only [Nat.mul_zero, Nat.reduceMul]; omega
  · rw [hR, pfxGo_succ, if_neg (by simp only [List.length_cons]; omega), hy]
    generalize ((x :: r)[k + 1]'(by simp only [List.length_cons]; omega)) = y
    have e : (((y.toNat % 128 * 2 ^ (7 * (k + 1 - 1)) : Nat) : Int)) = ((y.toNat % 128 : Nat) : Int) * 2 ^ (7 * k) := by
      rw [Nat.add_sub_cancel, Int.natCast_mul, Int.natCast_pow]; rfl
    rw [e]
    by_cases hc : y.toNat < 128
    · rw [if_pos hc, if_pos (show (y.toNat : Int) < 128 by omega)]; rfl
    · rw [if_neg hc, if_neg (show ¬ (y.toNat : Int) < 128 by omega)]
theorem pfx_byte2 {w : World} {b o : Nat} {x : UInt8} {r : List UInt8} (h : SlB w w.heap.size (some ⟨b, o, none⟩) (x :: r)) {k : Nat} (hk : k ≤ 4) (hr : k < r.length) {f : Nat} {n : Int} {R : Int × Int × Int} (hR : R = pfxGo (x :: r) (f + 1) (k + 1) n) :
    ∃ (y : UInt8) (M E : Int), w.cell? ⟨b, o + (k + 1), none⟩ = some (.int .u8 (y.toNat : Int)) ∧ (y.toNat : Int).tmod 128 = M ∧ (y.toNat : Int) < 256 ∧ (0 ≤ M ∧ M < 128) ∧ M * pw (7 * k) = E ∧ (0 ≤ E ∧ E ≤ 34091302912) ∧
      R = if (y.toNat : Int) < 128 then (if 2147483647 < n + E then (0, 0, 5) else (n + E, (k : Int) + 1 + 1, 0)) else pfxGo (x :: r) f (k + 1 + 1) (n + E) := by
  obtain ⟨y, M, E, h1, h2, h3, h4, h5, h6, h7⟩ := pfx_byte h hk hr hR
  refine ⟨y, M, E, h1, ?_, h3, h4, ?_, h6, h7⟩
  · rw [and_127] at h2
    rw [← h2]
    rfl
  · rw [← h5]
    unfold pw
    rw [Int.natCast_pow]
    rfl
end Go.Proofs.YtmlbomblbdbikaaGreatDoor
/-
  Bytes: a row of bytes behind another; a copy of bytes.
-/
namespace Go.Proofs.YtmlbomblbdbikaaGreatDoor
set_option linter.unusedSimpArgs false
set_option linter.unusedVariables false
set_option linter.unusedSectionVars false
open Go.ChangeShapes Go.WideShapes Go.ChangeAt Go.RowKit Go.Deep Go.Shelf

theorem app_bytes {ops : Array Oper} {rest : List Oper} {o : Oper} {a : Act} {Q : Exit → Act → World → Prop} {w : World}
    (s x : Operand) (hgd : o.guard = none) (ho : o.op = .call { callee := .builtin .append, args := #[s, x], argTypes := #[38, 38] })
    {B C : Nat} {v : Value} {l m : List UInt8} (hs : a.eval s = v) (hown : OwnB B w v l)
    {A : Option Addr} {n c : Nat} (hx : a.eval x = .slice A n c) (hn : m.length = n) (hr : SlB w C A m)
    (hl : l.length + n ≤ 140737488355328) (hB : B ≤ w.heap.size)
    (h : ∀ v' w', OwnB B w' v' (l ++ m) → Below B w w' → w.grownBy w' v.ownBlock → wpList Tryz.prog ops Q rest (a.put o.dst v') w') : wpList Tryz.prog ops Q (o :: rest) a w := by
  refine wpList_app_sl st_bytes s x hgd ho hs hown hx hn hr (cf := fun (x : UInt8) => [.int .u8 (x.toNat : Int)]) (fun _ _ _ h => h) (fun _ _ => rfl) (fun _ _ u hu => by simp at hu; subst hu; rfl) (by unfold maxLen; omega) (by omega) hB (fun v' w' h1 h2 => h v' w' ?_ (own_grown (Below.refl B w) hown h2 (Nat.le_refl _) hB) h2)
  have e : Lib.byteCells (l ++ m) = Lib.byteCells l ++ m.flatMap (fun (x : UInt8) => [.int .u8 (x.toNat : Int)]) := by
    unfold Lib.byteCells
    rw [List.map_append]
    congr 1
    clear h h1 h2 hr hx hn
    induction m with
    | nil => rfl
    | cons y r ih => simp only [List.map_cons, List.flatMap_cons, ih]; rfl
  unfold OwnB
  rw [e, List.length_append, hn]
  exact h1
set_option maxRecDepth 100000 in
theorem slices_CloneB (a : Option Addr) (c : Nat) (l : List UInt8) (w : World) (h : SlB w w.heap.size a l) (hl : l.length ≤ 1099511627776) :
    Calls Tryz.prog 128 #[.slice a l.length c] w fun e w' => ∃ v', e = .returned v' ∧ OwnB w.heap.size w' v' l ∧ Below w.heap.size w w' := by
  have q : ∀ (w : World) (a : Option Addr) (n c n' c' : Nat), (binOp .eql 38 (.slice a n c) (.slice none n' c')).run Tryz.prog w = .ok (.bool a.isNone) w := fun w a n c n' c' => Lib.run_eql_slice_nil w _ _ a n c n' c' Tryz.underlying38
  have HS := Lib.hid h
  clear h
  cases a with
  | none =>
    obtain rfl : l = [] := by
      cases l with
      | nil => rfl
      | cons x r => obtain ⟨b, o, hx, _⟩ := SlR.atB HS.out (k := 0) (by simp); cases hx
    go_enter Tryz.func128, Tryz.ntmps128
    go_wp2_with fail
    go_ret
    exact ⟨_, rfl, OwnB.nil _ _, bel⟩
  | some p =>
    go_enter Tryz.func128, Tryz.ntmps128
    go_wp2_with (at_builtin; refine app_bytes (.tmp 5) (.tmp 6) rfl rfl (B := w.heap.size) (l := []) (m := l) rfl (World.ownsRow_lit (base := w.heap.size) w #[] 0 (Nat.le_refl _) (by decide) rfl) rfl rfl (HS.out.below ((Below.refl w.heap.size w).alloc (Nat.le_refl _) _) (Nat.le_refl _)) (by simp; omega) (by simp) ?_)
    intro v' w' ho hb _
    go_wp2_with fail
    go_ret
    exact ⟨_, rfl, by simpa using ho, ((Below.refl w.heap.size w).alloc (Nat.le_refl _) _).trans hb⟩
end Go.Proofs.YtmlbomblbdbikaaGreatDoor
/-
  Numbers as bytes: powers of 256; the greatest number of so many bytes.
-/
namespace Go.Proofs.YtmlbomblbdbikaaGreatDoor
set_option linter.unusedSimpArgs false
set_option linter.unusedVariables false
set_option linter.unusedSectionVars false
open Go.ChangeShapes Go.WideShapes Go.ChangeAt Go.RowKit Go.Deep Go.Shelf

def powB (k : Nat) : Int := if k = 0 then 1 else if k = 1 then 256 else if k = 2 then 65536 else if k = 3 then 16777216 else 4294967296
theorem powB_step {k : Nat} (h : k < 4) : 256 * powB k = powB (k + 1) ∧ IntKind.i64.wrap (256 * powB k) = powB (k + 1) := by
  match k, h with
  | 0, _ => exact ⟨by decide, by decide⟩
  | 1, _ => exact ⟨by decide, by decide⟩
  | 2, _ => exact ⟨by decide, by decide⟩
  | 3, _ => exact ⟨by decide, by decide⟩
set_option maxHeartbeats 4000000 in
set_option maxRecDepth 100000 in
theorem ref01_power (n : Nat) (hn : n ≤ 4) (w : World) : Calls Tryz.prog 86 #[.int .i64 (n : Int)] w fun e w' => e = .returned (.int .i64 (powB n)) ∧ w = w' := by
  go_enter Tryz.func86, Tryz.ntmps86
  go_wp2_with fail
  go_loopw [3, 4] (fun v i wr => ∃ k : Nat, k ≤ n ∧ v = .int .i64 (powB k) ∧ i = .int .i64 k ∧ wr = w) (fun _ i _ => n - (intOf i).toNat)
  case atStart => exact ⟨0, by omega, rfl, rfl, rfl⟩
  case round =>
    obtain ⟨k, hk, rfl, rfl, rfl⟩ := hrel
    by_cases hlt : k < n
    · have hlt2 : (k : Int) < n := by omega
      obtain ⟨_, h2⟩ := powB_step (k := k) (by omega)
      obtain ⟨R, hR⟩ : ∃ R, R = powB k := ⟨_, rfl⟩
      obtain ⟨Q, hQ⟩ : ∃ Q, Q = powB (k + 1) := ⟨_, rfl⟩
      rw [← hR] at h2 ⊢
      rw [← hQ] at h2
      have HQ := Lib.hid hQ
      clear hR hQ
      go_wp2_with fail
      go_round
      case rel => exact ⟨k + 1, by omega, by rw [← HQ.out], by go_num, by trivial⟩
      case measure => simp [intOf]; omega
    · obtain rfl : k = n := by omega
      have hlt2 : ¬ (k : Int) < k := by omega
      go_wp2_with fail
      go_ret
      exact ⟨rfl, rfl⟩
set_option maxRecDepth 100000 in
theorem octet_top2 (w : World) : Calls Tryz.prog 88 #[.int .i64 2] w fun e w' => e = .returned (.tuple #[.int .i64 65535, .bool true]) ∧ w = w' := by
  go_enter Tryz.func88, Tryz.ntmps88
  go_wp2_with fail
  go_ret2
  exact ⟨rfl, rfl⟩
set_option maxRecDepth 100000 in
theorem octet_top4 (w : World) : Calls Tryz.prog 88 #[.int .i64 4] w fun e w' => e = .returned (.tuple #[.int .i64 4294967295, .bool true]) ∧ w = w' := by
  go_enter Tryz.func88, Tryz.ntmps88
  go_wp2_with fail
  go_ret2
  exact ⟨rfl, rfl⟩
end Go.Proofs.YtmlbomblbdbikaaGreatDoor
/-
  Numbers as bytes: the document's. (Draft.)
-/
namespace Go.Proofs.YtmlbomblbdbikaaGreatDoor
set_option linter.unusedSimpArgs false
set_option linter.unusedVariables false
set_option linter.unusedSectionVars false
open Go.ChangeShapes Go.WideShapes Go.ChangeAt Go.RowKit Go.Deep Go.Shelf

theorem powB_pos (q : Nat) : 0 < powB q := by
  unfold powB
  repeat' split
  all_goals omega
theorem byte_of (x : Int) : ∃ c : UInt8, x % 256 = (c.toNat : Int) := by
  have h1 := Int.emod_nonneg x (show (256 : Int) ≠ 0 by omega)
  have h2 := Int.emod_lt_of_pos x (show (0 : Int) < 256 by omega)
  refine ⟨UInt8.ofNat (x % 256).toNat, ?_⟩
  have h3 : (UInt8.ofNat (x % 256).toNat).toNat = (x % 256).toNat := by simp; omega
  rw [h3]
  omega
/-- What a number's bytes leave: a row of so many bytes. -/
def PutB (k : Nat) (w : World) (e : Ending) (w' : World) : Prop := ∃ (v : Value) (l : List UInt8), e = .returned (.tuple #[v, .int .i64 0]) ∧ l.length = k ∧ OwnB w.heap.size w' v l ∧ Below w.heap.size w w'
set_option maxHeartbeats 8000000 in
set_option maxRecDepth 100000 in
theorem ref01_Put (n : Int) (k : Nat) (h1 : 1 ≤ k) (h4 : k ≤ 4) (w : World) (h0 : 0 ≤ n) (hn : n < powB k) :
    Calls Tryz.prog 64 #[.slice none 0 0, .int .i64 n, .int .i64 (k : Int)] w (PutB k w) := by
  have HP : Hid (∀ (q : Nat), q ≤ 4 → ∀ W, Calls Tryz.prog 86 #[.int .i64 (q : Int)] W fun e w' => e = .returned (.int .i64 (powB q)) ∧ W = w') := fun q hq W => ref01_power q hq W
  have HK : Hid (∀ W, Calls Tryz.prog 86 #[.int .i64 (k : Int)] W fun e w' => e = .returned (.int .i64 (powB k)) ∧ W = w') := HP.out k h4
  have k1 : ¬ (k : Int) < 1 := by omega
  have k4 : ¬ (4 : Int) < (k : Int) := by omega
  have n0 : ¬ n < 0 := by omega
  have n1 : ¬ powB k ≤ n := by omega
  go_enter Tryz.func64, Tryz.ntmps64
  go_wp2_with (go_at_call 86; (with_reducible refine (HK.out _).mono ?_); rintro e w' ⟨rfl, rfl⟩)
  have HW0 : Hid (OwnB w.heap.size (w.alloc (.cells #[] 5)) (.slice (some ⟨w.heap.size, 0, none⟩) 0 0) []) := World.ownsRow_made w #[] 0 (Nat.le_refl _) (by decide) rfl
  have HPOS : Hid (∀ q : Nat, 0 < powB q) := powB_pos
  clear n1 HK
  go_loopg [8, 9] k (fun g v i wr => ∃ (q : Nat) (l : List UInt8), q + g = k ∧ i = .int .i64 q ∧ OwnB w.heap.size wr v l ∧ l.length = q ∧ Below w.heap.size w wr)
  case atStart => exact ⟨0, [], by omega, rfl, HW0.out, rfl, bel⟩
  case round =>
    obtain ⟨q, l, hqg, rfl, ho, hlq, hb⟩ := hrel
    have HQG := Lib.hid hqg
    have HO := Lib.hid ho
    have HLQ := Lib.hid hlq
    have HB := Lib.hid hb
    clear ho hlq hb
    by_cases hlt : q < k
    · have hlt2 : (q : Int) < k := by omega
      have e1 : (k : Int) - 1 - q = ((k - 1 - q : Nat) : Int) := by omega
      have w1 : IntKind.i64.wrap ((k : Int) - 1) = (k : Int) - 1 := IntWalk.i64_in _ (by omega)
      have w2 : IntKind.i64.wrap ((k : Int) - 1 - q) = (k : Int) - 1 - q := IntWalk.i64_in _ (by omega)
      have HQ : Hid (∀ W, Calls Tryz.prog 86 #[.int .i64 ((k : Int) - 1 - q)] W fun e w' => e = .returned (.int .i64 (powB (k - 1 - q))) ∧ W = w') := fun W => by
        rw [e1]
        exact HP.out (k - 1 - q) (by omega) W
      have hp := HPOS.out (k - 1 - q)
      generalize powB (k - 1 - q) = P at HQ hp
      have hp0 : ¬ P = 0 := by omega
      clear e1 hqg
      obtain ⟨c, hc⟩ := byte_of ((wrap64 (n.tdiv P)).tmod 256)
      go_wp2_with (first | (go_at_call 86; (with_reducible refine (HQ.out _).mono ?_); rintro e w' ⟨rfl, rfl⟩) | (at_builtin; refine app_byte (.tmp 32) (.tmp 42) rfl rfl (c := c) rfl (HO.out.alloc _) rfl (Blk.at_ _ _ _ (by simp)) (by have := HLQ.out; omega) (by have := HB.out.size; simp only [World.size_alloc]; omega) ?_; intro v' w3 hown hbw))
      go_roundg (k - (q + 1))
      case measure => have := HQG.out; omega
      case rel => exact ⟨q + 1, l ++ [c], by have := HQG.out; omega, by go_num, hown, by have := HLQ.out; simp; omega, HB.out.trans ((Below.mono (B := wr.heap.size) bel HB.out.size).trans hbw)⟩
    · obtain rfl : q = k := by have := HQG.out; omega
      have hlt2 : ¬ (q : Int) < q := by omega
      go_wp2_with fail
      go_ret2
      exact ⟨_, l, ⟨rfl, HLQ.out, HO.out, HB.out⟩⟩
end Go.Proofs.YtmlbomblbdbikaaGreatDoor
/-
  Numbers as bytes: those that have none: both.
-/
namespace Go.Proofs.YtmlbomblbdbikaaGreatDoor
set_option linter.unusedSimpArgs false
set_option linter.unusedVariables false
set_option linter.unusedSectionVars false
open Go.ChangeShapes Go.WideShapes Go.ChangeAt Go.RowKit Go.Deep Go.Shelf

set_option maxHeartbeats 8000000 in
set_option maxRecDepth 100000 in
theorem ref01_Put_no (b : Value) (n : Int) (k : Nat) (h1 : 1 ≤ k) (h4 : k ≤ 4) (w : World) (h0 : n < 0 ∨ powB k ≤ n) :
    Calls Tryz.prog 64 #[b, .int .i64 n, .int .i64 (k : Int)] w fun e w' => e = .returned (.tuple #[.slice none 0 0, .int .i64 5]) ∧ ∃ j, w' = w.more j := by
  have HK : Hid (∀ W, Calls Tryz.prog 86 #[.int .i64 (k : Int)] W fun e w' => e = .returned (.int .i64 (powB k)) ∧ W = w') := fun W => ref01_power k h4 W
  have k1 : ¬ (k : Int) < 1 := by omega
  have k4 : ¬ (4 : Int) < (k : Int) := by omega
  generalize powB k = P at HK h0
  by_cases hn : n < 0
  · clear h0 HK
    go_enter Tryz.func64, Tryz.ntmps64
    go_wp2_with fail
    go_ret2
    exact ⟨rfl, Below.junk bel⟩
  · have n1 : P ≤ n := by omega
    clear h0
    go_enter Tryz.func64, Tryz.ntmps64
    go_wp2_with (go_at_call 86; (with_reducible refine (HK.out _).mono ?_); rintro e w' ⟨rfl, rfl⟩)
    go_ret2
    exact ⟨rfl, Below.junk bel⟩
set_option maxHeartbeats 8000000 in
set_option maxRecDepth 100000 in
theorem octet_Put_no2 (b : Value) (n : Int) (w : World) (h0 : n < 0 ∨ 65535 < n) :
    Calls Tryz.prog 67 #[b, .int .i64 n, .int .i64 2] w fun e w' => e = .returned (.tuple #[.slice none 0 0, .int .i64 5]) ∧ ∃ j, w' = w.more j := by
  have HK : Hid (∀ W, Calls Tryz.prog 88 #[.int .i64 2] W fun e w' => e = .returned (.tuple #[.int .i64 65535, .bool true]) ∧ W = w') := octet_top2
  by_cases hn : n < 0
  all_goals
    have n1 : n < 0 ∨ 65535 < n := h0
    try have n2 : 65535 < n := by omega
    clear h0 n1
    go_enter Tryz.func67, Tryz.ntmps67
    go_wp2_with (go_at_call 88; (with_reducible refine (HK.out _).mono ?_); rintro e w' ⟨rfl, rfl⟩)
    all_goals go_ret2
    all_goals exact ⟨rfl, Below.junk bel⟩
set_option maxHeartbeats 8000000 in
set_option maxRecDepth 100000 in
theorem octet_Put_no4 (b : Value) (n : Int) (w : World) (h0 : n < 0 ∨ 4294967295 < n) :
    Calls Tryz.prog 67 #[b, .int .i64 n, .int .i64 4] w fun e w' => e = .returned (.tuple #[.slice none 0 0, .int .i64 5]) ∧ ∃ j, w' = w.more j := by
  have HK : Hid (∀ W, Calls Tryz.prog 88 #[.int .i64 4] W fun e w' => e = .returned (.tuple #[.int .i64 4294967295, .bool true]) ∧ W = w') := octet_top4
  by_cases hn : n < 0
  all_goals
    have n1 : n < 0 ∨ 4294967295 < n := h0
    try have n2 : 4294967295 < n := by omega
    clear h0 n1
    go_enter Tryz.func67, Tryz.ntmps67
    go_wp2_with (go_at_call 88; (with_reducible refine (HK.out _).mono ?_); rintro e w' ⟨rfl, rfl⟩)
    all_goals go_ret2
    all_goals exact ⟨rfl, Below.junk bel⟩
end Go.Proofs.YtmlbomblbdbikaaGreatDoor
/-
  Numbers as bytes: the program's, of a number that has its bytes.
-/
namespace Go.Proofs.YtmlbomblbdbikaaGreatDoor
set_option linter.unusedSimpArgs false
set_option linter.unusedVariables false
set_option linter.unusedSectionVars false
open Go.ChangeShapes Go.WideShapes Go.ChangeAt Go.RowKit Go.Deep Go.Shelf

/-- What a number's bytes behind others leave: a row of so many bytes. -/
def PutC (n : Nat) (w : World) (e : Ending) (w' : World) : Prop := ∃ (v : Value) (l : List UInt8), e = .returned (.tuple #[v, .int .i64 0]) ∧ l.length = n ∧ OwnB w.heap.size w' v l ∧ Below w.heap.size w w'
theorem made_cells {z : Value} {n : Nat} : madeCells #[z] n = (List.replicate n z).toArray := by
  apply Array.ext
  · simp [madeCells]
  · intro i h1 h2
    simp [madeCells, Nat.mod_one]
theorem byte_wrap (x : Int) : ∃ c : UInt8, IntKind.u8.wrap x = (c.toNat : Int) := by
  obtain ⟨c, hc⟩ := byte_of x
  exact ⟨c, by rw [← hc]; rfl⟩
theorem splice_own {w : World} {g B n k : Nat} {Z : List Value} {l : List UInt8} (hl : l.length = n) (hz : Z.length = n + k) (hk : n + k ≤ 1048576) (hB : B ≤ g) (hg : w.heap[g]? = some (.cells (splice Z 0 (Lib.byteCells l)).toArray 5 (0, 0))) :
    OwnB B w (.slice (some ⟨g, 0, none⟩) n (n + k)) l := by
  subst hl
  have hc : (Lib.byteCells l).length = l.length := byteCells_len l
  refine ⟨by rw [hc]; omega, .inr ⟨g, _, _, rfl, hB, hg, by omega, by unfold maxLen; omega, ?_, ?_⟩⟩
  · rw [List.size_toArray, length_splice _ _ _ (by omega), hz]; omega
  · unfold splice
    simp
    rw [List.take_append_of_le_length (by omega), List.take_of_length_le (by omega)]
set_option maxHeartbeats 8000000 in
set_option maxRecDepth 100000 in
theorem octet_Put (k : Nat) (T : Int) (hk : 1 ≤ k ∧ k ≤ 4) (hT : ∀ W, Calls Tryz.prog 88 #[.int .i64 (k : Int)] W fun e w' => e = .returned (.tuple #[.int .i64 T, .bool true]) ∧ W = w')
    (a : Option Addr) (l : List UInt8) (cap : Nat) (n : Int) (h0 : 0 ≤ n) (hn : n ≤ T) (hl : l.length ≤ 1000000) (w : World) (hS : SlB w w.heap.size a l) :
    Calls Tryz.prog 67 #[.slice a l.length cap, .int .i64 n, .int .i64 (k : Int)] w (PutC (l.length + k) w) := by
  obtain ⟨N, hN⟩ : ∃ N, N = l.length := ⟨_, rfl⟩
  have hwr : IntKind.i64.wrap ((N : Int) + k) = (N : Int) + k := IntWalk.i64_in _ (by omega)
  have hw8 : IntKind.i64.wrap (8 * (k : Int)) = 8 * (k : Int) := IntWalk.i64_in _ (by omega)
  have hmk : ∀ W, (Instr.makeSlice 38 (.int .i64 (N : Int)) (.int .i64 ((N : Int) + k))).run Tryz.prog W = .ok (.slice (some ⟨W.heap.size, 0, none⟩) N (N + k)) (W.alloc (.cells (List.replicate (N + k) (.int .u8 0)).toArray 5)) := fun W => by
    obtain ⟨i, ht, hi, hiz, hsz, hby, _, _⟩ := st_bytes
    have hr := run_make (P := Tryz.prog) W 38 5 i (.int .u8 0) ht hi hiz .i64 .i64 (N : Int) ((N : Int) + k) (by omega) (by omega) (by rw [hby]; omega) (by omega)
    have e : ((N : Int) + k).toNat = N + k := by omega
    rw [e, Int.toNat_natCast, hsz, Nat.mul_one] at hr
    rw [hr]
    show _ = Result.ok _ (W.alloc (.cells _ _))
    rw [show (Value.int .u8 0).cells = #[.int .u8 0] from rfl, made_cells]
  obtain ⟨Z, hZ⟩ : ∃ Z : List Value, Z = List.replicate (N + k) (.int .u8 0) := ⟨_, rfl⟩
  have hZl : Z.length = N + k := by rw [hZ]; simp
  rw [← hZ] at hmk
  rw [← hN]
  have HT := Lib.hid hT
  have HZL := Lib.hid hZl
  have HN := Lib.hid hN
  have n0 : ¬ n < 0 := by omega
  have n1 : ¬ T < n := by omega
  have hNle : N ≤ 1000000 := by omega
  have HSRC : Hid (0 < (Lib.byteCells l).length → ∃ ad, a = some ad ∧ ∀ W, Below w.heap.size w W → ∀ j v, (Lib.byteCells l)[j]? = some v → W.cell? (ad.add j) = some v) := fun hp => by
    rw [byteCells_len] at hp
    obtain ⟨b, off, ha, hb, _⟩ := SlR.atB hS hp
    refine ⟨_, ha, fun W hW j v hv => ?_⟩
    obtain ⟨hlt, rfl⟩ := List.getElem?_eq_some_iff.1 hv
    rw [byteCells_len] at hlt
    obtain ⟨b', off', ha', hb', hc⟩ := SlR.atB hS hlt
    rw [ha] at ha'
    injection ha' with ha'
    injection ha' with e1 e2
    subst e1 e2
    have e3 : (⟨b, off, none⟩ : Addr).add j = ⟨b, off + j, none⟩ := by unfold Addr.add; by_cases hj : j = 0 <;> simp [hj]
    rw [e3]
    refine ((hW.cell (p := ⟨b, off + j, none⟩) hb).trans hc).trans ?_
    simp [Lib.byteCells]
  clear hT hZl hN hZ hS hn h0 hl
  go_enter Tryz.func67, Tryz.ntmps67
  go_wp2_with (first | (go_at_call 88; (with_reducible refine (HT.out _).mono ?_); rintro e w' ⟨rfl, rfl⟩) | (refine wpList_copy_splice rfl (.tmp 35) (.tmp 36) 38 38 rfl 5 Tryz.underlying38 (by kernel_rfl) (some ⟨w.heap.size, 0, none⟩) a N (N + k) N cap (by rfl) (by rfl) w.heap.size 0 Z 5 (by exact Blk.at_ _ _ _ rfl) (Lib.byteCells l) (by rw [byteCells_len, ← HN.out]; exact (Nat.min_self N).symm) (fun hp => ⟨rfl, by obtain ⟨ad, e, h⟩ := HSRC.out hp; exact ⟨ad, e, h _ bel⟩⟩) (by rw [byteCells_len, ← HN.out, HZL.out]; omega) (by intro v hv; simp [Lib.byteCells] at hv; obtain ⟨x, _, rfl⟩ := hv; rfl) w.heap.size w bel (Nat.le_refl _) ?_; intro w2 HG2 hB2))
  obtain ⟨vO, hvO⟩ : ∃ vO : Value, vO = .slice (some ⟨w.heap.size, 0, none⟩) N (N + k) := ⟨_, rfl⟩
  have HO : Hid (OwnB w.heap.size w2 vO l) := by
    show OwnB _ _ _ _
    rw [hvO]
    exact splice_own HN.out.symm HZL.out (by omega) (Nat.le_refl _) HG2.out
  rw [← hvO]
  have HNL : Hid (l.length = N) := HN.out.symm
  have HB2 := Lib.hid hB2
  clear hmk HG2 HSRC HZL hB2 hvO HT HN
  have h8 : (8 : Int) * (k : Int) = ((8 * k : Nat) : Int) := by omega
  rw [h8]
  go_loopg [10, 11] k (fun g v i wr => ∃ (m : List UInt8), g ≤ k ∧ i = .int .i64 ((8 * g : Nat) : Int) ∧ OwnB w.heap.size wr v m ∧ m.length + g = N + k ∧ Below w.heap.size w wr)
  case atStart => exact ⟨l, Nat.le_refl _, rfl, HO.out, by have := HNL.out; omega, HB2.out⟩
  case round =>
    obtain ⟨m, hgk, rfl, ho, hm, hb⟩ := hrel
    have HO2 := Lib.hid ho
    have HM := Lib.hid hm
    have HB := Lib.hid hb
    clear HO HNL HB2 ho hm hb
    have hk4 := hk.2
    clear h8 hw8 hwr
    have HHK := Lib.hid hgk
    clear hgk
    obtain rfl | ⟨q, rfl, hq⟩ : gk = 0 ∨ ∃ q, gk = q + 1 ∧ q < 4 := by
      rcases gk with _ | q
      · exact .inl rfl
      · exact .inr ⟨q, rfl, by have := HHK.out; omega⟩
    · go_wp2_with fail
      go_ret2
      exact ⟨_, m, rfl, by have := HM.out; omega, HO2.out, HB.out⟩
    · have e1 : ((8 * (q + 1) : Nat) : Int) = 8 * (q : Int) + 8 := by omega
      have e2 : IntKind.i64.wrap (8 * (q : Int) + 8 - 8) = 8 * (q : Int) := by rw [show 8 * (q : Int) + 8 - 8 = 8 * (q : Int) by omega]; exact IntWalk.i64_in _ (by omega)
      have e3 : (0 : Int) < 8 * (q : Int) + 8 := by omega
      rw [e1]
      clear e1
      obtain ⟨c, hc⟩ := byte_of (n / 2 ^ (8 * q))
      go_wp2_with (at_builtin; refine app_byte (.tmp 44) (.tmp 50) rfl rfl (c := c) rfl (HO2.out.alloc _) rfl (Blk.at_ _ _ _ (by simp)) (by have := HM.out; omega) (by have := HB.out.size; simp only [World.size_alloc]; omega) ?_; intro v' w3 hown hbw)
      go_roundg q
      case measure => omega
      case rel => exact ⟨m ++ [c], by have := HHK.out; omega, by first | rfl | go_num, hown, by have := HM.out; simp; omega, HB.out.trans ((Below.mono (B := wr.heap.size) bel HB.out.size).trans hbw)⟩
end Go.Proofs.YtmlbomblbdbikaaGreatDoor
/-
  Numbers that begin within a byte, written: in plain words, and the program's road.
-/
namespace Go.Proofs.YtmlbomblbdbikaaGreatDoor
set_option linter.unusedSimpArgs false
set_option linter.unusedVariables false
set_option linter.unusedSectionVars false
open Go.ChangeShapes Go.WideShapes Go.ChangeAt Go.RowKit Go.Deep Go.Shelf

/-- Seven bits a byte, the lowest first. -/
def digG : Nat → Nat → List UInt8
  | 0, _ => []
  | f + 1, n => if n < 128 then [UInt8.ofNat n] else UInt8.ofNat (n % 128 + 128) :: digG f (n / 128)
def putL (first bits n : Nat) : List UInt8 := if n < 2 ^ bits - 1 then [UInt8.ofNat (first + n)] else UInt8.ofNat (first + (2 ^ bits - 1)) :: digG 5 (n - (2 ^ bits - 1))
theorem digG_end {f n : Nat} (h : n < 128) : digG (f + 1) n = [UInt8.ofNat n] := by rw [digG, if_pos h]
theorem digG_more {f n : Nat} (h : ¬ n < 128) : digG (f + 1) n = UInt8.ofNat (n % 128 + 128) :: digG f (n / 128) := by rw [digG, if_neg h]
theorem ofNat_byte {n : Nat} (h : n < 256) : ((UInt8.ofNat n).toNat : Int) = n := by
  rw [UInt8.toNat_ofNat']
  omega
theorem own_lit1 (w : World) (c : UInt8) : OwnB w.heap.size (w.alloc (.cells #[.int .u8 (c.toNat : Int)] 5)) (.slice (some ⟨w.heap.size, 0, none⟩) 1 1) [c] := by
  refine ⟨by rw [byteCells_len]; simp, .inr ⟨w.heap.size, _, _, rfl, Nat.le_refl _, heap_alloc_new w _, by simp [byteCells_len], by decide, rfl, ?_⟩⟩
  simp [Lib.byteCells]
theorem ownB_low {B C : Nat} {w : World} {v : Value} {l : List UInt8} (h : OwnB B w v l) (hC : C ≤ B) : OwnB C w v l := by
  refine ⟨h.1, ?_⟩
  rcases h.2 with h2 | ⟨g, cap, cur, h1, hb, hr⟩
  · exact .inl h2
  · exact .inr ⟨g, cap, cur, h1, Nat.le_trans hC hb, hr⟩
/-- How a number begins: which first bits, and how many bits are its own. -/
def FbOk (first bits : Nat) : Prop := (first = 0 ∧ bits = 7) ∨ (first = 0 ∧ bits = 4) ∨ (first = 32 ∧ bits = 5)
theorem wraps_63 : ∀ n : Int, 0 ≤ n → n < 2 ^ 63 → IntKind.i64.wrap n = n := fun n h1 h2 => IntWalk.i64_in n (by omega)
theorem or_zero (n : Nat) (h : n < 9223372036854775808) : Go.bits BinOp.or .i64 0 (n : Int) = n := by
  have := (bits_nat .i64 63 (by decide) wraps_63 0 n (by omega) (by omega)).2
  rw [show ((0 : Nat) : Int) = 0 from rfl] at this
  rw [this, Nat.zero_or]
theorem or_thirty : ∀ n : Fin 32, Go.bits BinOp.or .i64 32 ((n.val : Nat) : Int) = ((32 + n.val : Nat) : Int) := by decide +kernel
theorem and_low (n : Nat) (h : n < 4398046511104) : Go.bits BinOp.or .i64 (Go.bits BinOp.and .i64 (n : Int) 127) 128 = ((n % 128 + 128 : Nat) : Int) := by
  have h1 := (bits_nat .i64 63 (by decide) wraps_63 n 127 (by omega) (by omega)).1
  rw [show ((127 : Nat) : Int) = 127 from rfl] at h1
  rw [h1, show n &&& 127 = n % 128 from Nat.and_two_pow_sub_one_eq_mod n 7]
  have k : ∀ m : Fin 128, Go.bits BinOp.or .i64 ((m.val : Nat) : Int) 128 = ((m.val + 128 : Nat) : Int) := by decide +kernel
  exact k ⟨n % 128, by omega⟩
/-- What a row of bytes leaves. -/
def RowP (l : List UInt8) (w : World) (e : Ending) (w' : World) : Prop := ∃ v, e = .returned (.tuple #[v, .int .i64 0]) ∧ OwnB w.heap.size w' v l ∧ Below w.heap.size w w'
set_option maxHeartbeats 8000000 in
set_option maxRecDepth 100000 in
theorem prefix_Put (first bits n : Nat) (hfb : FbOk first bits) (hn : n ≤ 2147483647) (w : World) : Calls Tryz.prog 69 #[.int .i64 (first : Int), .int .i64 (bits : Int), .int .i64 (n : Int)] w (RowP (putL first bits n) w) := by
  have HF : Hid (∀ W, Calls Tryz.prog 90 #[.int .i64 (bits : Int)] W fun e w' => e = .returned (.tuple #[.int .i64 ((2 ^ bits - 1 : Nat) : Int), .bool true]) ∧ ∃ j, w' = W.more j) := prefix_full bits (by rcases hfb with h | h | h <;> omega)
  obtain ⟨F, hF⟩ : ∃ F, F = 2 ^ bits - 1 := ⟨_, rfl⟩
  obtain ⟨L, hL⟩ : ∃ L, L = putL first bits n := ⟨_, rfl⟩
  rw [← hL]
  have HL : Hid (L = if n < F then [UInt8.ofNat (first + n)] else UInt8.ofNat (first + F) :: digG 5 (n - F)) := by show _ = _; rw [hL, hF]; rfl
  rw [← hF] at HF
  have hlow : first + F < 256 ∧ F < 128 := by rcases hfb with ⟨rfl, rfl⟩ | ⟨rfl, rfl⟩ | ⟨rfl, rfl⟩ <;> subst hF <;> decide
  have a0 : Go.bits BinOp.and .i64 (first : Int) (F : Int) = 0 := by rcases hfb with ⟨rfl, rfl⟩ | ⟨rfl, rfl⟩ | ⟨rfl, rfl⟩ <;> subst hF <;> decide
  have HOR : Hid (∀ m : Nat, m ≤ F → Go.bits BinOp.or .i64 (first : Int) (m : Int) = ((first + m : Nat) : Int)) := by
    intro m hm
    rcases hfb with ⟨rfl, rfl⟩ | ⟨rfl, rfl⟩ | ⟨rfl, rfl⟩
    · rw [show ((0 : Nat) : Int) = 0 from rfl, or_zero _ (by have := hlow.1; omega), Nat.zero_add]
    · rw [show ((0 : Nat) : Int) = 0 from rfl, or_zero _ (by have := hlow.1; omega), Nat.zero_add]
    · exact or_thirty ⟨m, by have : F = 31 := hF; omega⟩
  have d1 : decide ((first : Int) < 0) = false := decide_eq_false (by omega)
  have d2 : decide (255 < (first : Int)) = false := decide_eq_false (by omega)
  have d3 : decide ((n : Int) < 0) = false := decide_eq_false (by omega)
  have d4 : decide (2147483647 < (n : Int)) = false := decide_eq_false (by omega)
  have HN := Lib.hid hn
  have HW := Lib.hid hlow
  clear hL hF hfb hlow
  unfold RowP
  by_cases hlt : n < F
  · have d5 : decide ((n : Int) < (F : Int)) = true := decide_eq_true (by omega)
    have o1 := HOR.out n (by omega)
    obtain ⟨c, hc⟩ : ∃ c : UInt8, c = UInt8.ofNat (first + n) := ⟨_, rfl⟩
    have hb : (c.toNat : Int) = ((first + n : Nat) : Int) := by rw [hc]; exact ofNat_byte (by have := HW.out; omega)
    rw [← hb] at o1
    have o2 : (c.toNat : Int) % 256 = (c.toNat : Int) := by have := c.toNat_lt; omega
    have HL1 : Hid (L = [c]) := by show _ = _; rw [HL.out, if_pos hlt, hc]
    clear HL HOR HN hn hb hc
    go_enter Tryz.func69, Tryz.ntmps69
    go_wp2_with (go_at_call 90; (with_reducible refine (HF.out _).mono ?_); rintro e w' ⟨rfl, j, rfl⟩)
    go_ret2
    refine ⟨_, rfl, ?_, bel⟩
    rw [HL1.out]
    have := own_lit1 (w.more j) c
    rw [World.size_more] at this
    exact ownB_low this (by omega)
  · have d5 : decide ((n : Int) < (F : Int)) = false := decide_eq_false (by omega)
    have o1 := HOR.out F (by omega)
    obtain ⟨c, hc⟩ : ∃ c : UInt8, c = UInt8.ofNat (first + F) := ⟨_, rfl⟩
    have hb : (c.toNat : Int) = ((first + F : Nat) : Int) := by rw [hc]; exact ofNat_byte (by have := HW.out; omega)
    rw [← hb] at o1
    have o2 : (c.toNat : Int) % 256 = (c.toNat : Int) := by have := c.toNat_lt; omega
    have HL1 : Hid (L = [c] ++ digG 5 (n - F)) := by show _ = _; rw [HL.out, if_neg hlt, hc]; rfl
    have ws : IntKind.i64.wrap ((n : Int) - (F : Int)) = ((n - F : Nat) : Int) := by rw [show (n : Int) - (F : Int) = ((n - F : Nat) : Int) by omega]; exact IntWalk.i64_in _ (by have := HN.out; omega)
    have HM : Hid (n - F < 34359738368) := by show _ < _; have := HN.out; omega
    obtain ⟨m0, hm0⟩ : ∃ m0, m0 = n - F := ⟨_, rfl⟩
    rw [← hm0] at HL1 ws HM
    clear HL HOR HN hn hb hc hm0
    go_enter Tryz.func69, Tryz.ntmps69
    go_wp2_with (go_at_call 90; (with_reducible refine (HF.out _).mono ?_); rintro e w' ⟨rfl, j, rfl⟩)
    have HO : Hid (OwnB w.heap.size ((w.more j).alloc (.cells #[.int .u8 (c.toNat : Int)] 5)) (.slice (some ⟨w.heap.size + j.heap.size, 0, none⟩) 1 1) [c]) := by
      have := own_lit1 (w.more j) c
      rw [World.size_more] at this
      exact ownB_low this (by omega)
    clear o1 o2 ws HF
    go_loopg [2, 10] 4 (fun g i v wr => ∃ (m : Nat) (out : List UInt8), i = .int .i64 (m : Int) ∧ OwnB w.heap.size wr v out ∧ out.length + g = 5 ∧ Hid (L = out ++ digG (g + 1) m) ∧ Hid (m < 128 ^ (g + 1)) ∧ Below w.heap.size w wr)
    case atStart => exact ⟨m0, [c], rfl, HO.out, rfl, HL1.out, HM.out, bel⟩
    case round =>
      obtain ⟨m, out, rfl, ho, hlen, HX, HMM, hb⟩ := hrel
      have HOO := Lib.hid ho
      have HLEN := Lib.hid hlen
      have HB := Lib.hid hb
      clear ho hlen hb HO HL1 HM
      by_cases h128 : m < 128
      · obtain ⟨x, rfl⟩ : ∃ x : UInt8, m = x.toNat := ⟨UInt8.ofNat m, by have := ofNat_byte (n := m) (by omega); omega⟩
        have d6 : decide (128 ≤ (x.toNat : Int)) = false := decide_eq_false (by omega)
        have hxm : (x.toNat : Int) % 256 = (x.toNat : Int) := by omega
        have HY : Hid (L = out ++ [x]) := by show _ = _; rw [HX.out, digG_end h128, UInt8.ofNat_toNat]
        clear HX HMM
        go_wp2_with (at_builtin; refine app_byte (.tmp 68) (.tmp 71) rfl rfl (c := x) rfl (HOO.out.alloc _) rfl (Blk.at_ _ _ _ (by simp)) (by have := HLEN.out; omega) (by have := HB.out.size; simp only [World.size_alloc]; omega) ?_; intro v' w3 hown hbw)
        go_ret2
        exact ⟨_, rfl, by rw [HY.out]; exact hown, HB.out.trans ((Below.mono (B := wr.heap.size) bel HB.out.size).trans hbw)⟩
      · have d6 : decide (128 ≤ (m : Int)) = true := decide_eq_true (by omega)
        have hm31 : m < 4398046511104 := Nat.lt_of_lt_of_le HMM.out (Nat.pow_le_pow_right (by omega) (by have := HLEN.out; omega : gk + 1 ≤ 6))
        obtain ⟨x, hx⟩ : ∃ x : UInt8, x = UInt8.ofNat (m % 128 + 128) := ⟨_, rfl⟩
        have hxm := and_low m hm31
        rw [← ofNat_byte (n := m % 128 + 128) (by omega), ← hx] at hxm
        have hxx : (x.toNat : Int) % 256 = (x.toNat : Int) := by have := x.toNat_lt; omega
        obtain ⟨g, rfl⟩ : ∃ g, gk = g + 1 := by
          cases gk with
          | zero => exact absurd HMM.out (by omega)
          | succ g => exact ⟨g, rfl⟩
        have HY : Hid (L = (out ++ [x]) ++ digG (g + 1) (m / 128)) := by show _ = _; rw [HX.out, digG_more h128, hx]; simp
        have HMY : Hid (m / 128 < 128 ^ (g + 1)) := by
          show _ < _
          have := HMM.out
          rw [Nat.pow_succ] at this
          omega
        clear HX HMM hx
        go_wp2_with (at_builtin; refine app_byte (.tmp 59) (.tmp 64) rfl rfl (c := x) rfl (HOO.out.alloc _) rfl (Blk.at_ _ _ _ (by simp)) (by have := HLEN.out; omega) (by have := HB.out.size; simp only [World.size_alloc]; omega) ?_; intro v' w3 hown hbw)
        go_roundg g
        case measure => omega
        case rel => exact ⟨m / 128, out ++ [x], by first | rfl | go_num, hown, by have := HLEN.out; simp; omega, HY.out, HMY.out, HB.out.trans ((Below.mono (B := wr.heap.size) bel HB.out.size).trans hbw)⟩
end Go.Proofs.YtmlbomblbdbikaaGreatDoor
/-
  Numbers that begin within a byte, written: the document's road.
-/
namespace Go.Proofs.YtmlbomblbdbikaaGreatDoor
set_option linter.unusedSimpArgs false
set_option linter.unusedVariables false
set_option linter.unusedSectionVars false
open Go.ChangeShapes Go.WideShapes Go.ChangeAt Go.RowKit Go.Deep Go.Shelf

theorem digG_len : ∀ (f n : Nat), (digG f n).length ≤ f
  | 0, _ => by simp [digG]
  | f + 1, n => by
    rw [digG]
    split
    · simp
    · have := digG_len f (n / 128)
      simp only [List.length_cons]; omega
/-- What a row of bytes leaves. -/
def RowQ (l : List UInt8) (w : World) (e : Ending) (w' : World) : Prop := ∃ v, e = .returned v ∧ OwnB w.heap.size w' v l ∧ Below w.heap.size w w'
set_option maxHeartbeats 8000000 in
set_option maxRecDepth 100000 in
theorem ref18_digits : ∀ (f n : Nat), n < 128 ^ (f + 1) → f ≤ 5 → ∀ w : World, Calls Tryz.prog 59 #[.int .i64 (n : Int)] w (RowQ (digG (f + 1) n) w) := by
  intro f
  induction f with
  | zero =>
    intro n hn _ w
    have h128 : n < 128 := by simpa using hn
    obtain ⟨x, rfl⟩ : ∃ x : UInt8, n = x.toNat := ⟨UInt8.ofNat n, by have := ofNat_byte (n := n) (by omega); omega⟩
    have d6 : decide ((x.toNat : Int) < 128) = true := decide_eq_true (by omega)
    have hxm : (x.toNat : Int) % 256 = (x.toNat : Int) := by omega
    rw [digG_end h128, UInt8.ofNat_toNat]
    clear hn
    unfold RowQ
    go_enter Tryz.func59, Tryz.ntmps59
    go_wp2_with fail
    go_ret
    exact ⟨_, rfl, own_lit1 w x, bel⟩
  | succ f ih =>
    intro n hn hf w
    by_cases h128 : n < 128
    · obtain ⟨x, rfl⟩ : ∃ x : UInt8, n = x.toNat := ⟨UInt8.ofNat n, by have := ofNat_byte (n := n) (by omega); omega⟩
      have d6 : decide ((x.toNat : Int) < 128) = true := decide_eq_true (by omega)
      have hxm : (x.toNat : Int) % 256 = (x.toNat : Int) := by omega
      rw [digG_end h128, UInt8.ofNat_toNat]
      clear hn ih
      unfold RowQ
      go_enter Tryz.func59, Tryz.ntmps59
      go_wp2_with fail
      go_ret
      exact ⟨_, rfl, own_lit1 w x, bel⟩
    · have d6 : decide ((n : Int) < 128) = false := decide_eq_false (by omega)
      obtain ⟨x, hx⟩ : ∃ x : UInt8, x = UInt8.ofNat (n % 128 + 128) := ⟨_, rfl⟩
      have hxt : x.toNat = n % 128 + 128 := by have := ofNat_byte (n := n % 128 + 128) (by omega); rw [← hx] at this; omega
      have hxm : 128 + (n : Int) % 128 = (x.toNat : Int) := by rw [hxt]; omega
      have hxx : (x.toNat : Int) % 256 = (x.toNat : Int) := by have := x.toNat_lt; omega
      have hw1 : IntKind.i64.wrap (128 + (n : Int) % 128) = (x.toNat : Int) := by rw [← hxm]; exact IntWalk.i64_in _ (by omega)
      have hn42 : n < 4398046511104 := Nat.lt_of_lt_of_le hn (Nat.pow_le_pow_right (by omega) (by omega : f + 1 + 1 ≤ 6))
      have hw2 : IntKind.i64.wrap ((n : Int) / 128) = (n : Int) / 128 := IntWalk.i64_in _ (by omega)
      have HD : Hid (∀ W, Calls Tryz.prog 59 #[.int .i64 ((n : Int) / 128)] W (RowQ (digG (f + 1) (n / 128)) W)) := fun W => by
        have := ih (n / 128) (by rw [Nat.pow_succ] at hn; omega) (by omega) W
        rwa [show ((n / 128 : Nat) : Int) = (n : Int) / 128 by omega] at this
      rw [digG_more h128, ← hx]
      have HLL : Hid ((digG (f + 1) (n / 128)).length ≤ f + 1) := digG_len (f + 1) (n / 128)
      generalize digG (f + 1) (n / 128) = L at HD HLL ⊢
      clear hn ih hxt hx hn42
      unfold RowQ
      go_enter Tryz.func59, Tryz.ntmps59
      go_wp2_with (first | (go_at_call 59; (with_reducible refine (HD.out _).mono ?_); rintro e w3 ⟨v3, rfl, ho3, hb3⟩; obtain ⟨a3, c3, rfl, hs3⟩ := ho3.read; have HS3 := Lib.hid hs3; have HB3 := Lib.hid hb3; have hz3 := hb3.size; clear hb3 ho3 hs3) | (at_builtin; refine app_bytes (.tmp 12) (.tmp 15) rfl rfl rfl ((own_lit1 w x).below HB3.out (Nat.le_refl _)) rfl rfl HS3.out (by have := HLL.out; simp; omega) (by have := HB3.out.size; simp at this; omega) ?_; intro v' w4 hown hbw hgw))
      go_ret
      exact ⟨_, rfl, hown, (show Below w.heap.size w _ from bel).trans ((Below.mono HB3.out (by simp)).trans hbw)⟩
set_option maxHeartbeats 8000000 in
set_option maxRecDepth 100000 in
theorem ref18_Put (first bits n : Nat) (hfb : FbOk first bits) (hn : n ≤ 2147483647) (w : World) : Calls Tryz.prog 43 #[.int .i64 (first : Int), .int .i64 (bits : Int), .int .i64 (n : Int)] w (RowP (putL first bits n) w) := by
  have HF : Hid (∀ W, Calls Tryz.prog 58 #[.int .i64 (bits : Int)] W fun e w' => e = .returned (.int .i64 (pw bits)) ∧ W = w') := ref18_power bits (by rcases hfb with h | h | h <;> omega)
  have hpw : pw bits = ((2 ^ bits - 1 : Nat) : Int) + 1 := by rcases hfb with ⟨rfl, rfl⟩ | ⟨rfl, rfl⟩ | ⟨rfl, rfl⟩ <;> decide
  obtain ⟨F, hF⟩ : ∃ F, F = 2 ^ bits - 1 := ⟨_, rfl⟩
  obtain ⟨L, hL⟩ : ∃ L, L = putL first bits n := ⟨_, rfl⟩
  rw [← hL]
  have HL : Hid (L = if n < F then [UInt8.ofNat (first + n)] else UInt8.ofNat (first + F) :: digG 5 (n - F)) := by show _ = _; rw [hL, hF]; rfl
  rw [hpw, ← hF] at HF
  have hlow : first + F < 256 ∧ F < 128 := by rcases hfb with ⟨rfl, rfl⟩ | ⟨rfl, rfl⟩ | ⟨rfl, rfl⟩ <;> subst hF <;> decide
  have hb0 : 1 ≤ bits ∧ bits ≤ 8 := by rcases hfb with h | h | h <;> omega
  have hr : (first : Int) % ((F : Int) + 1) = 0 := by rcases hfb with ⟨rfl, rfl⟩ | ⟨rfl, rfl⟩ | ⟨rfl, rfl⟩ <;> subst hF <;> decide
  have d0 : decide ((bits : Int) < 1) = false := decide_eq_false (by omega)
  have d00 : decide (8 < (bits : Int)) = false := decide_eq_false (by omega)
  have d1 : decide ((first : Int) < 0) = false := decide_eq_false (by omega)
  have d2 : decide (255 < (first : Int)) = false := decide_eq_false (by omega)
  have d3 : decide ((n : Int) < 0) = false := decide_eq_false (by omega)
  have d4 : decide (2147483647 < (n : Int)) = false := decide_eq_false (by omega)
  have hF0 : ((F : Int) + 1 == 0) = false := by simp; omega
  have hF1 : ¬ (F : Int) + 1 = 0 := by omega
  have wF : IntKind.i64.wrap ((F : Int) + 1 - 1) = (F : Int) := by rw [show (F : Int) + 1 - 1 = F by omega]; exact IntWalk.i64_in _ (by omega)
  have wF2 : IntKind.i64.wrap (F : Int) = (F : Int) := IntWalk.i64_in _ (by omega)
  have HN := Lib.hid hn
  have HW := Lib.hid hlow
  clear hL hF hfb hlow hpw
  unfold RowP
  by_cases hlt : n < F
  · have d5 : decide ((n : Int) < (F : Int)) = true := decide_eq_true (by omega)
    obtain ⟨c, hc⟩ : ∃ c : UInt8, c = UInt8.ofNat (first + n) := ⟨_, rfl⟩
    have o1 : (first : Int) + (n : Int) = (c.toNat : Int) := by rw [hc, ofNat_byte (by have := HW.out; omega)]; omega
    have o3 : IntKind.i64.wrap ((first : Int) + (n : Int)) = (c.toNat : Int) := by rw [o1]; exact IntWalk.i64_in _ (by have := c.toNat_lt; omega)
    have o2 : (c.toNat : Int) % 256 = (c.toNat : Int) := by have := c.toNat_lt; omega
    have HL1 : Hid (L = [c]) := by show _ = _; rw [HL.out, if_pos hlt, hc]
    clear HL HN hn hc
    go_enter Tryz.func43, Tryz.ntmps43
    go_wp2_with (go_at_call 58; (with_reducible refine (HF.out _).mono ?_); rintro e w' ⟨rfl, rfl⟩)
    go_ret2
    refine ⟨_, rfl, ?_, bel⟩
    rw [HL1.out]
    exact own_lit1 w c
  · have d5 : decide ((n : Int) < (F : Int)) = false := decide_eq_false (by omega)
    obtain ⟨c, hc⟩ : ∃ c : UInt8, c = UInt8.ofNat (first + F) := ⟨_, rfl⟩
    have o1 : (first : Int) + (F : Int) = (c.toNat : Int) := by rw [hc, ofNat_byte (by have := HW.out; omega)]; omega
    have o3 : IntKind.i64.wrap ((first : Int) + (F : Int)) = (c.toNat : Int) := by rw [o1]; exact IntWalk.i64_in _ (by have := c.toNat_lt; omega)
    have o2 : (c.toNat : Int) % 256 = (c.toNat : Int) := by have := c.toNat_lt; omega
    have HL1 : Hid (L = [c] ++ digG 5 (n - F)) := by show _ = _; rw [HL.out, if_neg hlt, hc]; rfl
    have ws : IntKind.i64.wrap ((n : Int) - (F : Int)) = ((n - F : Nat) : Int) := by rw [show (n : Int) - (F : Int) = ((n - F : Nat) : Int) by omega]; exact IntWalk.i64_in _ (by have := HN.out; omega)
    have HD : Hid (∀ W, Calls Tryz.prog 59 #[.int .i64 ((n - F : Nat) : Int)] W (RowQ (digG 5 (n - F)) W)) := fun W => ref18_digits 4 (n - F) (by have := HN.out; omega) (by omega) W
    have HLL : Hid ((digG 5 (n - F)).length ≤ 5) := digG_len 5 (n - F)
    generalize digG 5 (n - F) = M at HD HLL HL1
    generalize n - F = m at HD ws
    clear HL HN hn hc
    go_enter Tryz.func43, Tryz.ntmps43
    go_wp2_with (first | (go_at_call 58; (with_reducible refine (HF.out _).mono ?_); rintro e w' ⟨rfl, rfl⟩) | (go_at_call 59; (with_reducible refine (HD.out _).mono ?_); rintro e w3 ⟨v3, rfl, ho3, hb3⟩; obtain ⟨a3, c3, rfl, hs3⟩ := ho3.read; have HS3 := Lib.hid hs3; have HB3 := Lib.hid hb3; have hz3 := hb3.size; clear hb3 ho3 hs3) | (at_builtin; refine app_bytes (.tmp 51) (.tmp 55) rfl rfl rfl ((own_lit1 w c).below HB3.out (Nat.le_refl _)) rfl rfl HS3.out (by have := HLL.out; simp; omega) (by have := HB3.out.size; simp at this; omega) ?_; intro v' w4 hown hbw hgw))
    go_ret2
    exact ⟨_, rfl, by rw [HL1.out]; exact hown, (show Below w.heap.size w _ from bel).trans ((Below.mono HB3.out (by simp)).trans hbw)⟩
end Go.Proofs.YtmlbomblbdbikaaGreatDoor
/-
  Texts in field blocks, written plainly: both roads.
-/
namespace Go.Proofs.YtmlbomblbdbikaaGreatDoor
set_option linter.unusedSimpArgs false
set_option linter.unusedVariables false
set_option linter.unusedSectionVars false
open Go.ChangeShapes Go.WideShapes Go.ChangeAt Go.RowKit Go.Deep Go.Shelf

theorem bytes_made (w : World) (l : List UInt8) : ∃ W cap, (convert 9 38 (bstr l)).run Tryz.prog w = .ok (.slice (some ⟨w.heap.size, 0, none⟩) l.length cap) W ∧ Below w.heap.size w W ∧ SlB W W.heap.size (some ⟨w.heap.size, 0, none⟩) l := by
  refine ⟨Lib.bytesWorld w 5 ⟨l.toArray⟩, grownCap w l.length 0 5, Lib.run_convert_string_bytes (P := Tryz.prog) w 9 38 5 ⟨l.toArray⟩ (u := .string) Tryz.underlying9 Tryz.underlying38 Tryz.underlying5, Lib.bytesWorld_below w 5 ⟨l.toArray⟩, ?_⟩
  intro k hk
  refine ⟨w.heap.size, 0, [.int .u8 (l[k].toNat : Int)], rfl, ?_, rfl, ?_⟩
  · show w.heap.size < (Lib.bytesWorld w 5 ⟨l.toArray⟩).heap.size
    rw [Lib.bytesWorld_size]
    omega
  · intro j u hu
    obtain rfl : j = 0 := by
      cases j with
      | zero => rfl
      | succ j => simp at hu
    simp only [List.getElem?_cons_zero, Option.some.injEq] at hu
    subst hu
    simp only [Nat.zero_add, Nat.mul_one, Nat.add_zero]
    rw [Lib.bytesWorld_cell w 5 ⟨l.toArray⟩ k (by simpa [ByteArray.size] using hk)]
    simp [List.getD, hk]
theorem putL_len (first bits n : Nat) : (putL first bits n).length ≤ 6 := by
  unfold putL
  split
  · simp
  · have := digG_len 5 (n - (2 ^ bits - 1))
    simp only [List.length_cons]; omega
/-- A text's bytes. -/
def litW (s : List UInt8) : List UInt8 := putL 0 7 s.length ++ s
set_option maxHeartbeats 8000000 in
set_option maxRecDepth 100000 in
theorem strlit_Put (s : List UInt8) (hs : s.length ≤ 100000) (w : World) : Calls Tryz.prog 71 #[bstr s, .bool false] w (RowQ (litW s) w) := by
  have HP : Hid (∀ W, Calls Tryz.prog 69 #[.int .i64 0, .int .i64 7, .int .i64 (s.length : Int)] W (RowP (putL 0 7 s.length) W)) := fun W => prefix_Put 0 7 s.length (.inl ⟨rfl, rfl⟩) (by omega) W
  unfold litW
  have HLL := Lib.hid (putL_len 0 7 s.length)
  generalize putL 0 7 s.length = L at HP HLL ⊢
  have HS := Lib.hid hs
  obtain ⟨W1, cap, hcv, hb1, hs1⟩ := bytes_made w s
  have HB1 := Lib.hid hb1
  have HS1 := Lib.hid hs1
  have hz1 := hb1.size
  clear hb1 hs1 hs
  unfold RowQ
  go_enter Tryz.func71, Tryz.ntmps71
  go_wp2_with (first | (go_at_call 69; (with_reducible refine (HP.out _).mono ?_); rintro e w3 ⟨v3, rfl, ho3, hb3⟩; have HO3 := Lib.hid ho3; have HB3 := Lib.hid hb3; have hz3 := hb3.size; clear hb3 ho3) | (at_builtin; refine app_bytes (.tmp 21) (.tmp 22) rfl rfl rfl HO3.out rfl rfl (HS1.out.below HB3.out (Nat.le_refl _)) (by have := HLL.out; have := HS.out; omega) (by omega) ?_; intro v' w4 hown hbw hgw))
  go_ret
  exact ⟨_, rfl, ownB_low hown hz1, HB1.out.trans ((Below.mono HB3.out hz1).trans (Below.mono hbw hz1))⟩
set_option maxHeartbeats 8000000 in
set_option maxRecDepth 100000 in
theorem ref19_Put (s : List UInt8) (hs : s.length ≤ 100000) (w : World) : Calls Tryz.prog 44 #[bstr s, .bool false] w (RowQ (litW s) w) := by
  have HP : Hid (∀ W, Calls Tryz.prog 43 #[.int .i64 0, .int .i64 7, .int .i64 (s.length : Int)] W (RowP (putL 0 7 s.length) W)) := fun W => ref18_Put 0 7 s.length (.inl ⟨rfl, rfl⟩) (by omega) W
  unfold litW
  have HLL := Lib.hid (putL_len 0 7 s.length)
  generalize putL 0 7 s.length = L at HP HLL ⊢
  have HS := Lib.hid hs
  obtain ⟨W1, cap, hcv, hb1, hs1⟩ := bytes_made w s
  have HB1 := Lib.hid hb1
  have HS1 := Lib.hid hs1
  have hz1 := hb1.size
  clear hb1 hs1 hs
  unfold RowQ
  go_enter Tryz.func44, Tryz.ntmps44
  go_wp2_with (first | (go_at_call 43; (with_reducible refine (HP.out _).mono ?_); rintro e w3 ⟨v3, rfl, ho3, hb3⟩; have HO3 := Lib.hid ho3; have HB3 := Lib.hid hb3; have hz3 := hb3.size; clear hb3 ho3) | (at_builtin; refine app_bytes (.tmp 21) (.tmp 22) rfl rfl rfl HO3.out rfl rfl (HS1.out.below HB3.out (Nat.le_refl _)) (by have := HLL.out; have := HS.out; omega) (by omega) ?_; intro v' w4 hown hbw hgw))
  go_ret
  exact ⟨_, rfl, ownB_low hown hz1, HB1.out.trans ((Below.mono HB3.out hz1).trans (Below.mono hbw hz1))⟩
end Go.Proofs.YtmlbomblbdbikaaGreatDoor
