/-
  Parts of the proof, one behind the other: contracts of the program and plain laws; no condition of their own.
-/
import Derived.Test.YtfcgdfcekpbliaaGreatDoorMk
import Derived.ChangeKeysEq
import Derived.BigGuardPart
import Derived.Test.YtfcgdfcekpbliaaGreatDoorMa
import Derived.Laws.CopyOwn
/-
  Scenarios: settings compared, the document's.
-/
namespace Go.Proofs.YtfcgdfcekpbliaaGreatDoor
set_option linter.unusedSimpArgs false
set_option linter.unusedVariables false
set_option linter.unusedSectionVars false
open Go.ChangeShapes Go.WideShapes Go.ChangeAt Go.RowKit Go.Deep Go.Shelf

theorem se_fields : Tryz.prog.underlying 95 = some (.struct (Tryz.prog.fieldsOf 95)) := by kernel_rfl
theorem se_plain : Tryz.prog.stoodInHeld 95 = false := by kernel_rfl
set_option maxRecDepth 100000 in
theorem se_neq (a1 a2 b1 b2 : Int) (w : World) :
    (binOp .neq 95 (.agg #[.int .i64 a1, .int .i64 a2]) (.agg #[.int .i64 b1, .int .i64 b2])).run Tryz.prog w = .ok (.bool (!(decide (a1 = b1) && decide (a2 = b2)))) w := by
  have u3 := Tryz.underlying3
  have ag := Tryz.isAgg3
  have z3 := Tryz.sizeOf3
  rw [run_neq_struct, show (10000 : Nat) = 9999 + 1 from rfl, run_equalIn_agg w 9999 95 _ _ se_fields se_plain]
  simp only [Program.fieldsOf, Tryz.underlying95]
  go_simp
  repeat' split
  all_goals simp_all
set_option maxHeartbeats 4000000 in
set_option maxRecDepth 100000 in
theorem ref13_Same (a b : Option Addr) (l m : List (Int × Int)) (c d : Nat) (hl : l.length ≤ 1000000) (hm : m.length ≤ 1000000) (w : World) (hS : SlSe w w.heap.size a l) (hT : SlSe w w.heap.size b m) :
    Calls Tryz.prog 63 #[.slice a l.length c, .slice b m.length d] w fun e w' => e = .returned (.bool (decide (l = m))) ∧ ∃ j, w' = w.more j := by
  obtain ⟨R, hR⟩ : ∃ R, R = decide (l = m) := ⟨_, rfl⟩
  rw [← hR]
  have HR := Lib.hid hR
  have HS := Lib.hid hS
  have HT := Lib.hid hT
  clear hR hS hT
  by_cases hne : l.length = m.length
  rotate_left
  · obtain rfl : R = false := by rw [HR.out, decide_eq_false_iff_not]; intro e; exact hne (by rw [e])
    have hq : ((l.length : Int) != (m.length : Int)) = true := by rw [bne_iff_ne]; omega
    clear HR HS HT
    go_enter Tryz.func63, Tryz.ntmps63
    go_wp2_with fail
    go_ret
    exact ⟨rfl, Below.junk bel⟩
  have hq : ((l.length : Int) != (m.length : Int)) = false := by rw [bne_eq_false_iff_eq]; omega
  go_enter Tryz.func63, Tryz.ntmps63
  go_wp2_with fail
  go_loopw [5] (fun i wr => ∃ k : Nat, k ≤ l.length ∧ i = .int .i64 k ∧ Hid (l.take k = m.take k) ∧ ∃ j, wr = w.more j) (fun i _ => l.length - (intOf i).toNat)
  case atStart => exact ⟨0, Nat.zero_le _, rfl, by show _ = _; simp, Below.junk bel⟩
  case round =>
    obtain ⟨k, hk, rfl, HA, j, rfl⟩ := hrel
    by_cases hlt : k < l.length
    · obtain ⟨b1, o1, ha1, hb1, c0, c1⟩ := SlR.atSe HS.out hlt
      obtain ⟨b2, o2, ha2, hb2, d0, d1⟩ := SlR.atSe HT.out (k := k) (by omega)
      subst ha1 ha2
      have hltm : (k : Int) < (m.length : Int) := by omega
      have HEQ : Hid (l[k] = m[k]'(by omega) → l.take (k + 1) = m.take (k + 1)) := fun h => by
        rw [List.take_succ_eq_append_getElem hlt, List.take_succ_eq_append_getElem (by omega), HA.out, h]
      have HNE : Hid (l[k] ≠ m[k]'(by omega) → R = false) := fun h => by
        rw [HR.out, decide_eq_false_iff_not]
        intro e
        subst e
        exact h rfl
      generalize l[k] = x at c0 c1 HEQ HNE
      generalize m[k]'(by omega) = y at d0 d1 HEQ HNE
      obtain ⟨x1, x2⟩ := x
      obtain ⟨y1, y2⟩ := y
      simp only at c0 c1 d0 d1
      have HQ := fun W => se_neq x1 x2 y1 y2 W
      have HEQ2 : Hid ((decide (x1 = y1) && decide (x2 = y2)) = true → l.take (k + 1) = m.take (k + 1)) := fun h => by
        simp only [Bool.and_eq_true, decide_eq_true_eq] at h
        exact HEQ.out (by rw [h.1, h.2])
      have HNE2 : Hid ((decide (x1 = y1) && decide (x2 = y2)) = false → R = false) := fun h => HNE.out (fun e => by
        injection e with e1 e2
        subst e1 e2
        simp at h)
      generalize (decide (x1 = y1) && decide (x2 = y2)) = q at HQ HEQ2 HNE2
      clear HEQ HNE
      cases q
      · obtain rfl : R = false := HNE2.out rfl
        clear HEQ2 HNE2 HR
        go_wp2_with fail
        refine wp_region_more (by kernel_rfl) (by kernel_rfl) ?_
        repeat (go_big_quiet_step (first | (fail)))
        refine wpQuiet_nil ?_
        intro w' hw'
        obtain ⟨j, rfl⟩ := hw'
        go_wp2_with fail
        go_ret
        exact ⟨rfl, Below.junk bel⟩
      · have HE3 := Lib.hid (HEQ2.out rfl)
        clear HEQ2 HNE2
        go_wp2_with fail
        refine wp_region_more (by kernel_rfl) (by kernel_rfl) ?_
        repeat (go_big_quiet_step (first | (fail)))
        refine wpQuiet_nil ?_
        intro w' hw'
        obtain ⟨j, rfl⟩ := hw'
        go_wp2_with fail
        go_round
        case rel => exact ⟨k + 1, hlt, by go_num, HE3, Below.junk bel⟩
        case measure => simp [intOf]; omega
    · obtain rfl : k = l.length := by omega
      obtain rfl : R = true := by
        have h := HA.out
        rw [List.take_length, hne, List.take_length] at h
        rw [HR.out, h]; simp
      clear HA HR
      go_wp2_with fail
      go_ret
      exact ⟨rfl, Below.junk bel⟩
end Go.Proofs.YtfcgdfcekpbliaaGreatDoor
/-
  Scenarios: fields compared, the document's.
-/
namespace Go.Proofs.YtfcgdfcekpbliaaGreatDoor
set_option linter.unusedSimpArgs false
set_option linter.unusedVariables false
set_option linter.unusedSectionVars false
open Go.ChangeShapes Go.WideShapes Go.ChangeAt Go.RowKit Go.Deep Go.Shelf

instance decFd : DecidableEq Fd := fun a b => decidable_of_iff (a.name = b.name ∧ a.value = b.value ∧ a.never = b.never) (by cases a; cases b; simp)
theorem fe_fields : Tryz.prog.underlying 87 = some (.struct (Tryz.prog.fieldsOf 87)) := by kernel_rfl
theorem fe_plain : Tryz.prog.stoodInHeld 87 = false := by kernel_rfl
set_option maxRecDepth 100000 in
theorem fe_neq (a1 a2 b1 b2 : List UInt8) (a3 b3 : Bool) (w : World) :
    (binOp .neq 87 (.agg #[bstr a1, bstr a2, .bool a3]) (.agg #[bstr b1, bstr b2, .bool b3])).run Tryz.prog w = .ok (.bool (!(decide (a1 = b1) && (decide (a2 = b2) && decide (a3 = b3))))) w := by
  have u3 := Tryz.underlying9
  have ag := Tryz.isAgg9
  have z3 := Tryz.sizeOf9
  have u4 := Tryz.underlying4
  have ag4 := Tryz.isAgg4
  have z4 := Tryz.sizeOf4
  rw [run_neq_struct, show (10000 : Nat) = 9999 + 1 from rfl, run_equalIn_agg w 9999 87 _ _ fe_fields fe_plain]
  simp only [Program.fieldsOf, Tryz.underlying87]
  go_simp
  repeat' split
  all_goals simp_all
set_option maxHeartbeats 4000000 in
set_option maxRecDepth 100000 in
theorem ref21_Same (a b : Option Addr) (l m : List Fd) (c d : Nat) (hl : l.length ≤ 1000000) (hm : m.length ≤ 1000000) (w : World) (hS : SlF w w.heap.size a l) (hT : SlF w w.heap.size b m) :
    Calls Tryz.prog 62 #[.slice a l.length c, .slice b m.length d] w fun e w' => e = .returned (.bool (decide (l = m))) ∧ ∃ j, w' = w.more j := by
  obtain ⟨R, hR⟩ : ∃ R, R = decide (l = m) := ⟨_, rfl⟩
  rw [← hR]
  have HR := Lib.hid hR
  have HS := Lib.hid hS
  have HT := Lib.hid hT
  clear hR hS hT
  by_cases hne : l.length = m.length
  rotate_left
  · obtain rfl : R = false := by rw [HR.out, decide_eq_false_iff_not]; intro e; exact hne (by rw [e])
    have hq : ((l.length : Int) != (m.length : Int)) = true := by rw [bne_iff_ne]; omega
    clear HR HS HT
    go_enter Tryz.func62, Tryz.ntmps62
    go_wp2_with fail
    go_ret
    exact ⟨rfl, Below.junk bel⟩
  have hq : ((l.length : Int) != (m.length : Int)) = false := by rw [bne_eq_false_iff_eq]; omega
  go_enter Tryz.func62, Tryz.ntmps62
  go_wp2_with fail
  go_loopw [5] (fun i wr => ∃ k : Nat, k ≤ l.length ∧ i = .int .i64 k ∧ Hid (l.take k = m.take k) ∧ ∃ j, wr = w.more j) (fun i _ => l.length - (intOf i).toNat)
  case atStart => exact ⟨0, Nat.zero_le _, rfl, by show _ = _; simp, Below.junk bel⟩
  case round =>
    obtain ⟨k, hk, rfl, HA, j, rfl⟩ := hrel
    by_cases hlt : k < l.length
    · obtain ⟨b1, o1, ha1, hb1, c0, c1, c2, _⟩ := SlR.atF HS.out hlt
      obtain ⟨b2, o2, ha2, hb2, d0, d1, d2, _⟩ := SlR.atF HT.out (k := k) (by omega)
      subst ha1 ha2
      have hltm : (k : Int) < (m.length : Int) := by omega
      have HEQ : Hid (l[k] = m[k]'(by omega) → l.take (k + 1) = m.take (k + 1)) := fun h => by
        rw [List.take_succ_eq_append_getElem hlt, List.take_succ_eq_append_getElem (by omega), HA.out, h]
      have HNE : Hid (l[k] ≠ m[k]'(by omega) → R = false) := fun h => by
        rw [HR.out, decide_eq_false_iff_not]
        intro e
        subst e
        exact h rfl
      generalize l[k] = x at c0 c1 c2 HEQ HNE
      generalize m[k]'(by omega) = y at d0 d1 d2 HEQ HNE
      obtain ⟨x1, x2, x3⟩ := x
      obtain ⟨y1, y2, y3⟩ := y
      simp only at c0 c1 c2 d0 d1 d2
      have HQ := fun W => fe_neq x1 x2 y1 y2 x3 y3 W
      have HEQ2 : Hid ((decide (x1 = y1) && (decide (x2 = y2) && decide (x3 = y3))) = true → l.take (k + 1) = m.take (k + 1)) := fun h => by
        simp only [Bool.and_eq_true, decide_eq_true_eq] at h
        exact HEQ.out (by rw [h.1, h.2.1, h.2.2])
      have HNE2 : Hid ((decide (x1 = y1) && (decide (x2 = y2) && decide (x3 = y3))) = false → R = false) := fun h => HNE.out (fun e => by
        injection e with e1 e2 e3
        subst e1 e2 e3
        simp at h)
      generalize (decide (x1 = y1) && (decide (x2 = y2) && decide (x3 = y3))) = q at HQ HEQ2 HNE2
      clear HEQ HNE
      cases q
      · obtain rfl : R = false := HNE2.out rfl
        clear HEQ2 HNE2 HR
        go_wp2_with fail
        refine wp_region_more (by kernel_rfl) (by kernel_rfl) ?_
        repeat (go_big_quiet_step (first | (fail)))
        refine wpQuiet_nil ?_
        intro w' hw'
        obtain ⟨j, rfl⟩ := hw'
        go_wp2_with fail
        go_ret
        exact ⟨rfl, Below.junk bel⟩
      · have HE3 := Lib.hid (HEQ2.out rfl)
        clear HEQ2 HNE2
        go_wp2_with fail
        refine wp_region_more (by kernel_rfl) (by kernel_rfl) ?_
        repeat (go_big_quiet_step (first | (fail)))
        refine wpQuiet_nil ?_
        intro w' hw'
        obtain ⟨j, rfl⟩ := hw'
        go_wp2_with fail
        go_round
        case rel => exact ⟨k + 1, hlt, by go_num, HE3, Below.junk bel⟩
        case measure => simp [intOf]; omega
    · obtain rfl : k = l.length := by omega
      obtain rfl : R = true := by
        have h := HA.out
        rw [List.take_length, hne, List.take_length] at h
        rw [HR.out, h]; simp
      clear HA HR
      go_wp2_with fail
      go_ret
      exact ⟨rfl, Below.junk bel⟩
end Go.Proofs.YtfcgdfcekpbliaaGreatDoor
/-
  Scenarios: steps compared, the document's.
-/
namespace Go.Proofs.YtfcgdfcekpbliaaGreatDoor
set_option linter.unusedSimpArgs false
set_option linter.unusedVariables false
set_option linter.unusedSectionVars false
open Go.ChangeShapes Go.WideShapes Go.ChangeAt Go.RowKit Go.Deep Go.Shelf

def sameSt (x y : St) : Bool := decide (x.kd = y.kd) && (decide (x.sm = y.sm) && (decide (x.nn = y.nn) && (decide (x.fin = y.fin) && (decide (x.fs = y.fs) && decide (x.ss = y.ss)))))
theorem sameSt_iff {x y : St} : sameSt x y = true ↔ x = y := by
  obtain ⟨a, b, c, d, e, f⟩ := x
  obtain ⟨a2, b2, c2, d2, e2, f2⟩ := y
  simp [sameSt]
set_option maxHeartbeats 8000000 in
set_option maxRecDepth 100000 in
theorem ref45_SameStep (k s n k2 s2 n2 : Int) (e e2 : Bool) (fs fs2 : List Fd) (ss ss2 : List (Int × Int)) (fa sa fa2 sa2 : Option Addr) (fc sc fc2 sc2 : Nat) (h1 : fs.length ≤ 1000000) (h2 : fs2.length ≤ 1000000) (h3 : ss.length ≤ 1000000) (h4 : ss2.length ≤ 1000000) (w : World)
    (hF : SlF w w.heap.size fa fs) (hF2 : SlF w w.heap.size fa2 fs2) (hS : SlSe w w.heap.size sa ss) (hS2 : SlSe w w.heap.size sa2 ss2) :
    Calls Tryz.prog 36 #[.agg #[.int .i64 k, .int .i64 s, .int .i64 n, .bool e, .slice fa fs.length fc, .slice sa ss.length sc], .agg #[.int .i64 k2, .int .i64 s2, .int .i64 n2, .bool e2, .slice fa2 fs2.length fc2, .slice sa2 ss2.length sc2]] w fun x w' => x = .returned (.bool (sameSt ⟨k, s, n, e, fs, ss⟩ ⟨k2, s2, n2, e2, fs2, ss2⟩)) ∧ ∃ j, w' = w.more j := by
  have HF : Hid (∀ W, Below w.heap.size w W → Calls Tryz.prog 62 #[.slice fa fs.length fc, .slice fa2 fs2.length fc2] W fun x w' => x = .returned (.bool (decide (fs = fs2))) ∧ ∃ j, w' = W.more j) := fun W hW => ref21_Same fa fa2 fs fs2 fc fc2 h1 h2 W ((hF.below hW (Nat.le_refl _)).mono hW.size (fun _ _ _ h => h)) ((hF2.below hW (Nat.le_refl _)).mono hW.size (fun _ _ _ h => h))
  have HS : Hid (∀ W, Below w.heap.size w W → Calls Tryz.prog 63 #[.slice sa ss.length sc, .slice sa2 ss2.length sc2] W fun x w' => x = .returned (.bool (decide (ss = ss2))) ∧ ∃ j, w' = W.more j) := fun W hW => ref13_Same sa sa2 ss ss2 sc sc2 h3 h4 W ((hS.below hW (Nat.le_refl _)).mono hW.size (fun _ _ _ h => h)) ((hS2.below hW (Nat.le_refl _)).mono hW.size (fun _ _ _ h => h))
  unfold sameSt
  simp only
  generalize decide (fs = fs2) = p at HF ⊢
  generalize decide (ss = ss2) = q at HS ⊢
  generalize fs.length = nf at HF ⊢
  generalize fs2.length = nf2 at HF ⊢
  generalize ss.length = ns at HS ⊢
  generalize ss2.length = ns2 at HS ⊢
  clear hF hF2 hS hS2 h1 h2 h3 h4
  cases p <;> cases q <;> cases e <;> cases e2
  all_goals
    go_enter Tryz.func36, Tryz.ntmps36
    go_wp2_with (first | (go_at_call 62; (with_reducible refine (HF.out _ bel).mono ?_); rintro e w' ⟨rfl, j, rfl⟩) | (go_at_call 63; (with_reducible refine (HS.out _ bel).mono ?_); rintro e w' ⟨rfl, j, rfl⟩))
    all_goals go_ret
    all_goals
      refine ⟨?_, Below.junk bel⟩
      simp_all
end Go.Proofs.YtfcgdfcekpbliaaGreatDoor
/-
  Numbers as bytes: powers of 256; the greatest number of so many bytes.
-/
namespace Go.Proofs.YtfcgdfcekpbliaaGreatDoor
set_option linter.unusedSimpArgs false
set_option linter.unusedVariables false
set_option linter.unusedSectionVars false
open Go.ChangeShapes Go.WideShapes Go.ChangeAt Go.RowKit Go.Deep Go.Shelf

def powB (k : Nat) : Int := if k = 0 then 1 else if k = 1 then 256 else if k = 2 then 65536 else if k = 3 then 16777216 else 4294967296
theorem powB_step {k : Nat} (h : k < 4) : 256 * powB k = powB (k + 1) ∧ IntKind.i64.wrap (256 * powB k) = powB (k + 1) := by
  match k, h with
  | 0, _ => exact ⟨by decide, by decide⟩
  | 1, _ => exact ⟨by decide, by decide⟩
  | 2, _ => exact ⟨by decide, by decide⟩
  | 3, _ => exact ⟨by decide, by decide⟩
set_option maxHeartbeats 4000000 in
set_option maxRecDepth 100000 in
theorem ref01_power (n : Nat) (hn : n ≤ 4) (w : World) : Calls Tryz.prog 93 #[.int .i64 (n : Int)] w fun e w' => e = .returned (.int .i64 (powB n)) ∧ w = w' := by
  go_enter Tryz.func93, Tryz.ntmps93
  go_wp2_with fail
  go_loopw [3, 4] (fun v i wr => ∃ k : Nat, k ≤ n ∧ v = .int .i64 (powB k) ∧ i = .int .i64 k ∧ wr = w) (fun _ i _ => n - (intOf i).toNat)
  case atStart => exact ⟨0, by omega, rfl, rfl, rfl⟩
  case round =>
    obtain ⟨k, hk, rfl, rfl, rfl⟩ := hrel
    by_cases hlt : k < n
    · have hlt2 : (k : Int) < n := by omega
      obtain ⟨_, h2⟩ := powB_step (k := k) (by omega)
      obtain ⟨R, hR⟩ : ∃ R, R = powB k := ⟨_, rfl⟩
      obtain ⟨Q, hQ⟩ : ∃ Q, Q = powB (k + 1) := ⟨_, rfl⟩
      rw [← hR] at h2 ⊢
      rw [← hQ] at h2
      have HQ := Lib.hid hQ
      clear hR hQ
      go_wp2_with fail
      go_round
      case rel => exact ⟨k + 1, by omega, by rw [← HQ.out], by go_num, by trivial⟩
      case measure => simp [intOf]; omega
    · obtain rfl : k = n := by omega
      have hlt2 : ¬ (k : Int) < k := by omega
      go_wp2_with fail
      go_ret
      exact ⟨rfl, rfl⟩
set_option maxRecDepth 100000 in
theorem octet_top2 (w : World) : Calls Tryz.prog 111 #[.int .i64 2] w fun e w' => e = .returned (.tuple #[.int .i64 65535, .bool true]) ∧ w = w' := by
  go_enter Tryz.func111, Tryz.ntmps111
  go_wp2_with fail
  go_ret2
  exact ⟨rfl, rfl⟩
set_option maxRecDepth 100000 in
theorem octet_top4 (w : World) : Calls Tryz.prog 111 #[.int .i64 4] w fun e w' => e = .returned (.tuple #[.int .i64 4294967295, .bool true]) ∧ w = w' := by
  go_enter Tryz.func111, Tryz.ntmps111
  go_wp2_with fail
  go_ret2
  exact ⟨rfl, rfl⟩
end Go.Proofs.YtfcgdfcekpbliaaGreatDoor
/-
  Numbers as bytes: the document's. (Draft.)
-/
namespace Go.Proofs.YtfcgdfcekpbliaaGreatDoor
set_option linter.unusedSimpArgs false
set_option linter.unusedVariables false
set_option linter.unusedSectionVars false
open Go.ChangeShapes Go.WideShapes Go.ChangeAt Go.RowKit Go.Deep Go.Shelf

theorem powB_pos (q : Nat) : 0 < powB q := by
  unfold powB
  repeat' split
  all_goals omega
theorem byte_of (x : Int) : ∃ c : UInt8, x % 256 = (c.toNat : Int) := by
  have h1 := Int.emod_nonneg x (show (256 : Int) ≠ 0 by omega)
  have h2 := Int.emod_lt_of_pos x (show (0 : Int) < 256 by omega)
  refine ⟨UInt8.ofNat (x % 256).toNat, ?_⟩
  have h3 : (UInt8.ofNat (x % 256).toNat).toNat = (x % 256).toNat := by simp; omega
  rw [h3]
  omega
/-- What a number's bytes leave: a row of so many bytes. -/
def PutB (k : Nat) (w : World) (e : Ending) (w' : World) : Prop := ∃ (v : Value) (l : List UInt8), e = .returned (.tuple #[v, .int .i64 0]) ∧ l.length = k ∧ OwnB w.heap.size w' v l ∧ Below w.heap.size w w'
set_option maxHeartbeats 8000000 in
set_option maxRecDepth 100000 in
theorem ref01_Put (n : Int) (k : Nat) (h1 : 1 ≤ k) (h4 : k ≤ 4) (w : World) (h0 : 0 ≤ n) (hn : n < powB k) :
    Calls Tryz.prog 76 #[.slice none 0 0, .int .i64 n, .int .i64 (k : Int)] w (PutB k w) := by
  have HP : Hid (∀ (q : Nat), q ≤ 4 → ∀ W, Calls Tryz.prog 93 #[.int .i64 (q : Int)] W fun e w' => e = .returned (.int .i64 (powB q)) ∧ W = w') := fun q hq W => ref01_power q hq W
  have HK : Hid (∀ W, Calls Tryz.prog 93 #[.int .i64 (k : Int)] W fun e w' => e = .returned (.int .i64 (powB k)) ∧ W = w') := HP.out k h4
  have k1 : ¬ (k : Int) < 1 := by omega
  have k4 : ¬ (4 : Int) < (k : Int) := by omega
  have n0 : ¬ n < 0 := by omega
  have n1 : ¬ powB k ≤ n := by omega
  go_enter Tryz.func76, Tryz.ntmps76
  go_wp2_with (go_at_call 93; (with_reducible refine (HK.out _).mono ?_); rintro e w' ⟨rfl, rfl⟩)
  have HW0 : Hid (OwnB w.heap.size (w.alloc (.cells #[] 5)) (.slice (some ⟨w.heap.size, 0, none⟩) 0 0) []) := World.ownsRow_made w #[] 0 (Nat.le_refl _) (by decide) rfl
  have HPOS : Hid (∀ q : Nat, 0 < powB q) := powB_pos
  clear n1 HK
  go_loopg [8, 9] k (fun g v i wr => ∃ (q : Nat) (l : List UInt8), q + g = k ∧ i = .int .i64 q ∧ OwnB w.heap.size wr v l ∧ l.length = q ∧ Below w.heap.size w wr)
  case atStart => exact ⟨0, [], by omega, rfl, HW0.out, rfl, bel⟩
  case round =>
    obtain ⟨q, l, hqg, rfl, ho, hlq, hb⟩ := hrel
    have HQG := Lib.hid hqg
    have HO := Lib.hid ho
    have HLQ := Lib.hid hlq
    have HB := Lib.hid hb
    clear ho hlq hb
    by_cases hlt : q < k
    · have hlt2 : (q : Int) < k := by omega
      have e1 : (k : Int) - 1 - q = ((k - 1 - q : Nat) : Int) := by omega
      have w1 : IntKind.i64.wrap ((k : Int) - 1) = (k : Int) - 1 := IntWalk.i64_in _ (by omega)
      have w2 : IntKind.i64.wrap ((k : Int) - 1 - q) = (k : Int) - 1 - q := IntWalk.i64_in _ (by omega)
      have HQ : Hid (∀ W, Calls Tryz.prog 93 #[.int .i64 ((k : Int) - 1 - q)] W fun e w' => e = .returned (.int .i64 (powB (k - 1 - q))) ∧ W = w') := fun W => by
        rw [e1]
        exact HP.out (k - 1 - q) (by omega) W
      have hp := HPOS.out (k - 1 - q)
      generalize powB (k - 1 - q) = P at HQ hp
      have hp0 : ¬ P = 0 := by omega
      clear e1 hqg
      obtain ⟨c, hc⟩ := byte_of ((wrap64 (n.tdiv P)).tmod 256)
      go_wp2_with (first | (go_at_call 93; (with_reducible refine (HQ.out _).mono ?_); rintro e w' ⟨rfl, rfl⟩) | (at_builtin; refine app_byte (.tmp 32) (.tmp 42) rfl rfl (c := c) rfl (HO.out.alloc _) rfl (Blk.at_ _ _ _ (by simp)) (by have := HLQ.out; omega) (by have := HB.out.size; simp only [World.size_alloc]; omega) ?_; intro v' w3 hown hbw))
      go_roundg (k - (q + 1))
      case measure => have := HQG.out; omega
      case rel => exact ⟨q + 1, l ++ [c], by have := HQG.out; omega, by go_num, hown, by have := HLQ.out; simp; omega, HB.out.trans ((Below.mono (B := wr.heap.size) bel HB.out.size).trans hbw)⟩
    · obtain rfl : q = k := by have := HQG.out; omega
      have hlt2 : ¬ (q : Int) < q := by omega
      go_wp2_with fail
      go_ret2
      exact ⟨_, l, ⟨rfl, HLQ.out, HO.out, HB.out⟩⟩
end Go.Proofs.YtfcgdfcekpbliaaGreatDoor
/-
  Numbers as bytes: those that have none: both.
-/
namespace Go.Proofs.YtfcgdfcekpbliaaGreatDoor
set_option linter.unusedSimpArgs false
set_option linter.unusedVariables false
set_option linter.unusedSectionVars false
open Go.ChangeShapes Go.WideShapes Go.ChangeAt Go.RowKit Go.Deep Go.Shelf

set_option maxHeartbeats 8000000 in
set_option maxRecDepth 100000 in
theorem ref01_Put_no (b : Value) (n : Int) (k : Nat) (h1 : 1 ≤ k) (h4 : k ≤ 4) (w : World) (h0 : n < 0 ∨ powB k ≤ n) :
    Calls Tryz.prog 76 #[b, .int .i64 n, .int .i64 (k : Int)] w fun e w' => e = .returned (.tuple #[.slice none 0 0, .int .i64 5]) ∧ ∃ j, w' = w.more j := by
  have HK : Hid (∀ W, Calls Tryz.prog 93 #[.int .i64 (k : Int)] W fun e w' => e = .returned (.int .i64 (powB k)) ∧ W = w') := fun W => ref01_power k h4 W
  have k1 : ¬ (k : Int) < 1 := by omega
  have k4 : ¬ (4 : Int) < (k : Int) := by omega
  generalize powB k = P at HK h0
  by_cases hn : n < 0
  · clear h0 HK
    go_enter Tryz.func76, Tryz.ntmps76
    go_wp2_with fail
    go_ret2
    exact ⟨rfl, Below.junk bel⟩
  · have n1 : P ≤ n := by omega
    clear h0
    go_enter Tryz.func76, Tryz.ntmps76
    go_wp2_with (go_at_call 93; (with_reducible refine (HK.out _).mono ?_); rintro e w' ⟨rfl, rfl⟩)
    go_ret2
    exact ⟨rfl, Below.junk bel⟩
set_option maxHeartbeats 8000000 in
set_option maxRecDepth 100000 in
theorem octet_Put_no2 (b : Value) (n : Int) (w : World) (h0 : n < 0 ∨ 65535 < n) :
    Calls Tryz.prog 99 #[b, .int .i64 n, .int .i64 2] w fun e w' => e = .returned (.tuple #[.slice none 0 0, .int .i64 5]) ∧ ∃ j, w' = w.more j := by
  have HK : Hid (∀ W, Calls Tryz.prog 111 #[.int .i64 2] W fun e w' => e = .returned (.tuple #[.int .i64 65535, .bool true]) ∧ W = w') := octet_top2
  by_cases hn : n < 0
  all_goals
    have n1 : n < 0 ∨ 65535 < n := h0
    try have n2 : 65535 < n := by omega
    clear h0 n1
    go_enter Tryz.func99, Tryz.ntmps99
    go_wp2_with (go_at_call 111; (with_reducible refine (HK.out _).mono ?_); rintro e w' ⟨rfl, rfl⟩)
    all_goals go_ret2
    all_goals exact ⟨rfl, Below.junk bel⟩
set_option maxHeartbeats 8000000 in
set_option maxRecDepth 100000 in
theorem octet_Put_no4 (b : Value) (n : Int) (w : World) (h0 : n < 0 ∨ 4294967295 < n) :
    Calls Tryz.prog 99 #[b, .int .i64 n, .int .i64 4] w fun e w' => e = .returned (.tuple #[.slice none 0 0, .int .i64 5]) ∧ ∃ j, w' = w.more j := by
  have HK : Hid (∀ W, Calls Tryz.prog 111 #[.int .i64 4] W fun e w' => e = .returned (.tuple #[.int .i64 4294967295, .bool true]) ∧ W = w') := octet_top4
  by_cases hn : n < 0
  all_goals
    have n1 : n < 0 ∨ 4294967295 < n := h0
    try have n2 : 4294967295 < n := by omega
    clear h0 n1
    go_enter Tryz.func99, Tryz.ntmps99
    go_wp2_with (go_at_call 111; (with_reducible refine (HK.out _).mono ?_); rintro e w' ⟨rfl, rfl⟩)
    all_goals go_ret2
    all_goals exact ⟨rfl, Below.junk bel⟩
end Go.Proofs.YtfcgdfcekpbliaaGreatDoor
/-
  Numbers as bytes: the program's, of a number that has its bytes.
-/
namespace Go.Proofs.YtfcgdfcekpbliaaGreatDoor
set_option linter.unusedSimpArgs false
set_option linter.unusedVariables false
set_option linter.unusedSectionVars false
open Go.ChangeShapes Go.WideShapes Go.ChangeAt Go.RowKit Go.Deep Go.Shelf

/-- What a number's bytes behind others leave: a row of so many bytes. -/
def PutC (n : Nat) (w : World) (e : Ending) (w' : World) : Prop := ∃ (v : Value) (l : List UInt8), e = .returned (.tuple #[v, .int .i64 0]) ∧ l.length = n ∧ OwnB w.heap.size w' v l ∧ Below w.heap.size w w'
theorem made_cells {z : Value} {n : Nat} : madeCells #[z] n = (List.replicate n z).toArray := by
  apply Array.ext
  · simp [madeCells]
  · intro i h1 h2
    simp [madeCells, Nat.mod_one]
theorem byte_wrap (x : Int) : ∃ c : UInt8, IntKind.u8.wrap x = (c.toNat : Int) := by
  obtain ⟨c, hc⟩ := byte_of x
  exact ⟨c, by rw [← hc]; rfl⟩
theorem splice_own {w : World} {g B n k : Nat} {Z : List Value} {l : List UInt8} (hl : l.length = n) (hz : Z.length = n + k) (hk : n + k ≤ 1048576) (hB : B ≤ g) (hg : w.heap[g]? = some (.cells (splice Z 0 (Lib.byteCells l)).toArray 5 (0, 0))) :
    OwnB B w (.slice (some ⟨g, 0, none⟩) n (n + k)) l := by
  subst hl
  have hc : (Lib.byteCells l).length = l.length := byteCells_len l
  refine ⟨by rw [hc]; omega, .inr ⟨g, _, _, rfl, hB, hg, by omega, by unfold maxLen; omega, ?_, ?_⟩⟩
  · rw [List.size_toArray, length_splice _ _ _ (by omega), hz]; omega
  · unfold splice
    simp
    rw [List.take_append_of_le_length (by omega), List.take_of_length_le (by omega)]
set_option maxHeartbeats 8000000 in
set_option maxRecDepth 100000 in
theorem octet_Put (k : Nat) (T : Int) (hk : 1 ≤ k ∧ k ≤ 4) (hT : ∀ W, Calls Tryz.prog 111 #[.int .i64 (k : Int)] W fun e w' => e = .returned (.tuple #[.int .i64 T, .bool true]) ∧ W = w')
    (a : Option Addr) (l : List UInt8) (cap : Nat) (n : Int) (h0 : 0 ≤ n) (hn : n ≤ T) (hl : l.length ≤ 1000000) (w : World) (hS : SlB w w.heap.size a l) :
    Calls Tryz.prog 99 #[.slice a l.length cap, .int .i64 n, .int .i64 (k : Int)] w (PutC (l.length + k) w) := by
  obtain ⟨N, hN⟩ : ∃ N, N = l.length := ⟨_, rfl⟩
  have hwr : IntKind.i64.wrap ((N : Int) + k) = (N : Int) + k := IntWalk.i64_in _ (by omega)
  have hw8 : IntKind.i64.wrap (8 * (k : Int)) = 8 * (k : Int) := IntWalk.i64_in _ (by omega)
  have hmk : ∀ W, (Instr.makeSlice 57 (.int .i64 (N : Int)) (.int .i64 ((N : Int) + k))).run Tryz.prog W = .ok (.slice (some ⟨W.heap.size, 0, none⟩) N (N + k)) (W.alloc (.cells (List.replicate (N + k) (.int .u8 0)).toArray 5)) := fun W => by
    obtain ⟨i, ht, hi, hiz, hsz, hby, _, _⟩ := st_bytes
    have hr := run_make (P := Tryz.prog) W 57 5 i (.int .u8 0) ht hi hiz .i64 .i64 (N : Int) ((N : Int) + k) (by omega) (by omega) (by rw [hby]; omega) (by omega)
    have e : ((N : Int) + k).toNat = N + k := by omega
    rw [e, Int.toNat_natCast, hsz, Nat.mul_one] at hr
    rw [hr]
    show _ = Result.ok _ (W.alloc (.cells _ _))
    rw [show (Value.int .u8 0).cells = #[.int .u8 0] from rfl, made_cells]
  obtain ⟨Z, hZ⟩ : ∃ Z : List Value, Z = List.replicate (N + k) (.int .u8 0) := ⟨_, rfl⟩
  have hZl : Z.length = N + k := by rw [hZ]; simp
  rw [← hZ] at hmk
  rw [← hN]
  have HT := Lib.hid hT
  have HZL := Lib.hid hZl
  have HN := Lib.hid hN
  have n0 : ¬ n < 0 := by omega
  have n1 : ¬ T < n := by omega
  have hNle : N ≤ 1000000 := by omega
  have HSRC : Hid (0 < (Lib.byteCells l).length → ∃ ad, a = some ad ∧ ∀ W, Below w.heap.size w W → ∀ j v, (Lib.byteCells l)[j]? = some v → W.cell? (ad.add j) = some v) := fun hp => by
    rw [byteCells_len] at hp
    obtain ⟨b, off, ha, hb, _⟩ := SlR.atB hS hp
    refine ⟨_, ha, fun W hW j v hv => ?_⟩
    obtain ⟨hlt, rfl⟩ := List.getElem?_eq_some_iff.1 hv
    rw [byteCells_len] at hlt
    obtain ⟨b', off', ha', hb', hc⟩ := SlR.atB hS hlt
    rw [ha] at ha'
    injection ha' with ha'
    injection ha' with e1 e2
    subst e1 e2
    have e3 : (⟨b, off, none⟩ : Addr).add j = ⟨b, off + j, none⟩ := by unfold Addr.add; by_cases hj : j = 0 <;> simp [hj]
    rw [e3]
    refine ((hW.cell (p := ⟨b, off + j, none⟩) hb).trans hc).trans ?_
    simp [Lib.byteCells]
  clear hT hZl hN hZ hS hn h0 hl
  go_enter Tryz.func99, Tryz.ntmps99
  go_wp2_with (first | (go_at_call 111; (with_reducible refine (HT.out _).mono ?_); rintro e w' ⟨rfl, rfl⟩) | (refine wpList_copy_splice rfl (.tmp 35) (.tmp 36) 57 57 rfl 5 Tryz.underlying57 (by kernel_rfl) (some ⟨w.heap.size, 0, none⟩) a N (N + k) N cap (by rfl) (by rfl) w.heap.size 0 Z 5 (by exact Blk.at_ _ _ _ rfl) (Lib.byteCells l) (by rw [byteCells_len, ← HN.out]; exact (Nat.min_self N).symm) (fun hp => ⟨rfl, by obtain ⟨ad, e, h⟩ := HSRC.out hp; exact ⟨ad, e, h _ bel⟩⟩) (by rw [byteCells_len, ← HN.out, HZL.out]; omega) (by intro v hv; simp [Lib.byteCells] at hv; obtain ⟨x, _, rfl⟩ := hv; rfl) w.heap.size w bel (Nat.le_refl _) ?_; intro w2 HG2 hB2))
  obtain ⟨vO, hvO⟩ : ∃ vO : Value, vO = .slice (some ⟨w.heap.size, 0, none⟩) N (N + k) := ⟨_, rfl⟩
  have HO : Hid (OwnB w.heap.size w2 vO l) := by
    show OwnB _ _ _ _
    rw [hvO]
    exact splice_own HN.out.symm HZL.out (by omega) (Nat.le_refl _) HG2.out
  rw [← hvO]
  have HNL : Hid (l.length = N) := HN.out.symm
  have HB2 := Lib.hid hB2
  clear hmk HG2 HSRC HZL hB2 hvO HT HN
  have h8 : (8 : Int) * (k : Int) = ((8 * k : Nat) : Int) := by omega
  rw [h8]
  go_loopg [10, 11] k (fun g v i wr => ∃ (m : List UInt8), g ≤ k ∧ i = .int .i64 ((8 * g : Nat) : Int) ∧ OwnB w.heap.size wr v m ∧ m.length + g = N + k ∧ Below w.heap.size w wr)
  case atStart => exact ⟨l, Nat.le_refl _, rfl, HO.out, by have := HNL.out; omega, HB2.out⟩
  case round =>
    obtain ⟨m, hgk, rfl, ho, hm, hb⟩ := hrel
    have HO2 := Lib.hid ho
    have HM := Lib.hid hm
    have HB := Lib.hid hb
    clear HO HNL HB2 ho hm hb
    have hk4 := hk.2
    clear h8 hw8 hwr
    have HHK := Lib.hid hgk
    clear hgk
    obtain rfl | ⟨q, rfl, hq⟩ : gk = 0 ∨ ∃ q, gk = q + 1 ∧ q < 4 := by
      rcases gk with _ | q
      · exact .inl rfl
      · exact .inr ⟨q, rfl, by have := HHK.out; omega⟩
    · go_wp2_with fail
      go_ret2
      exact ⟨_, m, rfl, by have := HM.out; omega, HO2.out, HB.out⟩
    · have e1 : ((8 * (q + 1) : Nat) : Int) = 8 * (q : Int) + 8 := by omega
      have e2 : IntKind.i64.wrap (8 * (q : Int) + 8 - 8) = 8 * (q : Int) := by rw [show 8 * (q : Int) + 8 - 8 = 8 * (q : Int) by omega]; exact IntWalk.i64_in _ (by omega)
      have e3 : (0 : Int) < 8 * (q : Int) + 8 := by omega
      rw [e1]
      clear e1
      obtain ⟨c, hc⟩ := byte_of (n / 2 ^ (8 * q))
      go_wp2_with (at_builtin; refine app_byte (.tmp 44) (.tmp 50) rfl rfl (c := c) rfl (HO2.out.alloc _) rfl (Blk.at_ _ _ _ (by simp)) (by have := HM.out; omega) (by have := HB.out.size; simp only [World.size_alloc]; omega) ?_; intro v' w3 hown hbw)
      go_roundg q
      case measure => omega
      case rel => exact ⟨m ++ [c], by have := HHK.out; omega, by first | rfl | go_num, hown, by have := HM.out; simp; omega, HB.out.trans ((Below.mono (B := wr.heap.size) bel HB.out.size).trans hbw)⟩
end Go.Proofs.YtfcgdfcekpbliaaGreatDoor
/-
  Settings as bytes: the program's: whether there are any.
-/
namespace Go.Proofs.YtfcgdfcekpbliaaGreatDoor
set_option linter.unusedSimpArgs false
set_option linter.unusedVariables false
set_option linter.unusedSectionVars false
open Go.ChangeShapes Go.WideShapes Go.ChangeAt Go.RowKit Go.Deep Go.Shelf

theorem OwnB.lower {B C : Nat} {w : World} {v : Value} {l : List UInt8} (h : OwnB B w v l) (hC : C ≤ B) : OwnB C w v l := by
  have h0 : w.ownsRow B 5 1 v l.length (Lib.byteCells l) := h
  refine ⟨h0.1, ?_⟩
  rcases h0.2 with ⟨h1, h2⟩ | ⟨g, cap, cur, h1, hg, h3⟩
  · exact .inl ⟨h1, h2⟩
  · exact .inr ⟨g, cap, cur, h1, Nat.le_trans hC hg, h3⟩
theorem octet_Put2 (a : Option Addr) (l : List UInt8) (cap : Nat) (n : Int) (h : inR n 0 65535 = true) (hl : l.length ≤ 1000000) (w : World) (hS : SlB w w.heap.size a l) :
    Calls Tryz.prog 99 #[.slice a l.length cap, .int .i64 n, .int .i64 2] w (PutC (l.length + 2) w) := by
  rw [inR_iff] at h
  exact octet_Put 2 65535 ⟨by omega, by omega⟩ octet_top2 a l cap n h.1 h.2 hl w hS
theorem octet_Put4 (a : Option Addr) (l : List UInt8) (cap : Nat) (n : Int) (h : inR n 0 4294967295 = true) (hl : l.length ≤ 1000000) (w : World) (hS : SlB w w.heap.size a l) :
    Calls Tryz.prog 99 #[.slice a l.length cap, .int .i64 n, .int .i64 4] w (PutC (l.length + 4) w) := by
  rw [inR_iff] at h
  exact octet_Put 4 4294967295 ⟨by omega, by omega⟩ octet_top4 a l cap n h.1 h.2 hl w hS
theorem octet_No2 (b : Value) (n : Int) (h : inR n 0 65535 = false) (w : World) :
    Calls Tryz.prog 99 #[b, .int .i64 n, .int .i64 2] w fun e w' => e = .returned (.tuple #[.slice none 0 0, .int .i64 5]) ∧ ∃ j, w' = w.more j := by
  have h' : ¬ (0 ≤ n ∧ n ≤ 65535) := fun e => by rw [inR_iff.2 e] at h; cases h
  exact octet_Put_no2 b n w (by omega)
theorem octet_No4 (b : Value) (n : Int) (h : inR n 0 4294967295 = false) (w : World) :
    Calls Tryz.prog 99 #[b, .int .i64 n, .int .i64 4] w fun e w' => e = .returned (.tuple #[.slice none 0 0, .int .i64 5]) ∧ ∃ j, w' = w.more j := by
  have h' : ¬ (0 ≤ n ∧ n ≤ 4294967295) := fun e => by rw [inR_iff.2 e] at h; cases h
  exact octet_Put_no4 b n w (by omega)
def codeSe (l : List (Int × Int)) : Int := if l.all seR = true then 0 else 5
set_option maxHeartbeats 8000000 in
set_option maxRecDepth 100000 in
theorem setting_Put (a : Option Addr) (l : List (Int × Int)) (cap : Nat) (hl : l.length ≤ 100000) (w : World) (hS : SlSe w w.heap.size a l) :
    Calls Tryz.prog 87 #[.slice a l.length cap] w fun e w' => (∃ v, e = .returned (.tuple #[v, .int .i64 (codeSe l)])) ∧ ∃ j, w' = w.more j := by
  obtain ⟨R, hR⟩ : ∃ R, R = codeSe l := ⟨_, rfl⟩
  rw [← hR]
  have HR := Lib.hid hR
  have HS := Lib.hid hS
  clear hS hR
  go_enter Tryz.func87, Tryz.ntmps87
  go_wp2_with fail
  go_loopg [4, 11] l.length (fun g v i wr => ∃ (k : Nat) (m : List UInt8), k + g = l.length ∧ i = .int .i64 k ∧ OwnB w.heap.size wr v m ∧ m.length = 6 * k ∧ Below w.heap.size w wr ∧ Hid ((l.take k).all seR = true))
  case atStart => exact ⟨0, [], by omega, rfl, OwnB.nil _ _, rfl, Below.refl _ _, by show _ = _; simp⟩
  case round =>
    obtain ⟨k, m, hkg, rfl, ho, hm, hb, HA⟩ := hrel
    have HK := Lib.hid hkg
    have HM := Lib.hid hm
    clear hkg hm
    by_cases hlt : k < l.length
    · obtain ⟨b, off, ha, hbb, c0, c1⟩ := SlR.atSe HS.out hlt
      subst ha
      have d0 := (hb.cell (p := ⟨b, off + k * 2, none⟩) hbb).trans c0
      have d1 := (hb.cell (p := ⟨b, off + k * 2 + 1, none⟩) hbb).trans c1
      have hbz : b < wr.heap.size := Nat.lt_of_lt_of_le hbb hb.size
      have hkl : (k : Int) < (l.length : Int) := by omega
      have HY : Hid (seR l[k] = true → (l.take (k + 1)).all seR = true) := fun h => by
        show _ = _
        rw [List.take_succ_eq_append_getElem hlt, List.all_append, HA.out]
        simp [h]
      have HNO : Hid (seR l[k] = false → R = 5) := fun h => by
        rw [HR.out]
        unfold codeSe
        rw [if_neg]
        intro e
        rw [List.all_eq_true] at e
        have := e _ (List.getElem_mem hlt)
        rw [h] at this
        cases this
      generalize l[k] = x at c0 c1 d0 d1 HY HNO
      obtain ⟨x1, x2⟩ := x
      simp only at c0 c1 d0 d1
      have hsr : seR (x1, x2) = (inR x1 0 65535 && inR x2 0 4294967295) := rfl
      rw [hsr] at HY HNO
      obtain ⟨ra, rc, rfl, hsb⟩ := ho.read
      have HSB := Lib.hid hsb
      have HB := Lib.hid hb
      have hml : m.length ≤ 600000 := by have := HM.out; omega
      clear hsr c0 c1 hsb hb ho HA
      cases h1 : inR x1 0 65535
      · obtain rfl : R = 5 := HNO.out (by rw [h1]; rfl)
        have HQ : Hid (∀ b W, Calls Tryz.prog 99 #[b, .int .i64 x1, .int .i64 2] W fun e w' => e = .returned (.tuple #[.slice none 0 0, .int .i64 5]) ∧ ∃ j, w' = W.more j) := fun b W => octet_No2 b x1 h1 W
        clear HY HNO h1 HSB
        go_wp2_with (go_at_call 99; (with_reducible refine (HQ.out _ _).mono ?_); rintro e w' ⟨rfl, j, rfl⟩)
        go_ret2
        exact ⟨⟨_, rfl⟩, Below.junk (HB.out.trans (Below.mono (B := wr.heap.size) bel HB.out.size))⟩
      · have HQ1 : Hid (∀ W, Below wr.heap.size wr W → Calls Tryz.prog 99 #[.slice ra m.length rc, .int .i64 x1, .int .i64 2] W (PutC (m.length + 2) W)) := fun W hW =>
          octet_Put2 ra m rc x1 h1 (by omega) W ((SlR.below HSB.out hW (Nat.le_refl _)).mono hW.size (fun _ _ _ h => h))
        cases h2 : inR x2 0 4294967295
        · obtain rfl : R = 5 := HNO.out (by rw [h1, h2]; rfl)
          have HQ : Hid (∀ b W, Calls Tryz.prog 99 #[b, .int .i64 x2, .int .i64 4] W fun e w' => e = .returned (.tuple #[.slice none 0 0, .int .i64 5]) ∧ ∃ j, w' = W.more j) := fun b W => octet_No4 b x2 h2 W
          clear HY HNO h1 h2 HSB
          go_wp2_with (first | (go_at_call 99; (with_reducible refine (HQ.out _ _).mono ?_); rintro e w' ⟨rfl, j, rfl⟩) | (go_at_call 99; (with_reducible refine (HQ1.out _ bel).mono ?_); rintro e w3 ⟨v3, l3, rfl, hl3, ho3, hb3⟩; obtain ⟨a3, c3, rfl, hs3⟩ := ho3.read; have e1 := hb3.cell (p := ⟨wr.heap.size, 1, none⟩) (by simp); have HB3 : Hid (Below w.heap.size w w3) := (HB.out.alloc HB.out.size _).trans (hb3.mono (by have := HB.out.size; simp; omega)); have hz3 : wr.heap.size < w3.heap.size := (by have := hb3.size; simp at this; omega); clear hb3 ho3 hs3 hl3))
          go_ret2
          exact ⟨⟨_, rfl⟩, Below.junk (Below.moreS HB3.out _)⟩
        · have HSE : Hid ((l.take (k + 1)).all seR = true) := HY.out (by rw [h1, h2]; rfl)
          have HQ2 : Hid (∀ W a' (l' : List UInt8) c', l'.length ≤ 1000000 → SlB W W.heap.size a' l' → Calls Tryz.prog 99 #[.slice a' l'.length c', .int .i64 x2, .int .i64 4] W (PutC (l'.length + 4) W)) := fun W a' l' c' hl' hW => octet_Put4 a' l' c' x2 h2 hl' W hW
          clear HY HNO h1 h2 HSB
          go_wp2_with (first | (go_at_call 99; (with_reducible refine (HQ2.out _ _ _ _ (by have := HL3.out; omega) HS3.out).mono ?_); rintro e w4 ⟨v4, l4, rfl, hl4, ho4, hb4⟩; have HB4 := Lib.hid hb4; have HL4 := Lib.hid hl4; have HO4 := Lib.hid ho4; clear hb4 ho4 hl4) | (go_at_call 99; (with_reducible refine (HQ1.out _ bel).mono ?_); rintro e w3 ⟨v3, l3, rfl, hl3, ho3, hb3⟩; obtain ⟨a3, c3, rfl, hs3⟩ := ho3.read; have e1 := hb3.cell (p := ⟨wr.heap.size, 1, none⟩) (by simp); have HB3 : Hid (Below w.heap.size w w3) := (HB.out.alloc HB.out.size _).trans (hb3.mono (by have := HB.out.size; simp; omega)); have hz3 : wr.heap.size < w3.heap.size := (by have := hb3.size; simp at this; omega); have HL3 := Lib.hid hl3; have HS3 := Lib.hid hs3; clear hb3 ho3 hs3 hl3))
          go_roundg (l.length - (k + 1))
          case measure => have := HK.out; omega
          case rel => exact ⟨k + 1, l4, by have := HK.out; omega, by go_num, HO4.out.lower HB3.out.size, by have := HL4.out; have := HL3.out; have := HM.out; omega, HB3.out.trans (HB4.out.mono HB3.out.size), HSE⟩
    · obtain rfl : k = l.length := by have := HK.out; omega
      obtain rfl : R = 0 := by
        have h := HA.out
        rw [List.take_length] at h
        rw [HR.out]
        unfold codeSe
        rw [if_pos h]
      have hkl : ¬ (l.length : Int) < (l.length : Int) := by omega
      have HB := Lib.hid hb
      clear HR HS HA hb
      go_wp2_with fail
      go_ret2
      exact ⟨⟨_, rfl⟩, Below.junk HB.out⟩
end Go.Proofs.YtfcgdfcekpbliaaGreatDoor
/-
  Settings as bytes: the document's: whether there are any; few settings.
-/
namespace Go.Proofs.YtfcgdfcekpbliaaGreatDoor
set_option linter.unusedSimpArgs false
set_option linter.unusedVariables false
set_option linter.unusedSectionVars false
open Go.ChangeShapes Go.WideShapes Go.ChangeAt Go.RowKit Go.Deep Go.Shelf

theorem OwnB.keep {B C : Nat} {w w' : World} {v u : Value} {l m : List UInt8} (h : OwnB C w v l) (hu : OwnB B w u m) (hg : w.grownBy w' u.ownBlock) (hlt : ∀ k, u.ownBlock = some k → k < C) : OwnB C w' v l := by
  refine World.ownsRow.kept h hg ?_
  cases hv : v.ownBlock with
  | none => exact .inl rfl
  | some k =>
    refine .inr (fun e => ?_)
    have h1 := (World.ownsRow.lt h k hv).1
    have h2 := hlt k e.symm
    omega
/-- What a number's bytes leave, whether there are any or not. -/
def PutD (k : Nat) (ok : Bool) (w : World) (e : Ending) (w' : World) : Prop := ∃ (v : Value) (l : List UInt8), e = .returned (.tuple #[v, .int .i64 (if ok then 0 else 5)]) ∧ l.length ≤ k ∧ OwnB w.heap.size w' v l ∧ Below w.heap.size w w'
theorem refp (k : Nat) (T : Int) (h1 : 1 ≤ k) (h4 : k ≤ 4) (hT : powB k = T + 1) (n : Int) (w : World) :
    Calls Tryz.prog 76 #[.slice none 0 0, .int .i64 n, .int .i64 (k : Int)] w (PutD k (inR n 0 T) w) := by
  cases h : inR n 0 T
  · have h' : ¬ (0 ≤ n ∧ n ≤ T) := fun e => by rw [inR_iff.2 e] at h; cases h
    refine (ref01_Put_no (.slice none 0 0) n k h1 h4 w (by omega)).mono ?_
    rintro e w' ⟨rfl, j, rfl⟩
    exact ⟨_, [], rfl, Nat.zero_le _, OwnB.nil _ _, bel⟩
  · rw [inR_iff] at h
    refine (ref01_Put n k h1 h4 w h.1 (by omega)).mono ?_
    rintro e w' ⟨v, l, rfl, hl, ho, hb⟩
    exact ⟨v, l, rfl, by omega, ho, hb⟩
theorem refp2 (n : Int) (w : World) : Calls Tryz.prog 76 #[.slice none 0 0, .int .i64 n, .int .i64 2] w (PutD 2 (inR n 0 65535) w) := refp 2 65535 (by omega) (by omega) (by decide) n w
theorem refp4 (n : Int) (w : World) : Calls Tryz.prog 76 #[.slice none 0 0, .int .i64 n, .int .i64 4] w (PutD 4 (inR n 0 4294967295) w) := refp 4 4294967295 (by omega) (by omega) (by decide) n w
theorem OwnB.sl {B : Nat} {w : World} {v : Value} {l : List UInt8} (h : OwnB B w v l) : ∃ a c, v = .slice a l.length c ∧ SlB w w.heap.size a l := h.read
set_option maxHeartbeats 8000000 in
set_option maxRecDepth 100000 in
theorem ref13_Put (a : Option Addr) (l : List (Int × Int)) (cap : Nat) (hl : l.length ≤ 100000) (w : World) (hS : SlSe w w.heap.size a l) :
    Calls Tryz.prog 51 #[.slice a l.length cap] w fun e w' => (∃ v, e = .returned (.tuple #[v, .bool (l.all seR)])) ∧ ∃ j, w' = w.more j := by
  obtain ⟨R, hR⟩ : ∃ R, R = l.all seR := ⟨_, rfl⟩
  rw [← hR]
  have HR := Lib.hid hR
  have HS := Lib.hid hS
  clear hS hR
  go_enter Tryz.func51, Tryz.ntmps51
  go_wp2_with fail
  go_loopg [4, 5] l.length (fun g v i wr => ∃ (k : Nat) (m : List UInt8), k + g = l.length ∧ i = .int .i64 k ∧ OwnB w.heap.size wr v m ∧ m.length ≤ 6 * k ∧ Below w.heap.size w wr ∧ Hid ((l.take k).all seR = true))
  case atStart => exact ⟨0, [], by omega, rfl, OwnB.nil _ _, by simp, Below.refl _ _, by show _ = _; simp⟩
  case round =>
    obtain ⟨k, m, hkg, rfl, ho, hm, hb, HA⟩ := hrel
    have HK := Lib.hid hkg
    have HM := Lib.hid hm
    clear hkg hm
    by_cases hlt : k < l.length
    · obtain ⟨b, off, ha, hbb, c0, c1⟩ := SlR.atSe HS.out hlt
      subst ha
      have d0 := (hb.cell (p := ⟨b, off + k * 2, none⟩) hbb).trans c0
      have d1 := (hb.cell (p := ⟨b, off + k * 2 + 1, none⟩) hbb).trans c1
      have HC1 : Hid (∀ W, Below w.heap.size w W → W.cell? ⟨b, off + k * 2 + 1, none⟩ = some (.int .i64 l[k].2)) := fun W hW => (hW.cell (p := ⟨b, off + k * 2 + 1, none⟩) hbb).trans c1
      have hbz : b < wr.heap.size := Nat.lt_of_lt_of_le hbb hb.size
      have hkl : (k : Int) < (l.length : Int) := by omega
      have HY : Hid (seR l[k] = true → (l.take (k + 1)).all seR = true) := fun h => by
        show _ = _
        rw [List.take_succ_eq_append_getElem hlt, List.all_append, HA.out]
        simp [h]
      have HNO : Hid (seR l[k] = false → R = false) := fun h => by
        rw [HR.out, List.all_eq_false]
        exact ⟨_, List.getElem_mem hlt, by simp [h]⟩
      generalize l[k] = x at c0 c1 d0 d1 HY HNO HC1
      obtain ⟨x1, x2⟩ := x
      simp only at c0 c1 d0 d1 HC1
      have hsr : seR (x1, x2) = (inR x1 0 65535 && inR x2 0 4294967295) := rfl
      rw [hsr] at HY HNO
      have HP1 : Hid (∀ W, Calls Tryz.prog 76 #[.slice none 0 0, .int .i64 x1, .int .i64 2] W (PutD 2 (inR x1 0 65535) W)) := fun W => refp2 x1 W
      have HP2 : Hid (∀ W, Calls Tryz.prog 76 #[.slice none 0 0, .int .i64 x2, .int .i64 4] W (PutD 4 (inR x2 0 4294967295) W)) := fun W => refp4 x2 W
      have HB := Lib.hid hb
      have HO := Lib.hid ho
      generalize inR x1 0 65535 = q1 at HP1 HY HNO
      generalize inR x2 0 4294967295 = q2 at HP2 HY HNO
      clear hsr c0 c1 d1 hb ho HA
      go_wp2_with fail
      refine (HP1.out _).mono ?_
      rintro e w3 ⟨v3, l3, rfl, hl3, ho3, hb3⟩
      obtain ⟨z1, hz1⟩ : ∃ z : Int, z = (if q1 = true then 0 else 5) := ⟨_, rfl⟩
      rw [← hz1]
      have HZ1 := Lib.hid hz1
      clear hz1
      have HB3 : Hid (Below w.heap.size w w3) := HB.out.trans (hb3.mono HB.out.size)
      have d1 := HC1.out w3 HB3.out
      have hz3 : b < w3.heap.size := Nat.lt_of_lt_of_le hbz hb3.size
      have HS3 : Hid (wr.heap.size ≤ w3.heap.size) := hb3.size
      have HG3 : Hid (OwnB w.heap.size w3 u4 m) := HO.out.below hb3 (Nat.le_refl _)
      have HO3 := Lib.hid ho3
      have HL3 := Lib.hid hl3
      clear ho3 hb3 hl3 hbz d0 HP1
      go_wp2_with fail
      refine (HP2.out _).mono ?_
      rintro e w4 ⟨v4, l4, rfl, hl4, ho4, hb4⟩
      obtain ⟨z2, hz2⟩ : ∃ z : Int, z = (if q2 = true then 0 else 5) := ⟨_, rfl⟩
      rw [← hz2]
      have HZ2 := Lib.hid hz2
      clear hz2
      have HB4 : Hid (Below w.heap.size w w4) := HB3.out.trans (hb4.mono HB3.out.size)
      have HG4 : Hid (OwnB w.heap.size w4 u4 m) := HG3.out.below hb4 (Nat.le_refl _)
      have HO34 : Hid (OwnB wr.heap.size w4 v3 l3) := HO3.out.below hb4 (Nat.le_refl _)
      have HO4 : Hid (OwnB wr.heap.size w4 v4 l4) := ho4.lower HS3.out
      have HL4 := Lib.hid hl4
      have HU : Hid (∀ k, u4.ownBlock = some k → k < wr.heap.size) := fun k hk => (World.ownsRow.lt (show wr.ownsRow _ _ _ _ _ _ from HO.out) k hk).2
      clear ho4 hb4 hl4 HP2 HG3 HO3 HB3 hz3 d1 HC1
      cases q1
      · obtain rfl : R = false := HNO.out rfl
        obtain rfl : z1 = 5 := HZ1.out
        go_wp2_with fail
        go_ret2
        exact ⟨⟨_, rfl⟩, Below.junk HB4.out⟩
      obtain rfl : z1 = 0 := HZ1.out
      cases q2
      · obtain rfl : R = false := HNO.out rfl
        obtain rfl : z2 = 5 := HZ2.out
        go_wp2_with fail
        go_ret2
        exact ⟨⟨_, rfl⟩, Below.junk HB4.out⟩
      obtain rfl : z2 = 0 := HZ2.out
      have HSE : Hid ((l.take (k + 1)).all seR = true) := HY.out rfl
      obtain ⟨a3, c3, rfl, hs3⟩ := HO34.out.sl
      go_wp2_with (at_builtin; first | (refine app_bytes (.tmp 40) (.tmp 41) rfl rfl rfl HG4.out rfl rfl hs3 (by have := HM.out; have := HL3.out; omega) HB4.out.size ?_; intro v5 w5 ho5 hb5 hg5; have HO45 := Lib.hid (HO4.out.keep HG4.out hg5 HU.out); have HB5 : Hid (Below w.heap.size w w5) := HB4.out.trans hb5; have HO5 := Lib.hid ho5; clear ho5 hb5 hg5; obtain ⟨a4, c4, e4, hs4⟩ := HO45.out.sl) | (subst e4; refine app_bytes (.tmp 42) (.tmp 43) rfl rfl rfl HO5.out rfl rfl hs4 (by have := HM.out; have := HL3.out; have := HL4.out; simp only [List.length_append]; omega) HB5.out.size ?_; intro v6 w6 ho6 hb6 hg6))
      go_roundg (l.length - (k + 1))
      case measure => have := HK.out; omega
      case rel => exact ⟨k + 1, _, by have := HK.out; omega, by go_num, ho6, by have := HL4.out; have := HL3.out; have := HM.out; simp only [List.length_append]; omega, HB5.out.trans hb6, HSE⟩
    · obtain rfl : k = l.length := by have := HK.out; omega
      obtain rfl : R = true := by
        have h := HA.out
        rw [List.take_length] at h
        rw [HR.out, h]
      have hkl : ¬ (l.length : Int) < (l.length : Int) := by omega
      have HB := Lib.hid hb
      clear HR HS HA hb
      go_wp2_with fail
      go_ret2
      exact ⟨⟨_, rfl⟩, Below.junk HB.out⟩
set_option maxHeartbeats 8000000 in
set_option maxRecDepth 100000 in
theorem spec_few (a : Option Addr) (l : List (Int × Int)) (cap : Nat) (hl : l.length ≤ 100000) (w : World) (hS : SlSe w w.heap.size a l) :
    Calls Tryz.prog 70 #[.slice a l.length cap] w fun e w' => e = .returned (.bool (decide (l.length ≤ 10) && l.all seR)) ∧ ∃ j, w' = w.more j := by
  have HP := Lib.hid (setting_Put a l cap hl w hS)
  obtain ⟨z, hz⟩ : ∃ z, z = codeSe l := ⟨_, rfl⟩
  have hc : z = if l.all seR = true then 0 else 5 := hz
  rw [← hz] at HP
  clear hz
  generalize l.all seR = q at hc ⊢
  generalize l.length = n at hl HP ⊢
  clear hS
  by_cases h1 : n ≤ 10
  · have h2 : (n : Int) ≤ 10 := by omega
    rw [decide_eq_true h1]
    cases q
    all_goals
      subst hc
      simp only [Bool.false_eq_true, reduceIte] at HP
      go_enter Tryz.func70, Tryz.ntmps70
      go_wp2_with fail
      refine HP.out.mono ?_
      rintro e w' ⟨⟨v, rfl⟩, j, rfl⟩
      go_wp2_with fail
      go_ret
      exact ⟨rfl, _, rfl⟩
  · have h2 : ¬ (n : Int) ≤ 10 := by omega
    rw [decide_eq_false h1]
    clear hc
    go_enter Tryz.func70, Tryz.ntmps70
    go_wp2_with fail
    refine HP.out.mono ?_
    rintro e w' ⟨⟨v, rfl⟩, j, rfl⟩
    go_wp2_with fail
    go_ret
    exact ⟨rfl, _, rfl⟩
end Go.Proofs.YtfcgdfcekpbliaaGreatDoor
