/-
  What fields say of a length: the document's own answer, and the law of LengthTold.
-/
import Derived.Test.YtafccnkeiohlhaaLen
import Derived.Deep.QuietTactic
import Derived.BigQuiet
namespace Go.Proofs.Ytafccnkeiohlhaa
open Go.ChangeShapes Go.WideShapes Go.ChangeAt Go.RowKit Go.Deep

theorem natGo_big' {most : Int} {c : UInt8} {r : List UInt8} {n : Int} (_h0 : 0 ≤ n) (h1 : ¬ (c.toNat : Int) < 48) (h2 : ¬ 57 < (c.toNat : Int)) (h : most / 10 < n ∨ (n = most / 10 ∧ most % 10 < (c.toNat : Int) - 48)) : natGo most (c :: r) n = (0, false) :=
  natGo_big h1 h2 (by omega)
theorem natGo_step' {most : Int} {c : UInt8} {r : List UInt8} {n : Int} (_h0 : 0 ≤ n) (h1 : ¬ (c.toNat : Int) < 48) (h2 : ¬ 57 < (c.toNat : Int)) (h3 : ¬ most / 10 < n) (h4 : n = most / 10 → ¬ most % 10 < (c.toNat : Int) - 48) : natGo most (c :: r) n = natGo most r (10 * n + ((c.toNat : Int) - 48)) :=
  natGo_step h1 h2 (by omega) (by omega)

set_option maxRecDepth 100000 in
theorem ref03_Natural (l : List UInt8) (most : Int) (hm : l.length ≤ maxLen) (h63 : most ≤ 9223372036854775807) (w : World) :
    Calls Try.prog 68 #[bstr l, .int .i64 most] w fun e w' => e = .returned (.tuple #[.int .i64 (natF l most).1, .bool (natF l most).2]) ∧ w = w' := by
  unfold maxLen at hm
  by_cases h0 : l = [] ∨ most < 0
  · have HF : Hid (natF l most = (0, false)) := by show natF l most = _; rw [natF, if_pos h0]
    rcases h0 with rfl | h0
    · go_enter Try.func68, Try.ntmps68
      go_wp2_with fail
      go_ret2
      exact ⟨ret2d HF.out rfl, rfl⟩
    · go_enter Try.func68, Try.ntmps68
      go_wp2_with fail
      all_goals go_ret2
      all_goals exact ⟨ret2d HF.out rfl, rfl⟩
  · have hne : ((l.length : Int) == 0) = false := by cases l <;> simp_all; omega
    have HF : Hid (natF l most = natGo most l 0) := by show natF l most = _; rw [natF, if_neg h0]
    have h1 : 0 ≤ most := by omega
    clear h0
    go_enter Try.func68, Try.ntmps68
    go_wp2_with fail
    go_loop [7, 6] (fun i n => ∃ (k : Nat) (m : Int), k ≤ l.length ∧ i = .int .i64 k ∧ n = .int .i64 m ∧ 0 ≤ m ∧ m ≤ most ∧ Hid (natF l most = natGo most (l.drop k) m)) (fun i _ => l.length - (intOf i).toNat)
    case atStart => exact ⟨0, 0, by omega, rfl, rfl, by omega, h1, HF⟩
    case round =>
      clear HF
      obtain ⟨k, m, hk, rfl, rfl, hm0, hm1, HF⟩ := hrel
      by_cases hlt : k < l.length
      · have hdrop := List.drop_eq_getElem_cons hlt
        have HF2 : Hid (natF l most = natGo most (l[k] :: l.drop (k + 1)) m) := HF.out.trans (by rw [hdrop])
        clear HF hdrop
        by_cases t1 : (l[k].toNat : Int) < 48
        · go_wp2_with fail
          go_ret2
          exact ⟨ret2d (HF2.out.trans (natGo_high (by omega))) rfl, rfl⟩
        by_cases t2 : 57 < (l[k].toNat : Int)
        · go_wp2_with fail
          go_ret2
          exact ⟨ret2d (HF2.out.trans (natGo_high (by omega))) rfl, rfl⟩
        by_cases t3 : most / 10 < m ∨ (m = most / 10 ∧ most % 10 < (l[k].toNat : Int) - 48)
        · have HF3 : Hid (natF l most = (0, false)) := HF2.out.trans (natGo_big' hm0 t1 t2 t3)
          clear HF2
          go_wp2_with fail
          all_goals
            go_loop [9] (fun i => ∃ k : Nat, k ≤ l.length ∧ i = .int .i64 k) (fun i => l.length - (intOf i).toNat)
            case atStart => exact ⟨k, by omega, rfl⟩
            case round =>
              obtain ⟨q, hq, rfl⟩ := hrel
              by_cases hlq : q < l.length
              · by_cases t5 : (l[q].toNat : Int) < 48
                · go_wp2_with fail
                  go_ret2
                  exact ⟨ret2d HF3.out rfl, rfl⟩
                by_cases t6 : 57 < (l[q].toNat : Int)
                · go_wp2_with fail
                  go_ret2
                  exact ⟨ret2d HF3.out rfl, rfl⟩
                go_wp2_with fail
                go_round
                case rel => exact ⟨q + 1, hlq, by go_num⟩
                case measure => simp [intOf]; omega
              · go_wp2_with fail
                go_ret2
                exact ⟨ret2d HF3.out rfl, rfl⟩
        · have HF3 : Hid (natF l most = natGo most (l.drop (k + 1)) (10 * m + ((l[k].toNat : Int) - 48))) := HF2.out.trans (natGo_step' hm0 t1 t2 (by omega) (by omega))
          clear HF2
          go_wp2_with fail
          all_goals
            go_round
            case rel => exact ⟨k + 1, _, hlt, by go_num, rfl, by omega, by omega, by first | exact HF3 | (have h := HF3.out; rw [show m = most / 10 by assumption] at h; exact h)⟩
            case measure => simp [intOf]; omega
      · go_wp2_with fail
        go_ret2
        exact ⟨ret2d (HF.out.trans (by rw [List.drop_of_length_le (by omega)]; rfl)) rfl, rfl⟩

/-- The numbers that are told, one behind the other. -/
def colGo : List Fd → List Int → Option (List Int)
  | [], acc => some acc
  | f :: r, acc => if f.name ≠ contentLength then colGo r acc else if (natF f.value 4503599627370496).2 = true then colGo r (acc ++ [(natF f.value 4503599627370496).1]) else none
def allSame (all : List Int) : Bool := all.all fun x => x == all.headD 0
def refLenF (l : List Fd) : Int × Bool × Bool :=
  match colGo l [] with
  | none => (0, false, false)
  | some [] => (0, false, true)
  | some (x :: r) => if r.all (· == x) then (x, true, true) else (0, false, false)
theorem colGo_skip {f : Fd} {r : List Fd} {acc : List Int} (h : f.name ≠ contentLength) : colGo (f :: r) acc = colGo r acc := by simp [colGo, h]
theorem colGo_bad {f : Fd} {r : List Fd} {acc : List Int} (h : f.name = contentLength) (h2 : (natF f.value 4503599627370496).2 = false) : colGo (f :: r) acc = none := by simp [colGo, h, h2]
theorem colGo_ok {f : Fd} {r : List Fd} {acc : List Int} (h : f.name = contentLength) (h2 : (natF f.value 4503599627370496).2 = true) : colGo (f :: r) acc = colGo r (acc ++ [(natF f.value 4503599627370496).1]) := by simp [colGo, h, h2]
theorem ret3d {p q r : Value} {n : Int} {b c : Bool} {x : Int × Bool × Bool} (hx : x = (n, b, c)) (h : p = .int .i64 n) (h2 : q = .bool b) (h3 : r = .bool c) : Ending.returned (.tuple #[p, q, r]) = .returned (.tuple #[.int .i64 x.1, .bool x.2.1, .bool x.2.2]) := by rw [h, h2, h3, hx]

theorem head_get (l : List Int) (h : 0 < l.length) : l[0] = l.headD 0 := by
  cases l with
  | nil => simp at h
  | cons x r => rfl
theorem refLenF_none {l : List Fd} (h : colGo l [] = none) : refLenF l = (0, false, false) := by unfold refLenF; rw [h]
theorem refLenF_nil {l : List Fd} (h : colGo l [] = some []) : refLenF l = (0, false, true) := by unfold refLenF; rw [h]
theorem refLenF_bad {l : List Fd} {acc : List Int} (h : colGo l [] = some acc) (hn : acc ≠ []) (h2 : (acc.all fun x => x == acc.headD 0) = false) : refLenF l = (0, false, false) := by
  unfold refLenF; rw [h]
  cases acc with
  | nil => exact absurd rfl hn
  | cons x r =>
    have h3 : (r.all fun y => y == x) = false := by simpa using h2
    simp only [h3]; rfl
theorem refLenF_ok {l : List Fd} {acc : List Int} (h : colGo l [] = some acc) (hn : acc ≠ []) (h2 : (acc.all fun x => x == acc.headD 0) = true) : refLenF l = (acc.headD 0, true, true) := by
  unfold refLenF; rw [h]
  cases acc with
  | nil => exact absurd rfl hn
  | cons x r =>
    have h3 : (r.all fun y => y == x) = true := by simpa using h2
    simp only [h3]; rfl

theorem st_ints : SliceTy Try.prog 104 3 (.int .i64 0) 1 8 := .mk' Try.underlying104 (by kernel_rfl) rfl (by omega)

set_option maxRecDepth 100000 in
theorem ref26_Of (a : Option Addr) (cap B : Nat) (l : List Fd) (w : World) (hm : l.length ≤ 1048576) (hB : B ≤ w.heap.size) (hs : SlF w B a l) :
    Calls Try.prog 22 #[.slice a l.length cap] w fun e w' => e = .returned (.tuple #[.int .i64 (refLenF l).1, .bool (refLenF l).2.1, .bool (refLenF l).2.2]) ∧ Below w.heap.size w w' := by
  go_enter Try.func22, Try.ntmps22
  go_wp2_with fail
  go_loopw [5, 6] (fun v i wr => ∃ (k : Nat) (acc : List Int), k ≤ l.length ∧ i = .int .i64 k ∧ acc.length ≤ k ∧ Below w.heap.size w wr ∧ wr.ownsRow w.heap.size 3 1 v acc.length (acc.flatMap fun x => [.int .i64 x]) ∧ Hid (colGo l [] = colGo (l.drop k) acc)) (fun _ i _ => l.length - (intOf i).toNat)
  case atStart => exact ⟨0, [], by omega, rfl, by simp, Below.refl _ _, World.ownsRow_nil _ _ _ _, rfl⟩
  case round =>
    obtain ⟨k, acc, hk, rfl, hacc, hb, hown, HF⟩ := hrel
    by_cases hlt : k < l.length
    · obtain ⟨b, off, rfl, hb', c0, c1, c2, m1, m2⟩ := (hs.below hb hB).atF hlt
      have hdrop := List.drop_eq_getElem_cons hlt
      have HF2 : Hid (colGo l [] = colGo (l[k] :: l.drop (k + 1)) acc) := HF.out.trans (by rw [hdrop])
      clear HF hdrop c2
      by_cases hn : l[k].name = contentLength
      · have hne : (l[k].name == contentLength) = true := by simpa using hn
        have HN := Lib.hid hn
        clear hn
        go_wp2_with (first
          | (go_at_call 68; refine (ref03_Natural _ _ (by assumption) (by omega) _).mono ?_; rintro e w1 ⟨rfl, rfl⟩)
          | (at_builtin
             refine wpList_app st_ints (.tmp 33) (.tmp 35) rfl rfl rfl (hown.alloc _) rfl (Blk.new _ _ _) rfl (by simp [Value.oneCell']) (by unfold maxLen; omega) (by omega) (by have := hb.size; simp; omega) ?_
             intro v1 w1 hown1 hg1))
        · go_ret3
          exact ⟨ret3d (refLenF_none (HF2.out.trans (colGo_bad HN.out (by simpa using ‹(!_) = true›)))) rfl rfl rfl, hb⟩
        · go_roundw
          case rel => exact ⟨k + 1, acc ++ [(natF l[k].value 4503599627370496).1], hlt, by go_num, by simp; omega, own_grown (hb.alloc hb.size _) (hown.alloc _) hg1 (Nat.le_refl _) (by have := hb.size; simp; omega), by simpa using hown1, HF2.out.trans (colGo_ok HN.out (by simpa using ‹(!_) = false›))⟩
          case measure => simp [intOf]; omega
      · have hne : (l[k].name == contentLength) = false := by simpa using hn
        have HF3 : Hid (colGo l [] = colGo (l.drop (k + 1)) acc) := HF2.out.trans (colGo_skip hn)
        clear HF2
        go_wp2_with fail
        go_roundw
        case rel => exact ⟨k + 1, acc, hlt, by go_num, by omega, hb, hown, HF3⟩
        case measure => simp [intOf]; omega
    · have HF2 : Hid (colGo l [] = some acc) := HF.out.trans (by rw [List.drop_of_length_le (by omega)]; rfl)
      clear HF hs
      obtain ⟨a1, cap1, rfl, hsl⟩ := own_slr hown (by simp)
      have hsl' : SlI wr wr.heap.size a1 acc := hsl
      clear hsl hown
      go_wp2_with fail
      go_loopw [9] (fun i wq => ∃ (q : Nat), q ≤ acc.length ∧ i = .int .i64 q ∧ Below wr.heap.size wr wq ∧ Hid ((acc.drop q).all (· == acc.headD 0) = acc.all (· == acc.headD 0))) (fun i _ => acc.length - (intOf i).toNat)
      case atStart => exact ⟨0, by omega, rfl, Below.refl _ _, rfl⟩
      case round =>
        obtain ⟨q, hq, rfl, hbq, HQ⟩ := hrel
        by_cases hlq : q < acc.length
        · obtain ⟨b, off, rfl, hb', c0⟩ := (hsl'.below hbq (Nat.le_refl _)).atI hlq
          obtain ⟨b1, off1, e1, _, c1⟩ := (hsl'.below hbq (Nat.le_refl _)).atI (k := 0) (by omega)
          simp only [Nat.add_zero] at c1
          obtain ⟨rfl, rfl⟩ : b = b1 ∧ off = off1 := by injection e1 with e1; injection e1 with e1 e2; exact ⟨e1, e2⟩
          clear e1
          have hh := head_get acc (by omega)
          have HQ2 : Hid ((acc.all fun x => x == acc.headD 0) = ((acc[q] == acc.headD 0) && (acc.drop (q + 1)).all fun x => x == acc.headD 0)) := HQ.out.symm.trans (by rw [List.drop_eq_getElem_cons hlq]; rfl)
          have HH := Lib.hid hh
          have hn0 : acc ≠ [] := by intro h; subst h; simp at hlq
          have HN := Lib.hid hn0
          clear HQ hh hn0
          have i1 : (q : Int) < acc.length := by omega
          have i2 : (0 : Int) < acc.length := by omega
          have i3 : 0 < acc.length := by omega
          generalize acc[0]'(by omega) = x0 at c1 HH
          by_cases h1 : acc[q] = x0
          · have t1 : (acc[q] != x0) = false := by simpa using h1
            have HQ3 : Hid ((acc.drop (q + 1)).all (fun x => x == acc.headD 0) = acc.all (fun x => x == acc.headD 0)) := by
              show _ = _
              rw [HQ2.out, ← HH.out, h1]; simp
            clear h1
            go_wp2_with fail
            go_quiet (fail)
            go_wp2_with fail
            go_roundw
            case rel => exact ⟨q + 1, hlq, by go_num, below_drewN hbq _, HQ3⟩
            case measure => simp [intOf]; omega
          · have t1 : (acc[q] != x0) = true := by simpa using h1
            have HQ3 : Hid ((acc.all fun x => x == acc.headD 0) = false) := by
              show _ = _
              rw [HQ2.out, ← HH.out]; simp [h1]
            clear h1
            go_wp2_with fail
            go_quiet (fail)
            go_wp2_with fail
            go_ret3
            exact ⟨ret3d (refLenF_bad HF2.out HN.out HQ3.out) rfl rfl rfl, below_drewN (hb.trans (hbq.mono hb.size)) _⟩
        · have HQ2 : Hid ((acc.all fun x => x == acc.headD 0) = true) := HQ.out.symm.trans (by rw [List.drop_of_length_le (by omega)]; rfl)
          clear HQ
          by_cases h0 : acc.length = 0
          · have h1 : acc = [] := List.eq_nil_of_length_eq_zero h0
            have t0 : ((acc.length : Int) == 0) = true := by simp [h0]
            have HR := refLenF_nil (l := l) (HF2.out.trans (by rw [h1]))
            have HR2 := Lib.hid HR
            clear h1 HR h0
            go_wp2_with fail
            go_ret3
            exact ⟨ret3d HR2.out rfl rfl rfl, hb.trans (hbq.mono hb.size)⟩
          · obtain ⟨b1, off1, rfl, _, c1⟩ := (hsl'.below hbq (Nat.le_refl _)).atI (k := 0) (by omega)
            simp only [Nat.add_zero] at c1
            have t0 : ((acc.length : Int) == 0) = false := beq_eq_false_iff_ne.2 (by omega)
            have i3 : 0 < acc.length := by omega
            have hn0 : acc ≠ [] := by intro h; subst h; simp at h0
            have hh := head_get acc (by omega)
            have HR := Lib.hid (refLenF_ok HF2.out hn0 HQ2.out)
            have HH := Lib.hid hh
            clear hn0 hh
            go_wp2_with fail
            go_ret3
            exact ⟨ret3d HR.out (by rw [← HH.out]; rfl) rfl rfl, hb.trans (hbq.mono hb.size)⟩
end Go.Proofs.Ytafccnkeiohlhaa
