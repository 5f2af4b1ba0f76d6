/-
  Parts of the proof, one behind the other: contracts of the program and plain laws; no condition of their own.
-/
import Derived.Test.YtjhhdgmhocpceaaGreatDoorMj
import Derived.Test.YtjhhdgmhocpceaaGreatDoorMi
import Derived.Test.YtjhhdgmhocpceaaGreatDoorRec1
/-
  Faults: the document's right ones, their order, one among some, two lists.
-/
namespace Go.Proofs.YtjhhdgmhocpceaaGreatDoor
set_option linter.unusedSimpArgs false
set_option linter.unusedVariables false
set_option linter.unusedSectionVars false
open Go.ChangeShapes Go.WideShapes Go.ChangeAt Go.RowKit Go.Deep Go.Shelf

set_option maxHeartbeats 4000000 in
set_option maxRecDepth 100000 in
theorem ref09_Right (s c : Int) (w : World) : Calls Tryz.prog 20 #[.agg #[.int .i64 s, .int .i64 c]] w fun e w' => e = .returned (.bool (flR ⟨s, c⟩)) ∧ ∃ j, w' = w.more j := by
  have HR : Hid (flR ⟨s, c⟩ = ((s == 1 || s == 2) && (decide (0 ≤ c) && decide (c < 4294967296)))) := rfl
  generalize flR ⟨s, c⟩ = R at HR ⊢
  have hc : (0 ≤ c ∧ c < 4294967296) ∨ (0 ≤ c ∧ ¬ c < 4294967296) ∨ ¬ 0 ≤ c := by omega
  cases h1 : (s == 1)
  · cases h2 : (s == 2)
    · have hR : R = false := by rw [HR.out, h1, h2]; rfl
      subst hR
      clear HR hc
      go_enter Tryz.func20, Tryz.ntmps20
      go_wp2_with fail
      all_goals first
        | (exfalso; simp_all; done)
        | (go_ret; exact ⟨rfl, Below.junk bel⟩)
    · rcases hc with ⟨h3, h4⟩ | ⟨h3, h4⟩ | h3
      all_goals
        have hR : R = (decide (0 ≤ c) && decide (c < 4294967296)) := by rw [HR.out, h1, h2]; rfl
        first | simp only [h3, h4, decide_true, decide_false, Bool.and_true, Bool.and_false, Bool.false_and] at hR | simp only [h3, decide_false, Bool.false_and] at hR
        subst hR
        clear HR
        obtain rfl : s = 2 := by simpa using h2
        clear h1 h2
        go_enter Tryz.func20, Tryz.ntmps20
        go_wp2_with fail
        go_ret
        exact ⟨rfl, Below.junk bel⟩
  · rcases hc with ⟨h3, h4⟩ | ⟨h3, h4⟩ | h3
    all_goals
      have hR : R = (decide (0 ≤ c) && decide (c < 4294967296)) := by rw [HR.out, h1]; rfl
      first | simp only [h3, h4, decide_true, decide_false, Bool.and_true, Bool.and_false, Bool.false_and] at hR | simp only [h3, decide_false, Bool.false_and] at hR
      subst hR
      clear HR
      obtain rfl : s = 1 := by simpa using h1
      clear h1
      go_enter Tryz.func20, Tryz.ntmps20
      go_wp2_with fail
      go_ret
      exact ⟨rfl, Below.junk bel⟩

set_option maxHeartbeats 4000000 in
set_option maxRecDepth 100000 in
theorem ref09_Less (a b c d : Int) (w : World) : Calls Tryz.prog 22 #[.agg #[.int .i64 a, .int .i64 b], .agg #[.int .i64 c, .int .i64 d]] w fun e w' => e = .returned (.bool (ltFl ⟨a, b⟩ ⟨c, d⟩)) ∧ ∃ j, w' = w.more j := by
  have HR : Hid (ltFl ⟨a, b⟩ ⟨c, d⟩ = if a = c then decide (b < d) else decide (a < c)) := rfl
  generalize ltFl ⟨a, b⟩ ⟨c, d⟩ = R at HR ⊢
  by_cases h0 : a < c
  · have hR : R = true := by rw [HR.out, if_neg (by omega)]; simpa using h0
    subst hR
    clear HR
    go_enter Tryz.func22, Tryz.ntmps22
    go_wp2_with fail
    go_ret
    exact ⟨rfl, Below.junk bel⟩
  · cases h1 : (a == c)
    · have hR : R = false := by rw [HR.out, if_neg (by simpa using h1)]; simpa using h0
      subst hR
      clear HR
      go_enter Tryz.func22, Tryz.ntmps22
      go_wp2_with fail
      go_ret
      exact ⟨rfl, Below.junk bel⟩
    · obtain rfl : a = c := by simpa using h1
      have hR : R = decide (b < d) := by rw [HR.out, if_pos rfl]
      subst hR
      clear HR
      by_cases h2 : b < d
      all_goals
        go_enter Tryz.func22, Tryz.ntmps22
        go_wp2_with fail
        go_ret
        exact ⟨by simp [h2], Below.junk bel⟩

set_option maxHeartbeats 4000000 in
set_option maxRecDepth 100000 in
theorem ref09_Has (a : Option Addr) (l : List Fl) (cap : Nat) (s c : Int) (hl : l.length ≤ 100000) (w : World) (hS : SlFl w w.heap.size a l) :
    Calls Tryz.prog 21 #[.slice a l.length cap, .agg #[.int .i64 s, .int .i64 c]] w fun e w' => e = .returned (.bool (decide (⟨s, c⟩ ∈ l))) ∧ ∃ j, w' = w.more j := by
  obtain ⟨R, hR⟩ : ∃ R, R = decide ((⟨s, c⟩ : Fl) ∈ l) := ⟨_, rfl⟩
  rw [← hR]
  have HR := Lib.hid hR
  have HS := Lib.hid hS
  clear hS hR
  go_enter Tryz.func21, Tryz.ntmps21
  go_wp2_with fail
  go_loopg [5] l.length (fun g i wr => ∃ k q : Nat, k + g = l.length ∧ i = .int .i64 k ∧ wr = (w.alloc (.cells #[.int .i64 s, .int .i64 c] 38)).drewN q ∧ Hid (R = decide ((⟨s, c⟩ : Fl) ∈ l.drop k)))
  case atStart => exact ⟨0, 0, by omega, rfl, rfl, HR⟩
  case round =>
    obtain ⟨k, q, hkg, rfl, rfl, HU⟩ := hrel
    have HK := Lib.hid hkg
    clear hkg
    by_cases hlt : k < l.length
    · obtain ⟨b, off, ha, hbb, c0, c1⟩ := SlR.atFl HS.out hlt
      subst ha
      have hd : l.drop k = l[k] :: l.drop (k + 1) := List.drop_eq_getElem_cons hlt
      have HT : Hid (l[k] = ⟨s, c⟩ → R = true) := fun h => by rw [HU.out, hd, h]; simp
      have HF : Hid (l[k] ≠ ⟨s, c⟩ → R = decide ((⟨s, c⟩ : Fl) ∈ l.drop (k + 1))) := fun h => by rw [HU.out, decide_eq_decide, hd, List.mem_cons]; exact ⟨fun h' => h'.resolve_left (Ne.symm h), .inr⟩
      clear hd HU
      generalize l[k] = x at c0 c1 HT HF
      have HQ := fun W => fl_eql x ⟨s, c⟩ W
      have HE : Hid (flEq x ⟨s, c⟩ = true → x = ⟨s, c⟩) := fun h => by simpa [flEq] using h
      have HN : Hid (flEq x ⟨s, c⟩ = false → x ≠ ⟨s, c⟩) := fun h => by simpa [flEq] using h
      generalize flEq x ⟨s, c⟩ = e at HQ HE HN
      cases e
      · have HU2 := Lib.hid (HF.out (HN.out rfl))
        clear HT HF HE HN
        go_wp2_with fail
        go_quiet (fail)
        go_wp2_with fail
        go_roundg (l.length - (k + 1))
        case measure => have := HK.out; omega
        case rel => exact ⟨k + 1, _, by have := HK.out; omega, by go_num, rfl, HU2⟩
      · have hR2 := HT.out (HE.out rfl)
        subst hR2
        clear HT HF HE HN
        go_wp2_with fail
        go_quiet (fail)
        go_wp2_with fail
        go_ret
        exact ⟨rfl, Below.junk (below_drewN bel _)⟩
    · have hR2 : R = false := by rw [HU.out, List.drop_of_length_le (by omega)]; simp
      subst hR2
      clear HU
      go_wp2_with fail
      go_ret
      exact ⟨rfl, Below.junk (below_drewN bel _)⟩

set_option maxHeartbeats 4000000 in
set_option maxRecDepth 100000 in
theorem ref09_Same (a b : Option Addr) (l m : List Fl) (cap cap2 : Nat) (hl : l.length ≤ 100000) (hm : m.length ≤ 100000) (w : World) (hS : SlFl w w.heap.size a l) (hS2 : SlFl w w.heap.size b m) :
    Calls Tryz.prog 6 #[.slice a l.length cap, .slice b m.length cap2] w fun e w' => e = .returned (.bool (decide (l = m))) ∧ ∃ j, w' = w.more j := by
  obtain ⟨R, hR⟩ : ∃ R, R = decide (l = m) := ⟨_, rfl⟩
  rw [← hR]
  have HR := Lib.hid hR
  have HS := Lib.hid hS
  have HS2 := Lib.hid hS2
  clear hS hS2 hR
  by_cases hlen : l.length = m.length
  rotate_left
  · have hR2 : R = false := by rw [HR.out, decide_eq_false_iff_not]; exact fun h => hlen (by rw [h])
    subst hR2
    have hli : (l.length : Int) ≠ m.length := by omega
    have e0 : ((l.length : Int) != (m.length : Int)) = true := by simpa using hli
    have e1 : ((l.length : Int) == (m.length : Int)) = false := by simpa using hli
    clear HR
    go_enter Tryz.func6, Tryz.ntmps6
    go_wp2_with fail
    go_ret
    exact ⟨rfl, Below.junk bel⟩
  have HL := Lib.hid hlen
  rw [← hlen]
  clear hm hlen
  go_enter Tryz.func6, Tryz.ntmps6
  go_wp2_with fail
  go_loopg [5] l.length (fun g i wr => ∃ k q : Nat, k + g = l.length ∧ i = .int .i64 k ∧ wr = w.drewN q ∧ Hid (R = decide (l.drop k = m.drop k)))
  case atStart => exact ⟨0, 0, by omega, rfl, rfl, HR⟩
  case round =>
    obtain ⟨k, q, hkg, rfl, rfl, HU⟩ := hrel
    have HK := Lib.hid hkg
    clear hkg
    by_cases hlt : k < l.length
    · have hlt2 : k < m.length := by rw [← HL.out]; exact hlt
      obtain ⟨b1, off1, ha, hbb, c0, c1⟩ := SlR.atFl HS.out hlt
      obtain ⟨b2, off2, ha2, hbb2, d0, d1⟩ := SlR.atFl HS2.out hlt2
      subst ha ha2
      have hd : l.drop k = l[k] :: l.drop (k + 1) := List.drop_eq_getElem_cons hlt
      have hd2 : m.drop k = m[k] :: m.drop (k + 1) := List.drop_eq_getElem_cons hlt2
      have HF : Hid (l[k] ≠ m[k] → R = false) := fun h => by rw [HU.out, hd, hd2, decide_eq_false_iff_not]; exact fun e => h (List.cons.inj e).1
      have HT : Hid (l[k] = m[k] → R = decide (l.drop (k + 1) = m.drop (k + 1))) := fun h => by rw [HU.out, decide_eq_decide, hd, hd2, h]; exact ⟨fun e => (List.cons.inj e).2, fun e => by rw [e]⟩
      clear hd hd2 HU
      generalize l[k] = x at c0 c1 HT HF
      generalize m[k] = y at d0 d1 HT HF
      have HQ := fun W => fl_neq x y W
      have HE : Hid (flEq x y = true → x = y) := fun h => by simpa [flEq] using h
      have HN : Hid (flEq x y = false → x ≠ y) := fun h => by simpa [flEq] using h
      generalize flEq x y = e at HQ HE HN
      have hltm : (k : Int) < (m.length : Int) := by omega
      cases e
      · have hR2 := HF.out (HN.out rfl)
        subst hR2
        clear HT HF HE HN
        go_wp2_with fail
        go_quiet (fail)
        go_wp2_with fail
        go_ret
        exact ⟨rfl, Below.junk (below_drewN bel _)⟩
      · have HU2 := Lib.hid (HT.out (HE.out rfl))
        clear HT HF HE HN
        go_wp2_with fail
        go_quiet (fail)
        go_wp2_with fail
        go_roundg (l.length - (k + 1))
        case measure => have := HK.out; omega
        case rel => exact ⟨k + 1, _, by have := HK.out; omega, by go_num, rfl, HU2⟩
    · have hR2 : R = true := by rw [HU.out, List.drop_of_length_le (by omega), List.drop_of_length_le (by rw [← HL.out]; omega)]; simp
      subst hR2
      clear HU
      go_wp2_with fail
      go_ret
      exact ⟨rfl, Below.junk (below_drewN bel _)⟩
end Go.Proofs.YtjhhdgmhocpceaaGreatDoor
/-
  Faults: the document's set of the right ones.
-/
namespace Go.Proofs.YtjhhdgmhocpceaaGreatDoor
set_option linter.unusedSimpArgs false
set_option linter.unusedVariables false
set_option linter.unusedSectionVars false
open Go.ChangeShapes Go.WideShapes Go.ChangeAt Go.RowKit Go.Deep Go.Shelf

def pOf (out : List Fl) : Fl → Bool := fun x => flR x && !decide (x ∈ out)
def takeB (rx h rb ls : Bool) : Bool := rx && !h && (!rb || ls)
theorem step_take {out : List Fl} {bo : Option Fl} {x : Fl} (hb : ∀ y, bo = some y → flR y = true) : stepM ltFl (pOf out) bo x = if takeB (flR x) (decide (x ∈ out)) (flR (optFl bo)) (ltFl x (optFl bo)) = true then some x else bo := by
  unfold stepM takeB pOf
  cases bo with
  | none =>
    have h0 : flR (optFl none) = false := rfl
    rw [h0]
    generalize decide (x ∈ out) = h
    cases flR x <;> cases h <;> simp
  | some y =>
    have h0 : flR (optFl (some y)) = true := hb y rfl
    rw [h0]
    generalize decide (x ∈ out) = h
    show (if (flR x && !h) = true then (if ltFl x y = true then some x else some y) else some y) = if (flR x && !h && (!true || ltFl x y)) = true then some x else some y
    cases flR x <;> cases h <;> cases ltFl x y <;> simp
theorem minS_drop {out l : List Fl} {bo : Option Fl} {k : Nat} (hlt : k < l.length) (hb : ∀ y, bo = some y → flR y = true) : minS ltFl (pOf out) (l.drop k) bo = minS ltFl (pOf out) (l.drop (k + 1)) (if takeB (flR l[k]) (decide (l[k] ∈ out)) (flR (optFl bo)) (ltFl l[k] (optFl bo)) = true then some l[k] else bo) := by
  rw [← step_take hb, List.drop_eq_getElem_cons hlt]
  rfl
theorem take_right {out : List Fl} {bo : Option Fl} {x : Fl} (hb : ∀ y, bo = some y → flR y = true) : ∀ y, (if takeB (flR x) (decide (x ∈ out)) (flR (optFl bo)) (ltFl x (optFl bo)) = true then some x else bo) = some y → flR y = true := by
  intro y h
  split at h
  · rename_i ht
    injection h with h
    subst h
    unfold takeB at ht
    simp only [Bool.and_eq_true] at ht
    exact ht.1.1
  · exact hb y h
theorem next_of (l : List Fl) (n : Nat) : minS ltFl (pOf ((ofF l).take n)) l none = (ofF l)[n]? := minS_next ordFl flR l (ofF l) (strict_ofF l) (mem_ofF l) n

set_option maxHeartbeats 8000000 in
set_option maxRecDepth 100000 in
theorem ref09_Of (a : Option Addr) (l : List Fl) (cap : Nat) (hl : l.length ≤ 100000) (w : World) (hS : SlFl w w.heap.size a l) :
    Calls Tryz.prog 8 #[.slice a l.length cap] w fun e w' => ∃ a' cap', e = .returned (.slice a' (ofF l).length cap') ∧ (ofF l).length ≤ cap' ∧ SlFl w' w'.heap.size a' (ofF l) ∧ Below w.heap.size w w' := by
  have HNX : Hid (∀ n, minS ltFl (pOf ((ofF l).take n)) l none = (ofF l)[n]?) := next_of l
  have hlen := ofF_len l
  generalize ofF l = S at HNX hlen ⊢
  have HLN := Lib.hid hlen
  have HS := Lib.hid hS
  clear hS hlen
  go_enter Tryz.func8, Tryz.ntmps8
  go_wp2_with fail
  go_loopg [3, 4] l.length (fun g v i wr => ∃ (n : Nat) (out : List Fl), n + g = l.length ∧ i = .int .i64 n ∧ OwnFl w.heap.size wr v out ∧ Below w.heap.size w wr ∧ Hid (out = S.take n))
  case atStart => exact ⟨0, [], by omega, rfl, OwnC.nil _ _, Below.refl _ _, rfl⟩
  case round =>
    obtain ⟨n, out, hng, rfl, HO, hb, HU⟩ := hrel
    obtain ⟨a3, cap3, rfl, hsl⟩ := HO.read flC_len
    have hol : out.length ≤ n := by rw [HU.out, List.length_take]; omega
    have HO := Lib.hid HO
    have HB := Lib.hid hb
    have HN := Lib.hid hng
    have HSL := Lib.hid hsl
    have HOL := Lib.hid hol
    clear hng hsl hol
    by_cases hlt : n < l.length
    · have hon : out.length ≤ 100000 := Nat.le_trans HOL.out (by omega)
      have HON := Lib.hid hon
      clear hon
      go_wp2_with fail
      go_loopg [6] l.length (fun g i w2 => ∃ (k : Nat) (bo : Option Fl) (j : Junk), k + g = l.length ∧ i = .int .i64 k ∧ w2 = (wr.alloc (.cells #[.int .i64 (optFl bo).scope, .int .i64 (optFl bo).code] 38)).more j ∧ Hid (∀ y, bo = some y → flR y = true) ∧ Hid (minS ltFl (pOf out) l none = minS ltFl (pOf out) (l.drop k) bo))
      case atStart => exact ⟨0, none, _, by omega, rfl, more_self _, fun y h => (nomatch h), rfl⟩
      case round =>
        obtain ⟨k, bo, j, hkg, rfl, rfl, HI, HM⟩ := hrel
        have HK := Lib.hid hkg
        clear hkg
        by_cases hlk : k < l.length
        · obtain ⟨b, off, ha, hbb, c00, c01⟩ := SlR.atFl HS.out hlk
          subst ha
          have c0 : wr.cell? ⟨b, off + k * 2, none⟩ = some (.int .i64 l[k].scope) := (hb.cell (p := ⟨b, off + k * 2, none⟩) hbb).trans c00
          have c1 : wr.cell? ⟨b, off + k * 2 + 1, none⟩ = some (.int .i64 l[k].code) := (hb.cell (p := ⟨b, off + k * 2 + 1, none⟩) hbb).trans c01
          have hbx : b < wr.heap.size := Nat.lt_of_lt_of_le hbb hb.size
          have HM2 := Lib.hid (HM.out.trans (minS_drop hlk HI.out))
          have HI2 := Lib.hid (take_right (out := out) (x := l[k]) HI.out)
          clear c00 c01 HM HI
          generalize l[k] = x at c0 c1 HM2 HI2
          obtain ⟨xs, xc⟩ := x
          generalize hbe : optFl bo = be at HM2 HI2
          obtain ⟨bs, bc⟩ := be
          have HBE := Lib.hid hbe
          obtain ⟨wk, hwk⟩ : ∃ wk, wk = (wr.alloc (.cells #[.int .i64 bs, .int .i64 bc] 38)).more j := ⟨_, rfl⟩
          have hbk : Below wr.heap.size wr wk := by rw [hwk]; exact bel
          have HBK := Lib.hid hbk
          have HX : Hid (∀ W, Calls Tryz.prog 20 #[.agg #[.int .i64 xs, .int .i64 xc]] W fun e w' => e = .returned (.bool (flR ⟨xs, xc⟩)) ∧ ∃ j, w' = W.more j) := ref09_Right xs xc
          have HY : Hid (∀ W, Calls Tryz.prog 20 #[.agg #[.int .i64 bs, .int .i64 bc]] W fun e w' => e = .returned (.bool (flR ⟨bs, bc⟩)) ∧ ∃ j, w' = W.more j) := ref09_Right bs bc
          have HL : Hid (∀ W, Calls Tryz.prog 22 #[.agg #[.int .i64 xs, .int .i64 xc], .agg #[.int .i64 bs, .int .i64 bc]] W fun e w' => e = .returned (.bool (ltFl ⟨xs, xc⟩ ⟨bs, bc⟩)) ∧ ∃ j, w' = W.more j) := ref09_Less xs xc bs bc
          have HH : Hid (∀ q : Junk, Calls Tryz.prog 21 #[.slice a3 out.length cap3, .agg #[.int .i64 xs, .int .i64 xc]] (wk.more q) fun e w' => e = .returned (.bool (decide (⟨xs, xc⟩ ∈ out))) ∧ ∃ j, w' = (wk.more q).more j) := fun q => ref09_Has a3 out cap3 xs xc HON.out _ ((HSL.out.below (hbk.moreS q) (Nat.le_refl _)).mono (hbk.moreS q).size (fun _ _ _ h => h))
          generalize flR ⟨xs, xc⟩ = rx at HX HM2 HI2
          generalize flR ⟨bs, bc⟩ = rb at HY HM2 HI2
          generalize ltFl ⟨xs, xc⟩ ⟨bs, bc⟩ = ls at HL HM2 HI2
          generalize decide (⟨xs, xc⟩ ∈ out) = hh at HH HM2 HI2
          have d0 : wk.cell? ⟨wr.heap.size, 0, none⟩ = some (.int .i64 bs) := by rw [hwk]; go_simp
          have d1 : wk.cell? ⟨wr.heap.size, 1, none⟩ = some (.int .i64 bc) := by rw [hwk]; go_simp
          have f0 : wk.frozen? ⟨wr.heap.size, 0, none⟩ = false := by rw [hwk]; go_simp
          have f1 : wk.frozen? ⟨wr.heap.size, 1, none⟩ = false := by rw [hwk]; go_simp
          have e0 : wk.cell? ⟨b, off + k * 2, none⟩ = some (.int .i64 xs) := (hbk.cell (p := ⟨b, _, none⟩) hbx).trans c0
          have e1 : wk.cell? ⟨b, off + k * 2 + 1, none⟩ = some (.int .i64 xc) := (hbk.cell (p := ⟨b, _, none⟩) hbx).trans c1
          have hkx : b < wk.heap.size := Nat.lt_of_lt_of_le hbx hbk.size
          have hks : wr.heap.size < wk.heap.size := by rw [hwk]; simp; omega
          have HWK := Lib.hid hwk
          rw [← hwk]
          clear hwk hbk hbe
          cases rx
          · have HM3 : Hid (minS ltFl (pOf out) l none = minS ltFl (pOf out) (l.drop (k + 1)) bo) := HM2.out
            have HI3 : Hid (∀ y, bo = some y → flR y = true) := HI2.out
            clear HM2 HI2 HY HL HH
            go_wp2_with fail
            refine wp_region_more (by kernel_rfl) (by kernel_rfl) ?_
            repeat (go_big_quiet_step (first | (go_at_call 20; with_reducible exact more_of (HX.out _))))
            refine wpQuiet_nil ?_
            intro w' hw'
            obtain ⟨j, rfl⟩ := hw'
            go_wp2_with fail
            go_roundg (l.length - (k + 1))
            case measure => have := HK.out; omega
            case rel => exact ⟨k + 1, bo, _, by have := HK.out; omega, by go_num, by rw [HWK.out, World.more_more, HBE.out], HI3, HM3⟩
          cases hh
          rotate_left
          · have HM3 : Hid (minS ltFl (pOf out) l none = minS ltFl (pOf out) (l.drop (k + 1)) bo) := HM2.out
            have HI3 : Hid (∀ y, bo = some y → flR y = true) := HI2.out
            clear HM2 HI2 HY HL
            go_wp2_with fail
            refine wp_region_more (by kernel_rfl) (by kernel_rfl) ?_
            repeat (go_big_quiet_step (first | (go_at_call 20; with_reducible exact more_of (HX.out _)) | (go_at_call 21; with_reducible exact more_of (HH.out _))))
            refine wpQuiet_nil ?_
            intro w' hw'
            obtain ⟨j, rfl⟩ := hw'
            go_wp2_with fail
            go_roundg (l.length - (k + 1))
            case measure => have := HK.out; omega
            case rel => exact ⟨k + 1, bo, _, by have := HK.out; omega, by go_num, by rw [HWK.out, World.more_more, HBE.out], HI3, HM3⟩
          cases rb
          · have HM3 : Hid (minS ltFl (pOf out) l none = minS ltFl (pOf out) (l.drop (k + 1)) (some ⟨xs, xc⟩)) := HM2.out
            have HI3 : Hid (∀ y, some ⟨xs, xc⟩ = some y → flR y = true) := HI2.out
            clear HM2 HI2 HL
            go_wp2_with fail
            refine wp_region_more (by kernel_rfl) (by kernel_rfl) ?_
            repeat (go_big_quiet_step (first | (go_at_call 20; with_reducible exact more_of (HX.out _)) | (go_at_call 21; with_reducible exact more_of (HH.out _)) | (go_at_call 20; with_reducible exact more_of (HY.out _))))
            refine wpQuiet_nil ?_
            intro w' hw'
            obtain ⟨j, rfl⟩ := hw'
            go_wp2_with fail
            go_roundg (l.length - (k + 1))
            case measure => have := HK.out; omega
            case rel => exact ⟨k + 1, some ⟨xs, xc⟩, _, by have := HK.out; omega, by go_num, by rw [HWK.out]; go_simp; rfl, HI3, HM3⟩
          cases ls
          · have HM3 : Hid (minS ltFl (pOf out) l none = minS ltFl (pOf out) (l.drop (k + 1)) bo) := HM2.out
            have HI3 : Hid (∀ y, bo = some y → flR y = true) := HI2.out
            clear HM2 HI2
            go_wp2_with fail
            refine wp_region_more (by kernel_rfl) (by kernel_rfl) ?_
            repeat (go_big_quiet_step (first | (go_at_call 20; with_reducible exact more_of (HX.out _)) | (go_at_call 21; with_reducible exact more_of (HH.out _)) | (go_at_call 20; with_reducible exact more_of (HY.out _)) | (go_at_call 22; with_reducible exact more_of (HL.out _))))
            refine wpQuiet_nil ?_
            intro w' hw'
            obtain ⟨j, rfl⟩ := hw'
            go_wp2_with fail
            go_roundg (l.length - (k + 1))
            case measure => have := HK.out; omega
            case rel => exact ⟨k + 1, bo, _, by have := HK.out; omega, by go_num, by rw [HWK.out, World.more_more, HBE.out], HI3, HM3⟩
          · have HM3 : Hid (minS ltFl (pOf out) l none = minS ltFl (pOf out) (l.drop (k + 1)) (some ⟨xs, xc⟩)) := HM2.out
            have HI3 : Hid (∀ y, some ⟨xs, xc⟩ = some y → flR y = true) := HI2.out
            clear HM2 HI2
            go_wp2_with fail
            refine wp_region_more (by kernel_rfl) (by kernel_rfl) ?_
            repeat (go_big_quiet_step (first | (go_at_call 20; with_reducible exact more_of (HX.out _)) | (go_at_call 21; with_reducible exact more_of (HH.out _)) | (go_at_call 20; with_reducible exact more_of (HY.out _)) | (go_at_call 22; with_reducible exact more_of (HL.out _))))
            refine wpQuiet_nil ?_
            intro w' hw'
            obtain ⟨j, rfl⟩ := hw'
            go_wp2_with fail
            go_roundg (l.length - (k + 1))
            case measure => have := HK.out; omega
            case rel => exact ⟨k + 1, some ⟨xs, xc⟩, _, by have := HK.out; omega, by go_num, by rw [HWK.out]; go_simp; rfl, HI3, HM3⟩
        · have hbest : bo = S[n]? := by
            have h1 := HM.out
            rw [List.drop_of_length_le (by omega), HU.out, HNX.out] at h1
            exact h1.symm
          have HBT := Lib.hid hbest
          clear hbest HM
          cases bo with
          | none =>
            have HY : Hid (∀ W, Calls Tryz.prog 20 #[.agg #[.int .i64 0, .int .i64 0]] W fun e w' => e = .returned (.bool false) ∧ ∃ j, w' = W.more j) := ref09_Right 0 0
            have HU3 : Hid (out = S.take (n + 1)) := by
              show _ = _
              have h1 : S.length ≤ n := by have := HBT.out; exact List.getElem?_eq_none_iff.1 this.symm
              rw [HU.out, List.take_of_length_le h1, List.take_of_length_le (by omega)]
            simp only [optFl]
            go_wp2_with fail
            refine (HY.out _).mono ?_
            rintro e w' ⟨rfl, j2, rfl⟩
            go_wp2_with fail
            go_roundg (l.length - (n + 1))
            case measure => have := HN.out; omega
            case rel => exact ⟨n + 1, out, by have := HN.out; omega, by go_num, HO.out.below (C := wr.heap.size) bel (Nat.le_refl _), HB.out.trans (Below.mono (B := wr.heap.size) bel HB.out.size), HU3⟩
          | some y =>
            obtain ⟨ys, yc⟩ := y
            have hy : flR ⟨ys, yc⟩ = true := HI.out _ rfl
            have HY : Hid (∀ W, Calls Tryz.prog 20 #[.agg #[.int .i64 ys, .int .i64 yc]] W fun e w' => e = .returned (.bool true) ∧ ∃ j, w' = W.more j) := by
              have := ref09_Right ys yc
              rw [hy] at this
              exact this
            have HU3 : Hid (out ++ [⟨ys, yc⟩] = S.take (n + 1)) := by
              show _ = _
              rw [HU.out, List.take_add_one, ← HBT.out]; rfl
            clear HI
            simp only [optFl]
            go_wp2_with fail
            refine (HY.out _).mono ?_
            rintro e w' ⟨rfl, j2, rfl⟩
            go_wp2_with (at_builtin; refine app_c (y := ⟨ys, yc⟩) st_fl flC_len flC_one (by omega) (.tmp 53) (.tmp 55) rfl rfl rfl (HO.out.below (C := wr.heap.size) bel (Nat.le_refl _)) rfl (Blk.at_ _ _ _ (by simp)) rfl (by have := HOL.out; omega) (by have := HB.out.size; simp only [World.size_alloc, World.size_more]; omega) ?_; intro v' w2 hown hbw)
            have hb2 := HB.out.trans ((Below.mono (B := wr.heap.size) bel HB.out.size).trans hbw)
            have HB2 := Lib.hid hb2
            have HO2 := Lib.hid hown
            clear hbw hb2 hown
            go_wp2_with fail
            go_roundg (l.length - (n + 1))
            case measure => have := HN.out; omega
            case rel => exact ⟨n + 1, out ++ [⟨ys, yc⟩], by have := HN.out; omega, by go_num, HO2.out, HB2.out, HU3⟩
    · have hS : out = S := by rw [HU.out, List.take_of_length_le]; have := HLN.out; have := HN.out; omega
      subst hS
      obtain ⟨a', cap', hv, hcap⟩ := HO.out.cap
      injection hv with h1 h2 h3
      subst h1 h3
      go_wp2_with fail
      go_ret
      exact ⟨_, _, rfl, hcap, HSL.out, HB.out⟩
end Go.Proofs.YtjhhdgmhocpceaaGreatDoor
/-
  Faults: one among some, two lists; the program's road.
-/
namespace Go.Proofs.YtjhhdgmhocpceaaGreatDoor
set_option linter.unusedSimpArgs false
set_option linter.unusedVariables false
set_option linter.unusedSectionVars false
open Go.ChangeShapes Go.WideShapes Go.ChangeAt Go.RowKit Go.Deep Go.Shelf

end Go.Proofs.YtjhhdgmhocpceaaGreatDoor
/-
  Faults: slices.Grow of no row.
-/
namespace Go.Proofs.YtjhhdgmhocpceaaGreatDoor
set_option linter.unusedSimpArgs false
set_option linter.unusedVariables false
set_option linter.unusedSectionVars false
open Go.ChangeShapes Go.WideShapes Go.ChangeAt Go.RowKit Go.Deep Go.Shelf

set_option maxRecDepth 100000 in
theorem grow_fl (n : Nat) (hn : n ≤ 1000000) (w : World) : Calls Tryz.prog 86 #[.slice none 0 0, .int .i64 n] w fun e w' => ∃ v, e = .returned v ∧ OwnFl w.heap.size w' v [] ∧ Below w.heap.size w w' := by
  by_cases h0 : n = 0
  · subst h0
    refine (Any8.slices_Grow_room Tryz.growFl none 0 0 0 w (by omega) (by omega) (by omega) (by omega)).mono ?_
    rintro e w' ⟨rfl, rfl⟩
    exact ⟨_, rfl, OwnC.nil _ _, Below.refl _ _⟩
  · obtain ⟨i0, _, hi, hz, hs, hby, _, _⟩ := st_fl
    refine (Any8.slices_Grow_grow Tryz.growFl i0 _ hi hz (by omega) none 0 0 n [] w (by omega) (by omega) (by rw [hby]; omega) (by omega) (by simp) (fun _ => rfl) (fun a h => by cases h)).mono ?_
    rintro e w' ⟨rfl, rfl⟩
    have hge : 0 + n ≤ grownCap w (0 + n) 0 (Tryz.growFl_ren.t 25) := grownCap_ge w _ _ _
    have hle : grownCap w (0 + n) 0 (Tryz.growFl_ren.t 25) ≤ maxLen := grownCap_le_maxLen w _ _ _ (by unfold maxLen; omega)
    refine ⟨_, rfl, ?_, ?_⟩
    · exact World.ownsRow_made (base := w.heap.size) (size := 2) (e := FlT) w.drew _ _ (Nat.le_refl _) hle (by
        simp only [Array.size_append, size_zeroCells, List.size_toArray, List.length_nil, Value.cells]
        show 0 + (0 + n - 0) * 2 + _ * 2 = _
        generalize grownCap w (0 + n) 0 (Tryz.growFl_ren.t 25) = cp at hge ⊢
        show 0 + (0 + n - 0) * 2 + (cp - (0 + n)) * 2 = cp * 2
        omega)
    · exact (below_drewN (Below.refl w.heap.size w) 1).alloc (Nat.le_refl _) _
end Go.Proofs.YtjhhdgmhocpceaaGreatDoor
/-
  Faults: a whole row appended to an own one.
-/
namespace Go.Proofs.YtjhhdgmhocpceaaGreatDoor
set_option linter.unusedSimpArgs false
set_option linter.unusedVariables false
set_option linter.unusedSectionVars false
open Go.ChangeShapes Go.WideShapes Go.ChangeAt Go.RowKit Go.Deep Go.Shelf

theorem app_fls {ops : Array Oper} {rest : List Oper} {o : Oper} {a : Act} {Q : Exit → Act → World → Prop} {w : World}
    (s x : Operand) (hgd : o.guard = none) (ho : o.op = .call { callee := .builtin .append, args := #[s, x], argTypes := #[26, 26] })
    {B : Nat} {v : Value} {l m : List Fl} (hs : a.eval s = v) (hown : OwnFl B w v l)
    {A : Option Addr} {c : Nat} (hx : a.eval x = .slice A m.length c) (hm : SlFl w w.heap.size A m)
    (hl : l.length + m.length ≤ 1048576) (hB : B ≤ w.heap.size)
    (h : ∀ v' w', OwnFl B w' v' (l ++ m) → Below B w w' → wpList Tryz.prog ops Q rest (a.put o.dst v') w') : wpList Tryz.prog ops Q (o :: rest) a w := by
  obtain ⟨v', w', hr, h2, h3⟩ := run_app_sl (ty := o.type) (c := c) st_fl hown (cf := Fl.cells) hm (fun _ _ _ h => h) (fun _ _ => rfl) (fun y _ => flC_one y) (by unfold maxLen; omega) (by omega) hB
  refine wpList_plain hgd fun K hK => ?_
  unfold Oper.wp execOp
  simp only [ho, resolve, invoke, builtin, Sem.run_bind, Sem.run_pure, Result.andThen_ok, List.map_toArray, List.map_cons, List.map_nil, hs, hx, hr]
  refine hK _ _ (h v' w' ?_ (own_grown (Below.refl B w) hown h3 (Nat.le_refl _) hB))
  unfold OwnFl OwnC
  rw [List.flatMap_append, List.length_append]
  exact h2
end Go.Proofs.YtjhhdgmhocpceaaGreatDoor
/-
  Worlds that have grown: small helps for the laws on faults.
-/
namespace Go.Proofs.YtjhhdgmhocpceaaGreatDoor
set_option linter.unusedSimpArgs false
set_option linter.unusedVariables false
set_option linter.unusedSectionVars false
open Go.ChangeShapes Go.WideShapes Go.ChangeAt Go.RowKit Go.Deep Go.Shelf

theorem SlFl.keep {w w' : World} {a : Option Addr} {l : List Fl} (h : SlFl w w.heap.size a l) (hb : Below w.heap.size w w') : SlFl w' w'.heap.size a l :=
  (h.below hb (Nat.le_refl _)).mono hb.size (fun _ _ _ h => h)
theorem below_more (w : World) (j : Junk) : Below w.heap.size w (w.more j) := (Below.refl _ _).moreS j
theorem below_step {w w1 w2 : World} (h : Below w.heap.size w w1) (h2 : Below w1.heap.size w1 w2) : Below w.heap.size w w2 := h.trans (h2.mono h.size)
theorem more_post {f : FuncId} {args : Array Value} {W : World} {v : Value} (h : Calls Tryz.prog f args W fun e w' => e = .returned v ∧ ∃ j, w' = W.more j) : Calls Tryz.prog f args W fun e w' => e = .returned v ∧ Below W.heap.size W w' :=
  h.mono fun e w' ⟨he, j, hj⟩ => ⟨he, by rw [hj]; exact below_more _ _⟩
def BoxAt (b : Nat) (s c : Int) (w : World) : Prop := w.cell? ⟨b, 0, none⟩ = some (.int .i64 s) ∧ w.cell? ⟨b, 1, none⟩ = some (.int .i64 c) ∧ b < w.heap.size
theorem BoxAt.keep {b : Nat} {s c : Int} {w w' : World} (h : BoxAt b s c w) (hb : Below w.heap.size w w') : BoxAt b s c w' :=
  ⟨(hb.cell (p := ⟨b, 0, none⟩) h.2.2).trans h.1, (hb.cell (p := ⟨b, 1, none⟩) h.2.2).trans h.2.1, Nat.lt_of_lt_of_le h.2.2 hb.size⟩
end Go.Proofs.YtjhhdgmhocpceaaGreatDoor
/-
  Faults: two rows one behind the other, and the set of both.
-/
namespace Go.Proofs.YtjhhdgmhocpceaaGreatDoor
set_option linter.unusedSimpArgs false
set_option linter.unusedVariables false
set_option linter.unusedSectionVars false
open Go.ChangeShapes Go.WideShapes Go.ChangeAt Go.RowKit Go.Deep Go.Shelf

def catN (l m : List Fl) (k : Nat) : Int := if k = 0 then 0 else if k = 1 then (l.length : Int) else (l.length : Int) + m.length
def catF (l m : List Fl) (k : Nat) : List Fl := if k = 0 then [] else if k = 1 then l else l ++ m
set_option maxHeartbeats 8000000 in
set_option maxRecDepth 100000 in
theorem concat_fl (a b : Option Addr) (l m : List Fl) (ca cb : Nat) (hl : l.length ≤ 100000) (hm : m.length ≤ 100000) (g : Nat) (w : World) (hS : SlFl w w.heap.size a l) (hT : SlFl w w.heap.size b m)
    (hg : g < w.heap.size) (d0 : w.cell? ⟨g, 0, none⟩ = some (.slice a l.length ca)) (d1 : w.cell? ⟨g, 1, none⟩ = some (.slice b m.length cb)) :
    Calls Tryz.prog 54 #[.slice (some ⟨g, 0, none⟩) 2 2] w fun e w' => ∃ v, e = .returned v ∧ OwnFl w.heap.size w' v (l ++ m) ∧ Below w.heap.size w w' := by
  have HS := Lib.hid hS
  have HT := Lib.hid hT
  have HD0 := Lib.hid d0
  have HD1 := Lib.hid d1
  have HG := Lib.hid (grow_fl (l.length + m.length) (by omega) w)
  clear hS hT
  go_enter Tryz.func54, Tryz.ntmps54
  go_wp2_with fail
  go_loopg [3, 11] 2 (fun q s i wr => ∃ k : Nat, k + q = 2 ∧ i = .int .i64 k ∧ s = .int .i64 (catN l m k) ∧ w = wr)
  case atStart => exact ⟨0, by omega, rfl, rfl, rfl⟩
  case round =>
    obtain ⟨k, hkq, rfl, rfl, rfl⟩ := hrel
    rcases (by omega : k = 0 ∨ k = 1 ∨ k = 2) with rfl | rfl | rfl
    · have h0 : catN l m 0 = 0 := rfl
      rw [h0]
      go_wp2_with fail
      go_roundg 1
      case measure => omega
      case rel => exact ⟨1, by omega, by go_num, by show _ = Value.int .i64 (l.length : Int); go_num, rfl⟩
    · have h0 : catN l m 1 = (l.length : Int) := rfl
      rw [h0]
      go_wp2_with fail
      go_roundg 0
      case measure => omega
      case rel => exact ⟨2, by omega, by go_num, by show _ = Value.int .i64 ((l.length : Int) + m.length); go_num, rfl⟩
    · have h0 : catN l m 2 = ((l.length + m.length : Nat) : Int) := by show (l.length : Int) + m.length = _; omega
      rw [h0]
      clear d0 d1
      go_wp2_with fail
      refine HG.out.mono ?_
      rintro e w1 ⟨v, rfl, hO, hb1⟩
      have HO := Lib.hid hO
      have HB1 := Lib.hid hb1
      clear hO hb1
      go_wp2_with fail
      go_loopg [6, 27] 2 (fun q v i wr => ∃ k : Nat, k + q = 2 ∧ i = .int .i64 k ∧ OwnFl w.heap.size wr v (catF l m k) ∧ Below w.heap.size w wr)
      case atStart => exact ⟨0, by omega, rfl, HO.out, HB1.out⟩
      case round =>
        obtain ⟨k, hkq, rfl, hO, hb⟩ := hrel
        have HO2 := Lib.hid hO
        have HB2 := Lib.hid hb
        have hgw := Nat.lt_of_lt_of_le hg hb.size
        have d0 : _ = some (Value.slice a l.length ca) := (hb.cell (p := ⟨g, 0, none⟩) hg).trans HD0.out
        have d1 : _ = some (Value.slice b m.length cb) := (hb.cell (p := ⟨g, 1, none⟩) hg).trans HD1.out
        clear hO hb
        rcases (by omega : k = 0 ∨ k = 1 ∨ k = 2) with rfl | rfl | rfl
        · go_wp2_with (at_builtin; refine app_fls (.tmp 31) (.tmp 32) rfl rfl rfl (show OwnFl _ _ _ [] from HO2.out) rfl (SlFl.keep HS.out HB2.out) (by simp; omega) HB2.out.size ?_; intro v' w2 hown hbw)
          have HO3 := Lib.hid hown
          have HB3 := Lib.hid (HB2.out.trans hbw)
          clear hown hbw d0 d1
          go_wp2_with fail
          go_roundg 1
          case measure => omega
          case rel => exact ⟨1, by omega, by go_num, HO3.out, HB3.out⟩
        · go_wp2_with (at_builtin; refine app_fls (.tmp 31) (.tmp 32) rfl rfl rfl (show OwnFl _ _ _ l from HO2.out) rfl (SlFl.keep HT.out HB2.out) (by omega) HB2.out.size ?_; intro v' w2 hown hbw)
          have HO3 := Lib.hid hown
          have HB3 := Lib.hid (HB2.out.trans hbw)
          clear hown hbw d0 d1
          go_wp2_with fail
          go_roundg 0
          case measure => omega
          case rel => exact ⟨2, by omega, by go_num, HO3.out, HB3.out⟩
        · clear d0 d1
          go_wp2_with fail
          go_ret
          exact ⟨_, rfl, HO2.out, HB2.out⟩

set_option maxHeartbeats 4000000 in
set_option maxRecDepth 100000 in
theorem faults_Union (a b : Option Addr) (l m : List Fl) (ca cb : Nat) (hl : l.length ≤ 40000) (hm : m.length ≤ 40000) (w : World) (hS : SlFl w w.heap.size a l) (hT : SlFl w w.heap.size b m) :
    Calls Tryz.prog 32 #[.slice a l.length ca, .slice b m.length cb] w fun e w' => ∃ a' cap', e = .returned (.slice a' (ofF (l ++ m)).length cap') ∧ (ofF (l ++ m)).length ≤ cap' ∧ SlFl w' w'.heap.size a' (ofF (l ++ m)) ∧ Below w.heap.size w w' := by
  obtain ⟨w0, hw0⟩ : ∃ w0, w0 = w.alloc (.cells #[.slice a l.length ca, .slice b m.length cb] 26) := ⟨_, rfl⟩
  have hb0 : Below w.heap.size w w0 := by rw [hw0]; exact bel
  have d0 : w0.cell? ⟨w.heap.size, 0, none⟩ = some (.slice a l.length ca) := by rw [hw0]; go_simp
  have d1 : w0.cell? ⟨w.heap.size, 1, none⟩ = some (.slice b m.length cb) := by rw [hw0]; go_simp
  have hg : w.heap.size < w0.heap.size := by rw [hw0]; simp
  have HC := Lib.hid (concat_fl a b l m ca cb (by omega) (by omega) w.heap.size w0 (SlFl.keep hS hb0) (SlFl.keep hT hb0) hg d0 d1)
  have HW0 := Lib.hid hw0
  have HB0 := Lib.hid hb0
  have HL : Hid ((l ++ m).length ≤ 100000) := by show _ ≤ _; rw [List.length_append]; omega
  clear hS hT d0 d1 hg hb0
  generalize l ++ m = L at HC HL ⊢
  go_enter Tryz.func32, Tryz.ntmps32
  go_wp2_with fail
  rw [← hw0]
  refine HC.out.mono ?_
  rintro e w1 ⟨v, rfl, hO, hb1⟩
  obtain ⟨a1, c1, rfl, hs1⟩ := hO.read flC_len
  have HO := Lib.hid (faults_Of a1 L c1 HL.out w1 hs1)
  have HB1 := Lib.hid (HB0.out.trans (hb1.mono HB0.out.size))
  clear hO hs1 hb1 hw0
  go_wp2_with fail
  refine HO.out.mono ?_
  rintro e w2 ⟨a2, c2, rfl, h1, h2, h3⟩
  have HB2 := Lib.hid (HB1.out.trans (h3.mono HB1.out.size))
  have H1 := Lib.hid h1
  have H2 := Lib.hid h2
  clear h1 h2 h3
  go_wp2_with fail
  go_ret
  exact ⟨_, _, rfl, H1.out, H2.out, HB2.out⟩

/-! Sets taken together: plain laws. -/
theorem un_comm (l m : List Fl) : ofF (l ++ m) = ofF (m ++ l) := ofF_congr fun x _ => by simp [or_comm]
theorem un_twice (l m : List Fl) : ofF (ofF (l ++ m) ++ m) = ofF (l ++ m) := ofF_congr fun x hx => by
  simp only [List.mem_append, mem_ofF, hx, and_true]
  exact ⟨fun h => h.elim id .inr, .inl⟩
theorem un_assoc (l m n : List Fl) : ofF (ofF (l ++ m) ++ n) = ofF (l ++ ofF (m ++ n)) := ofF_congr fun x hx => by
  simp only [List.mem_append, mem_ofF, hx, and_true]
  exact or_assoc
end Go.Proofs.YtjhhdgmhocpceaaGreatDoor
/-
  Faults: codes and their names, faults and sets as texts: plain laws.
-/
namespace Go.Proofs.YtjhhdgmhocpceaaGreatDoor
set_option linter.unusedSimpArgs false
set_option linter.unusedVariables false
set_option linter.unusedSectionVars false
open Go.ChangeShapes Go.WideShapes Go.ChangeAt Go.RowKit Go.Deep

def cdNames : List (List UInt8) := [[78, 79, 95, 69, 82, 82, 79, 82], [80, 82, 79, 84, 79, 67, 79, 76, 95, 69, 82, 82, 79, 82], [73, 78, 84, 69, 82, 78, 65, 76, 95, 69, 82, 82, 79, 82], [70, 76, 79, 87, 95, 67, 79, 78, 84, 82, 79, 76, 95, 69, 82, 82, 79, 82], [83, 69, 84, 84, 73, 78, 71, 83, 95, 84, 73, 77, 69, 79, 85, 84], [83, 84, 82, 69, 65, 77, 95, 67, 76, 79, 83, 69, 68], [70, 82, 65, 77, 69, 95, 83, 73, 90, 69, 95, 69, 82, 82, 79, 82], [82, 69, 70, 85, 83, 69, 68, 95, 83, 84, 82, 69, 65, 77], [67, 65, 78, 67, 69, 76], [67, 79, 77, 80, 82, 69, 83, 83, 73, 79, 78, 95, 69, 82, 82, 79, 82], [67, 79, 78, 78, 69, 67, 84, 95, 69, 82, 82, 79, 82], [69, 78, 72, 65, 78, 67, 69, 95, 89, 79, 85, 82, 95, 67, 65, 76, 77], [73, 78, 65, 68, 69, 81, 85, 65, 84, 69, 95, 83, 69, 67, 85, 82, 73, 84, 89], [72, 84, 84, 80, 95, 49, 95, 49, 95, 82, 69, 81, 85, 73, 82, 69, 68]]
def cdName (n : Nat) : List UInt8 := cdNames.getD n []
def cdAt (t : Int) : List UInt8 := cdName t.toNat
theorem cdName_lit : ∀ m : Fin 14, cdNames[m.val]? = some (cdName m.val) := by decide
theorem cdName_inj : ∀ m n : Fin 14, cdName m.val = cdName n.val → m = n := by decide
theorem cdName_ok : ∀ m : Fin 14, cdName m.val ≠ [] ∧ (cdName m.val).length ≤ 19 ∧ readF (cdName m.val) = (0, false) ∧ (cdName m.val).all (fun c => (65 ≤ c && c ≤ 90) || c == 95 || (48 ≤ c && c ≤ 57)) = true := by decide
/-- A code's name. -/
def codeN (c : Int) : List UInt8 := if c < 0 ∨ 4294967295 < c then [] else if c < 14 then cdAt c else Lib.itoa c
/-- The code of a name. -/
def codeOf (s : List UInt8) : Int × Bool :=
  if (scanF cdAt s 14 0).2 = true then scanF cdAt s 14 0 else if (readF s).2 = true ∧ 14 ≤ (readF s).1 ∧ (readF s).1 ≤ 4294967295 then ((readF s).1, true) else (0, false)
theorem codeN_lo {c : Int} (h0 : 0 ≤ c) (h1 : c < 14) : codeN c = cdAt c := by unfold codeN; rw [if_neg (by omega), if_pos h1]
theorem codeN_hi {c : Int} (h0 : 14 ≤ c) (h1 : c ≤ 4294967295) : codeN c = Lib.itoa c := by unfold codeN; rw [if_neg (by omega), if_neg (by omega)]
theorem codeN_out {c : Int} (h : c < 0 ∨ 4294967295 < c) : codeN c = [] := by unfold codeN; rw [if_pos h]
theorem scan_code {c : Int} (h0 : 0 ≤ c) (h1 : c < 14) : scanF cdAt (cdAt c) 14 0 = (c, true) :=
  scan_hit cdAt _ c rfl 14 0 h0 (by omega) fun m h2 h3 e => by
    have := cdName_inj ⟨m.toNat, by omega⟩ ⟨c.toNat, by omega⟩ e
    simp only [Fin.mk.injEq] at this
    omega
theorem scan_digits {c : Int} (g0 : -9223372036854775808 ≤ c) (g1 : c ≤ 9223372036854775807) : scanF cdAt (Lib.itoa c) 14 0 = (0, false) :=
  scan_none cdAt _ 14 0 fun m h2 h3 e => by
    have h := (cdName_ok ⟨m.toNat, by omega⟩).2.2.1
    have e : cdName m.toNat = Lib.itoa c := e
    simp only at h
    rw [e, readF_itoa g0 g1] at h
    cases h
theorem codeOf_name {c : Int} (h0 : 0 ≤ c) (h1 : c ≤ 4294967295) : codeOf (codeN c) = (c, true) := by
  by_cases h : c < 14
  · rw [codeN_lo h0 h]; unfold codeOf; rw [scan_code h0 h, if_pos rfl]
  · rw [codeN_hi (by omega) h1]; unfold codeOf; rw [scan_digits (by omega) (by omega), if_neg (by simp), readF_itoa (by omega) (by omega), if_pos ⟨rfl, by omega, h1⟩]
theorem codeOf_yes {s : List UInt8} (h : (codeOf s).2 = true) : codeN (codeOf s).1 = s ∧ 0 ≤ (codeOf s).1 ∧ (codeOf s).1 ≤ 4294967295 := by
  unfold codeOf at h ⊢
  by_cases h1 : (scanF cdAt s 14 0).2 = true
  · rw [if_pos h1]
    obtain ⟨h2, h3, h4⟩ := scan_true cdAt s 14 0 (scanF cdAt s 14 0).1 (by rw [← h1])
    exact ⟨by rw [codeN_lo h3 (by omega)]; exact h2, h3, by omega⟩
  · rw [if_neg h1] at h ⊢
    by_cases h2 : (readF s).2 = true ∧ 14 ≤ (readF s).1 ∧ (readF s).1 ≤ 4294967295
    · rw [if_pos h2]
      exact ⟨by rw [codeN_hi h2.2.1 h2.2.2]; exact (readF_yes h2.1).1, by omega, h2.2.2⟩
    · rw [if_neg h2] at h; cases h
theorem codeOf_no {s : List UInt8} (h : (codeOf s).2 = false) : codeOf s = (0, false) := by
  unfold codeOf at h ⊢
  by_cases h1 : (scanF cdAt s 14 0).2 = true
  · rw [if_pos h1, h1] at h; cases h
  · rw [if_neg h1] at h ⊢
    by_cases h2 : (readF s).2 = true ∧ 14 ≤ (readF s).1 ∧ (readF s).1 ≤ 4294967295
    · rw [if_pos h2] at h; cases h
    · rw [if_neg h2]
theorem codeN_ne {c : Int} (h0 : 0 ≤ c) (h1 : c ≤ 4294967295) : codeN c ≠ [] := by
  by_cases h : c < 14
  · rw [codeN_lo h0 h]; exact (cdName_ok ⟨c.toNat, by omega⟩).1
  · rw [codeN_hi (by omega) h1]; intro e
    have := readF_itoa (n := c) (by omega) (by omega)
    rw [e, show readF [] = (0, false) by decide] at this
    cases this
theorem codeN_len (c : Int) : (codeN c).length ≤ 20 := by
  unfold codeN
  split
  · simp
  · rename_i h
    split
    · exact Nat.le_trans (cdName_ok ⟨c.toNat, by omega⟩).2.1 (by omega)
    · exact itoa_len (by omega) (by omega)

/-- A fault's text, and a set's. -/
def scopeW (n : Int) : List UInt8 := if n = 1 then [115, 116, 114, 101, 97, 109] else [99, 111, 110, 110, 101, 99, 116, 105, 111, 110]
def textW (f : Fl) : List UInt8 := if flR f = true then scopeW f.scope ++ 58 :: codeN f.code else []
def showW (l : List Fl) : List UInt8 := if ofF l = [] then [45] else Lib.join ((ofF l).map textW) [44]
theorem textW_len (f : Fl) : (textW f).length ≤ 31 := by
  unfold textW scopeW
  have := codeN_len f.code
  split
  · split <;> simp <;> omega
  · simp
theorem textW_right {f : Fl} (h : flR f = true) : textW f = scopeW f.scope ++ 58 :: codeN f.code := by unfold textW; rw [if_pos h]
end Go.Proofs.YtjhhdgmhocpceaaGreatDoor
