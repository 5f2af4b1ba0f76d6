/-
  Words: whole lines; two lists; the chapter's examples.
-/
import Derived.Test.YtjdgkkmhlbjdnaaDoorWord7
import Derived.Test.YtjdgkkmhlbjdnaaDoorWord3
import Derived.Test.YtjdgkkmhlbjdnaaDoorWord6
namespace Go.Proofs.YtjdgkkmhlbjdnaaDoor
set_option linter.unusedSimpArgs false
set_option linter.unusedVariables false
set_option linter.unusedSectionVars false
open Go.ChangeShapes Go.WideShapes Go.ChangeAt Go.RowKit Go.Deep Go.Shelf

set_option maxHeartbeats 4000000 in
set_option maxRecDepth 100000 in
theorem words_Lines_good (l : List UInt8) (q : List (List UInt8)) (m : Int) (w : World) (hm : l.length ≤ 1000000) (h0 : l ≠ []) (hM : w.cell? ⟨2, 0, none⟩ = some (.int .i64 m)) (hq : Lib.split l [10] = q ++ [[]]) :
    Calls Tryd.prog 28 #[bstr l] w fun e w' => e = .returned (.tuple #[.slice (some ⟨w.heap.size, 0, none⟩) q.length (q.length + 1), .bool true]) ∧ w' = w.alloc (.cells ((q ++ [[]]).map bstr).toArray 9) := by
  have hne : l.isEmpty = false := by cases l <;> simp_all
  have hne' : (!l.isEmpty) = true := by rw [hne]; rfl
  have hle := split_le l 10
  have H1 : ∀ W, W = w → Calls Tryd.prog 75 #[bstr l, bstr [10]] W fun e w' => e = .returned (.slice (some ⟨w.heap.size, 0, none⟩) (q.length + 1) (q.length + 1)) ∧ w' = w.alloc (.cells ((q ++ [[]]).map bstr).toArray 9) := fun W hW => by
    subst hW
    have h := strings_split l 10 m W (by omega) hM
    rw [hq] at h
    simpa using h
  rw [hq] at hle
  simp only [List.length_append, List.length_cons, List.length_nil] at hle
  have H1 := Lib.hid H1
  have hc : (w.alloc (.cells ((q ++ [[]]).map bstr).toArray 9)).cell? ⟨w.heap.size, q.length, none⟩ = some (bstr []) := by
    rw [(Blk.new w _ _).cell q.length]
    simp
  generalize hY : w.alloc (.cells ((q ++ [[]]).map bstr).toArray 9) = Y at H1 hc ⊢
  clear hq hM h0 hY
  generalize hn : q.length = n at *
  have hn0 : n ≤ 1000000 := by omega
  clear hn
  go_enter Tryd.func28, Tryd.ntmps28
  go_wp2_with fail
  refine (H1.out _ rfl).mono ?_
  rintro e w1 ⟨rfl, rfl⟩
  go_wp2_with fail
  go_ret2
  exact ⟨rfl, rfl⟩

def sameX (a b : List (List UInt8)) : Bool := a == b
set_option maxHeartbeats 4000000 in
set_option maxRecDepth 100000 in
theorem ref04_Same (a b : Option Addr) (ca cb : Nat) (x y : List (List UInt8)) (w0 w : World) (hx : x.length ≤ 1048576) (hy : y.length ≤ 1048576) (hb : Below w0.heap.size w0 w) (hsx0 : SlX w0 w0.heap.size a x) (hsy0 : SlX w0 w0.heap.size b y) :
    Calls Tryd.prog 26 #[.slice a x.length ca, .slice b y.length cb] w fun e w' => e = .returned (.bool (sameX x y)) ∧ ∃ j, w' = w.more j := by
  have hsx := hsx0.below hb (Nat.le_refl _)
  have hsy := hsy0.below hb (Nat.le_refl _)
  have hz := hb.size
  clear hsx0 hsy0 hb
  by_cases hl : x.length = y.length
  case neg =>
    have HR : Hid (sameX x y = false) := by
      show (x == y) = false
      rw [beq_eq_false_iff_ne]
      exact fun h => hl (by rw [h])
    have h1 : ((x.length : Int) != y.length) = true := by rw [bne_iff_ne]; omega
    go_enter Tryd.func26, Tryd.ntmps26
    go_wp2_with fail
    go_ret
    exact ⟨ret1d (by rw [HR.out]; rfl), Below.junk (by repeat (first | (with_reducible exact Below.refl _ _) | (with_reducible refine Below.allocS ?_ _) | (with_reducible refine Below.moreS ?_ _) | (with_reducible refine Below.drew ?_) | (with_reducible refine below_drewN ?_ _)))⟩
  have h1 : ((x.length : Int) != y.length) = false := by rw [bne_eq_false_iff_eq]; omega
  have HA : Hid (sameX x y = sameX (x.drop 0) (y.drop 0)) := rfl
  have HL := Lib.hid hl
  have hlt0 : y.length ≤ x.length := by omega
  have hlt1 : x.length ≤ y.length := by omega
  clear hl
  go_enter Tryd.func26, Tryd.ntmps26
  go_wp2_with fail
  go_loopw [5] (fun i wr => ∃ k : Nat, k ≤ x.length ∧ i = .int .i64 k ∧ Hid (sameX x y = sameX (x.drop k) (y.drop k)) ∧ ∃ j, wr = w.more j) (fun i _ => x.length - (intOf i).toNat)
  case atStart => exact ⟨0, by omega, rfl, HA, Below.junk (by repeat (first | (with_reducible exact Below.refl _ _) | (with_reducible refine Below.allocS ?_ _) | (with_reducible refine Below.moreS ?_ _) | (with_reducible refine Below.drew ?_) | (with_reducible refine below_drewN ?_ _)))⟩
  case round =>
    clear HA
    obtain ⟨k, hk, rfl, HA, jr, rfl⟩ := hrel
    by_cases hlt : k < x.length
    · obtain ⟨bx, ox, rfl, hbx, cx, _⟩ := hsx.atX hlt
      obtain ⟨by_, oy, rfl, hby, cy, _⟩ := hsy.atX (show k < y.length by omega)
      have HD : Hid (sameX x y = ((x[k] == y[k]'(by omega)) && sameX (x.drop (k + 1)) (y.drop (k + 1)))) := by
        show _ = _
        rw [HA.out, List.drop_eq_getElem_cons hlt, List.drop_eq_getElem_cons (show k < y.length by omega)]
        rfl
      generalize x[k] = u at cx HD
      generalize y[k]'(by omega) = v at cy HD
      have hbx' : bx < w.heap.size := by omega
      have hby' : by_ < w.heap.size := by omega
      have i1 : (k : Int) < x.length := by omega
      have i2 : (k : Int) < y.length := by omega
      have i3 : (0 : Int) ≤ k := by omega
      cases huv : (u == v)
      all_goals
        have huv2 : (u != v) = !(u == v) := rfl
        rw [huv] at huv2
        simp only [Bool.not_true, Bool.not_false] at huv2
        go_wp2_with fail
        go_quiet (fail)
        go_wp2_with fail
      · go_ret
        exact ⟨ret1d (by rw [HD.out, huv]; rfl), Below.junk (by repeat (first | (with_reducible exact Below.refl _ _) | (with_reducible refine Below.allocS ?_ _) | (with_reducible refine Below.moreS ?_ _) | (with_reducible refine Below.drew ?_) | (with_reducible refine below_drewN ?_ _)))⟩
      · go_roundw
        case measure => simp [intOf]; omega
        case rel => exact ⟨k + 1, hlt, by go_num, HD.out.trans (by rw [huv, Bool.true_and]), Below.junk (by repeat (first | (with_reducible exact Below.refl _ _) | (with_reducible refine Below.allocS ?_ _) | (with_reducible refine Below.moreS ?_ _) | (with_reducible refine Below.drew ?_) | (with_reducible refine below_drewN ?_ _)))⟩
    · go_wp2_with fail
      go_ret
      refine ⟨ret1d ?_, Below.junk (by repeat (first | (with_reducible exact Below.refl _ _) | (with_reducible refine Below.allocS ?_ _) | (with_reducible refine Below.moreS ?_ _) | (with_reducible refine Below.drew ?_) | (with_reducible refine below_drewN ?_ _)))⟩
      rw [HA.out, List.drop_of_length_le (by omega), List.drop_of_length_le (by omega)]
      rfl
