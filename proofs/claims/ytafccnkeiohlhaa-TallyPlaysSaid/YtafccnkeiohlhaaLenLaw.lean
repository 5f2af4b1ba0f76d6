/-
  The law LengthTold: how long data are said to be, by any fields, is what the document says.
-/
import Derived.Test.YtafccnkeiohlhaaLenR
namespace Go.Proofs.Ytafccnkeiohlhaa
open Go.ChangeShapes Go.WideShapes Go.ChangeAt Go.RowKit Go.Deep

def refFin : Option (List Int) → Int × Bool × Bool
  | none => (0, false, false)
  | some [] => (0, false, true)
  | some (x :: r) => if r.all (· == x) then (x, true, true) else (0, false, false)
theorem refLenF_fin (l : List Fd) : refLenF l = refFin (colGo l []) := by
  unfold refLenF refFin
  rfl
theorem fin_bad : ∀ (r : List Fd) (x : Int) (acc : List Int), acc.all (· == x) = false → refFin (colGo r (x :: acc)) = (0, false, false)
  | [], x, acc, h => by simp [colGo, refFin, h]
  | f :: r, x, acc, h => by
    by_cases hn : f.name = contentLength
    · cases hp : (natF f.value 4503599627370496).2 with
      | false => rw [colGo_bad hn hp]; rfl
      | true =>
        rw [colGo_ok hn hp]
        exact fin_bad r x (acc ++ [_]) (by rw [List.all_append, h]; rfl)
    · rw [colGo_skip hn]; exact fin_bad r x acc h
theorem fin_told : ∀ (r : List Fd) (x : Int) (acc : List Int), acc.all (· == x) = true → refFin (colGo r (x :: acc)) = lenGo r x true
  | [], x, acc, h => by simp [colGo, refFin, h, lenGo]
  | f :: r, x, acc, h => by
    by_cases hn : f.name = contentLength
    · cases hp : (natF f.value 4503599627370496).2 with
      | false => rw [colGo_bad hn hp, lenGo_bad hn (by simp [hp])]; rfl
      | true =>
        rw [colGo_ok hn hp]
        by_cases hx : (natF f.value 4503599627370496).1 = x
        · rw [lenGo_ok hn (by simp [hp, hx]), hx]
          exact fin_told r x (acc ++ [x]) (by rw [List.all_append, h]; simp)
        · rw [lenGo_bad hn (by simp [hp, hx])]
          exact fin_bad r x (acc ++ [(natF f.value 4503599627370496).1]) (by rw [List.all_append]; simp [hx])
    · rw [colGo_skip hn, lenGo_skip hn]; exact fin_told r x acc h
theorem fin_none : ∀ (r : List Fd), refFin (colGo r []) = lenGo r 0 false
  | [] => by simp [colGo, refFin, lenGo]
  | f :: r => by
    by_cases hn : f.name = contentLength
    · cases hp : (natF f.value 4503599627370496).2 with
      | false => rw [colGo_bad hn hp, lenGo_bad hn (by simp [hp])]; rfl
      | true => rw [colGo_ok hn hp, lenGo_ok hn (by simp [hp])]; exact fin_told r _ [] rfl
    · rw [colGo_skip hn, lenGo_skip hn]; exact fin_none r
theorem lenF_ref (l : List Fd) : refLenF l = lenF l := (refLenF_fin l).trans (fin_none l)

theorem alive26_a : lenF [⟨contentLength, [49, 50], false⟩, ⟨contentLength, [48, 49, 50], false⟩] = (12, true, true) := by decide +kernel
theorem alive26_b : lenF [⟨contentLength, [49, 50], false⟩, ⟨contentLength, [49, 51], false⟩] = (0, false, false) := by decide +kernel

set_option maxRecDepth 100000 in
theorem law26_alive (w : World) : Calls Try.prog 20 #[] w fun e w' => e = .returned (.bool true) ∧ Below w.heap.size w w' := by
  go_enter Try.func20, Try.ntmps20
  go_wp2_with fail
  refine (length_Of _ 2 (w.heap.size + 1) [⟨contentLength, [49, 50], false⟩, ⟨contentLength, [48, 49, 50], false⟩] _ (by decide) (by simp) (slF_new (Blk.new _ _ _) rfl (by decide))).mono ?_
  rintro e w1 ⟨rfl, hb1⟩
  rw [alive26_a]
  go_wp2_with fail
  refine (length_Of _ 2 (w1.heap.size + 2) [⟨contentLength, [49, 50], false⟩, ⟨contentLength, [49, 51], false⟩] _ (by decide) (by simp) (slF_new (Blk.at_ _ _ _ (by simp)) rfl (by decide))).mono ?_
  rintro e w2 ⟨rfl, hb2⟩
  rw [alive26_b]
  obtain ⟨c0, c1, _, _, hsz⟩ := (((Blk.new w1 26 #[.int .i64 12, .bool true]).alloc _).below hb2 (by simp <;> omega)).two
  go_wp2_with fail
  go_ret
  refine ⟨rfl, ?_⟩
  exact (((((Below.refl _ _).alloc (Nat.le_refl _) _).trans (hb1.mono (by simp))).alloc (by have := hb1.size; simp at this; omega) _).alloc (by have := hb1.size; simp at this; simp; omega) _).trans (hb2.mono (by have := hb1.size; simp at this; simp; omega)) |>.alloc (by have := hb1.size; have := hb2.size; simp at *; omega) _

/-- The law over a slice of fields. -/
theorem lengthTold_law (a : Option Addr) (cap : Nat) (l : List Fd) (w : World) (_hc : l.length ≤ cap) (hm : l.length ≤ maxLen) (hs : SlF w w.heap.size a l) :
    Calls Try.prog 3 #[.slice a l.length cap] w fun e w' => e = .returned (.bool true) ∧ Below w.heap.size w w' := by
  cases hL : largeF l 60 200 with
  | true =>
    go_enter Try.func3, Try.ntmps3
    go_wp2_with fail
    refine (ref21_Large _ _ _ _ _ _ _ hm hs).mono ?_
    rintro e w1 ⟨rfl, rfl⟩
    rw [hL]
    go_wp2_with fail
    refine (law26_alive _).mono ?_
    rintro e w1 ⟨rfl, hb⟩
    go_wp2_with fail
    go_ret
    exact ⟨rfl, hb⟩
  | false =>
    have hlen : l.length ≤ 60 := by
      simp only [largeF, Bool.or_eq_false_iff, decide_eq_false_iff_not] at hL
      omega
    go_enter Try.func3, Try.ntmps3
    go_wp2_with fail
    refine (ref21_Large _ _ _ _ _ _ _ hm hs).mono ?_
    rintro e w1 ⟨rfl, rfl⟩
    rw [hL]
    go_wp2_with fail
    refine (length_Of _ _ _ _ _ hm (Nat.le_refl _) hs).mono ?_
    rintro e w1 ⟨rfl, hb1⟩
    go_wp2_with fail
    refine (ref26_Of _ _ _ _ _ (by omega) (by have := hb1.size; simp; omega) ((hs.below hb1 (Nat.le_refl _)).below ((Below.refl w1.heap.size _).alloc (Nat.le_refl _) _) hb1.size)).mono ?_
    rintro e w2 ⟨rfl, hb2⟩
    rw [lenF_ref]
    obtain ⟨c0, c1, _, _, hsz⟩ := ((Blk.new w1 26 #[.int .i64 (lenF l).1, .bool (lenF l).2.1]).below hb2 (by simp)).two
    go_wp2_with fail
    refine (law26_alive _).mono ?_
    rintro e w3 ⟨rfl, hb3⟩
    go_wp2_with fail
    go_ret
    refine ⟨rfl, ?_⟩
    exact ((hb1.alloc hb1.size _).trans (hb2.mono (by have := hb1.size; simp; omega))).trans (hb3.mono (by have := hb1.size; have := hb2.size; simp at *; omega))
end Go.Proofs.Ytafccnkeiohlhaa
