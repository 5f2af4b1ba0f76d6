/-
  A row of texts of the call's own, sorted, and without those that stand twice.
-/
import Derived.Test.YtfgldglelijekaaGreatDoorSumP
import Derived.Test.YtfgldglelijekaaGreatDoorMa
import Derived.Test.YtfgldglelijekaaGreatDoorShelf
import Derived.Sort.OwnSorted
import Derived.Laws.Tables
import Derived.Laws.Rows
namespace Go.Proofs.YtfgldglelijekaaGreatDoor
set_option linter.unusedSimpArgs false
set_option linter.unusedVariables false
set_option linter.unusedSectionVars false
open Go.ChangeShapes Go.WideShapes Go.ChangeAt Go.RowKit Go.Deep Go.Shelf Go.Sort

theorem map_enc (l : List (List UInt8)) : l.map bstr = l.map encStr := rfl
theorem sort_texts {B : Nat} {w : World} {v : Value} {l : List (List UInt8)} (h : OwnX B w v l) (hB : B ≤ w.heap.size) (hl : l.length ≤ 1048576) :
    Calls Tryz.prog 24 #[v] w fun e w' => e = .returned (.tuple #[]) ∧ OwnX B w' v (l.mergeSort fun x y => decide (x ≤ y)) ∧ Below B w w' := by
  have h0 : w.ownsRow B 9 1 v l.length (l.map bstr) := h
  rcases h0.2 with ⟨rfl, hn⟩ | ⟨g, cap, cur, rfl, hg, hh, h3, h4, h5, h6⟩
  · have hl0 : l = [] := List.eq_nil_of_length_eq_zero hn
    subst hl0
    refine (Tryz.slices_Sort_string_none none 0 w).mono fun e w' ⟨he, hw⟩ => ⟨he, ?_, ?_⟩
    · rw [hw, List.mergeSort_nil]; exact h
    · rw [hw]; exact Below.refl _ _
  · refine (Tryz.slices_Sort_string g 0 cap l w (holds_of_block hh (by rw [← map_enc]; simpa using h6)) (Array.getElem?_eq_some_iff.1 hh).1 (by omega)).mono fun e w' ⟨he, n, os, hw⟩ => ⟨he, ?_, ?_⟩
    · have hlen : (l.mergeSort fun x y => decide (x ≤ y)).length = l.length := List.length_mergeSort l
      show w'.ownsRow B 9 1 _ (l.mergeSort fun x y => decide (x ≤ y)).length ((l.mergeSort fun x y => decide (x ≤ y)).map bstr)
      rw [hw, hlen]
      exact ownsRow_sorted (ss := l) (by rw [hlen]) hg hh h3 h4 h5
    · rw [hw]
      exact own_grown (Below.refl B w) h0 (by exact grownBy_sorted _) (Nat.le_refl _) hB

theorem compact_texts {B : Nat} {w : World} {v : Value} {l : List (List UInt8)} (h : OwnX B w v l) (hB : B ≤ w.heap.size) (hl : l.length ≤ 1048576) :
    Calls Tryz.prog 25 #[v] w fun e w' => ∃ v', e = .returned v' ∧ OwnX B w' v' (Lib.compact l) ∧ Below B w w' := by
  have h0 : w.ownsRow B 9 1 v l.length (l.map bstr) := h
  rcases h0.2 with ⟨rfl, hn⟩ | ⟨g, cap, cur, rfl, hg, hh, h3, h4, h5, h6⟩
  · have hl0 : l = [] := List.eq_nil_of_length_eq_zero hn
    subst hl0
    refine (Tryz.slices_Compact_string_empty none 0 w).mono fun e w' ⟨he, hw⟩ => ⟨_, he, ?_, ?_⟩
    · rw [hw]; exact OwnX.nil _ _
    · rw [hw]; exact Below.refl _ _
  · have hcl := compact_len l
    refine (Tryz.slices_Compact_string g 0 cap l w (holds_of_block hh (by rw [← map_enc]; simpa using h6)) (by omega) h3).mono fun e w' ⟨he, n, hw⟩ => ⟨_, he, ?_, ?_⟩
    · show w'.ownsRow B 9 1 _ (Lib.compact l).length ((Lib.compact l).map bstr)
      rw [hw, ← grow_empty (putRow _ _ _ _ _)]
      generalize Lib.compact l = c at hcl ⊢
      have hlen : (c ++ List.replicate (l.length - c.length) ([] : List UInt8)).length = l.length := by simp; omega
      refine ⟨by simp, .inr ⟨g, cap, _, rfl, hg, heap_sorted _ hh, by omega, h4, by simp [putCells, h5], ?_⟩⟩
      have ht := take_putCells cur (c ++ List.replicate (l.length - c.length) ([] : List UInt8)) (by omega)
      rw [hlen] at ht
      have ht2 := congrArg (List.take c.length) ht
      rw [List.take_take, Nat.min_eq_left hcl] at ht2
      rw [Nat.mul_one, ht2, List.map_append, List.take_left' (by simp)]
    · rw [hw, ← grow_empty (putRow _ _ _ _ _)]
      exact own_grown (Below.refl B w) h0 (by exact grownBy_sorted _) (Nat.le_refl _) hB

theorem OwnX.low {B C : Nat} {w : World} {v : Value} {l : List (List UInt8)} (h : OwnX B w v l) (hC : C ≤ B) : OwnX C w v l := by
  have h0 : w.ownsRow B 9 1 v l.length (l.map bstr) := h
  refine ⟨h0.1, ?_⟩
  rcases h0.2 with hn | ⟨g, cap, cur, rfl, hb, rest⟩
  · exact .inl hn
  · exact .inr ⟨g, cap, cur, rfl, Nat.le_trans hC hb, rest⟩
theorem OwnX.setRow {B g : Nat} {w : World} {v : Value} {l : List (List UInt8)} (h : OwnX B w v l) (hg : g < B) (cs : Array Value) : OwnX B (w.setRow g cs) v l := by
  have h0 : w.ownsRow B 9 1 v l.length (l.map bstr) := h
  refine World.ownsRow.kept (row := some g) h0 ⟨rfl, rfl, rfl, by simp, fun k _ hne => setRow_other _ _ _ _ (fun e => hne (by rw [e]))⟩ ?_
  rcases h0.2 with ⟨rfl, _⟩ | ⟨b, cap, cur, rfl, hb, _⟩
  · exact .inl rfl
  · refine .inr ?_
    simp only [Value.ownBlock]
    intro e
    injection e with e
    omega
set_option maxHeartbeats 8000000 in
set_option maxRecDepth 100000 in
theorem summary_sections (a : Option Addr) (l : List Int) (cap : Nat) (hl : l.length ≤ 1000) (m : Int) (w : World) (hM : w.cell? MaxA = some (.int .i64 m)) (hS : SlI w w.heap.size a l) :
    Calls Tryz.prog 11 #[.slice a l.length cap] w fun e w' => ∃ v, e = .returned v ∧ OwnX w.heap.size w' v (secS l) ∧ Below w.heap.size w w' := by
  have HO := Lib.hid (rules_Of a l cap (by omega) m w hM hS)
  have hlen := ofR_len l
  have HW : Hid (secS l = setS ltX ((ofR l).map secR)) := rfl
  have hsh := secS_short l
  have HM : Hid (∀ W, Below w.heap.size w W → W.cell? MaxA = some (.int .i64 m)) := fun W hW => max_keep hM hW
  generalize ofR l = S at HO HW hlen
  generalize secS l = R at HW hsh ⊢
  have HSH := Lib.hid hsh
  clear hS hM hsh
  go_enter Tryz.func11, Tryz.ntmps11
  go_wp2_with fail
  refine HO.out.mono ?_
  rintro e w1 ⟨v1, rfl, ho1, hb1⟩
  obtain ⟨a1, cap1, rfl, hs1⟩ := ho1.readI
  have HS1 := Lib.hid hs1
  have HB1 := Lib.hid hb1
  have HL := Lib.hid hlen
  clear hs1 hb1 ho1
  go_wp2_with fail
  go_loopg [3, 9] S.length (fun g v i wr => ∃ k : Nat, k + g = S.length ∧ i = .int .i64 k ∧ OwnX w1.heap.size wr v ((S.take k).map secR) ∧ Below w1.heap.size w1 wr)
  case atStart => exact ⟨0, by omega, rfl, OwnX.nil _ _, Below.refl _ _⟩
  case round =>
    obtain ⟨k, hkg, rfl, HX, hb⟩ := hrel
    have HX := Lib.hid HX
    have HB := Lib.hid hb
    have HK := Lib.hid hkg
    by_cases hlt : k < S.length
    · obtain ⟨b, off, ha, hbb, c00⟩ := SlR.atI HS1.out hlt
      subst ha
      have c0 : wr.cell? ⟨b, off + k, none⟩ = some (.int .i64 S[k]) := (hb.cell (p := ⟨b, off + k, none⟩) hbb).trans c00
      have hbx : b < wr.heap.size := Nat.lt_of_lt_of_le hbb hb.size
      have HT : Hid (Calls Tryz.prog 23 #[.int .i64 S[k]] wr fun e w' => e = .returned (bstr (secR S[k])) ∧ ∃ j', w' = wr.more j') := rules_Section _ m wr (HM.out _ (HB1.out.trans (hb.mono HB1.out.size)))
      have hU : (S.take (k + 1)).map secR = (S.take k).map secR ++ [secR S[k]] := by rw [List.take_add_one, List.getElem?_eq_getElem hlt, List.map_append]; rfl
      have hlk : ((S.take k).map secR).length ≤ k := by simp; omega
      have HU := Lib.hid hU
      clear hU
      generalize S[k] = x at c0 HT HU
      generalize secR x = t at HT HU
      generalize (S.take k).map secR = out at HX HU hlk
      have HLK := Lib.hid hlk
      clear c00 hb hkg hlk
      go_wp2_with fail
      refine HT.out.mono ?_
      rintro e w2 ⟨rfl, j, rfl⟩
      go_wp2_with (at_builtin; refine app_text (.tmp 13) (.tmp 16) rfl rfl rfl (HX.out.below (C := wr.heap.size) (by repeat (first | (with_reducible exact Below.refl _ _) | (with_reducible refine Below.allocS ?_ _) | (with_reducible refine Below.moreS ?_ _) | (with_reducible refine Below.drew ?_) | (with_reducible refine below_drewN ?_ _))) (Nat.le_refl _)) rfl (Blk.at_ _ _ _ (by simp)) (by have := HLK.out; have := HL.out; omega) (by have := HB.out.size; simp only [World.size_alloc, World.size_more]; omega) ?_; intro v' w2 hown hbw)
      have hb2 := HB.out.trans ((Below.mono (B := wr.heap.size) (by repeat (first | (with_reducible exact Below.refl _ _) | (with_reducible refine Below.allocS ?_ _) | (with_reducible refine Below.moreS ?_ _) | (with_reducible refine Below.drew ?_) | (with_reducible refine below_drewN ?_ _))) HB.out.size).trans hbw)
      have HB2 := Lib.hid hb2
      have HX2 := Lib.hid hown
      clear hbw hb2 hown
      go_wp2_with fail
      go_roundg (S.length - (k + 1))
      case measure => have := HK.out; omega
      case rel => exact ⟨k + 1, by have := HK.out; omega, by go_num, by rw [HU.out]; exact HX2.out, HB2.out⟩
    · have hk : S.take k = S := List.take_of_length_le (by omega)
      have hX := HX.out
      rw [hk] at hX
      have hsl := HB1.out.size
      have hbs := HB.out.size
      have HSO := Lib.hid (sort_texts hX hbs (by have := HL.out; simp; omega))
      have hR : R = Lib.compact ((S.map secR).mergeSort fun x y => decide (x ≤ y)) := by rw [HW.out, sort_setX]
      have hol : ((S.map secR).mergeSort fun x y => decide (x ≤ y)).length ≤ 1048576 := by rw [List.length_mergeSort]; have := HL.out; simp; omega
      have HOL := Lib.hid hol
      clear HX hkg hb hk hX HW hol hsl hbs
      generalize ((S.map secR).mergeSort fun x y => decide (x ≤ y)) = sr at HSO hR HOL
      go_wp2_with fail
      refine HSO.out.mono ?_
      rintro e w2 ⟨rfl, ho2, hb2⟩
      have HB2 := Lib.hid (HB.out.trans hb2)
      have HC := Lib.hid (compact_texts ho2 (Nat.le_trans HB.out.size hb2.size) HOL.out)
      clear ho2 hb2
      go_wp2_with fail
      refine HC.out.mono ?_
      rintro e w3 ⟨v3, rfl, ho3, hb3⟩
      have HB3 := Lib.hid (HB2.out.trans hb3)
      rw [← hR] at ho3
      have HO3 := Lib.hid (OwnX.low ho3 HB1.out.size)
      clear ho3 hb3 hR
      go_wp2_with fail
      go_ret
      exact ⟨_, rfl, HO3.out, HB1.out.trans (HB3.out.mono HB1.out.size)⟩
end Go.Proofs.YtfgldglelijekaaGreatDoor
