/-
  The statement SummaryTexts.
-/
import Derived.Test.YtfgldglelijekaaDoorSumA
import Derived.Deep.MidRow
namespace Go.Proofs.YtfgldglelijekaaDoor
set_option linter.unusedSimpArgs false
set_option linter.unusedVariables false
set_option linter.unusedSectionVars false
open Go.ChangeShapes Go.WideShapes Go.ChangeAt Go.RowKit Go.Deep Go.Shelf

theorem Blk.rangeI {w : World} {b : Nat} {t : TypeId} {F : Nat → Int} {sec : Value} (h : Blk w b t (rowA F sec)) (o n : Nat) (hn : o + n ≤ 20) : w.rangeAt b o ((List.range n).map fun k => Value.int .i64 (F (o + k))) := fun j v hj => by
  rw [List.getElem?_map] at hj
  obtain ⟨k, hk, rfl⟩ := Option.map_eq_some_iff.1 hj
  obtain ⟨h1, h2⟩ := List.getElem?_eq_some_iff.1 hk
  rw [List.getElem_range] at h2
  have h3 : j < n := by simpa using h1
  subst h2
  exact h.rowGetT (by omega)
theorem rowA_lit (F : Nat → Int) (a : Option Addr) (R : List (List UInt8)) (cap : Nat) : rowA F (.slice a R.length cap) = #[.int .i64 (F 0), .int .i64 (F 1), .int .i64 (F 2), .int .i64 (F 3), .int .i64 (F 4), .int .i64 (F 5), .int .i64 (F 6), .int .i64 (F 7), .int .i64 (F 8), .int .i64 (F 9), .int .i64 (F 10), .int .i64 (F 11), .int .i64 (F 12), .int .i64 (F 13), .int .i64 (F 14), .int .i64 (F 15), .int .i64 (F 16), .int .i64 (F 17), .int .i64 (F 18), .int .i64 (F 19), .slice a R.length cap] := rfl
set_option maxHeartbeats 8000000 in
set_option maxRecDepth 100000 in
theorem summaryTexts_below (F : Nat → Int) (a : Option Addr) (cap : Nat) (R : List (List UInt8)) (m : Int) (w : World) (hF : ∀ i, i < 20 → goodI (F i)) (hRc : R.length ≤ cap) (hS : SlX w w.heap.size a R) (hE : EnvS m w) :
    Calls Tryd.prog 3 #[.agg (rowA F (.slice a R.length cap))] w fun e w' => e = .returned (.bool true) ∧ Below w.heap.size w w' := by
  have HAL : Hid (∀ W, Below w.heap.size w W → Calls Tryd.prog 5 #[] W fun e w' => e = .returned (.bool true) ∧ Below W.heap.size W w') := fun W hW => law44_alive m W (hE.below hW)
  have HE := Lib.hid hE
  have HS := Lib.hid hS
  have HF := Lib.hid hF
  clear hE hS hF hRc
  have hsz := rowA_size F (.slice a R.length cap)
  obtain ⟨w0, hw0⟩ : ∃ w0, w0 = w.alloc (.cells (rowA F (.slice a R.length cap)) RsT) := ⟨_, rfl⟩
  have hb0 : Blk w0 w.heap.size RsT (rowA F (.slice a R.length cap)) := by rw [hw0]; exact Blk.new _ _ _
  have HW0 : Hid (Below w.heap.size w w0) := by show Below _ _ _; rw [hw0]; exact (by repeat (first | (with_reducible exact Below.refl _ _) | (with_reducible refine Below.allocS ?_ _) | (with_reducible refine Below.moreS ?_ _) | (with_reducible refine Below.drew ?_) | (with_reducible refine below_drewN ?_ _)))
  have hz0 : w0.heap.size = w.heap.size + 1 := by rw [hw0]; simp
  have c20 : w0.cell? ⟨w.heap.size, 20, none⟩ = some (.slice a R.length cap) := (hb0.cell 20).trans (rowA_sec _ _)
  have HB0 : Hid (Blk w0 w.heap.size RsT (rowA F (.slice a R.length cap))) := hb0
  have hg0 : w.heap.size < w0.heap.size := by omega
  have HZ0 := Lib.hid hz0
  clear hb0 hz0
  have hr20 : (rowA F (.slice a R.length cap))[20]? = some (.slice a R.length cap) := rowA_sec _ _
  have c20a : (w.alloc (.cells (rowA F (.slice a R.length cap)) RsT)).cell? ⟨w.heap.size, 20, none⟩ = some (.slice a R.length cap) := ((Blk.new _ _ _).cell 20).trans hr20
  go_enter Tryd.func3, Tryd.ntmps3
  by_cases h40 : 40 < (R.length : Int)
  · go_wp2_with fail
    rw [← hw0]
    clear hw0
    refine (HAL.out _ HW0.out).mono ?_
    rintro e w1 ⟨rfl, hb1⟩
    have HB1 := Lib.hid (HW0.out.trans (hb1.mono HW0.out.size))
    clear hb1
    go_wp2_with fail
    go_ret
    exact ⟨rfl, HB1.out⟩
  have hR40 : R.length ≤ 40 := by omega
  go_wp2_with fail
  rw [← hw0]
  clear hw0
  go_loopg [14] R.length (fun g i wr => ∃ k : Nat, k + g = R.length ∧ i = .int .i64 k ∧ wr = w0 ∧ Hid (∀ q (hq : q < R.length), q < k → R[q].length ≤ 100))
  case atStart => exact ⟨0, by omega, rfl, rfl, fun q _ h => absurd h (by omega)⟩
  case round =>
    obtain ⟨k, hkg, rfl, rfl, HQ⟩ := hrel
    have HK := Lib.hid hkg
    by_cases hlt : k < R.length
    · obtain ⟨b, off, ha, hbb, d0, _⟩ := (SlX.keep HS.out HW0.out).atX hlt
      subst ha
      have HN : Hid (R[k].length ≤ 100 → ∀ q (hq : q < R.length), q < k + 1 → R[q].length ≤ 100) := fun h q hq hqk => by
        by_cases e : q = k
        · subst e; exact h
        · exact HQ.out q hq (by omega)
      generalize R[k] = x at d0 HN
      clear hkg
      by_cases hx : 100 < (x.length : Int)
      · clear HN HQ
        go_wp2_with fail
        refine (HAL.out _ HW0.out).mono ?_
        rintro e w1 ⟨rfl, hb1⟩
        have HB1 := Lib.hid (HW0.out.trans (hb1.mono HW0.out.size))
        clear hb1
        go_wp2_with fail
        go_ret
        exact ⟨rfl, HB1.out⟩
      · have HQ2 := Lib.hid (HN.out (by omega))
        clear HN HQ
        go_wp2_with fail
        go_roundg (R.length - (k + 1))
        case measure => have := HK.out; omega
        case rel => exact ⟨k + 1, by have := HK.out; omega, by go_num, rfl, HQ2⟩
    · have hX : ∀ x ∈ R, x.length ≤ 1000 := fun x hx => by
        obtain ⟨q, hq, rfl⟩ := List.getElem_of_mem hx
        have := HQ.out q hq (by omega)
        omega
      have hL := linesS_short F R HF.out (by omega) hX
      have HT1 : Hid (∀ W, Below w.heap.size w W → Calls Tryd.prog 7 #[.agg (rowA F (.slice a R.length cap))] W (RowX (linesS F R) W)) := fun W hW => rowX_of hL (summary_Text F a R cap HF.out (by omega) hX W (HE.out.k.below hW) (SlX.keep HS.out hW))
      have HT2 : Hid (∀ W, Below w.heap.size w W → Calls Tryd.prog 8 #[.agg (rowA F (.slice a R.length cap))] W (RowX (linesS F R) W)) := fun W hW => rowX_of hL (ref44_Text F a R cap HF.out (by omega) hX W (SlX.keep HS.out hW))
      have hll : (linesS F R).length ≤ 100 := by
        have h1 := typesL_len F 10
        have h2 := kindsL_len F 4
        have h3 := partL_len [111, 116, 104, 101, 114, 115] (F 14)
        have h4 : (secL R).length ≤ 1 := by unfold secL; split <;> simp
        unfold linesS
        simp only [List.length_append, List.length_cons, List.length_nil]
        omega
      generalize linesS F R = L at HT1 HT2 hll
      have HSM : Hid (∀ W a1 c1 a2 c2, SlX W W.heap.size a1 L → SlX W W.heap.size a2 L → Calls Tryd.prog 6 #[.slice a1 L.length c1, .slice a2 L.length c2] W fun e w' => e = .returned (.bool true) ∧ ∃ j, w' = W.more j) := fun W a1 c1 a2 c2 h1 h2 => by
        have := ref04_Same a1 a2 c1 c2 L L W W (by omega) (by omega) (Below.refl _ _) h1 h2
        rw [sameX_self] at this
        exact this
      clear hkg HQ hX hL hll HF
      go_wp2_with (first
        | (refine wpList_load_mid rfl 22 _ rfl w.heap.size 0 rfl _ _ (HB0.out.rangeI 0 2 (by omega)) Tryd.underlying22 rfl (by kernel_rfl) ?_)
        | (refine wpList_load_mid rfl 22 _ rfl w.heap.size 2 rfl _ _ (HB0.out.rangeI 2 2 (by omega)) Tryd.underlying22 rfl (by kernel_rfl) ?_)
        | (refine wpList_load_mid rfl 23 _ rfl w.heap.size 4 rfl _ _ (HB0.out.rangeI 4 11 (by omega)) Tryd.underlying23 rfl (by kernel_rfl) ?_)
        | (refine wpList_load_mid rfl 24 _ rfl w.heap.size 15 rfl _ _ (HB0.out.rangeI 15 5 (by omega)) Tryd.underlying24 rfl (by kernel_rfl) ?_)
        | (refine wpList_buildV rfl SmT _ rfl #[.int .i64 (F 0), .int .i64 (F 1), .int .i64 (F 2), .int .i64 (F 3), .int .i64 (F 4), .int .i64 (F 5), .int .i64 (F 6), .int .i64 (F 7), .int .i64 (F 8), .int .i64 (F 9), .int .i64 (F 10), .int .i64 (F 11), .int .i64 (F 12), .int .i64 (F 13), .int .i64 (F 14), .int .i64 (F 15), .int .i64 (F 16), .int .i64 (F 17), .int .i64 (F 18), .int .i64 (F 19), .slice a R.length cap] (by kernel_rfl) ?_)
        | (refine wpList_store_row rfl SmT _ _ rfl wr.heap.size #[.int .i64 (F 0), .int .i64 (F 1), .int .i64 (F 2), .int .i64 (F 3), .int .i64 (F 4), .int .i64 (F 5), .int .i64 (F 6), .int .i64 (F 7), .int .i64 (F 8), .int .i64 (F 9), .int .i64 (F 10), .int .i64 (F 11), .int .i64 (F 12), .int .i64 (F 13), .int .i64 (F 14), .int .i64 (F 15), .int .i64 (F 16), .int .i64 (F 17), .int .i64 (F 18), .int .i64 (F 19), .slice a R.length cap] rfl rfl SmT _ (Blk.new _ _ _) (by kernel_rfl) (by kernel_rfl) (by kernel_rfl) ?_; rw [setRow_new]))
      have HBA : Hid (Below w.heap.size w (wr.alloc (.cells #[.int .i64 (F 0), .int .i64 (F 1), .int .i64 (F 2), .int .i64 (F 3), .int .i64 (F 4), .int .i64 (F 5), .int .i64 (F 6), .int .i64 (F 7), .int .i64 (F 8), .int .i64 (F 9), .int .i64 (F 10), .int .i64 (F 11), .int .i64 (F 12), .int .i64 (F 13), .int .i64 (F 14), .int .i64 (F 15), .int .i64 (F 16), .int .i64 (F 17), .int .i64 (F 18), .int .i64 (F 19), .slice a R.length cap] SmT))) := HW0.out.trans (Below.mono (B := wr.heap.size) (by repeat (first | (with_reducible exact Below.refl _ _) | (with_reducible refine Below.allocS ?_ _) | (with_reducible refine Below.moreS ?_ _) | (with_reducible refine Below.drew ?_) | (with_reducible refine below_drewN ?_ _))) (by omega))
      have HBS : Hid (Blk (wr.alloc (.cells #[.int .i64 (F 0), .int .i64 (F 1), .int .i64 (F 2), .int .i64 (F 3), .int .i64 (F 4), .int .i64 (F 5), .int .i64 (F 6), .int .i64 (F 7), .int .i64 (F 8), .int .i64 (F 9), .int .i64 (F 10), .int .i64 (F 11), .int .i64 (F 12), .int .i64 (F 13), .int .i64 (F 14), .int .i64 (F 15), .int .i64 (F 16), .int .i64 (F 17), .int .i64 (F 18), .int .i64 (F 19), .slice a R.length cap] SmT)) wr.heap.size SmT (rowA F (.slice a R.length cap))) := by show Blk _ _ _ _; rw [rowA_lit]; exact Blk.new _ _ _
      have HBR : Hid (Blk (wr.alloc (.cells #[.int .i64 (F 0), .int .i64 (F 1), .int .i64 (F 2), .int .i64 (F 3), .int .i64 (F 4), .int .i64 (F 5), .int .i64 (F 6), .int .i64 (F 7), .int .i64 (F 8), .int .i64 (F 9), .int .i64 (F 10), .int .i64 (F 11), .int .i64 (F 12), .int .i64 (F 13), .int .i64 (F 14), .int .i64 (F 15), .int .i64 (F 16), .int .i64 (F 17), .int .i64 (F 18), .int .i64 (F 19), .slice a R.length cap] SmT)) w.heap.size RsT (rowA F (.slice a R.length cap))) := HB0.out.alloc _
      have hzx : (wr.alloc (.cells #[.int .i64 (F 0), .int .i64 (F 1), .int .i64 (F 2), .int .i64 (F 3), .int .i64 (F 4), .int .i64 (F 5), .int .i64 (F 6), .int .i64 (F 7), .int .i64 (F 8), .int .i64 (F 9), .int .i64 (F 10), .int .i64 (F 11), .int .i64 (F 12), .int .i64 (F 13), .int .i64 (F 14), .int .i64 (F 15), .int .i64 (F 16), .int .i64 (F 17), .int .i64 (F 18), .int .i64 (F 19), .slice a R.length cap] SmT)).heap.size = wr.heap.size + 1 := by simp
      generalize wr.alloc (.cells #[.int .i64 (F 0), .int .i64 (F 1), .int .i64 (F 2), .int .i64 (F 3), .int .i64 (F 4), .int .i64 (F 5), .int .i64 (F 6), .int .i64 (F 7), .int .i64 (F 8), .int .i64 (F 9), .int .i64 (F 10), .int .i64 (F 11), .int .i64 (F 12), .int .i64 (F 13), .int .i64 (F 14), .int .i64 (F 15), .int .i64 (F 16), .int .i64 (F 17), .int .i64 (F 18), .int .i64 (F 19), .slice a R.length cap] SmT) = wx at HBA HBS HBR hzx ⊢
      refine gb_start (wr.heap.size + 1) (by kernel_rfl) ?_
      refine gb_load 0 rfl (by kernel_rfl) (by kernel_rfl) (by kernel_rfl) SmT (.tmp 5) (rowA F (.slice a R.length cap)) (fun _ _ _ h => h) (by kernel_rfl) rfl wr.heap.size rfl (t := SmT) HBS.out.drew (by omega) _ Tryd.underlying29 rfl (by rw [rowA_size]; kernel_rfl) ?_
      try simp only [Act.put, List.getElem_toArray, List.getElem_cons_succ, List.getElem_cons_zero, List.setIfInBounds_toArray, List.set_cons_zero, List.set_cons_succ]
      refine gb_load 2 rfl (by kernel_rfl) (by kernel_rfl) (by kernel_rfl) RsT (.tmp 1) (rowA F (.slice a R.length cap)) (fun _ _ _ h => h) (by kernel_rfl) rfl w.heap.size rfl (t := RsT) HBR.out.drew (by omega) _ Tryd.underlying27 rfl (by rw [rowA_size]; kernel_rfl) ?_
      try simp only [Act.put, List.getElem_toArray, List.getElem_cons_succ, List.getElem_cons_zero, List.setIfInBounds_toArray, List.set_cons_zero, List.set_cons_succ]
      refine gb_step 1 (by kernel_rfl) rfl (fun K hK => ?_)
      go_simp
      go_wp2_with fail
      refine (HT1.out _ HBA.out.drew).mono ?_
      rintro e w1 ⟨a1, c1, rfl, hs1, hb1⟩
      have hb1' : Below (wr.heap.size + 1) wx w1 := by
        have h2 : Below wx.heap.size wx.drew w1 := hb1
        have h3 : Below wx.heap.size wx w1 := ⟨h2.os, h2.tape, h2.output, h2.size, h2.block⟩
        exact h3.mono (by omega)
      have HB1 : Hid (Below w.heap.size w w1) := HBA.out.trans (hb1'.mono (by omega))
      have hz1 := hb1'.size
      have HS1 := Lib.hid hs1
      go_wp2_with fail
      refine hK.out _ _ (show Below _ _ _ from (⟨hb1'.os, hb1'.tape, hb1'.output, hb1'.size, hb1'.block⟩)) ?_
      clear hK K
      try simp only [Act.put, List.getElem_toArray, List.getElem_cons_succ, List.getElem_cons_zero, List.setIfInBounds_toArray, List.set_cons_zero, List.set_cons_succ]
      clear hs1 hb1 hb1'
      refine gb_step 3 (by kernel_rfl) rfl (fun K hK => ?_)
      go_simp
      go_wp2_with fail
      refine (HT2.out _ HB1.out).mono ?_
      rintro e w2 ⟨a2, c2, rfl, hs2, hb2⟩
      have HB2 : Hid (Below w.heap.size w w2) := HB1.out.trans (hb2.mono HB1.out.size)
      have HS2 := Lib.hid hs2
      have HS12 := Lib.hid (SlX.keep HS1.out hb2)
      have hz2 := hb2.size
      go_wp2_with fail
      refine hK.out _ _ (show Below _ _ _ from (hb2.mono (by omega))) ?_
      clear hK K
      try simp only [Act.put, List.getElem_toArray, List.getElem_cons_succ, List.getElem_cons_zero, List.setIfInBounds_toArray, List.set_cons_zero, List.set_cons_succ]
      clear hs2 hb2 HS1
      refine gb_step 4 (by kernel_rfl) rfl (fun K hK => ?_)
      go_simp
      go_wp2_with fail
      refine (HSM.out _ _ _ _ _ HS12.out HS2.out).mono ?_
      rintro e w3 ⟨rfl, j3, rfl⟩
      go_wp2_with fail
      refine hK.out _ _ (show Below _ _ _ from (by first | exact Below.refl _ _ | (refine Below.mono (B := w2.heap.size) ?_ (by omega); (repeat (first | (with_reducible exact Below.refl _ _) | (with_reducible exact grown_merge _ _ _ _) | (with_reducible exact grown_merge2 _ _ _ _ _ _) | (with_reducible exact grown_merge3 _ _ _ _ _ _ _) | (with_reducible refine Below.allocS ?_ _) | (with_reducible refine Below.moreS ?_ _) | (with_reducible refine Below.drew ?_))); done) | (refine gb_undrew (Below.mono (B := w2.heap.size) ?_ (by omega)); (repeat (first | (with_reducible exact Below.refl _ _) | (with_reducible exact grown_merge _ _ _ _) | (with_reducible exact grown_merge2 _ _ _ _ _ _) | (with_reducible exact grown_merge3 _ _ _ _ _ _ _) | (with_reducible refine Below.allocS ?_ _) | (with_reducible refine Below.moreS ?_ _) | (with_reducible refine Below.drew ?_))); done))) ?_
      clear hK K
      try simp only [Act.put, List.getElem_toArray, List.getElem_cons_succ, List.getElem_cons_zero, List.setIfInBounds_toArray, List.set_cons_zero, List.set_cons_succ]
      refine gb_take 5 (v := ?_) rfl (by kernel_rfl) (by kernel_rfl) (by kernel_rfl) (fun _ _ _ h => h) (Or.inl ⟨by first | kernel_rfl | rfl, ?_⟩) ?_
      rotate_left
      · intro wS hSw; have hSc := hSw.cell; clear hSw; go_simp; try with_reducible rfl
      try simp only [Act.put, List.getElem_toArray, List.getElem_cons_succ, List.getElem_cons_zero, List.setIfInBounds_toArray, List.set_cons_zero, List.set_cons_succ]
      refine gb_step 6 (by kernel_rfl) rfl (fun K hK => ?_)
      go_simp
      go_wp2_with fail
      have HB3 : Hid (Below w.heap.size w (w2.more j3)) := HB2.out.trans (Below.mono (B := w2.heap.size) (by repeat (first | (with_reducible exact Below.refl _ _) | (with_reducible refine Below.allocS ?_ _) | (with_reducible refine Below.moreS ?_ _) | (with_reducible refine Below.drew ?_) | (with_reducible refine below_drewN ?_ _))) HB2.out.size)
      refine (HAL.out _ HB3.out).mono ?_
      rintro e w4 ⟨rfl, hb4⟩
      have HB4 : Hid (Below w.heap.size w w4) := HB3.out.trans (hb4.mono HB3.out.size)
      go_wp2_with fail
      refine hK.out _ _ (show Below _ _ _ from (hb4.mono (by simp only [World.size_more]; omega))) ?_
      clear hK K
      try simp only [Act.put, List.getElem_toArray, List.getElem_cons_succ, List.getElem_cons_zero, List.setIfInBounds_toArray, List.set_cons_zero, List.set_cons_succ]
      clear hb4
      refine gb_take 7 (v := ?_) rfl (by kernel_rfl) (by kernel_rfl) (by kernel_rfl) (fun _ _ _ h => h) (Or.inl ⟨by first | kernel_rfl | rfl, ?_⟩) ?_
      rotate_left
      · intro wS hSw; have hSc := hSw.cell; clear hSw; go_simp; try with_reducible rfl
      try simp only [Act.put, List.getElem_toArray, List.getElem_cons_succ, List.getElem_cons_zero, List.setIfInBounds_toArray, List.set_cons_zero, List.set_cons_succ]
      refine gb_take 8 (v := ?_) rfl (by kernel_rfl) (by kernel_rfl) (by kernel_rfl) (fun _ _ _ h => h) (Or.inl ⟨by first | kernel_rfl | rfl, ?_⟩) ?_
      rotate_left
      · intro wS hSw; have hSc := hSw.cell; clear hSw; go_simp; try with_reducible rfl
      try simp only [Act.put, List.getElem_toArray, List.getElem_cons_succ, List.getElem_cons_zero, List.setIfInBounds_toArray, List.set_cons_zero, List.set_cons_succ]
      refine wpAnyH_done (by kernel_rfl) ?_ _
      go_wp2_with fail
      go_ret
      exact ⟨rfl, HB4.out⟩
theorem summaryTexts_law (F : Nat → Int) (a : Option Addr) (cap : Nat) (R : List (List UInt8)) (m : Int) (w : World) (hK : EnvK0 w) (hF : ∀ i, i < 20 → goodI (F i)) (hRc : R.length ≤ cap) (hS : SlX w w.heap.size a R) (hM : w.cell? MaxA = some (.int .i64 m)) :
    Calls Tryd.prog 3 #[.agg (rowA F (.slice a R.length cap))] w fun e w' => e = .returned (.bool true) ∧ ∃ j, w' = w.more j :=
  (summaryTexts_below F a cap R m w hF hRc hS ⟨hK, hM⟩).mono fun _ _ ⟨he, hb⟩ => ⟨he, hb.junk⟩
end Go.Proofs.YtfgldglelijekaaDoor
