/-
  Pings: the document's Answer.
-/
import Derived.Test.YtngnjlidfhenkaaPng11
namespace Go.Proofs.Ytngnjlidfhenkaa
set_option linter.unusedSimpArgs false
set_option linter.unusedVariables false
set_option linter.unusedSectionVars false
open Go.ChangeShapes Go.WideShapes Go.ChangeAt Go.RowKit Go.Deep Go.ChangeMaps

theorem bv_at {B : Nat} {w : World} {v : Value} {ms : List Bv} (h : RowB B w v ms) : ∃ A cc, v = .slice A ms.length cc ∧ ms.length ≤ cc ∧ ∀ q (hq : q < ms.length), ∃ b off, A = some ⟨b, off, none⟩ ∧ b < w.heap.size ∧ w.cell? ⟨b, off + q, none⟩ = some (.slice ms[q].a ms[q].l.length ms[q].cap) ∧ SlR w w.heap.size 1 (fun x cs => cs = Bv.cells x) A ms := by
  obtain ⟨A, cc, hv, hsl⟩ := h.row.read bvC_len
  obtain ⟨A', cc', hv', hcc⟩ := h.row.cap
  have he : cc = cc' := by rw [hv] at hv'; injection hv'
  refine ⟨A, cc, hv, by rw [he]; exact hcc, fun q hq => ?_⟩
  obtain ⟨b, off, cs, hA, hb, rfl, hc⟩ := hsl q hq
  have := hc 0 _ rfl
  rw [Nat.mul_one, Nat.add_zero] at this
  exact ⟨b, off, hA, hb, this, hsl⟩
theorem erase_at (P : List (List UInt8)) (k : List UInt8) : ∀ (q : Nat) (hq : q < P.length), P[q] = k → k ∉ P.take q → P.erase k = P.take q ++ P.drop (q + 1) := by
  induction P with
  | nil => intro q hq; simp at hq
  | cons x r ih =>
    intro q hq he hn
    cases q with
    | zero =>
      simp only [List.getElem_cons_zero] at he
      subst he
      simp
    | succ q =>
      simp only [List.take_succ_cons, List.mem_cons, not_or] at hn
      rw [List.erase_cons_tail (by simpa using fun e => hn.1 e.symm)]
      rw [ih q (by simpa using hq) (by simpa using he) hn.2]
      simp
def AnsPost (B : Nat) (P : List (List UInt8)) (k : List UInt8) (w : World) (e : Ending) (w' : World) : Prop := ∃ v' ms', e = .returned (.tuple #[v', .bool (decide (k ∈ P))]) ∧ RowB B w' v' ms' ∧ ms'.map Bv.l = P.erase k ∧ Below w.heap.size w w'
set_option maxHeartbeats 8000000 in
set_option maxRecDepth 100000 in
theorem ref36_Answer (B : Nat) (v : Value) (ms : List Bv) (a : Option Addr) (cap : Nat) (k : List UInt8) (hml : ms.length ≤ 100000) (hk : k.length ≤ 100000) (hel : ∀ x ∈ ms, x.l.length ≤ 100000) (w : World) (hB : B ≤ w.heap.size) (hR : RowB B w v ms) (hS : SlY w w.heap.size a k) :
    Calls Try.prog 8 #[v, .slice a k.length cap] w (AnsPost B (ms.map Bv.l) k w) := by
  obtain ⟨A, cc, rfl, hcc, hat⟩ := bv_at hR
  have HR := Lib.hid hR
  have HS := Lib.hid hS
  have HAT := Lib.hid hat
  have HEL := Lib.hid hel
  clear hR hS hat hel
  go_enter Try.func8, Try.ntmps8
  go_wp2_with fail
  go_loopg [6] ms.length (fun g i wr => ∃ q : Nat, q + g = ms.length ∧ i = .int .i64 q ∧ Hid (k ∉ (ms.map Bv.l).take q) ∧ ∃ j, wr = w.more j)
  case atStart => exact ⟨0, by omega, rfl, by show _ ∉ _; simp, _, more_self _⟩
  case round =>
    obtain ⟨q, hqg, rfl, HU, j, rfl⟩ := hrel
    have HK := Lib.hid hqg
    clear hqg
    by_cases hlt : q < ms.length
    · obtain ⟨b, off, rfl, hb, c0, hrow⟩ := HAT.out q hlt
      have HROW := Lib.hid hrow
      clear hrow
      have hx := HR.out.els ms[q] (List.getElem_mem hlt)
      have hbm : Below w.heap.size w (w.more j) := (Below.refl _ _).moreS j
      have HSA := Lib.hid (ref01_Same ms[q].a a ms[q].l k ms[q].cap cap (HEL.out _ (List.getElem_mem hlt)) hk (w.more j) (hx.1.keep hbm) (HS.out.keep hbm))
      have hq2 : q < (ms.map Bv.l).length := by simpa using hlt
      have hge : (ms.map Bv.l)[q] = ms[q].l := by simp
      have HE : Hid (ms[q].l = k → (ms.map Bv.l).erase k = (ms.map Bv.l).take q ++ (ms.map Bv.l).drop (q + 1) ∧ k ∈ ms.map Bv.l) := fun h => ⟨erase_at _ k q hq2 (hge.trans h) HU.out, by rw [← h, ← hge]; exact List.getElem_mem hq2⟩
      have HN : Hid (ms[q].l ≠ k → k ∉ (ms.map Bv.l).take (q + 1)) := fun h => by
        rw [List.take_succ_eq_append_getElem hq2, hge]
        simp only [List.mem_append, List.mem_singleton, not_or]
        exact ⟨HU.out, fun e => h e.symm⟩
      have hlt' : (q : Int) < ms.length := by omega
      generalize hz : ms[q] = z at c0 HSA HE HN
      clear hx hbm hge hz HU
      cases hr : decide (z.l = k)
      · rw [hr] at HSA
        have HU2 := Lib.hid (HN.out (of_decide_eq_false hr))
        clear HE HN hr
        go_wp2_with fail
        refine HSA.out.mono ?_
        rintro e w' ⟨rfl, j2, rfl⟩
        go_wp2_with fail
        go_roundg (ms.length - (q + 1))
        case measure => have := HK.out; omega
        case rel => exact ⟨q + 1, by have := HK.out; omega, by go_num, HU2, Below.junk (by repeat (first | (with_reducible exact Below.refl _ _) | (with_reducible refine Below.allocS ?_ _) | (with_reducible refine Below.moreS ?_ _) | (with_reducible refine Below.drew ?_) | (with_reducible refine below_drewN ?_ _)))⟩
      · rw [hr] at HSA
        have HU2 := Lib.hid (HE.out (of_decide_eq_true hr))
        have i1 : (q : Int) + 1 ≤ ms.length := by omega
        have i2 : (0 : Int) ≤ (q : Int) + 1 := by omega
        have i3 : (q : Int) ≤ ms.length := by omega
        have i4 : (ms.length : Int) ≤ cc := by omega
        have n1 : q ≤ cc := by omega
        have n2 : q + 1 ≤ cc := by omega
        have n3 : q + 1 ≤ ms.length := by omega
        have hwq : IntKind.i64.wrap ((q : Int) + 1) = (q : Int) + 1 := IntWalk.i64_in _ (by omega)
        have htn : ((q : Int) + 1).toNat = q + 1 := by omega
        have HCC := Lib.hid hcc
        clear HE HN hr
        go_wp2_with fail
        refine HSA.out.mono ?_
        rintro e w' ⟨rfl, j2, rfl⟩
        go_wp2_with fail
        by_cases hcq : cc = q + 1
        · subst hcq
          have i5 : (q : Int) ≤ (q : Int) + 1 := by omega
          have i6 : (ms.length : Int) ≤ (q : Int) + 1 := by omega
          obtain ⟨w1, hw1⟩ : ∃ x, x = (w.more ⟨j.heap ++ j2.heap, j2.drawn⟩).drew := ⟨_, rfl⟩
          have hb1 : Below w.heap.size w w1 := by rw [hw1]; exact (by repeat (first | (with_reducible exact Below.refl _ _) | (with_reducible refine Below.allocS ?_ _) | (with_reducible refine Below.moreS ?_ _) | (with_reducible refine Below.drew ?_) | (with_reducible refine below_drewN ?_ _)))
          have HB1 := Lib.hid hb1
          clear hb1
          refine gt_start (by kernel_rfl) ?_
          rw [← hw1]
          clear hw1
          refine gt_take 1 (v := ?_) rfl (by kernel_rfl) (by kernel_rfl) (by kernel_rfl) (fun _ _ _ h => h) (Or.inl ⟨by first | kernel_rfl | rfl, ?_⟩) ?_
          rotate_left
          · intro wS hSw; clear hSw; go_simp; try with_reducible rfl
          try simp only [Act.put, List.getElem_toArray, List.getElem_cons_succ, List.getElem_cons_zero, List.setIfInBounds_toArray, List.set_cons_zero, List.set_cons_succ]
          refine gt_take 2 (v := ?_) rfl (by kernel_rfl) (by kernel_rfl) (by kernel_rfl) (fun _ _ _ h => h) (Or.inl ⟨by first | kernel_rfl | rfl, ?_⟩) ?_
          rotate_left
          · intro wS hSw; clear hSw; go_simp; try with_reducible rfl
          try simp only [Act.put, List.getElem_toArray, List.getElem_cons_succ, List.getElem_cons_zero, List.setIfInBounds_toArray, List.set_cons_zero, List.set_cons_succ]
          refine gt_take 3 (v := ?_) rfl (by kernel_rfl) (by kernel_rfl) (by kernel_rfl) (fun _ _ _ h => h) (Or.inl ⟨by first | kernel_rfl | rfl, ?_⟩) ?_
          rotate_left
          · intro wS hSw; clear hSw; go_simp; try with_reducible rfl
          try simp only [Act.put, List.getElem_toArray, List.getElem_cons_succ, List.getElem_cons_zero, List.setIfInBounds_toArray, List.set_cons_zero, List.set_cons_succ]
          refine gt_take 5 (v := ?_) rfl (by kernel_rfl) (by kernel_rfl) (by kernel_rfl) (fun _ _ _ h => h) (Or.inl ⟨by first | kernel_rfl | rfl, ?_⟩) ?_
          rotate_left
          · intro wS hSw; clear hSw; go_simp; try with_reducible rfl
          try simp only [Act.put, List.getElem_toArray, List.getElem_cons_succ, List.getElem_cons_zero, List.setIfInBounds_toArray, List.set_cons_zero, List.set_cons_succ]
          refine gt_take 6 (v := ?_) rfl (by kernel_rfl) (by kernel_rfl) (by kernel_rfl) (fun _ _ _ h => h) (Or.inl ⟨by first | kernel_rfl | rfl, ?_⟩) ?_
          rotate_left
          · intro wS hSw; clear hSw; go_simp; try with_reducible rfl
          try simp only [Act.put, List.getElem_toArray, List.getElem_cons_succ, List.getElem_cons_zero, List.setIfInBounds_toArray, List.set_cons_zero, List.set_cons_succ]
          refine gt_take 7 (v := ?_) rfl (by kernel_rfl) (by kernel_rfl) (by kernel_rfl) (fun _ _ _ h => h) (Or.inl ⟨by first | kernel_rfl | rfl, ?_⟩) ?_
          rotate_left
          · intro wS hSw; clear hSw; go_simp; try with_reducible rfl
          try simp only [Act.put, List.getElem_toArray, List.getElem_cons_succ, List.getElem_cons_zero, List.setIfInBounds_toArray, List.set_cons_zero, List.set_cons_succ]
          refine gt_take 8 (v := ?_) rfl (by kernel_rfl) (by kernel_rfl) (by kernel_rfl) (fun _ _ _ h => h) (Or.inl ⟨by first | kernel_rfl | rfl, ?_⟩) ?_
          rotate_left
          · intro wS hSw; clear hSw; go_simp; try with_reducible rfl
          try simp only [Act.put, List.getElem_toArray, List.getElem_cons_succ, List.getElem_cons_zero, List.setIfInBounds_toArray, List.set_cons_zero, List.set_cons_succ]
          have hba : Below w.heap.size w (w1.alloc (.cells #[] 28)) := (HB1.out.alloc HB1.out.size _)
          have HO := Lib.hid (OwnC.empty (e := 28) (size := 1) (c := Bv.cells) w1)
          have hrw := (HROW.out.below hba (Nat.le_refl _)).mono (C := (w1.alloc (.cells #[] 28)).heap.size) hba.size (fun _ _ _ h => h)
          have HT1 := Lib.hid (hrw.take q)
          have HBA := Lib.hid hba
          clear hba hrw
          refine gt_step 0 (by kernel_rfl) rfl (fun K hK => ?_)
          go_simp
          go_wp2_with fail
          refine hK.out _ _ ?_
          clear hK K
          try simp only [Act.put, List.getElem_toArray, List.getElem_cons_succ, List.getElem_cons_zero, List.setIfInBounds_toArray, List.set_cons_zero, List.set_cons_succ]
          refine gt_step 4 (by kernel_rfl) rfl (fun K hK => ?_)
          refine step_rows st_bb bvC_len bvC_one (by omega) (.tmp 19) (.tmp 22) rfl rfl (v := .slice (some ⟨w1.heap.size, 0, none⟩) 0 0) rfl HO.out (m := ms.take q) (n := q) (cc := q + 1) rfl (by rw [List.length_take]; omega) HT1.out (by simp; omega) (by simp) ?_
          intro v1 w2 hown1 hg1
          have hb2 : Below w1.heap.size w1 w2 := own_grown ((Below.refl w1.heap.size w1).alloc (Nat.le_refl _) _) HO.out hg1 (Nat.le_refl _) (by simp)
          have HB2 := Lib.hid (HB1.out.trans (hb2.mono HB1.out.size))
          have HW2 := Lib.hid hb2
          have HO1 := Lib.hid hown1
          clear hown1 hg1 hb2 HO HT1
          refine hK.out _ _ ?_
          clear hK K
          try simp only [Act.put, List.getElem_toArray, List.getElem_cons_succ, List.getElem_cons_zero, List.setIfInBounds_toArray, List.set_cons_zero, List.set_cons_succ]
          have hrw := (HROW.out.below HB2.out (Nat.le_refl _)).mono (C := w2.heap.size) HB2.out.size (fun _ _ _ h => h)
          have HT2 : Hid (SlR w2 w2.heap.size 1 (fun x cs => cs = Bv.cells x) (some ⟨b, off, none⟩) (ms.drop (q + 1))) := by
            have h9 := hrw.drop_if (cap := q + 1) (q + 1) HCC.out
            have e9 : (⟨b, off, none⟩ : Addr).add ((q + 1) * 1) = ⟨b, off + (q + 1), none⟩ := by unfold Addr.add; simp
            rw [Option.map_some, e9, if_pos rfl] at h9
            exact h9
          clear hrw
          refine gt_step 9 (by kernel_rfl) rfl (fun K hK => ?_)
          refine step_rows st_bb bvC_len bvC_one (by omega) (.tmp 23) (.tmp 27) rfl rfl (v := v1) rfl HO1.out (m := ms.drop (q + 1)) rfl (by rw [List.length_drop]; omega) HT2.out (by simp; omega) HW2.out.size ?_
          intro v2 w3 hown2 hg2
          have hb3 : Below w.heap.size w w3 := own_grown HB2.out HO1.out hg2 HB1.out.size HB2.out.size
          have HB3 := Lib.hid hb3
          have HF : Hid (RowB B w3 v2 (ms.take q ++ ms.drop (q + 1))) := by
            refine ⟨OwnC.base (by simpa using hown2) (Nat.le_trans hB HB1.out.size), fun x hx => ?_⟩
            refine HR.out.els.below HB3.out x ?_
            rcases List.mem_append.1 hx with hx | hx
            · exact List.mem_of_mem_take hx
            · exact List.mem_of_mem_drop hx
          clear hown2 hg2 hb3 HO1 HT2
          refine hK.out _ _ ?_
          clear hK K
          try simp only [Act.put, List.getElem_toArray, List.getElem_cons_succ, List.getElem_cons_zero, List.setIfInBounds_toArray, List.set_cons_zero, List.set_cons_succ]
          refine gt_step 10 (by kernel_rfl) rfl (fun K hK => ?_)
          go_simp
          go_wp2_with fail
          refine hK.out _ _ ?_
          clear hK K
          try simp only [Act.put, List.getElem_toArray, List.getElem_cons_succ, List.getElem_cons_zero, List.setIfInBounds_toArray, List.set_cons_zero, List.set_cons_succ]
          refine gt_step 11 (by kernel_rfl) rfl (fun K hK => ?_)
          go_simp
          go_wp2_with fail
          refine hK.out _ _ ?_
          clear hK K
          try simp only [Act.put, List.getElem_toArray, List.getElem_cons_succ, List.getElem_cons_zero, List.setIfInBounds_toArray, List.set_cons_zero, List.set_cons_succ]
          refine wpAnyH_done (by kernel_rfl) ?_ _
          go_wp2_with fail
          go_ret2
          exact ⟨_, _, by rw [decide_eq_true HU2.out.2]; rfl, HF.out, by rw [HU2.out.1]; simp [List.map_take, List.map_drop], HB3.out⟩
        · skip
          obtain ⟨w1, hw1⟩ : ∃ x, x = (w.more ⟨j.heap ++ j2.heap, j2.drawn⟩).drew := ⟨_, rfl⟩
          have hb1 : Below w.heap.size w w1 := by rw [hw1]; exact (by repeat (first | (with_reducible exact Below.refl _ _) | (with_reducible refine Below.allocS ?_ _) | (with_reducible refine Below.moreS ?_ _) | (with_reducible refine Below.drew ?_) | (with_reducible refine below_drewN ?_ _)))
          have HB1 := Lib.hid hb1
          clear hb1
          refine gt_start (by kernel_rfl) ?_
          rw [← hw1]
          clear hw1
          refine gt_take 1 (v := ?_) rfl (by kernel_rfl) (by kernel_rfl) (by kernel_rfl) (fun _ _ _ h => h) (Or.inl ⟨by first | kernel_rfl | rfl, ?_⟩) ?_
          rotate_left
          · intro wS hSw; clear hSw; go_simp; try with_reducible rfl
          try simp only [Act.put, List.getElem_toArray, List.getElem_cons_succ, List.getElem_cons_zero, List.setIfInBounds_toArray, List.set_cons_zero, List.set_cons_succ]
          refine gt_take 2 (v := ?_) rfl (by kernel_rfl) (by kernel_rfl) (by kernel_rfl) (fun _ _ _ h => h) (Or.inl ⟨by first | kernel_rfl | rfl, ?_⟩) ?_
          rotate_left
          · intro wS hSw; clear hSw; go_simp; try with_reducible rfl
          try simp only [Act.put, List.getElem_toArray, List.getElem_cons_succ, List.getElem_cons_zero, List.setIfInBounds_toArray, List.set_cons_zero, List.set_cons_succ]
          refine gt_take 3 (v := ?_) rfl (by kernel_rfl) (by kernel_rfl) (by kernel_rfl) (fun _ _ _ h => h) (Or.inl ⟨by first | kernel_rfl | rfl, ?_⟩) ?_
          rotate_left
          · intro wS hSw; clear hSw; go_simp; try with_reducible rfl
          try simp only [Act.put, List.getElem_toArray, List.getElem_cons_succ, List.getElem_cons_zero, List.setIfInBounds_toArray, List.set_cons_zero, List.set_cons_succ]
          refine gt_take 5 (v := ?_) rfl (by kernel_rfl) (by kernel_rfl) (by kernel_rfl) (fun _ _ _ h => h) (Or.inl ⟨by first | kernel_rfl | rfl, ?_⟩) ?_
          rotate_left
          · intro wS hSw; clear hSw; go_simp; try with_reducible rfl
          try simp only [Act.put, List.getElem_toArray, List.getElem_cons_succ, List.getElem_cons_zero, List.setIfInBounds_toArray, List.set_cons_zero, List.set_cons_succ]
          refine gt_take 6 (v := ?_) rfl (by kernel_rfl) (by kernel_rfl) (by kernel_rfl) (fun _ _ _ h => h) (Or.inl ⟨by first | kernel_rfl | rfl, ?_⟩) ?_
          rotate_left
          · intro wS hSw; clear hSw; go_simp; try with_reducible rfl
          try simp only [Act.put, List.getElem_toArray, List.getElem_cons_succ, List.getElem_cons_zero, List.setIfInBounds_toArray, List.set_cons_zero, List.set_cons_succ]
          refine gt_take 7 (v := ?_) rfl (by kernel_rfl) (by kernel_rfl) (by kernel_rfl) (fun _ _ _ h => h) (Or.inl ⟨by first | kernel_rfl | rfl, ?_⟩) ?_
          rotate_left
          · intro wS hSw; clear hSw; go_simp; try with_reducible rfl
          try simp only [Act.put, List.getElem_toArray, List.getElem_cons_succ, List.getElem_cons_zero, List.setIfInBounds_toArray, List.set_cons_zero, List.set_cons_succ]
          refine gt_take 8 (v := ?_) rfl (by kernel_rfl) (by kernel_rfl) (by kernel_rfl) (fun _ _ _ h => h) (Or.inl ⟨by first | kernel_rfl | rfl, ?_⟩) ?_
          rotate_left
          · intro wS hSw; clear hSw; go_simp; try with_reducible rfl
          try simp only [Act.put, List.getElem_toArray, List.getElem_cons_succ, List.getElem_cons_zero, List.setIfInBounds_toArray, List.set_cons_zero, List.set_cons_succ]
          have hba : Below w.heap.size w (w1.alloc (.cells #[] 28)) := (HB1.out.alloc HB1.out.size _)
          have HO := Lib.hid (OwnC.empty (e := 28) (size := 1) (c := Bv.cells) w1)
          have hrw := (HROW.out.below hba (Nat.le_refl _)).mono (C := (w1.alloc (.cells #[] 28)).heap.size) hba.size (fun _ _ _ h => h)
          have HT1 := Lib.hid (hrw.take q)
          have HBA := Lib.hid hba
          clear hba hrw
          refine gt_step 0 (by kernel_rfl) rfl (fun K hK => ?_)
          go_simp
          go_wp2_with fail
          refine hK.out _ _ ?_
          clear hK K
          try simp only [Act.put, List.getElem_toArray, List.getElem_cons_succ, List.getElem_cons_zero, List.setIfInBounds_toArray, List.set_cons_zero, List.set_cons_succ]
          refine gt_step 4 (by kernel_rfl) rfl (fun K hK => ?_)
          refine step_rows st_bb bvC_len bvC_one (by omega) (.tmp 19) (.tmp 22) rfl rfl (v := .slice (some ⟨w1.heap.size, 0, none⟩) 0 0) rfl HO.out (m := ms.take q) (n := q) (cc := cc) rfl (by rw [List.length_take]; omega) HT1.out (by simp; omega) (by simp) ?_
          intro v1 w2 hown1 hg1
          have hb2 : Below w1.heap.size w1 w2 := own_grown ((Below.refl w1.heap.size w1).alloc (Nat.le_refl _) _) HO.out hg1 (Nat.le_refl _) (by simp)
          have HB2 := Lib.hid (HB1.out.trans (hb2.mono HB1.out.size))
          have HW2 := Lib.hid hb2
          have HO1 := Lib.hid hown1
          clear hown1 hg1 hb2 HO HT1
          refine hK.out _ _ ?_
          clear hK K
          try simp only [Act.put, List.getElem_toArray, List.getElem_cons_succ, List.getElem_cons_zero, List.setIfInBounds_toArray, List.set_cons_zero, List.set_cons_succ]
          have hrw := (HROW.out.below HB2.out (Nat.le_refl _)).mono (C := w2.heap.size) HB2.out.size (fun _ _ _ h => h)
          have HT2 : Hid (SlR w2 w2.heap.size 1 (fun x cs => cs = Bv.cells x) (some ⟨b, off + (q + 1), none⟩) (ms.drop (q + 1))) := by
            have h9 := hrw.drop_if (cap := cc) (q + 1) HCC.out
            have e9 : (⟨b, off, none⟩ : Addr).add ((q + 1) * 1) = ⟨b, off + (q + 1), none⟩ := by unfold Addr.add; simp
            rw [Option.map_some, e9, if_neg hcq] at h9
            exact h9
          clear hrw
          refine gt_step 9 (by kernel_rfl) rfl (fun K hK => ?_)
          refine step_rows st_bb bvC_len bvC_one (by omega) (.tmp 23) (.tmp 27) rfl rfl (v := v1) rfl HO1.out (m := ms.drop (q + 1)) rfl (by rw [List.length_drop]) HT2.out (by simp; omega) HW2.out.size ?_
          intro v2 w3 hown2 hg2
          have hb3 : Below w.heap.size w w3 := own_grown HB2.out HO1.out hg2 HB1.out.size HB2.out.size
          have HB3 := Lib.hid hb3
          have HF : Hid (RowB B w3 v2 (ms.take q ++ ms.drop (q + 1))) := by
            refine ⟨OwnC.base (by simpa using hown2) (Nat.le_trans hB HB1.out.size), fun x hx => ?_⟩
            refine HR.out.els.below HB3.out x ?_
            rcases List.mem_append.1 hx with hx | hx
            · exact List.mem_of_mem_take hx
            · exact List.mem_of_mem_drop hx
          clear hown2 hg2 hb3 HO1 HT2
          refine hK.out _ _ ?_
          clear hK K
          try simp only [Act.put, List.getElem_toArray, List.getElem_cons_succ, List.getElem_cons_zero, List.setIfInBounds_toArray, List.set_cons_zero, List.set_cons_succ]
          refine gt_step 10 (by kernel_rfl) rfl (fun K hK => ?_)
          go_simp
          go_wp2_with fail
          refine hK.out _ _ ?_
          clear hK K
          try simp only [Act.put, List.getElem_toArray, List.getElem_cons_succ, List.getElem_cons_zero, List.setIfInBounds_toArray, List.set_cons_zero, List.set_cons_succ]
          refine gt_step 11 (by kernel_rfl) rfl (fun K hK => ?_)
          go_simp
          go_wp2_with fail
          refine hK.out _ _ ?_
          clear hK K
          try simp only [Act.put, List.getElem_toArray, List.getElem_cons_succ, List.getElem_cons_zero, List.setIfInBounds_toArray, List.set_cons_zero, List.set_cons_succ]
          refine wpAnyH_done (by kernel_rfl) ?_ _
          go_wp2_with fail
          go_ret2
          exact ⟨_, _, by rw [decide_eq_true HU2.out.2]; rfl, HF.out, by rw [HU2.out.1]; simp [List.map_take, List.map_drop], HB3.out⟩
    · have hU : k ∉ ms.map Bv.l := by have := HU.out; rwa [List.take_of_length_le (by simp; omega)] at this
      have HU2 := Lib.hid hU
      have hlt' : ¬ (q : Int) < ms.length := by omega
      clear HU hU
      go_wp2_with fail
      go_ret2
      exact ⟨_, ms, by rw [decide_eq_false HU2.out]; rfl, HR.out.below ((Below.refl _ _).moreS j), (List.erase_of_not_mem HU2.out).symm, (Below.refl _ _).moreS j⟩
end Go.Proofs.Ytngnjlidfhenkaa
