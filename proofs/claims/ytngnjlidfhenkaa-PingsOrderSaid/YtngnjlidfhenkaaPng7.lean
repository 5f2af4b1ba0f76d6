/-
  Pings: one more, where there is room.
-/
import Derived.Test.YtngnjlidfhenkaaPng6
namespace Go.Proofs.Ytngnjlidfhenkaa
set_option linter.unusedSimpArgs false
set_option linter.unusedVariables false
set_option linter.unusedSectionVars false
open Go.ChangeShapes Go.WideShapes Go.ChangeAt Go.RowKit Go.Deep Go.ChangeMaps

theorem Gm.of_below {mb : Nat} {w w' : World} (h : Below w.heap.size w w') : Gm mb w w' := ⟨h.os, h.tape, h.output, h.size, fun k hk _ => h.block k hk⟩
theorem turned_side {w w1 w2 : World} {b : Nat} (h1 : w.mapTurned w1 b) (h2 : w.mapTurned w2 b) : w1.grownBy w2 (some b) := by
  obtain ⟨es, c, es1, c1, hb, rfl⟩ := h1
  obtain ⟨_, _, es2, c2, _, rfl⟩ := h2
  exact ⟨rfl, rfl, rfl, by simp [setBlock], fun k _ hk => (heap_setBlock_other hb _ (fun e => hk (by rw [e]))).trans (heap_setBlock_other hb _ (fun e => hk (by rw [e]))).symm⟩
theorem turned_size {w w1 : World} {b : Nat} (h1 : w.mapTurned w1 b) : w1.heap.size = w.heap.size := by
  obtain ⟨es, c, es1, c1, hb, rfl⟩ := h1
  simp [setBlock]
theorem count_snoc (l : List (List UInt8)) (k k' : List UInt8) : upd (fun q => (l.count q : Int)) k ((l.count k : Int) + 1) k' = ((l ++ [k]).count k' : Int) := by
  unfold upd
  rw [List.count_append]
  by_cases h : k' = k
  · subst h; simp
  · rw [if_neg h, List.count_singleton, if_neg (by intro e; exact h (eq_of_beq e).symm)]; simp
theorem wf_small {c : Int} (h0 : 0 ≤ c) (h1 : c ≤ 2000000) : (Lit.int .i64 c).wf = true := by
  simp [Lit.wf, IntKind.min, IntKind.max, IntKind.signed, IntKind.bits]
  omega
/-- What Send leaves behind where there is room. -/
theorem send_end {w w4 : World} {b mb N : Nat} {most : Int} {l : List (List UInt8)} {k : List UInt8} (hne : b ≠ mb) (hb : Blk w4 b PsT #[.int .i64 most, .int .i64 (l.length : Int), .map (some mb)])
    (hm : PgMap w4 mb (N + 1) (upd (fun q => (l.count q : Int)) k ((l.count k : Int) + 1))) (hw : Beside b mb w w4) :
    Pg (w4.setCell ⟨b, 1, none⟩ (.int .i64 ((l.length : Int) + 1))) b mb most (N + 1) (l ++ [k]) ∧ Beside b mb w (w4.setCell ⟨b, 1, none⟩ (.int .i64 ((l.length : Int) + 1))) := by
  refine ⟨⟨?_, ?_, hne⟩, hw.trans (Beside.of_set w4 1 _)⟩
  · have := hb.set_ 1 (.int .i64 ((l.length : Int) + 1))
    rw [List.length_append]
    exact this
  · exact (hm.block (Below.heap_setCell w4 ⟨b, 1, none⟩ _ mb (Ne.symm hne))).congr fun k' _ => count_snoc l k k'

set_option maxHeartbeats 8000000 in
set_option maxRecDepth 100000 in
theorem pings_Send8 (b mb N : Nat) (most : Int) (l : List (List UInt8)) (a : Option Addr) (cap : Nat) (k : List UInt8) (hk : k.length = 8) (hroom : (l.length : Int) < most) (hN : N < 1000000) (hl : l.length < 1000000) (w : World) (hP : Pg w b mb most N l) (hS : SlY w w.heap.size a k) :
    Calls Try.prog 12 #[.pointer (some ⟨b, 0, none⟩), .slice a 8 cap] w fun e w' => e = .returned (.int .i64 0) ∧ Pg w' b mb most (N + 1) (l ++ [k]) ∧ Beside b mb w w' := by
  have HP := Lib.hid hP
  have HS := Lib.hid hS
  obtain ⟨c0, c1, c2, _, _, _, hlt⟩ := hP.blk.three
  have hroom' : ¬ most ≤ (l.length : Int) := by omega
  clear hP hS
  go_enter Try.func12, Try.ntmps12
  go_wp2_with fail
  refine wp_region_more (by kernel_rfl) (by kernel_rfl) ?_
  repeat (go_big_quiet_step (first | fail))
  refine wpQuiet_nil ?_
  intro w' hw'
  obtain ⟨j, rfl⟩ := hw'
  go_wp2_with fail
  obtain ⟨w1, hw1⟩ : ∃ x, x = (w.more j).drew := ⟨_, rfl⟩
  have hb1 : Below w.heap.size w w1 := by rw [hw1]; exact (by repeat (first | (with_reducible exact Below.refl _ _) | (with_reducible refine Below.allocS ?_ _) | (with_reducible refine Below.moreS ?_ _) | (with_reducible refine Below.drew ?_) | (with_reducible refine below_drewN ?_ _)))
  have hP1 := HP.out.below hb1
  have HK := Lib.hid (pings_key a cap k hk w1 (HS.out.keep hb1))
  have HM := Lib.hid hP1.map
  have HBL := Lib.hid hP1.blk
  have HB := Lib.hid hb1
  have HNE := Lib.hid hP1.ne
  clear c0 c1 c2 hlt hb1 hP1
  refine gm_start mb (by kernel_rfl) ?_
  rw [← hw1]
  clear hw1
  obtain ⟨d0, d1, d2, _, _, _, hks⟩ := HBL.out.three
  have hne := HNE.out
  refine gm_take 0 (v := ?_) rfl (by kernel_rfl) (by kernel_rfl) (by kernel_rfl) (fun _ _ _ h => h) (Or.inl ⟨by first | kernel_rfl | rfl, ?_⟩) ?_
  rotate_left
  · intro wS hSw; have hSc := hSw.cell; clear hSw; go_simp; try with_reducible rfl
  try simp only [Act.put, List.getElem_toArray, List.getElem_cons_succ, List.getElem_cons_zero, List.setIfInBounds_toArray, List.set_cons_zero, List.set_cons_succ]
  refine gm_take 1 (v := ?_) rfl (by kernel_rfl) (by kernel_rfl) (by kernel_rfl) (fun _ _ _ h => h) (Or.inl ⟨by first | kernel_rfl | rfl, ?_⟩) ?_
  rotate_left
  · intro wS hSw; have hSc := hSw.cell; clear hSw; go_simp; try with_reducible rfl
  try simp only [Act.put, List.getElem_toArray, List.getElem_cons_succ, List.getElem_cons_zero, List.setIfInBounds_toArray, List.set_cons_zero, List.set_cons_succ]
  refine gm_take 2 (v := ?_) rfl (by kernel_rfl) (by kernel_rfl) (by kernel_rfl) (fun _ _ _ h => h) (Or.inl ⟨by first | kernel_rfl | rfl, ?_⟩) ?_
  rotate_left
  · intro wS hSw; have hSc := hSw.cell; clear hSw; go_simp; try with_reducible rfl
  try simp only [Act.put, List.getElem_toArray, List.getElem_cons_succ, List.getElem_cons_zero, List.setIfInBounds_toArray, List.set_cons_zero, List.set_cons_succ]
  refine gm_take 3 (v := ?_) rfl (by kernel_rfl) (by kernel_rfl) (by kernel_rfl) (fun _ _ _ h => h) (Or.inl ⟨by first | kernel_rfl | rfl, ?_⟩) ?_
  rotate_left
  · intro wS hSw; have hSc := hSw.cell; clear hSw; go_simp; try with_reducible rfl
  try simp only [Act.put, List.getElem_toArray, List.getElem_cons_succ, List.getElem_cons_zero, List.setIfInBounds_toArray, List.set_cons_zero, List.set_cons_succ]
  refine gm_take 4 (v := ?_) rfl (by kernel_rfl) (by kernel_rfl) (by kernel_rfl) (fun _ _ _ h => h) (Or.inl ⟨by first | kernel_rfl | rfl, ?_⟩) ?_
  rotate_left
  · intro wS hSw; have hSc := hSw.cell; clear hSw; go_simp; try with_reducible rfl
  try simp only [Act.put, List.getElem_toArray, List.getElem_cons_succ, List.getElem_cons_zero, List.setIfInBounds_toArray, List.set_cons_zero, List.set_cons_succ]
  clear d0 d1 d2 hks hne
  refine gm_step 5 (by kernel_rfl) rfl (fun K hK => ?_)
  go_simp
  go_wp2_with fail
  refine HK.out.mono ?_
  rintro e w2 ⟨rfl, j2, hj2⟩
  have hb2 : Below w1.heap.size w1 w2 := by rw [hj2]; exact (Below.refl _ _).moreS j2
  have HB2 := Lib.hid (HB.out.trans (hb2.mono HB.out.size))
  have HM2 := Lib.hid (HM.out.below hb2)
  have HBL2 := Lib.hid (HBL.out.below hb2 HBL.out.lt)
  have HH := Lib.hid hb2
  clear hb2 hj2 HM HBL HB
  go_wp2_with fail
  refine hK.out _ _ (show Gm _ _ _ from Gm.of_below HH.out) ?_
  clear hK K HH
  try simp only [Act.put, List.getElem_toArray, List.getElem_cons_succ, List.getElem_cons_zero, List.setIfInBounds_toArray, List.set_cons_zero, List.set_cons_succ]
  obtain ⟨v0, st, w3, hr1, hm3, ht3, hst⟩ := HM2.out.entry hk hN
  have hcl : (l.count k : Int) ≤ l.length := by have := List.count_le_length (l := l) (a := k); omega
  obtain ⟨w4, hr2, hm4, ht4⟩ := hst ((l.count k : Int) + 1) (wf_small (by omega) (by omega))
  have HL2 := Lib.hid (HM2.out.look hk)
  have HL3 := Lib.hid (hm3.look hk)
  have HR1 := Lib.hid hr1
  have HT3 := Lib.hid ht3
  have HT4 := Lib.hid ht4
  have HR2 := Lib.hid hr2
  have HE := fun (most : Int) h => send_end (w := w) (most := most) HNE.out h hm4 ((Beside.of_below HB2.out).trans (Beside.of_grown ht4.grown))
  have HE := Lib.hid (HE most (HBL2.out.grown ht4.grown (by simpa using HNE.out)))
  have HBL4 := Lib.hid (HBL2.out.grown ht4.grown (by simpa using HNE.out))
  have hwc : IntKind.i64.wrap ((l.count k : Int) + 1) = (l.count k : Int) + 1 := IntWalk.i64_in _ (by omega)
  have hwl : IntKind.i64.wrap ((l.length : Int) + 1) = (l.length : Int) + 1 := IntWalk.i64_in _ (by omega)
  generalize (l.count k : Int) = c at HL2 HL3 HR2 hwc
  clear hr1 hm3 ht3 hst hr2 hm4 ht4 hcl HM2 HBL2
  refine gm_two 6 8 (by kernel_rfl) rfl rfl (fun K hK => ?_) (fun K hK => ?_)
  · skip
    refine step_look (t := PmT) (by kernel_rfl) (m := .tmp 25) (x := .tmp 27) (vm := .map (some mb)) (vx := kv k) (by kernel_rfl) (by kernel_rfl) (by kernel_rfl) HL2.out ?_
    refine hK.out _ _ (show Gm _ _ _ from Gm.refl _) ?_
    clear hK K
    try simp only [Act.put, List.getElem_toArray, List.getElem_cons_succ, List.getElem_cons_zero, List.setIfInBounds_toArray, List.set_cons_zero, List.set_cons_succ]
    refine gm_take 7 (v := ?_) rfl (by kernel_rfl) (by kernel_rfl) (by kernel_rfl) (fun _ _ _ h => h) (Or.inl ⟨by first | kernel_rfl | rfl, ?_⟩) ?_
    rotate_left
    · intro wS hSw; have hSc := hSw.cell; clear hSw; go_simp; try with_reducible rfl
    try simp only [Act.put, List.getElem_toArray, List.getElem_cons_succ, List.getElem_cons_zero, List.setIfInBounds_toArray, List.set_cons_zero, List.set_cons_succ]
    refine gm_step 8 (by kernel_rfl) rfl (fun K hK => ?_)
    refine step_entry (t := PmT) (by kernel_rfl) (m := .tmp 25) (x := .tmp 27) (vm := .map (some mb)) (vx := kv k) (by kernel_rfl) (by kernel_rfl) (by kernel_rfl) HR1.out ?_
    refine hK.out _ _ (show Gm _ _ _ from HT3.out.grown) ?_
    clear hK K
    try simp only [Act.put, List.getElem_toArray, List.getElem_cons_succ, List.getElem_cons_zero, List.setIfInBounds_toArray, List.set_cons_zero, List.set_cons_succ]
    refine gm_take 9 (v := ?_) rfl (by kernel_rfl) (by kernel_rfl) (by kernel_rfl) (fun _ _ _ h => h) (Or.inl ⟨by first | kernel_rfl | rfl, ?_⟩) ?_
    rotate_left
    · intro wS hSw; have hSc := hSw.cell; clear hSw; go_simp; try with_reducible rfl
    try simp only [Act.put, List.getElem_toArray, List.getElem_cons_succ, List.getElem_cons_zero, List.setIfInBounds_toArray, List.set_cons_zero, List.set_cons_succ]
    refine gm_step 10 (by kernel_rfl) rfl (fun K hK => ?_)
    refine step_estore (t := PmT) (by kernel_rfl) (m := .tmp 25) (s := .tmp 31) (x := .tmp 29) (vm := .map (some mb)) (vs := goInt st) (vx := .int .i64 (c + 1)) (by kernel_rfl) (by kernel_rfl) (by kernel_rfl) (by kernel_rfl) HR2.out ?_
    refine hK.out _ _ (show Gm _ _ _ from turned_side HT3.out HT4.out) ?_
    clear hK K
    try simp only [Act.put, List.getElem_toArray, List.getElem_cons_succ, List.getElem_cons_zero, List.setIfInBounds_toArray, List.set_cons_zero, List.set_cons_succ]
    refine wpAnyH_done (by kernel_rfl) ?_ _
    obtain ⟨d0, d1, d2, f0, f1, f2, hks⟩ := HBL4.out.three
    go_wp2_with fail
    go_ret
    exact ⟨rfl, HE.out.1, HE.out.2⟩
  · skip
    refine step_entry (t := PmT) (by kernel_rfl) (m := .tmp 25) (x := .tmp 27) (vm := .map (some mb)) (vx := kv k) (by kernel_rfl) (by kernel_rfl) (by kernel_rfl) HR1.out ?_
    refine hK.out _ _ (show Gm _ _ _ from HT3.out.grown) ?_
    clear hK K
    try simp only [Act.put, List.getElem_toArray, List.getElem_cons_succ, List.getElem_cons_zero, List.setIfInBounds_toArray, List.set_cons_zero, List.set_cons_succ]
    refine gm_take 9 (v := ?_) rfl (by kernel_rfl) (by kernel_rfl) (by kernel_rfl) (fun _ _ _ h => h) (Or.inl ⟨by first | kernel_rfl | rfl, ?_⟩) ?_
    rotate_left
    · intro wS hSw; have hSc := hSw.cell; clear hSw; go_simp; try with_reducible rfl
    try simp only [Act.put, List.getElem_toArray, List.getElem_cons_succ, List.getElem_cons_zero, List.setIfInBounds_toArray, List.set_cons_zero, List.set_cons_succ]
    refine gm_step 6 (by kernel_rfl) rfl (fun K hK => ?_)
    refine step_look (t := PmT) (by kernel_rfl) (m := .tmp 25) (x := .tmp 27) (vm := .map (some mb)) (vx := kv k) (by kernel_rfl) (by kernel_rfl) (by kernel_rfl) HL3.out ?_
    refine hK.out _ _ (show Gm _ _ _ from Gm.refl _) ?_
    clear hK K
    try simp only [Act.put, List.getElem_toArray, List.getElem_cons_succ, List.getElem_cons_zero, List.setIfInBounds_toArray, List.set_cons_zero, List.set_cons_succ]
    refine gm_take 7 (v := ?_) rfl (by kernel_rfl) (by kernel_rfl) (by kernel_rfl) (fun _ _ _ h => h) (Or.inl ⟨by first | kernel_rfl | rfl, ?_⟩) ?_
    rotate_left
    · intro wS hSw; have hSc := hSw.cell; clear hSw; go_simp; try with_reducible rfl
    try simp only [Act.put, List.getElem_toArray, List.getElem_cons_succ, List.getElem_cons_zero, List.setIfInBounds_toArray, List.set_cons_zero, List.set_cons_succ]
    refine gm_step 10 (by kernel_rfl) rfl (fun K hK => ?_)
    refine step_estore (t := PmT) (by kernel_rfl) (m := .tmp 25) (s := .tmp 31) (x := .tmp 29) (vm := .map (some mb)) (vs := goInt st) (vx := .int .i64 (c + 1)) (by kernel_rfl) (by kernel_rfl) (by kernel_rfl) (by kernel_rfl) HR2.out ?_
    refine hK.out _ _ (show Gm _ _ _ from turned_side HT3.out HT4.out) ?_
    clear hK K
    try simp only [Act.put, List.getElem_toArray, List.getElem_cons_succ, List.getElem_cons_zero, List.setIfInBounds_toArray, List.set_cons_zero, List.set_cons_succ]
    refine wpAnyH_done (by kernel_rfl) ?_ _
    obtain ⟨d0, d1, d2, f0, f1, f2, hks⟩ := HBL4.out.three
    go_wp2_with fail
    go_ret
    exact ⟨rfl, HE.out.1, HE.out.2⟩
end Go.Proofs.Ytngnjlidfhenkaa
