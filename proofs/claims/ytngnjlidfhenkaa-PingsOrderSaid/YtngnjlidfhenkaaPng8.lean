/-
  Pings: one answered.
-/
import Derived.Test.YtngnjlidfhenkaaPng7
namespace Go.Proofs.Ytngnjlidfhenkaa
set_option linter.unusedSimpArgs false
set_option linter.unusedVariables false
set_option linter.unusedSectionVars false
open Go.ChangeShapes Go.WideShapes Go.ChangeAt Go.RowKit Go.Deep Go.ChangeMaps

set_option maxRecDepth 100000 in
theorem pings_Answer_nil (v : Value) (w : World) : Calls Try.prog 10 #[.pointer none, v] w fun e w' => e = .returned (.bool false) ∧ ∃ j, w' = w.more j := by
  have HW : Hid (∀ W, Calls Try.prog 9 #[.pointer none, v] W fun e w' => e = .returned (.bool false) ∧ ∃ j, w' = W.more j) := pings_Waits_nil v
  go_enter Try.func10, Try.ntmps10
  go_wp2_with (go_at_call 9; (with_reducible refine (HW.out _).mono ?_); rintro e w' ⟨rfl, j, rfl⟩)
  go_ret
  exact ⟨rfl, Below.junk (by repeat (first | (with_reducible exact Below.refl _ _) | (with_reducible refine Below.allocS ?_ _) | (with_reducible refine Below.moreS ?_ _) | (with_reducible refine Below.drew ?_) | (with_reducible refine below_drewN ?_ _)))⟩
set_option maxRecDepth 100000 in
theorem pings_Answer_no (b : Nat) (v : Value) (w : World) (hW : Calls Try.prog 9 #[.pointer (some ⟨b, 0, none⟩), v] w fun e w' => e = .returned (.bool false) ∧ ∃ j, w' = w.more j) :
    Calls Try.prog 10 #[.pointer (some ⟨b, 0, none⟩), v] w fun e w' => e = .returned (.bool false) ∧ ∃ j, w' = w.more j := by
  have HW := Lib.hid hW
  clear hW
  go_enter Try.func10, Try.ntmps10
  go_wp2_with (go_at_call 9; (with_reducible refine (HW.out).mono ?_); rintro e w' ⟨rfl, j, rfl⟩)
  go_ret
  exact ⟨rfl, Below.junk (by repeat (first | (with_reducible exact Below.refl _ _) | (with_reducible refine Below.allocS ?_ _) | (with_reducible refine Below.moreS ?_ _) | (with_reducible refine Below.drew ?_) | (with_reducible refine below_drewN ?_ _)))⟩
theorem blk8 {w : World} {g : Nat} {T : TypeId} {x0 x1 x2 x3 x4 x5 x6 x7 : Value} (h : Blk w g T #[x0, x1, x2, x3, x4, x5, x6, x7]) :
    w.cell? ⟨g, 0, none⟩ = some x0 ∧ w.cell? ⟨g, 1, none⟩ = some x1 ∧ w.cell? ⟨g, 2, none⟩ = some x2 ∧ w.cell? ⟨g, 3, none⟩ = some x3 ∧ w.cell? ⟨g, 4, none⟩ = some x4 ∧ w.cell? ⟨g, 5, none⟩ = some x5 ∧ w.cell? ⟨g, 6, none⟩ = some x6 ∧ w.cell? ⟨g, 7, none⟩ = some x7 ∧ w.frozen? ⟨g, 0, none⟩ = false ∧ w.frozen? ⟨g, 1, none⟩ = false ∧ w.frozen? ⟨g, 2, none⟩ = false ∧ w.frozen? ⟨g, 3, none⟩ = false ∧ w.frozen? ⟨g, 4, none⟩ = false ∧ w.frozen? ⟨g, 5, none⟩ = false ∧ w.frozen? ⟨g, 6, none⟩ = false ∧ w.frozen? ⟨g, 7, none⟩ = false ∧ g < w.heap.size :=
  ⟨h.cell 0, h.cell 1, h.cell 2, h.cell 3, h.cell 4, h.cell 5, h.cell 6, h.cell 7, h.frozen 0, h.frozen 1, h.frozen 2, h.frozen 3, h.frozen 4, h.frozen 5, h.frozen 6, h.frozen 7, h.lt⟩
theorem count_erase (l : List (List UInt8)) (k : List UInt8) (hk : k ∈ l) (k' : List UInt8) : upd (fun q => (l.count q : Int)) k ((l.count k : Int) - 1) k' = ((l.erase k).count k' : Int) := by
  have hp := List.count_pos_iff.2 hk
  unfold upd
  by_cases h : k' = k
  · subst h
    rw [if_pos rfl, List.count_erase_self]
    omega
  · rw [if_neg h, List.count_erase_of_ne h]
theorem answer_end {w w4 : World} {b mb N : Nat} {most : Int} {l : List (List UInt8)} {k : List UInt8} {f : List UInt8 → Int} (hk : k ∈ l) (hne : b ≠ mb) (hb : Blk w4 b PsT #[.int .i64 most, .int .i64 (l.length : Int), .map (some mb)])
    (hm : PgMap w4 mb (N + 1) f) (hf : ∀ k', f k' = upd (fun q => (l.count q : Int)) k ((l.count k : Int) - 1) k') (hw : Beside b mb w w4) :
    Pg (w4.setCell ⟨b, 1, none⟩ (.int .i64 ((l.length : Int) - 1))) b mb most (N + 1) (l.erase k) ∧ Beside b mb w (w4.setCell ⟨b, 1, none⟩ (.int .i64 ((l.length : Int) - 1))) := by
  refine ⟨⟨?_, ?_, hne⟩, hw.trans (Beside.of_set w4 1 _)⟩
  · have h1 := hb.set_ 1 (.int .i64 ((l.length : Int) - 1))
    have h2 := List.length_erase_of_mem hk
    have h3 := List.length_pos_of_mem hk
    rw [h2, show ((l.length - 1 : Nat) : Int) = (l.length : Int) - 1 by omega]
    exact h1
  · exact (hm.block (Below.heap_setCell w4 ⟨b, 1, none⟩ _ mb (Ne.symm hne))).congr fun k' _ => (hf k').trans (count_erase l k hk k')

set_option maxHeartbeats 16000000 in
set_option maxRecDepth 100000 in
theorem pings_Answer8 (b mb N : Nat) (most : Int) (l : List (List UInt8)) (a : Option Addr) (cap : Nat) (a0 a1 a2 a3 a4 a5 a6 a7 : UInt8) (hin : [a0, a1, a2, a3, a4, a5, a6, a7] ∈ l) (hN : N < 1000000) (hl : l.length < 1000000) (w : World) (hP : Pg w b mb most N l) (hS : SlY w w.heap.size a [a0, a1, a2, a3, a4, a5, a6, a7]) :
    Calls Try.prog 10 #[.pointer (some ⟨b, 0, none⟩), .slice a 8 cap] w fun e w' => e = .returned (.bool true) ∧ Pg w' b mb most (N + 1) (l.erase [a0, a1, a2, a3, a4, a5, a6, a7]) ∧ Beside b mb w w' := by
  have HW0 := pings_Waits8 b mb N most l a cap [a0, a1, a2, a3, a4, a5, a6, a7] rfl w hP hS
  rw [decide_eq_true hin] at HW0
  have HW := Lib.hid HW0
  have HP := Lib.hid hP
  have HS := Lib.hid hS
  clear HW0 hP hS
  go_enter Try.func10, Try.ntmps10
  go_wp2_with fail
  refine HW.out.mono ?_
  rintro e w1 ⟨rfl, j1, hj1⟩
  have hb1 : Below w.heap.size w w1 := by rw [hj1]; exact (Below.refl _ _).moreS j1
  have HK0 : Calls Try.prog 15 #[.slice a 8 cap] w1 fun e w' => e = .returned (.agg #[.int .u8 (a0.toNat : Int), .int .u8 (a1.toNat : Int), .int .u8 (a2.toNat : Int), .int .u8 (a3.toNat : Int), .int .u8 (a4.toNat : Int), .int .u8 (a5.toNat : Int), .int .u8 (a6.toNat : Int), .int .u8 (a7.toNat : Int)]) ∧ ∃ j, w' = w1.more j := pings_key a cap [a0, a1, a2, a3, a4, a5, a6, a7] rfl w1 (HS.out.keep hb1)
  have HK := Lib.hid HK0
  have HP1 := Lib.hid (HP.out.below hb1)
  have HB1 := Lib.hid hb1
  clear HK0 hb1 hj1
  go_wp2_with fail
  refine HK.out.mono ?_
  rintro e w2 ⟨rfl, j2, hj2⟩
  have hb2 : Below w1.heap.size w1 w2 := by rw [hj2]; exact (Below.refl _ _).moreS j2
  have HP2 := Lib.hid (HP1.out.below hb2)
  have HB2 := Lib.hid (HB1.out.trans (hb2.mono HB1.out.size))
  clear hb2 hj2 HP1 HK
  go_wp2_with fail
  obtain ⟨w3, hw3⟩ : ∃ x, x = (w2.alloc (.cells #[.int .u8 (a0.toNat : Int), .int .u8 (a1.toNat : Int), .int .u8 (a2.toNat : Int), .int .u8 (a3.toNat : Int), .int .u8 (a4.toNat : Int), .int .u8 (a5.toNat : Int), .int .u8 (a6.toNat : Int), .int .u8 (a7.toNat : Int)] PkT)).drew := ⟨_, rfl⟩
  have hb3 : Below w2.heap.size w2 w3 := by rw [hw3]; exact (by repeat (first | (with_reducible exact Below.refl _ _) | (with_reducible refine Below.allocS ?_ _) | (with_reducible refine Below.moreS ?_ _) | (with_reducible refine Below.drew ?_) | (with_reducible refine below_drewN ?_ _)))
  have hkb : Blk w3 w2.heap.size PkT #[.int .u8 (a0.toNat : Int), .int .u8 (a1.toNat : Int), .int .u8 (a2.toNat : Int), .int .u8 (a3.toNat : Int), .int .u8 (a4.toNat : Int), .int .u8 (a5.toNat : Int), .int .u8 (a6.toNat : Int), .int .u8 (a7.toNat : Int)] := by rw [hw3]; exact (Blk.new w2 PkT _).drew
  have hP3 := HP2.out.below hb3
  have HB3 := Lib.hid (HB2.out.trans (hb3.mono HB2.out.size))
  have HKB := Lib.hid hkb
  have HBL := Lib.hid hP3.blk
  have HM := Lib.hid hP3.map
  have HNE := Lib.hid hP3.ne
  have hkm : w2.heap.size ≠ mb := by have := HP2.out.map.lt; omega
  have HKM := Lib.hid hkm
  obtain ⟨kb, hkbe⟩ : ∃ kb, kb = w2.heap.size := ⟨_, rfl⟩
  rw [← hkbe] at HKB HKM
  have hcp : 0 < l.count [a0, a1, a2, a3, a4, a5, a6, a7] := List.count_pos_iff.2 hin
  have hcl : (l.count [a0, a1, a2, a3, a4, a5, a6, a7] : Int) ≤ l.length := by have := List.count_le_length (l := l) (a := [a0, a1, a2, a3, a4, a5, a6, a7]); omega
  obtain ⟨v0, st, w4, hr1, hm4, ht4, hst⟩ := HM.out.entry (k := [a0, a1, a2, a3, a4, a5, a6, a7]) rfl hN
  obtain ⟨w5, hr2, hm5, ht5⟩ := hst ((l.count [a0, a1, a2, a3, a4, a5, a6, a7] : Int) - 1) (wf_small (by omega) (by omega))
  have HL3 : Hid ((Instr.lookup PmT (.map (some mb)) (.agg #[.int .u8 (a0.toNat : Int), .int .u8 (a1.toNat : Int), .int .u8 (a2.toNat : Int), .int .u8 (a3.toNat : Int), .int .u8 (a4.toNat : Int), .int .u8 (a5.toNat : Int), .int .u8 (a6.toNat : Int), .int .u8 (a7.toNat : Int)]) false).run Try.prog w3 = .ok (.int .i64 (l.count [a0, a1, a2, a3, a4, a5, a6, a7] : Int)) w3) := HM.out.look (k := [a0, a1, a2, a3, a4, a5, a6, a7]) rfl
  have HL4 : Hid ((Instr.lookup PmT (.map (some mb)) (.agg #[.int .u8 (a0.toNat : Int), .int .u8 (a1.toNat : Int), .int .u8 (a2.toNat : Int), .int .u8 (a3.toNat : Int), .int .u8 (a4.toNat : Int), .int .u8 (a5.toNat : Int), .int .u8 (a6.toNat : Int), .int .u8 (a7.toNat : Int)]) false).run Try.prog w4 = .ok (.int .i64 (l.count [a0, a1, a2, a3, a4, a5, a6, a7] : Int)) w4) := hm4.look (k := [a0, a1, a2, a3, a4, a5, a6, a7]) rfl
  have HR1 : Hid ((Instr.mapEntry PmT (.map (some mb)) (.agg #[.int .u8 (a0.toNat : Int), .int .u8 (a1.toNat : Int), .int .u8 (a2.toNat : Int), .int .u8 (a3.toNat : Int), .int .u8 (a4.toNat : Int), .int .u8 (a5.toNat : Int), .int .u8 (a6.toNat : Int), .int .u8 (a7.toNat : Int)])).run Try.prog w3 = .ok (.tuple #[v0, goInt st]) w4) := hr1
  have HT4 := Lib.hid ht4
  have HT5 := Lib.hid ht5
  have HR2 := Lib.hid hr2
  have HM5 := Lib.hid hm5
  have HB5 := Lib.hid ((Beside.of_below (b := b) (mb := mb) HB3.out).trans (Beside.of_grown ht5.grown))
  have HBL5 := Lib.hid (HBL.out.grown ht5.grown (by simpa using HNE.out))
  have HKB5 := Lib.hid (HKB.out.grown ht5.grown (by simpa using HKM.out))
  have HFE : Hid (∀ k', upd (fun q => (l.count q : Int)) [a0, a1, a2, a3, a4, a5, a6, a7] ((l.count [a0, a1, a2, a3, a4, a5, a6, a7] : Int) - 1) k' = upd (fun q => (l.count q : Int)) [a0, a1, a2, a3, a4, a5, a6, a7] ((l.count [a0, a1, a2, a3, a4, a5, a6, a7] : Int) - 1) k') := fun _ => rfl
  have HIN := Lib.hid hin
  obtain ⟨c, hc⟩ : ∃ c : Int, c = (l.count [a0, a1, a2, a3, a4, a5, a6, a7] : Int) := ⟨_, rfl⟩
  have HC := Lib.hid hc
  simp only [← hc] at HL3 HL4 HR2 HM5
  have hc1 : 1 ≤ c := by omega
  have hc2 : c ≤ 1000000 := by omega
  have hwc : IntKind.i64.wrap (c - 1) = c - 1 := IntWalk.i64_in _ (by omega)
  have hwl : IntKind.i64.wrap ((l.length : Int) - 1) = (l.length : Int) - 1 := IntWalk.i64_in _ (by omega)
  clear hr1 hm4 ht4 hst hr2 hm5 ht5 hcl hcp hc HP2 hP3 hkb hkm hb3 hin
  rw [← hkbe]
  refine gm_start mb (by kernel_rfl) ?_
  rw [← hw3]
  clear hw3 hkbe
  obtain ⟨d0, d1, d2, _, _, _, hks⟩ := HBL.out.three
  obtain ⟨x0, x1, x2, x3, x4, x5, x6, x7, _, _, _, _, _, _, _, _, hxs⟩ := blk8 HKB.out
  have hne := HNE.out
  have hkm := HKM.out
  refine gm_take 0 (v := ?_) rfl (by kernel_rfl) (by kernel_rfl) (by kernel_rfl) (fun _ _ _ h => h) (Or.inl ⟨by first | kernel_rfl | rfl, ?_⟩) ?_
  rotate_left
  · intro wS hSw; have hSc := hSw.cell; clear hSw; go_simp; try with_reducible rfl
  try simp only [Act.put, List.getElem_toArray, List.getElem_cons_succ, List.getElem_cons_zero, List.setIfInBounds_toArray, List.set_cons_zero, List.set_cons_succ]
  refine gm_take 1 (v := ?_) rfl (by kernel_rfl) (by kernel_rfl) (by kernel_rfl) (fun _ _ _ h => h) (Or.inl ⟨by first | kernel_rfl | rfl, ?_⟩) ?_
  rotate_left
  · intro wS hSw; have hSc := hSw.cell; clear hSw; go_simp; try with_reducible rfl
  try simp only [Act.put, List.getElem_toArray, List.getElem_cons_succ, List.getElem_cons_zero, List.setIfInBounds_toArray, List.set_cons_zero, List.set_cons_succ]
  refine gm_take 2 (v := ?_) rfl (by kernel_rfl) (by kernel_rfl) (by kernel_rfl) (fun _ _ _ h => h) (Or.inl ⟨by first | kernel_rfl | rfl, ?_⟩) ?_
  rotate_left
  · intro wS hSw; have hSc := hSw.cell; clear hSw; go_simp; try with_reducible rfl
  try simp only [Act.put, List.getElem_toArray, List.getElem_cons_succ, List.getElem_cons_zero, List.setIfInBounds_toArray, List.set_cons_zero, List.set_cons_succ]
  refine gm_take 3 (v := ?_) rfl (by kernel_rfl) (by kernel_rfl) (by kernel_rfl) (fun _ _ _ h => h) (Or.inl ⟨by first | kernel_rfl | rfl, ?_⟩) ?_
  rotate_left
  · intro wS hSw; have hSc := hSw.cell; clear hSw; go_simp; try with_reducible rfl
  try simp only [Act.put, List.getElem_toArray, List.getElem_cons_succ, List.getElem_cons_zero, List.setIfInBounds_toArray, List.set_cons_zero, List.set_cons_succ]
  refine gm_take 4 (v := ?_) rfl (by kernel_rfl) (by kernel_rfl) (by kernel_rfl) (fun _ _ _ h => h) (Or.inl ⟨by first | kernel_rfl | rfl, ?_⟩) ?_
  rotate_left
  · intro wS hSw; have hSc := hSw.cell; clear hSw; go_simp; try with_reducible rfl
  try simp only [Act.put, List.getElem_toArray, List.getElem_cons_succ, List.getElem_cons_zero, List.setIfInBounds_toArray, List.set_cons_zero, List.set_cons_succ]
  clear d0 d1 d2 hks hne hkm x0 x1 x2 x3 x4 x5 x6 x7 hxs
  refine gm_two 5 7 (by kernel_rfl) rfl rfl (fun K hK => ?_) (fun K hK => ?_)
  · skip
    refine step_look (t := PmT) (by kernel_rfl) (m := .tmp 15) (x := .tmp 16) (vm := .map (some mb)) (vx := .agg #[.int .u8 (a0.toNat : Int), .int .u8 (a1.toNat : Int), .int .u8 (a2.toNat : Int), .int .u8 (a3.toNat : Int), .int .u8 (a4.toNat : Int), .int .u8 (a5.toNat : Int), .int .u8 (a6.toNat : Int), .int .u8 (a7.toNat : Int)]) (by kernel_rfl) (by kernel_rfl) (by kernel_rfl) HL3.out ?_
    refine hK.out _ _ (show Gm _ _ _ from Gm.refl _) ?_
    clear hK K
    try simp only [Act.put, List.getElem_toArray, List.getElem_cons_succ, List.getElem_cons_zero, List.setIfInBounds_toArray, List.set_cons_zero, List.set_cons_succ]
    refine gm_take 6 (v := ?_) rfl (by kernel_rfl) (by kernel_rfl) (by kernel_rfl) (fun _ _ _ h => h) (Or.inl ⟨by first | kernel_rfl | rfl, ?_⟩) ?_
    rotate_left
    · intro wS hSw; have hSc := hSw.cell; clear hSw; go_simp; try with_reducible rfl
    try simp only [Act.put, List.getElem_toArray, List.getElem_cons_succ, List.getElem_cons_zero, List.setIfInBounds_toArray, List.set_cons_zero, List.set_cons_succ]
    refine gm_step 7 (by kernel_rfl) rfl (fun K hK => ?_)
    refine step_entry (t := PmT) (by kernel_rfl) (m := .tmp 15) (x := .tmp 16) (vm := .map (some mb)) (vx := .agg #[.int .u8 (a0.toNat : Int), .int .u8 (a1.toNat : Int), .int .u8 (a2.toNat : Int), .int .u8 (a3.toNat : Int), .int .u8 (a4.toNat : Int), .int .u8 (a5.toNat : Int), .int .u8 (a6.toNat : Int), .int .u8 (a7.toNat : Int)]) (by kernel_rfl) (by kernel_rfl) (by kernel_rfl) HR1.out ?_
    refine hK.out _ _ (show Gm _ _ _ from HT4.out.grown) ?_
    clear hK K
    try simp only [Act.put, List.getElem_toArray, List.getElem_cons_succ, List.getElem_cons_zero, List.setIfInBounds_toArray, List.set_cons_zero, List.set_cons_succ]
    refine gm_take 8 (v := ?_) rfl (by kernel_rfl) (by kernel_rfl) (by kernel_rfl) (fun _ _ _ h => h) (Or.inl ⟨by first | kernel_rfl | rfl, ?_⟩) ?_
    rotate_left
    · intro wS hSw; have hSc := hSw.cell; clear hSw; go_simp; try with_reducible rfl
    try simp only [Act.put, List.getElem_toArray, List.getElem_cons_succ, List.getElem_cons_zero, List.setIfInBounds_toArray, List.set_cons_zero, List.set_cons_succ]
    refine gm_step 9 (by kernel_rfl) rfl (fun K hK => ?_)
    refine step_estore (t := PmT) (by kernel_rfl) (m := .tmp 15) (s := .tmp 20) (x := .tmp 18) (vm := .map (some mb)) (vs := goInt st) (vx := .int .i64 (c - 1)) (by kernel_rfl) (by kernel_rfl) (by kernel_rfl) (by kernel_rfl) HR2.out ?_
    refine hK.out _ _ (show Gm _ _ _ from turned_side HT4.out HT5.out) ?_
    clear hK K
    try simp only [Act.put, List.getElem_toArray, List.getElem_cons_succ, List.getElem_cons_zero, List.setIfInBounds_toArray, List.set_cons_zero, List.set_cons_succ]
    refine wpAnyH_done (by kernel_rfl) ?_ _
    go_wp2_with fail
    obtain ⟨w6, hw6⟩ : ∃ x, x = w5.drew := ⟨_, rfl⟩
    have hb6 : Below w5.heap.size w5 w6 := by rw [hw6]; exact (by repeat (first | (with_reducible exact Below.refl _ _) | (with_reducible refine Below.allocS ?_ _) | (with_reducible refine Below.moreS ?_ _) | (with_reducible refine Below.drew ?_) | (with_reducible refine below_drewN ?_ _)))
    have HM6 := Lib.hid (HM5.out.below hb6)
    have HBL6 := Lib.hid (HBL5.out.below hb6 HBL5.out.lt)
    have HKB6 := Lib.hid (HKB5.out.below hb6 HKB5.out.lt)
    have HB6 := Lib.hid (HB5.out.trans (Beside.of_below hb6))
    have HL6 : Hid (∀ wS, Grown w6 wS → (Instr.lookup PmT (.map (some mb)) (.agg #[.int .u8 (a0.toNat : Int), .int .u8 (a1.toNat : Int), .int .u8 (a2.toNat : Int), .int .u8 (a3.toNat : Int), .int .u8 (a4.toNat : Int), .int .u8 (a5.toNat : Int), .int .u8 (a6.toNat : Int), .int .u8 (a7.toNat : Int)]) false).run Try.prog wS = .ok (.int .i64 (c - 1)) wS) := fun wS hS => by
      have h9 := (HM6.out.below hS).look (k := [a0, a1, a2, a3, a4, a5, a6, a7]) rfl
      rw [show upd (fun q => (l.count q : Int)) [a0, a1, a2, a3, a4, a5, a6, a7] (c - 1) [a0, a1, a2, a3, a4, a5, a6, a7] = c - 1 from if_pos rfl] at h9
      exact h9
    refine grown_start (by kernel_rfl) ?_
    rw [← hw6]
    clear hw6 hb6
    obtain ⟨d0, d1, d2, f0, f1, f2, hks⟩ := HBL6.out.three
    obtain ⟨x0, x1, x2, x3, x4, x5, x6, x7, _, _, _, _, _, _, _, _, hxs⟩ := blk8 HKB6.out
    have hne := HNE.out
    have hkm := HKM.out
    refine grown_take 0 (v := ?_) rfl (by kernel_rfl) (by kernel_rfl) (by kernel_rfl) (fun _ _ _ h => h) (Or.inl ⟨by first | kernel_rfl | rfl, ?_⟩) ?_
    rotate_left
    · intro wS hSw; have hSc := hSw.cell; clear hSw; go_simp; try with_reducible rfl
    try simp only [Act.put, List.getElem_toArray, List.getElem_cons_succ, List.getElem_cons_zero, List.setIfInBounds_toArray, List.set_cons_zero, List.set_cons_succ]
    refine grown_take 1 (v := ?_) rfl (by kernel_rfl) (by kernel_rfl) (by kernel_rfl) (fun _ _ _ h => h) (Or.inl ⟨by first | kernel_rfl | rfl, ?_⟩) ?_
    rotate_left
    · intro wS hSw; have hSc := hSw.cell; clear hSw; go_simp; try with_reducible rfl
    try simp only [Act.put, List.getElem_toArray, List.getElem_cons_succ, List.getElem_cons_zero, List.setIfInBounds_toArray, List.set_cons_zero, List.set_cons_succ]
    refine grown_take 2 (v := ?_) rfl (by kernel_rfl) (by kernel_rfl) (by kernel_rfl) (fun _ _ _ h => h) (Or.inl ⟨by first | kernel_rfl | rfl, ?_⟩) ?_
    rotate_left
    · intro wS hSw; have hSc := hSw.cell; clear hSw; go_simp; try with_reducible rfl
    try simp only [Act.put, List.getElem_toArray, List.getElem_cons_succ, List.getElem_cons_zero, List.setIfInBounds_toArray, List.set_cons_zero, List.set_cons_succ]
    refine grown_take 3 (v := ?_) rfl (by kernel_rfl) (by kernel_rfl) (by kernel_rfl) (fun _ _ _ h => h) (Or.inl ⟨by first | kernel_rfl | rfl, ?_⟩) ?_
    rotate_left
    · intro wS hSw; have hSc := hSw.cell; clear hSw; go_simp; try with_reducible rfl
    try simp only [Act.put, List.getElem_toArray, List.getElem_cons_succ, List.getElem_cons_zero, List.setIfInBounds_toArray, List.set_cons_zero, List.set_cons_succ]
    refine grown_take 4 (v := ?_) rfl (by kernel_rfl) (by kernel_rfl) (by kernel_rfl) (fun _ _ _ h => h) (Or.inl ⟨by first | kernel_rfl | rfl, ?_⟩) ?_
    rotate_left
    · intro wS hSw; have hSc := hSw.cell; clear hSw; go_simp; try with_reducible rfl
    try simp only [Act.put, List.getElem_toArray, List.getElem_cons_succ, List.getElem_cons_zero, List.setIfInBounds_toArray, List.set_cons_zero, List.set_cons_succ]
    clear d0 d1 d2 f0 f1 f2 hks hne hkm x0 x1 x2 x3 x4 x5 x6 x7 hxs
    refine grown_take 5 (v := .int .i64 (c - 1)) rfl (by kernel_rfl) (by kernel_rfl) (by kernel_rfl) (fun _ _ _ h => h) (Or.inl ⟨by kernel_rfl, fun wS hS => exec_look (t := PmT) (m := .tmp 24) (x := .tmp 25) (vm := .map (some mb)) (vx := .agg #[.int .u8 (a0.toNat : Int), .int .u8 (a1.toNat : Int), .int .u8 (a2.toNat : Int), .int .u8 (a3.toNat : Int), .int .u8 (a4.toNat : Int), .int .u8 (a5.toNat : Int), .int .u8 (a6.toNat : Int), .int .u8 (a7.toNat : Int)]) (by kernel_rfl) (by kernel_rfl) (by kernel_rfl) (HL6.out wS hS)⟩) ?_
    try simp only [Act.put, List.getElem_toArray, List.getElem_cons_succ, List.getElem_cons_zero, List.setIfInBounds_toArray, List.set_cons_zero, List.set_cons_succ]
    by_cases h0 : c - 1 = 0
    · have h0b : ((c - 1 : Int) == 0) = true := by rw [h0]; rfl
      refine grown_step 6 (by kernel_rfl) rfl (fun K hK => ?_)
      go_simp
      go_wp2_with fail
      refine hK.out _ _ (show Below _ _ _ from (by (try (with_reducible refine grown_undrew ?_)); repeat (first | (with_reducible exact Below.refl _ _) | (with_reducible exact grown_merge _ _ _ _) | (with_reducible exact grown_merge2 _ _ _ _ _ _) | (with_reducible exact grown_merge3 _ _ _ _ _ _ _) | (with_reducible refine Below.allocS ?_ _) | (with_reducible refine Below.moreS ?_ _) | (with_reducible refine Below.drew ?_)))) ?_
      clear hK K
      try simp only [Act.put, List.getElem_toArray, List.getElem_cons_succ, List.getElem_cons_zero, List.setIfInBounds_toArray, List.set_cons_zero, List.set_cons_succ]
      refine wpAnyH_done (by kernel_rfl) ?_ _
      go_wp2_with fail
      obtain ⟨w7, hw7⟩ : ∃ x, x = w6.drew := ⟨_, rfl⟩
      have hb7 : Below w6.heap.size w6 w7 := by rw [hw7]; exact (by repeat (first | (with_reducible exact Below.refl _ _) | (with_reducible refine Below.allocS ?_ _) | (with_reducible refine Below.moreS ?_ _) | (with_reducible refine Below.drew ?_) | (with_reducible refine below_drewN ?_ _)))
      have HM7 := Lib.hid (HM6.out.below hb7)
      have HBL7 := Lib.hid (HBL6.out.below hb7 HBL6.out.lt)
      have HKB7 := Lib.hid (HKB6.out.below hb7 HKB6.out.lt)
      have HB7 := Lib.hid (HB6.out.trans (Beside.of_below hb7))
      obtain ⟨w8, hr8, hm8, ht8⟩ := HM7.out.del (k := [a0, a1, a2, a3, a4, a5, a6, a7]) rfl 0
      have HR8 : Hid ((Builtin.delete_ #[PmT, PkT] 0 #[.map (some mb), .agg #[.int .u8 (a0.toNat : Int), .int .u8 (a1.toNat : Int), .int .u8 (a2.toNat : Int), .int .u8 (a3.toNat : Int), .int .u8 (a4.toNat : Int), .int .u8 (a5.toNat : Int), .int .u8 (a6.toNat : Int), .int .u8 (a7.toNat : Int)]]).run Try.prog w7 = .ok (.tuple #[]) w8) := hr8
      have HT8 := Lib.hid ht8
      have HM8 := Lib.hid hm8
      have HBL8 := Lib.hid (HBL7.out.grown ht8.grown (by simpa using HNE.out))
      have HB8 := Lib.hid (HB7.out.trans (Beside.of_grown ht8.grown))
      clear hr8 hm8 ht8
      refine gm_start mb (by kernel_rfl) ?_
      rw [← hw7]
      clear hw7 hb7
      obtain ⟨d0, d1, d2, f0, f1, f2, hks⟩ := HBL7.out.three
      obtain ⟨x0, x1, x2, x3, x4, x5, x6, x7, _, _, _, _, _, _, _, _, hxs⟩ := blk8 HKB7.out
      have hne := HNE.out
      have hkm := HKM.out
      refine gm_take 0 (v := ?_) rfl (by kernel_rfl) (by kernel_rfl) (by kernel_rfl) (fun _ _ _ h => h) (Or.inl ⟨by first | kernel_rfl | rfl, ?_⟩) ?_
      rotate_left
      · intro wS hSw; have hSc := hSw.cell; clear hSw; go_simp; try with_reducible rfl
      try simp only [Act.put, List.getElem_toArray, List.getElem_cons_succ, List.getElem_cons_zero, List.setIfInBounds_toArray, List.set_cons_zero, List.set_cons_succ]
      refine gm_take 1 (v := ?_) rfl (by kernel_rfl) (by kernel_rfl) (by kernel_rfl) (fun _ _ _ h => h) (Or.inl ⟨by first | kernel_rfl | rfl, ?_⟩) ?_
      rotate_left
      · intro wS hSw; have hSc := hSw.cell; clear hSw; go_simp; try with_reducible rfl
      try simp only [Act.put, List.getElem_toArray, List.getElem_cons_succ, List.getElem_cons_zero, List.setIfInBounds_toArray, List.set_cons_zero, List.set_cons_succ]
      refine gm_take 2 (v := ?_) rfl (by kernel_rfl) (by kernel_rfl) (by kernel_rfl) (fun _ _ _ h => h) (Or.inl ⟨by first | kernel_rfl | rfl, ?_⟩) ?_
      rotate_left
      · intro wS hSw; have hSc := hSw.cell; clear hSw; go_simp; try with_reducible rfl
      try simp only [Act.put, List.getElem_toArray, List.getElem_cons_succ, List.getElem_cons_zero, List.setIfInBounds_toArray, List.set_cons_zero, List.set_cons_succ]
      refine gm_take 3 (v := ?_) rfl (by kernel_rfl) (by kernel_rfl) (by kernel_rfl) (fun _ _ _ h => h) (Or.inl ⟨by first | kernel_rfl | rfl, ?_⟩) ?_
      rotate_left
      · intro wS hSw; have hSc := hSw.cell; clear hSw; go_simp; try with_reducible rfl
      try simp only [Act.put, List.getElem_toArray, List.getElem_cons_succ, List.getElem_cons_zero, List.setIfInBounds_toArray, List.set_cons_zero, List.set_cons_succ]
      refine gm_take 4 (v := ?_) rfl (by kernel_rfl) (by kernel_rfl) (by kernel_rfl) (fun _ _ _ h => h) (Or.inl ⟨by first | kernel_rfl | rfl, ?_⟩) ?_
      rotate_left
      · intro wS hSw; have hSc := hSw.cell; clear hSw; go_simp; try with_reducible rfl
      try simp only [Act.put, List.getElem_toArray, List.getElem_cons_succ, List.getElem_cons_zero, List.setIfInBounds_toArray, List.set_cons_zero, List.set_cons_succ]
      clear d0 d1 d2 f0 f1 f2 hks hne hkm x0 x1 x2 x3 x4 x5 x6 x7 hxs
      refine gm_step 5 (by kernel_rfl) rfl (fun K hK => ?_)
      refine step_delete (t := PmT) (k := PkT) (by kernel_rfl) (m := .tmp 31) (x := .tmp 32) (vm := .map (some mb)) (vx := .agg #[.int .u8 (a0.toNat : Int), .int .u8 (a1.toNat : Int), .int .u8 (a2.toNat : Int), .int .u8 (a3.toNat : Int), .int .u8 (a4.toNat : Int), .int .u8 (a5.toNat : Int), .int .u8 (a6.toNat : Int), .int .u8 (a7.toNat : Int)]) (by kernel_rfl) (by kernel_rfl) (by kernel_rfl) HR8.out ?_
      refine hK.out _ _ (show Gm _ _ _ from HT8.out.grown) ?_
      clear hK K
      try simp only [Act.put, List.getElem_toArray, List.getElem_cons_succ, List.getElem_cons_zero, List.setIfInBounds_toArray, List.set_cons_zero, List.set_cons_succ]
      refine wpAnyH_done (by kernel_rfl) ?_ _
      have HE := Lib.hid (answer_end (w := w) HIN.out HNE.out HBL8.out HM8.out (fun k' => by rw [← HC.out]; unfold upd; by_cases he : k' = [a0, a1, a2, a3, a4, a5, a6, a7] <;> simp [he, h0]) HB8.out)
      obtain ⟨d0, d1, d2, f0, f1, f2, hks⟩ := HBL8.out.three
      go_wp2_with fail
      go_ret
      exact ⟨rfl, HE.out.1, HE.out.2⟩
    · have h0b : ((c - 1 : Int) == 0) = false := by rw [beq_eq_false_iff_ne]; exact h0
      refine grown_step 6 (by kernel_rfl) rfl (fun K hK => ?_)
      go_simp
      go_wp2_with fail
      refine hK.out _ _ (show Below _ _ _ from (by (try (with_reducible refine grown_undrew ?_)); repeat (first | (with_reducible exact Below.refl _ _) | (with_reducible exact grown_merge _ _ _ _) | (with_reducible exact grown_merge2 _ _ _ _ _ _) | (with_reducible exact grown_merge3 _ _ _ _ _ _ _) | (with_reducible refine Below.allocS ?_ _) | (with_reducible refine Below.moreS ?_ _) | (with_reducible refine Below.drew ?_)))) ?_
      clear hK K
      try simp only [Act.put, List.getElem_toArray, List.getElem_cons_succ, List.getElem_cons_zero, List.setIfInBounds_toArray, List.set_cons_zero, List.set_cons_succ]
      refine wpAnyH_done (by kernel_rfl) ?_ _
      have HE := Lib.hid (answer_end (w := w) HIN.out HNE.out HBL6.out HM6.out (fun k' => by rw [HC.out]) HB6.out)
      obtain ⟨d0, d1, d2, f0, f1, f2, hks⟩ := HBL6.out.three
      go_wp2_with fail
      go_ret
      exact ⟨rfl, HE.out.1, HE.out.2⟩
  · skip
    refine step_entry (t := PmT) (by kernel_rfl) (m := .tmp 15) (x := .tmp 16) (vm := .map (some mb)) (vx := .agg #[.int .u8 (a0.toNat : Int), .int .u8 (a1.toNat : Int), .int .u8 (a2.toNat : Int), .int .u8 (a3.toNat : Int), .int .u8 (a4.toNat : Int), .int .u8 (a5.toNat : Int), .int .u8 (a6.toNat : Int), .int .u8 (a7.toNat : Int)]) (by kernel_rfl) (by kernel_rfl) (by kernel_rfl) HR1.out ?_
    refine hK.out _ _ (show Gm _ _ _ from HT4.out.grown) ?_
    clear hK K
    try simp only [Act.put, List.getElem_toArray, List.getElem_cons_succ, List.getElem_cons_zero, List.setIfInBounds_toArray, List.set_cons_zero, List.set_cons_succ]
    refine gm_take 8 (v := ?_) rfl (by kernel_rfl) (by kernel_rfl) (by kernel_rfl) (fun _ _ _ h => h) (Or.inl ⟨by first | kernel_rfl | rfl, ?_⟩) ?_
    rotate_left
    · intro wS hSw; have hSc := hSw.cell; clear hSw; go_simp; try with_reducible rfl
    try simp only [Act.put, List.getElem_toArray, List.getElem_cons_succ, List.getElem_cons_zero, List.setIfInBounds_toArray, List.set_cons_zero, List.set_cons_succ]
    refine gm_step 5 (by kernel_rfl) rfl (fun K hK => ?_)
    refine step_look (t := PmT) (by kernel_rfl) (m := .tmp 15) (x := .tmp 16) (vm := .map (some mb)) (vx := .agg #[.int .u8 (a0.toNat : Int), .int .u8 (a1.toNat : Int), .int .u8 (a2.toNat : Int), .int .u8 (a3.toNat : Int), .int .u8 (a4.toNat : Int), .int .u8 (a5.toNat : Int), .int .u8 (a6.toNat : Int), .int .u8 (a7.toNat : Int)]) (by kernel_rfl) (by kernel_rfl) (by kernel_rfl) HL4.out ?_
    refine hK.out _ _ (show Gm _ _ _ from Gm.refl _) ?_
    clear hK K
    try simp only [Act.put, List.getElem_toArray, List.getElem_cons_succ, List.getElem_cons_zero, List.setIfInBounds_toArray, List.set_cons_zero, List.set_cons_succ]
    refine gm_take 6 (v := ?_) rfl (by kernel_rfl) (by kernel_rfl) (by kernel_rfl) (fun _ _ _ h => h) (Or.inl ⟨by first | kernel_rfl | rfl, ?_⟩) ?_
    rotate_left
    · intro wS hSw; have hSc := hSw.cell; clear hSw; go_simp; try with_reducible rfl
    try simp only [Act.put, List.getElem_toArray, List.getElem_cons_succ, List.getElem_cons_zero, List.setIfInBounds_toArray, List.set_cons_zero, List.set_cons_succ]
    refine gm_step 9 (by kernel_rfl) rfl (fun K hK => ?_)
    refine step_estore (t := PmT) (by kernel_rfl) (m := .tmp 15) (s := .tmp 20) (x := .tmp 18) (vm := .map (some mb)) (vs := goInt st) (vx := .int .i64 (c - 1)) (by kernel_rfl) (by kernel_rfl) (by kernel_rfl) (by kernel_rfl) HR2.out ?_
    refine hK.out _ _ (show Gm _ _ _ from turned_side HT4.out HT5.out) ?_
    clear hK K
    try simp only [Act.put, List.getElem_toArray, List.getElem_cons_succ, List.getElem_cons_zero, List.setIfInBounds_toArray, List.set_cons_zero, List.set_cons_succ]
    refine wpAnyH_done (by kernel_rfl) ?_ _
    go_wp2_with fail
    obtain ⟨w6, hw6⟩ : ∃ x, x = w5.drew := ⟨_, rfl⟩
    have hb6 : Below w5.heap.size w5 w6 := by rw [hw6]; exact (by repeat (first | (with_reducible exact Below.refl _ _) | (with_reducible refine Below.allocS ?_ _) | (with_reducible refine Below.moreS ?_ _) | (with_reducible refine Below.drew ?_) | (with_reducible refine below_drewN ?_ _)))
    have HM6 := Lib.hid (HM5.out.below hb6)
    have HBL6 := Lib.hid (HBL5.out.below hb6 HBL5.out.lt)
    have HKB6 := Lib.hid (HKB5.out.below hb6 HKB5.out.lt)
    have HB6 := Lib.hid (HB5.out.trans (Beside.of_below hb6))
    have HL6 : Hid (∀ wS, Grown w6 wS → (Instr.lookup PmT (.map (some mb)) (.agg #[.int .u8 (a0.toNat : Int), .int .u8 (a1.toNat : Int), .int .u8 (a2.toNat : Int), .int .u8 (a3.toNat : Int), .int .u8 (a4.toNat : Int), .int .u8 (a5.toNat : Int), .int .u8 (a6.toNat : Int), .int .u8 (a7.toNat : Int)]) false).run Try.prog wS = .ok (.int .i64 (c - 1)) wS) := fun wS hS => by
      have h9 := (HM6.out.below hS).look (k := [a0, a1, a2, a3, a4, a5, a6, a7]) rfl
      rw [show upd (fun q => (l.count q : Int)) [a0, a1, a2, a3, a4, a5, a6, a7] (c - 1) [a0, a1, a2, a3, a4, a5, a6, a7] = c - 1 from if_pos rfl] at h9
      exact h9
    refine grown_start (by kernel_rfl) ?_
    rw [← hw6]
    clear hw6 hb6
    obtain ⟨d0, d1, d2, f0, f1, f2, hks⟩ := HBL6.out.three
    obtain ⟨x0, x1, x2, x3, x4, x5, x6, x7, _, _, _, _, _, _, _, _, hxs⟩ := blk8 HKB6.out
    have hne := HNE.out
    have hkm := HKM.out
    refine grown_take 0 (v := ?_) rfl (by kernel_rfl) (by kernel_rfl) (by kernel_rfl) (fun _ _ _ h => h) (Or.inl ⟨by first | kernel_rfl | rfl, ?_⟩) ?_
    rotate_left
    · intro wS hSw; have hSc := hSw.cell; clear hSw; go_simp; try with_reducible rfl
    try simp only [Act.put, List.getElem_toArray, List.getElem_cons_succ, List.getElem_cons_zero, List.setIfInBounds_toArray, List.set_cons_zero, List.set_cons_succ]
    refine grown_take 1 (v := ?_) rfl (by kernel_rfl) (by kernel_rfl) (by kernel_rfl) (fun _ _ _ h => h) (Or.inl ⟨by first | kernel_rfl | rfl, ?_⟩) ?_
    rotate_left
    · intro wS hSw; have hSc := hSw.cell; clear hSw; go_simp; try with_reducible rfl
    try simp only [Act.put, List.getElem_toArray, List.getElem_cons_succ, List.getElem_cons_zero, List.setIfInBounds_toArray, List.set_cons_zero, List.set_cons_succ]
    refine grown_take 2 (v := ?_) rfl (by kernel_rfl) (by kernel_rfl) (by kernel_rfl) (fun _ _ _ h => h) (Or.inl ⟨by first | kernel_rfl | rfl, ?_⟩) ?_
    rotate_left
    · intro wS hSw; have hSc := hSw.cell; clear hSw; go_simp; try with_reducible rfl
    try simp only [Act.put, List.getElem_toArray, List.getElem_cons_succ, List.getElem_cons_zero, List.setIfInBounds_toArray, List.set_cons_zero, List.set_cons_succ]
    refine grown_take 3 (v := ?_) rfl (by kernel_rfl) (by kernel_rfl) (by kernel_rfl) (fun _ _ _ h => h) (Or.inl ⟨by first | kernel_rfl | rfl, ?_⟩) ?_
    rotate_left
    · intro wS hSw; have hSc := hSw.cell; clear hSw; go_simp; try with_reducible rfl
    try simp only [Act.put, List.getElem_toArray, List.getElem_cons_succ, List.getElem_cons_zero, List.setIfInBounds_toArray, List.set_cons_zero, List.set_cons_succ]
    refine grown_take 4 (v := ?_) rfl (by kernel_rfl) (by kernel_rfl) (by kernel_rfl) (fun _ _ _ h => h) (Or.inl ⟨by first | kernel_rfl | rfl, ?_⟩) ?_
    rotate_left
    · intro wS hSw; have hSc := hSw.cell; clear hSw; go_simp; try with_reducible rfl
    try simp only [Act.put, List.getElem_toArray, List.getElem_cons_succ, List.getElem_cons_zero, List.setIfInBounds_toArray, List.set_cons_zero, List.set_cons_succ]
    clear d0 d1 d2 f0 f1 f2 hks hne hkm x0 x1 x2 x3 x4 x5 x6 x7 hxs
    refine grown_take 5 (v := .int .i64 (c - 1)) rfl (by kernel_rfl) (by kernel_rfl) (by kernel_rfl) (fun _ _ _ h => h) (Or.inl ⟨by kernel_rfl, fun wS hS => exec_look (t := PmT) (m := .tmp 24) (x := .tmp 25) (vm := .map (some mb)) (vx := .agg #[.int .u8 (a0.toNat : Int), .int .u8 (a1.toNat : Int), .int .u8 (a2.toNat : Int), .int .u8 (a3.toNat : Int), .int .u8 (a4.toNat : Int), .int .u8 (a5.toNat : Int), .int .u8 (a6.toNat : Int), .int .u8 (a7.toNat : Int)]) (by kernel_rfl) (by kernel_rfl) (by kernel_rfl) (HL6.out wS hS)⟩) ?_
    try simp only [Act.put, List.getElem_toArray, List.getElem_cons_succ, List.getElem_cons_zero, List.setIfInBounds_toArray, List.set_cons_zero, List.set_cons_succ]
    by_cases h0 : c - 1 = 0
    · have h0b : ((c - 1 : Int) == 0) = true := by rw [h0]; rfl
      refine grown_step 6 (by kernel_rfl) rfl (fun K hK => ?_)
      go_simp
      go_wp2_with fail
      refine hK.out _ _ (show Below _ _ _ from (by (try (with_reducible refine grown_undrew ?_)); repeat (first | (with_reducible exact Below.refl _ _) | (with_reducible exact grown_merge _ _ _ _) | (with_reducible exact grown_merge2 _ _ _ _ _ _) | (with_reducible exact grown_merge3 _ _ _ _ _ _ _) | (with_reducible refine Below.allocS ?_ _) | (with_reducible refine Below.moreS ?_ _) | (with_reducible refine Below.drew ?_)))) ?_
      clear hK K
      try simp only [Act.put, List.getElem_toArray, List.getElem_cons_succ, List.getElem_cons_zero, List.setIfInBounds_toArray, List.set_cons_zero, List.set_cons_succ]
      refine wpAnyH_done (by kernel_rfl) ?_ _
      go_wp2_with fail
      obtain ⟨w7, hw7⟩ : ∃ x, x = w6.drew := ⟨_, rfl⟩
      have hb7 : Below w6.heap.size w6 w7 := by rw [hw7]; exact (by repeat (first | (with_reducible exact Below.refl _ _) | (with_reducible refine Below.allocS ?_ _) | (with_reducible refine Below.moreS ?_ _) | (with_reducible refine Below.drew ?_) | (with_reducible refine below_drewN ?_ _)))
      have HM7 := Lib.hid (HM6.out.below hb7)
      have HBL7 := Lib.hid (HBL6.out.below hb7 HBL6.out.lt)
      have HKB7 := Lib.hid (HKB6.out.below hb7 HKB6.out.lt)
      have HB7 := Lib.hid (HB6.out.trans (Beside.of_below hb7))
      obtain ⟨w8, hr8, hm8, ht8⟩ := HM7.out.del (k := [a0, a1, a2, a3, a4, a5, a6, a7]) rfl 0
      have HR8 : Hid ((Builtin.delete_ #[PmT, PkT] 0 #[.map (some mb), .agg #[.int .u8 (a0.toNat : Int), .int .u8 (a1.toNat : Int), .int .u8 (a2.toNat : Int), .int .u8 (a3.toNat : Int), .int .u8 (a4.toNat : Int), .int .u8 (a5.toNat : Int), .int .u8 (a6.toNat : Int), .int .u8 (a7.toNat : Int)]]).run Try.prog w7 = .ok (.tuple #[]) w8) := hr8
      have HT8 := Lib.hid ht8
      have HM8 := Lib.hid hm8
      have HBL8 := Lib.hid (HBL7.out.grown ht8.grown (by simpa using HNE.out))
      have HB8 := Lib.hid (HB7.out.trans (Beside.of_grown ht8.grown))
      clear hr8 hm8 ht8
      refine gm_start mb (by kernel_rfl) ?_
      rw [← hw7]
      clear hw7 hb7
      obtain ⟨d0, d1, d2, f0, f1, f2, hks⟩ := HBL7.out.three
      obtain ⟨x0, x1, x2, x3, x4, x5, x6, x7, _, _, _, _, _, _, _, _, hxs⟩ := blk8 HKB7.out
      have hne := HNE.out
      have hkm := HKM.out
      refine gm_take 0 (v := ?_) rfl (by kernel_rfl) (by kernel_rfl) (by kernel_rfl) (fun _ _ _ h => h) (Or.inl ⟨by first | kernel_rfl | rfl, ?_⟩) ?_
      rotate_left
      · intro wS hSw; have hSc := hSw.cell; clear hSw; go_simp; try with_reducible rfl
      try simp only [Act.put, List.getElem_toArray, List.getElem_cons_succ, List.getElem_cons_zero, List.setIfInBounds_toArray, List.set_cons_zero, List.set_cons_succ]
      refine gm_take 1 (v := ?_) rfl (by kernel_rfl) (by kernel_rfl) (by kernel_rfl) (fun _ _ _ h => h) (Or.inl ⟨by first | kernel_rfl | rfl, ?_⟩) ?_
      rotate_left
      · intro wS hSw; have hSc := hSw.cell; clear hSw; go_simp; try with_reducible rfl
      try simp only [Act.put, List.getElem_toArray, List.getElem_cons_succ, List.getElem_cons_zero, List.setIfInBounds_toArray, List.set_cons_zero, List.set_cons_succ]
      refine gm_take 2 (v := ?_) rfl (by kernel_rfl) (by kernel_rfl) (by kernel_rfl) (fun _ _ _ h => h) (Or.inl ⟨by first | kernel_rfl | rfl, ?_⟩) ?_
      rotate_left
      · intro wS hSw; have hSc := hSw.cell; clear hSw; go_simp; try with_reducible rfl
      try simp only [Act.put, List.getElem_toArray, List.getElem_cons_succ, List.getElem_cons_zero, List.setIfInBounds_toArray, List.set_cons_zero, List.set_cons_succ]
      refine gm_take 3 (v := ?_) rfl (by kernel_rfl) (by kernel_rfl) (by kernel_rfl) (fun _ _ _ h => h) (Or.inl ⟨by first | kernel_rfl | rfl, ?_⟩) ?_
      rotate_left
      · intro wS hSw; have hSc := hSw.cell; clear hSw; go_simp; try with_reducible rfl
      try simp only [Act.put, List.getElem_toArray, List.getElem_cons_succ, List.getElem_cons_zero, List.setIfInBounds_toArray, List.set_cons_zero, List.set_cons_succ]
      refine gm_take 4 (v := ?_) rfl (by kernel_rfl) (by kernel_rfl) (by kernel_rfl) (fun _ _ _ h => h) (Or.inl ⟨by first | kernel_rfl | rfl, ?_⟩) ?_
      rotate_left
      · intro wS hSw; have hSc := hSw.cell; clear hSw; go_simp; try with_reducible rfl
      try simp only [Act.put, List.getElem_toArray, List.getElem_cons_succ, List.getElem_cons_zero, List.setIfInBounds_toArray, List.set_cons_zero, List.set_cons_succ]
      clear d0 d1 d2 f0 f1 f2 hks hne hkm x0 x1 x2 x3 x4 x5 x6 x7 hxs
      refine gm_step 5 (by kernel_rfl) rfl (fun K hK => ?_)
      refine step_delete (t := PmT) (k := PkT) (by kernel_rfl) (m := .tmp 31) (x := .tmp 32) (vm := .map (some mb)) (vx := .agg #[.int .u8 (a0.toNat : Int), .int .u8 (a1.toNat : Int), .int .u8 (a2.toNat : Int), .int .u8 (a3.toNat : Int), .int .u8 (a4.toNat : Int), .int .u8 (a5.toNat : Int), .int .u8 (a6.toNat : Int), .int .u8 (a7.toNat : Int)]) (by kernel_rfl) (by kernel_rfl) (by kernel_rfl) HR8.out ?_
      refine hK.out _ _ (show Gm _ _ _ from HT8.out.grown) ?_
      clear hK K
      try simp only [Act.put, List.getElem_toArray, List.getElem_cons_succ, List.getElem_cons_zero, List.setIfInBounds_toArray, List.set_cons_zero, List.set_cons_succ]
      refine wpAnyH_done (by kernel_rfl) ?_ _
      have HE := Lib.hid (answer_end (w := w) HIN.out HNE.out HBL8.out HM8.out (fun k' => by rw [← HC.out]; unfold upd; by_cases he : k' = [a0, a1, a2, a3, a4, a5, a6, a7] <;> simp [he, h0]) HB8.out)
      obtain ⟨d0, d1, d2, f0, f1, f2, hks⟩ := HBL8.out.three
      go_wp2_with fail
      go_ret
      exact ⟨rfl, HE.out.1, HE.out.2⟩
    · have h0b : ((c - 1 : Int) == 0) = false := by rw [beq_eq_false_iff_ne]; exact h0
      refine grown_step 6 (by kernel_rfl) rfl (fun K hK => ?_)
      go_simp
      go_wp2_with fail
      refine hK.out _ _ (show Below _ _ _ from (by (try (with_reducible refine grown_undrew ?_)); repeat (first | (with_reducible exact Below.refl _ _) | (with_reducible exact grown_merge _ _ _ _) | (with_reducible exact grown_merge2 _ _ _ _ _ _) | (with_reducible exact grown_merge3 _ _ _ _ _ _ _) | (with_reducible refine Below.allocS ?_ _) | (with_reducible refine Below.moreS ?_ _) | (with_reducible refine Below.drew ?_)))) ?_
      clear hK K
      try simp only [Act.put, List.getElem_toArray, List.getElem_cons_succ, List.getElem_cons_zero, List.setIfInBounds_toArray, List.set_cons_zero, List.set_cons_succ]
      refine wpAnyH_done (by kernel_rfl) ?_ _
      have HE := Lib.hid (answer_end (w := w) HIN.out HNE.out HBL6.out HM6.out (fun k' => by rw [HC.out]) HB6.out)
      obtain ⟨d0, d1, d2, f0, f1, f2, hks⟩ := HBL6.out.three
      go_wp2_with fail
      go_ret
      exact ⟨rfl, HE.out.1, HE.out.2⟩
theorem pings_Answer_yes (b mb N : Nat) (most : Int) (l : List (List UInt8)) (a : Option Addr) (cap : Nat) (k : List UInt8) (hk : k.length = 8) (hin : k ∈ l) (hN : N < 1000000) (hl : l.length < 1000000) (w : World) (hP : Pg w b mb most N l) (hS : SlY w w.heap.size a k) :
    Calls Try.prog 10 #[.pointer (some ⟨b, 0, none⟩), .slice a 8 cap] w fun e w' => e = .returned (.bool true) ∧ Pg w' b mb most (N + 1) (l.erase k) ∧ Beside b mb w w' := by
  match k, hk with
  | [a0, a1, a2, a3, a4, a5, a6, a7], _ => exact pings_Answer8 b mb N most l a cap a0 a1 a2 a3 a4 a5 a6 a7 hin hN hl w hP hS
end Go.Proofs.Ytngnjlidfhenkaa
