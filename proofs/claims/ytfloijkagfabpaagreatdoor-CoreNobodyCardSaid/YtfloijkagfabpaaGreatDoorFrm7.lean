/-
  The numbers of a frame, type by type.
-/
import Derived.Test.YtfloijkagfabpaaGreatDoorMg
namespace Go.Proofs.YtfloijkagfabpaaGreatDoor
set_option linter.unusedSimpArgs false
set_option linter.unusedVariables false
set_option linter.unusedSectionVars false
open Go.ChangeShapes Go.WideShapes Go.ChangeAt Go.RowKit Go.Deep Go.Shelf

def NmsS (C R F : Nat) (ty fl st pad : Int) (l : List UInt8) (m : Nm) (w w' : World) : Prop :=
  Rdr w' C R l m.n m.sh ∧ Blk w' F FrmT (fmC ty fl st pad none 0 0 none 0 0 m.wt m.pa m.al m.pr m.la m.co m.sp) ∧ Gp (P3 C R F) w w' ∧ F ≠ C ∧ F ≠ R
section
variable {C R F : Nat} {ty fl st pad : Int} {l : List UInt8} {m : Nm} {w w1 w2 : World}
theorem NmsS.call (h : NmsS C R F ty fl st pad l m w w1) {n : Nat} {sh : Bool} (hr : Rdr w2 C R l n sh) (hg : Gp (P2 C R) w1 w2) : NmsS C R F ty fl st pad l ⟨m.wt, m.pa, m.al, m.pr, m.la, m.co, m.sp, n, sh⟩ w w2 :=
  ⟨hr, hg.blk h.2.1 (fun e => e.elim h.2.2.2.1 h.2.2.2.2), h.2.2.1.trans (hg.imp fun _ => p2_3), h.2.2.2⟩
theorem NmsS.put (h : NmsS C R F ty fl st pad l m w w1) (i : Nat) (v : Value) {m' : Nm} (hn : m'.n = m.n) (hs : m'.sh = m.sh)
    (hc : (fmC ty fl st pad none 0 0 none 0 0 m.wt m.pa m.al m.pr m.la m.co m.sp).setIfInBounds i v = fmC ty fl st pad none 0 0 none 0 0 m'.wt m'.pa m'.al m'.pr m'.la m'.co m'.sp) : NmsS C R F ty fl st pad l m' w (w1.setCell ⟨F, i, none⟩ v) := by
  have hg : Gp (fun q => q = F) w1 (w1.setCell ⟨F, i, none⟩ v) := Gp.set _ rfl
  have hb := h.2.1.set_ i v
  rw [hc] at hb
  refine ⟨?_, hb, h.2.2.1.trans (hg.imp fun _ e => .inr (.inr e)), h.2.2.2⟩
  rw [hn, hs]
  exact h.1.gp hg (fun e => h.2.2.2.1 e.symm) (fun e => h.2.2.2.2 e.symm) (fun q hq => ⟨_, _, hq ▸ h.2.1, fm_cells⟩)
theorem NmsS.sees (h : NmsS C R F ty fl st pad l m w w1) (i : Nat) : w1.cell? ⟨F, i, none⟩ = (fmC ty fl st pad none 0 0 none 0 0 m.wt m.pa m.al m.pr m.la m.co m.sp)[i]? ∧ w1.frozen? ⟨F, i, none⟩ = false ∧ F < w1.heap.size := ⟨h.2.1.cell i, h.2.1.frozen i, h.2.1.lt⟩
end
set_option maxHeartbeats 2000000 in
set_option maxRecDepth 100000 in
theorem numbers3 (C R F : Nat) (fl st pad : Int) (l : List UInt8) (n : Nat) (sh : Bool) (w : World) (h : Rdr w C R l n sh) (hF : Blk w F FrmT (fmC 3 fl st pad none 0 0 none 0 0 0 0 false 0 0 0 0)) (hC : F ≠ C) (hR : F ≠ R) :
    Calls Tryz.prog 149 #[.pointer (some ⟨R, 0, none⟩), .pointer (some ⟨F, 0, none⟩)] w (NmsP C R F 3 fl st pad l (numsF 3 fl l n sh) w) := by
  have HS : Hid (NmsS C R F 3 fl st pad l ⟨0, 0, false, 0, 0, 0, 0, n, sh⟩ w w) := ⟨h, hF, Gp.refl _, hC, hR⟩
  have c0 : w.cell? ⟨F, 0, none⟩ = some (.int .i64 3) := hF.cell 0
  have c1 : w.cell? ⟨F, 1, none⟩ = some (.int .i64 fl) := hF.cell 1
  have lF := hF.lt
  have HC0 : Hid (∀ W, Rdr W C R l (n) (sh) → Calls Tryz.prog 148 #[.pointer (some ⟨R, 0, none⟩), .int .i64 4] W fun e w' => e = .returned (.int .i64 (numF 4 l (n)).1) ∧ Rdr w' C R l (nxtN 4 l (n)) (nxtS 4 l (n) (sh)) ∧ Gp (P2 C R) W w') := fun W hW => reader_number C R l _ 4 _ (by decide) (by decide) W hW
  clear h hF hC hR
  unfold NmsP
  go_enter Tryz.func149, Tryz.ntmps149
  go_wp2_with fail
  refine (HC0.out _ HS.out.1).mono ?_
  rintro e w1 ⟨rfl, hr, hg⟩
  have HT0 := Lib.hid (NmsS.call HS.out hr hg)
  obtain ⟨e1, e2, e3⟩ := HT0.out.sees 11
  simp only [List.getElem?_toArray, List.getElem?_cons_succ, List.getElem?_cons_zero] at e1
  clear hr hg
  go_wp2_with fail
  go_end0
  have hs : NmsS C R F 3 fl st pad l ⟨0, 0, false, 0, 0, (numF 4 l (n)).1, 0, nxtN 4 l (n), nxtS 4 l (n) (sh)⟩ w (w1.setCell ⟨F, 11, none⟩ (.int .i64 (numF 4 l (n)).1)) := NmsS.put HT0.out 11 _ rfl rfl rfl
  exact ⟨rfl, hs.1, hs.2.1, hs.2.2.1⟩
set_option maxHeartbeats 2000000 in
set_option maxRecDepth 100000 in
theorem numbers5 (C R F : Nat) (fl st pad : Int) (l : List UInt8) (n : Nat) (sh : Bool) (w : World) (h : Rdr w C R l n sh) (hF : Blk w F FrmT (fmC 5 fl st pad none 0 0 none 0 0 0 0 false 0 0 0 0)) (hC : F ≠ C) (hR : F ≠ R) :
    Calls Tryz.prog 149 #[.pointer (some ⟨R, 0, none⟩), .pointer (some ⟨F, 0, none⟩)] w (NmsP C R F 5 fl st pad l (numsF 5 fl l n sh) w) := by
  have HS : Hid (NmsS C R F 5 fl st pad l ⟨0, 0, false, 0, 0, 0, 0, n, sh⟩ w w) := ⟨h, hF, Gp.refl _, hC, hR⟩
  have c0 : w.cell? ⟨F, 0, none⟩ = some (.int .i64 5) := hF.cell 0
  have c1 : w.cell? ⟨F, 1, none⟩ = some (.int .i64 fl) := hF.cell 1
  have lF := hF.lt
  have HC0 : Hid (∀ W, Rdr W C R l (n) (sh) → Calls Tryz.prog 213 #[.pointer (some ⟨R, 0, none⟩)] W fun e w' => e = .returned (.tuple #[.int .i64 (lowF (numF 4 l (n)).1).1, .bool (lowF (numF 4 l (n)).1).2]) ∧ Rdr w' C R l (nxtN 4 l (n)) (nxtS 4 l (n) (sh)) ∧ Gp (P2 C R) W w') := fun W hW => reader_low C R l _ _ W hW
  clear h hF hC hR
  unfold NmsP
  go_enter Tryz.func149, Tryz.ntmps149
  go_wp2_with fail
  refine (HC0.out _ HS.out.1).mono ?_
  rintro e w1 ⟨rfl, hr, hg⟩
  have HT0 := Lib.hid (NmsS.call HS.out hr hg)
  obtain ⟨e1, e2, e3⟩ := HT0.out.sees 9
  simp only [List.getElem?_toArray, List.getElem?_cons_succ, List.getElem?_cons_zero] at e1
  clear hr hg
  go_wp2_with fail
  go_end0
  have hs : NmsS C R F 5 fl st pad l ⟨0, 0, false, (lowF (numF 4 l (n)).1).1, 0, 0, 0, nxtN 4 l (n), nxtS 4 l (n) (sh)⟩ w (w1.setCell ⟨F, 9, none⟩ (.int .i64 (lowF (numF 4 l (n)).1).1)) := NmsS.put HT0.out 9 _ rfl rfl rfl
  exact ⟨rfl, hs.1, hs.2.1, hs.2.2.1⟩
set_option maxHeartbeats 2000000 in
set_option maxRecDepth 100000 in
theorem numbers8 (C R F : Nat) (fl st pad : Int) (l : List UInt8) (n : Nat) (sh : Bool) (w : World) (h : Rdr w C R l n sh) (hF : Blk w F FrmT (fmC 8 fl st pad none 0 0 none 0 0 0 0 false 0 0 0 0)) (hC : F ≠ C) (hR : F ≠ R) :
    Calls Tryz.prog 149 #[.pointer (some ⟨R, 0, none⟩), .pointer (some ⟨F, 0, none⟩)] w (NmsP C R F 8 fl st pad l (numsF 8 fl l n sh) w) := by
  have HS : Hid (NmsS C R F 8 fl st pad l ⟨0, 0, false, 0, 0, 0, 0, n, sh⟩ w w) := ⟨h, hF, Gp.refl _, hC, hR⟩
  have c0 : w.cell? ⟨F, 0, none⟩ = some (.int .i64 8) := hF.cell 0
  have c1 : w.cell? ⟨F, 1, none⟩ = some (.int .i64 fl) := hF.cell 1
  have lF := hF.lt
  have HC0 : Hid (∀ W, Rdr W C R l (n) (sh) → Calls Tryz.prog 213 #[.pointer (some ⟨R, 0, none⟩)] W fun e w' => e = .returned (.tuple #[.int .i64 (lowF (numF 4 l (n)).1).1, .bool (lowF (numF 4 l (n)).1).2]) ∧ Rdr w' C R l (nxtN 4 l (n)) (nxtS 4 l (n) (sh)) ∧ Gp (P2 C R) W w') := fun W hW => reader_low C R l _ _ W hW
  clear h hF hC hR
  unfold NmsP
  go_enter Tryz.func149, Tryz.ntmps149
  go_wp2_with fail
  refine (HC0.out _ HS.out.1).mono ?_
  rintro e w1 ⟨rfl, hr, hg⟩
  have HT0 := Lib.hid (NmsS.call HS.out hr hg)
  obtain ⟨e1, e2, e3⟩ := HT0.out.sees 12
  simp only [List.getElem?_toArray, List.getElem?_cons_succ, List.getElem?_cons_zero] at e1
  clear hr hg
  go_wp2_with fail
  go_end0
  have hs : NmsS C R F 8 fl st pad l ⟨0, 0, false, 0, 0, 0, (lowF (numF 4 l (n)).1).1, nxtN 4 l (n), nxtS 4 l (n) (sh)⟩ w (w1.setCell ⟨F, 12, none⟩ (.int .i64 (lowF (numF 4 l (n)).1).1)) := NmsS.put HT0.out 12 _ rfl rfl rfl
  exact ⟨rfl, hs.1, hs.2.1, hs.2.2.1⟩
set_option maxHeartbeats 2000000 in
set_option maxRecDepth 100000 in
theorem numbers7 (C R F : Nat) (fl st pad : Int) (l : List UInt8) (n : Nat) (sh : Bool) (w : World) (h : Rdr w C R l n sh) (hF : Blk w F FrmT (fmC 7 fl st pad none 0 0 none 0 0 0 0 false 0 0 0 0)) (hC : F ≠ C) (hR : F ≠ R) :
    Calls Tryz.prog 149 #[.pointer (some ⟨R, 0, none⟩), .pointer (some ⟨F, 0, none⟩)] w (NmsP C R F 7 fl st pad l (numsF 7 fl l n sh) w) := by
  have HS : Hid (NmsS C R F 7 fl st pad l ⟨0, 0, false, 0, 0, 0, 0, n, sh⟩ w w) := ⟨h, hF, Gp.refl _, hC, hR⟩
  have c0 : w.cell? ⟨F, 0, none⟩ = some (.int .i64 7) := hF.cell 0
  have c1 : w.cell? ⟨F, 1, none⟩ = some (.int .i64 fl) := hF.cell 1
  have lF := hF.lt
  have HC0 : Hid (∀ W, Rdr W C R l (n) (sh) → Calls Tryz.prog 213 #[.pointer (some ⟨R, 0, none⟩)] W fun e w' => e = .returned (.tuple #[.int .i64 (lowF (numF 4 l (n)).1).1, .bool (lowF (numF 4 l (n)).1).2]) ∧ Rdr w' C R l (nxtN 4 l (n)) (nxtS 4 l (n) (sh)) ∧ Gp (P2 C R) W w') := fun W hW => reader_low C R l _ _ W hW
  have HC1 : Hid (∀ W, Rdr W C R l (nxtN 4 l (n)) (nxtS 4 l (n) (sh)) → Calls Tryz.prog 148 #[.pointer (some ⟨R, 0, none⟩), .int .i64 4] W fun e w' => e = .returned (.int .i64 (numF 4 l (nxtN 4 l (n))).1) ∧ Rdr w' C R l (nxtN 4 l (nxtN 4 l (n))) (nxtS 4 l (nxtN 4 l (n)) (nxtS 4 l (n) (sh))) ∧ Gp (P2 C R) W w') := fun W hW => reader_number C R l _ 4 _ (by decide) (by decide) W hW
  clear h hF hC hR
  unfold NmsP
  go_enter Tryz.func149, Tryz.ntmps149
  go_wp2_with fail
  refine (HC0.out _ HS.out.1).mono ?_
  rintro e w1 ⟨rfl, hr, hg⟩
  have HT0 := Lib.hid (NmsS.call HS.out hr hg)
  obtain ⟨e1, e2, e3⟩ := HT0.out.sees 10
  simp only [List.getElem?_toArray, List.getElem?_cons_succ, List.getElem?_cons_zero] at e1
  clear hr hg
  go_wp2_with fail
  obtain ⟨w2, hw⟩ : ∃ w', w' = w1.setCell ⟨F, 10, none⟩ (.int .i64 (lowF (numF 4 l (n)).1).1) := ⟨_, rfl⟩
  rw [← hw]
  have HS0 : Hid (NmsS C R F 7 fl st pad l ⟨0, 0, false, 0, (lowF (numF 4 l (n)).1).1, 0, 0, nxtN 4 l (n), nxtS 4 l (n) (sh)⟩ w w2) := by rw [hw]; exact NmsS.put HT0.out 10 _ rfl rfl rfl
  clear hw e1 e2 e3
  obtain ⟨k1, k2, k3⟩ := HS0.out.sees 0
  go_wp2_with fail
  refine (HC1.out _ HS0.out.1).mono ?_
  rintro e w3 ⟨rfl, hr, hg⟩
  have HT1 := Lib.hid (NmsS.call HS0.out hr hg)
  obtain ⟨e1, e2, e3⟩ := HT1.out.sees 11
  simp only [List.getElem?_toArray, List.getElem?_cons_succ, List.getElem?_cons_zero] at e1
  clear hr hg
  go_wp2_with fail
  go_end0
  have hs : NmsS C R F 7 fl st pad l ⟨0, 0, false, 0, (lowF (numF 4 l (n)).1).1, (numF 4 l (nxtN 4 l (n))).1, 0, nxtN 4 l (nxtN 4 l (n)), nxtS 4 l (nxtN 4 l (n)) (nxtS 4 l (n) (sh))⟩ w (w3.setCell ⟨F, 11, none⟩ (.int .i64 (numF 4 l (nxtN 4 l (n))).1)) := NmsS.put HT1.out 11 _ rfl rfl rfl
  exact ⟨rfl, hs.1, hs.2.1, hs.2.2.1⟩
set_option maxRecDepth 100000 in
theorem numbers2 (C R F : Nat) (fl st pad : Int) (l : List UInt8) (n : Nat) (sh : Bool) (w : World) (h : Rdr w C R l n sh) (hF : Blk w F FrmT (fmC 2 fl st pad none 0 0 none 0 0 0 0 false 0 0 0 0)) (hC : F ≠ C) (hR : F ≠ R) :
    Calls Tryz.prog 149 #[.pointer (some ⟨R, 0, none⟩), .pointer (some ⟨F, 0, none⟩)] w (NmsP C R F 2 fl st pad l (numsF 2 fl l n sh) w) := by
  have HW := Lib.hid (reader_weighed C R F 2 fl st pad l n sh w h hF hC hR)
  have c0 : w.cell? ⟨F, 0, none⟩ = some (.int .i64 2) := hF.cell 0
  have lF := hF.lt
  have HM : Hid (numsF 2 fl l n sh = weiF l n sh) := by show _ = _; unfold numsF; rw [if_pos (.inr rfl)]
  rw [HM.out]
  generalize weiF l n sh = M at HW ⊢
  clear h hF hC hR HM
  unfold NmsP at HW ⊢
  go_enter Tryz.func149, Tryz.ntmps149
  go_wp2_with fail
  refine HW.out.mono ?_
  rintro e w1 ⟨rfl, hr⟩
  have HR := Lib.hid hr
  clear hr
  go_wp2_with fail
  go_end0
  exact ⟨rfl, HR.out⟩
set_option maxRecDepth 100000 in
theorem numbers1 (C R F : Nat) (fl st pad : Int) (l : List UInt8) (n : Nat) (sh : Bool) (w : World) (h : Rdr w C R l n sh) (hF : Blk w F FrmT (fmC 1 fl st pad none 0 0 none 0 0 0 0 false 0 0 0 0)) (hC : F ≠ C) (hR : F ≠ R) (h0 : 0 ≤ fl) (h1 : fl ≤ 255) :
    Calls Tryz.prog 149 #[.pointer (some ⟨R, 0, none⟩), .pointer (some ⟨F, 0, none⟩)] w (NmsP C R F 1 fl st pad l (numsF 1 fl l n sh) w) := by
  have HW : Hid (∀ W, Below w.heap.size w W → Calls Tryz.prog 212 #[.pointer (some ⟨R, 0, none⟩), .pointer (some ⟨F, 0, none⟩)] W (NmsP C R F 1 fl st pad l (weiF l n sh) W)) := fun W hb => reader_weighed C R F 1 fl st pad l n sh W (h.below hb) (hF.below hb hF.lt) hC hR
  have HA : Hid (∀ W, Calls Tryz.prog 146 #[.int .i64 1, .int .i64 fl, .int .i64 32] W fun e w' => e = .returned (.bool (hasF 1 fl 32)) ∧ W = w') := kinds_Has 1 fl 32 (by simp) h0 h1
  have HM : Hid (numsF 1 fl l n sh = if hasF 1 fl 32 = true then weiF l n sh else ⟨0, 0, false, 0, 0, 0, 0, n, sh⟩) := by show _ = _; unfold numsF; simp
  rw [HM.out]
  have HR := Lib.hid h
  have HF := Lib.hid hF
  have c0 : w.cell? ⟨F, 0, none⟩ = some (.int .i64 1) := hF.cell 0
  have c1 : w.cell? ⟨F, 1, none⟩ = some (.int .i64 fl) := hF.cell 1
  have lF := hF.lt
  generalize weiF l n sh = M at HW ⊢
  generalize hasF 1 fl 32 = b at HA ⊢
  clear h hF hC hR HM h0 h1
  unfold NmsP at HW ⊢
  cases b
  · go_enter Tryz.func149, Tryz.ntmps149
    go_wp2_with fail
    refine wp_region_more (by kernel_rfl) (by kernel_rfl) ?_
    repeat (quiet_step (first | (go_at_call 146; exact more_of_same (HA.out _))))
    refine wpQuiet_nil ?_
    intro w' hw'
    obtain ⟨j, rfl⟩ := hw'
    go_wp2_with fail
    go_end0
    exact ⟨rfl, HR.out.below bel, HF.out.below bel HF.out.lt, Gp.of_below bel⟩
  · go_enter Tryz.func149, Tryz.ntmps149
    go_wp2_with fail
    refine wp_region_more (by kernel_rfl) (by kernel_rfl) ?_
    repeat (quiet_step (first | (go_at_call 146; exact more_of_same (HA.out _))))
    refine wpQuiet_nil ?_
    intro w' hw'
    obtain ⟨j, rfl⟩ := hw'
    go_wp2_with fail
    refine (HW.out _ bel).mono ?_
    rintro e w1 ⟨rfl, hr, hf, hg⟩
    have HR1 := Lib.hid hr
    have HF1 := Lib.hid hf
    have HG1 := Lib.hid hg
    clear hr hf hg
    go_wp2_with fail
    go_end0
    exact ⟨rfl, HR1.out, HF1.out, (Gp.of_below bel).trans HG1.out⟩
set_option maxRecDepth 100000 in
theorem numbers0 (C R F : Nat) (ty fl st pad : Int) (l : List UInt8) (n : Nat) (sh : Bool) (w : World) (h : Rdr w C R l n sh) (hF : Blk w F FrmT (fmC ty fl st pad none 0 0 none 0 0 0 0 false 0 0 0 0)) (hC : F ≠ C) (hR : F ≠ R) (g1 : ¬ ty = 1) (g2 : ¬ ty = 2) (g3 : ¬ ty = 3) (g5 : ¬ ty = 5) (g7 : ¬ ty = 7) (g8 : ¬ ty = 8) :
    Calls Tryz.prog 149 #[.pointer (some ⟨R, 0, none⟩), .pointer (some ⟨F, 0, none⟩)] w (NmsP C R F ty fl st pad l (numsF ty fl l n sh) w) := by
  have HM : Hid (numsF ty fl l n sh = ⟨0, 0, false, 0, 0, 0, 0, n, sh⟩) := by show _ = _; unfold numsF; simp [*]
  rw [HM.out]
  have HR := Lib.hid h
  have HF := Lib.hid hF
  have c0 : w.cell? ⟨F, 0, none⟩ = some (.int .i64 ty) := hF.cell 0
  have lF := hF.lt
  clear h hF hC hR HM
  unfold NmsP
  go_enter Tryz.func149, Tryz.ntmps149
  go_wp2_with fail
  go_end0
  exact ⟨rfl, HR.out, HF.out, Gp.refl _⟩
theorem reader_numbers (C R F : Nat) (ty fl st pad : Int) (l : List UInt8) (n : Nat) (sh : Bool) (w : World) (h : Rdr w C R l n sh) (hF : Blk w F FrmT (fmC ty fl st pad none 0 0 none 0 0 0 0 false 0 0 0 0)) (hC : F ≠ C) (hR : F ≠ R) (h0 : 0 ≤ fl) (h1 : fl ≤ 255) :
    Calls Tryz.prog 149 #[.pointer (some ⟨R, 0, none⟩), .pointer (some ⟨F, 0, none⟩)] w (NmsP C R F ty fl st pad l (numsF ty fl l n sh) w) := by
  by_cases g1 : ty = 1
  · subst g1; exact numbers1 C R F fl st pad l n sh w h hF hC hR h0 h1
  by_cases g2 : ty = 2
  · subst g2; exact numbers2 C R F fl st pad l n sh w h hF hC hR
  by_cases g3 : ty = 3
  · subst g3; exact numbers3 C R F fl st pad l n sh w h hF hC hR
  by_cases g5 : ty = 5
  · subst g5; exact numbers5 C R F fl st pad l n sh w h hF hC hR
  by_cases g7 : ty = 7
  · subst g7; exact numbers7 C R F fl st pad l n sh w h hF hC hR
  by_cases g8 : ty = 8
  · subst g8; exact numbers8 C R F fl st pad l n sh w h hF hC hR
  exact numbers0 C R F ty fl st pad l n sh w h hF hC hR g1 g2 g3 g5 g7 g8
end Go.Proofs.YtfloijkagfabpaaGreatDoor
