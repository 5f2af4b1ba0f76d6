/-
  Reports: the verdict's line is read.
-/
import Derived.Test.YtbdmepidabnfkaaGreatDoorRepE
namespace Go.Proofs.YtbdmepidabnfkaaGreatDoor
set_option linter.unusedSimpArgs false
set_option linter.unusedVariables false
set_option linter.unusedSectionVars false
open Go.ChangeShapes Go.WideShapes Go.ChangeAt Go.RowKit Go.Deep Go.Shelf

theorem set_same {cs : Array Value} {i : Nat} {v : Value} (h : cs[i]? = some v) : cs.setIfInBounds i v = cs := by
  apply Array.ext_getElem?
  intro j
  rw [Array.getElem?_setIfInBounds]
  split
  · rename_i e
    subst e
    obtain ⟨hlt, _⟩ := Array.getElem?_eq_some_iff.1 h
    rw [if_pos hlt, h]
  · rfl
theorem set_twice {cs : Array Value} {i : Nat} {u v : Value} : (cs.setIfInBounds i u).setIfInBounds i v = cs.setIfInBounds i v := by
  apply Array.ext_getElem?
  intro j
  simp only [Array.getElem?_setIfInBounds, Array.size_setIfInBounds]
  split <;> rfl
theorem no_text_set {cs : Array Value} {i : Nat} {n : Int} (h : ∀ (j : Nat) (s : ByteArray), cs[j]? ≠ some (Value.string s)) : ∀ (j : Nat) (s : ByteArray), (cs.setIfInBounds i (.int .i64 n))[j]? ≠ some (Value.string s) := by
  intro j s
  rw [Array.getElem?_setIfInBounds]
  split
  · split <;> simp
  · exact h j s
theorem kindB_at (s : List UInt8) : (kindB s).1 = 0 ∨ (1 ≤ (kindB s).1 ∧ (kindB s).1 ≤ 4) := by
  by_cases h : (kindB s).2 = true
  · obtain ⟨_, h1, h2⟩ := scan_true kindF s 4 1 _ (Prod.ext rfl h)
    refine .inr ⟨h1, ?_⟩
    have : (scanF kindF s 4 1).1 < 1 + (4 : Nat) := h2
    show (scanF kindF s 4 1).1 ≤ 4
    omega
  · have := scan_false kindF s 4 1 (by unfold kindB at h; simpa using h)
    left; unfold kindB; rw [this]
theorem kindB_eq (s : List UInt8) (k : Int) (h1 : 1 ≤ k) (h2 : k ≤ 4) : (kindF k == s) = decide ((kindB s).1 = k) := by
  by_cases h : kindF k = s
  · subst h
    rw [kindB_kind ⟨h1, h2⟩]
    simp
  · have hne : (kindB s).1 ≠ k := fun e => by
      by_cases hb : (kindB s).2 = true
      · exact h (by rw [← e]; exact scan_pair hb)
      · have := scan_false kindF s 4 1 (by unfold kindB at hb; simpa using hb)
        have hz : (kindB s).1 = 0 := by unfold kindB; rw [this]
        omega
    rw [decide_eq_false hne, beq_eq_false_iff_ne]
    exact h
/-- What reading the verdict leaves. -/
def VerP (g gx : Nat) (t : TypeId) (cs : Array Value) (r : Int × Int × List (List UInt8) × Bool) (w : World) (e : Ending) (w' : World) : Prop :=
  e = .returned (.tuple #[]) ∧ RdS w' g r.2.2.1 r.2.2.2 ∧ Blk w' gx t ((cs.setIfInBounds 7 (.int .i64 r.1)).setIfInBounds 8 (.int .i64 r.2.1)) ∧ Gp (P2 g gx) w w'
set_option maxHeartbeats 16000000 in
set_option maxRecDepth 100000 in
theorem reader_verdict (g gx : Nat) (t : TypeId) (cs : Array Value) (L : List (List UInt8)) (b : Bool) (hL : L.length ≤ 100000) (hLl : ∀ x ∈ L, x.length ≤ 90000) (w0 w : World) (hb : Rb w0 g w) (hgx0 : w0.heap.size ≤ gx) (hS : RdS w g L b) (hX : Blk w gx t cs) (hcs : cs.size = 13) (h7 : cs[7]? = some (.int .i64 0)) (hnt : ∀ (j : Nat) (s : ByteArray), cs[j]? ≠ some (Value.string s)) (hne : g ≠ gx) :
    Calls Tryz.prog 42 #[.pointer (some ⟨g, 0, none⟩), .pointer (some ⟨gx, 0, none⟩)] w (VerP g gx t cs (verdictD L b) w) := by
  have hgl := hS.lt
  have HNX : Hid (Calls Tryz.prog 39 #[.pointer (some ⟨g, 0, none⟩), .int .i64 2, bstr [118, 101, 114, 100, 105, 99, 116]] w (NxtP g 2 (nextD 2 [118, 101, 114, 100, 105, 99, 116] L b).1 (nextD 2 [118, 101, 114, 100, 105, 99, 116] L b).2.1 (nextD 2 [118, 101, 114, 100, 105, 99, 116] L b).2.2 w)) := by
    obtain ⟨m, hM⟩ := hb.e.max
    exact reader_next g 2 [118, 101, 114, 100, 105, 99, 116] L b (by omega) hL hLl m w hM hS
  have hwl : ∀ x ∈ (nextD 2 [118, 101, 114, 100, 105, 99, 116] L b).1, x.length ≤ 90000 := next_words hLl
  have hnl : (nextD 2 [118, 101, 114, 100, 105, 99, 116] L b).1.length = 2 := next_len _ _ _ _
  unfold verdictD
  simp only
  generalize nextD 2 [118, 101, 114, 100, 105, 99, 116] L b = N at HNX hwl hnl ⊢
  obtain ⟨ws, L1, b1⟩ := N
  simp only at HNX hwl hnl ⊢
  have HN : Hid (∀ W, Rb w0 g W → RdS W g L1 b1 → Calls Tryz.prog 45 #[.pointer (some ⟨g, 0, none⟩), bstr (atD ws 1)] W fun e w' => e = .returned (.int .i64 (numD (atD ws 1) b1).1) ∧ RdS w' g L1 (numD (atD ws 1) b1).2 ∧ Gm g W w') := fun W hW hR => reader_number g L1 b1 _ (by have := atD_le (k := 1) hwl; omega) W hW.e hR
  generalize numD (atD ws 1) b1 = p1 at HN ⊢
  obtain ⟨n1, q1⟩ := p1
  simp only at HN ⊢
  have HKE : Hid (∀ k : Int, 1 ≤ k → k ≤ 4 → (kindF k == atD ws 0) = decide ((kindB (atD ws 0)).1 = k)) := kindB_eq (atD ws 0)
  have hkb := kindB_at (atD ws 0)
  generalize (kindB (atD ws 0)).1 = kB at HKE hkb ⊢
  have HB := Lib.hid hb
  have HX := Lib.hid hX
  have HNT := Lib.hid hnt
  have H7 := Lib.hid h7
  have HCS := Lib.hid hcs
  clear hL hLl hb hS hwl hX hnt h7 hcs
  go_enter Tryz.func42, Tryz.ntmps42
  go_wp2_with fail
  refine HNX.out.mono ?_
  rintro e w1 ⟨aw, cw, rfl, hsw, hrd, hgm⟩
  obtain ⟨bw, off, haw, hbw, hwg, hcl⟩ := words_cells hrd hsw hnl (by omega)
  subst haw
  have d0 := hcl 0 (by omega)
  have d1 := hcl 1 (by omega)
  simp only [Nat.add_zero] at d0
  have hx1 : Blk w1 gx t cs := HX.out.grown hgm (by simpa using Ne.symm hne)
  have hwx : bw ≠ gx := fun e => by
    subst e
    rw [hx1.cell] at d0
    exact HNT.out _ _ d0
  have HG1 := Lib.hid hgm
  have HR1 := Lib.hid hrd
  have HB1 : Hid (Rb w0 g w1) := HB.out.gm hgm
  have HX1 := Lib.hid hx1
  have D0 := Lib.hid d0
  have D1 := Lib.hid d1
  clear hrd hgm hsw hcl HNX hnl HX hx1 d0 d1
  generalize atD ws 0 = s0 at D0 HKE
  generalize atD ws 1 = s1 at D1 HN
  go_wp2_with fail
  go_loopg [5] 5 (fun gg i wr => ∃ (k : Nat) (vq : Int), k + gg = 6 ∧ 1 ≤ k ∧ k ≤ 5 ∧ i = .int .i64 k ∧ vq = (if kB < k then kB else 0) ∧ Blk wr gx t (cs.setIfInBounds 7 (.int .i64 vq)) ∧ RdS wr g L1 b1 ∧ Gp (P2 g gx) w1 wr)
  case atStart => exact ⟨1, 0, by omega, by omega, by omega, rfl, by split <;> omega, by rw [set_same H7.out]; exact HX1.out, HR1.out, Gp.refl _⟩
  case round =>
    obtain ⟨k, vq, hkg, hk1, hk5, rfl, hvq, hxr, hrr, hgp⟩ := hrel
    have HKG := Lib.hid hkg
    have HXR := Lib.hid hxr
    have HRR := Lib.hid hrr
    have HGP := Lib.hid hgp
    have hgr := hrr.lt
    have hxl := hxr.lt
    have hbz : bw < wr.heap.size := Nat.lt_of_lt_of_le hbw hgp.size
    by_cases hlt : k ≤ 4
    · have hlt2 : (k : Int) ≤ 4 := by omega
      have c0 : wr.cell? ⟨bw, off, none⟩ = some (bstr s0) := (hgp.cell2 bw off hbw hwg hwx).trans D0.out
      have HKD : Hid (∀ W, Calls Tryz.prog 22 #[.int .i64 k] W fun e w' => e = .returned (bstr (kindF k)) ∧ W = w') := record_Kind k
      have hke := HKE.out k (by omega) hlt2
      generalize kindF (k : Int) = T at HKD hke
      have x7 : wr.cell? ⟨gx, 7, none⟩ = some (.int .i64 vq) := by
        rw [hxr.cell, Array.getElem?_setIfInBounds, if_pos rfl, if_pos (by rw [HCS.out]; omega)]
      have y7 : wr.frozen? ⟨gx, 7, none⟩ = false := hxr.frozen 7
      clear hkg hxr hrr hgp
      by_cases hkk : kB = k
      · have e1 : (T == s0) = true := by rw [hke]; simpa using hkk
        clear hke
        go_wp2_with fail
        refine wp_region_more (by kernel_rfl) (by kernel_rfl) ?_
        repeat (go_big_quiet_step (first | (go_at_call 22; exact more_of_same (HKD.out _))))
        refine wpQuiet_nil ?_
        intro w' hw'
        obtain ⟨j, rfl⟩ := hw'
        go_wp2_with fail
        go_roundg (5 - k)
        case measure => have := HKG.out; omega
        case rel =>
          refine ⟨k + 1, k, by have := HKG.out; omega, by omega, by omega, by go_num, by rw [if_pos (by omega)]; omega, ?_, ?_, ?_⟩
          · have := (HXR.out.set_ 7 (.int .i64 (k : Int))).more j
            rw [set_twice] at this
            exact this
          · exact (HRR.out.far HXR.out (no_text_set HNT.out) (gm_set _) hne).grow (by repeat (first | (with_reducible exact Below.refl _ _) | (with_reducible refine Below.allocS ?_ _) | (with_reducible refine Below.moreS ?_ _) | (with_reducible refine Below.drew ?_) | (with_reducible refine below_drewN ?_ _)))
          · exact HGP.out.trans ((Gp.set _ (Or.inr rfl)).trans (Gp.of_below (by repeat (first | (with_reducible exact Below.refl _ _) | (with_reducible refine Below.allocS ?_ _) | (with_reducible refine Below.moreS ?_ _) | (with_reducible refine Below.drew ?_) | (with_reducible refine below_drewN ?_ _)))))
      · have e1 : (T == s0) = false := by rw [hke]; simpa using hkk
        clear hke
        go_wp2_with fail
        refine wp_region_more (by kernel_rfl) (by kernel_rfl) ?_
        repeat (go_big_quiet_step (first | (go_at_call 22; exact more_of_same (HKD.out _))))
        refine wpQuiet_nil ?_
        intro w' hw'
        obtain ⟨j, rfl⟩ := hw'
        go_wp2_with fail
        go_roundg (5 - k)
        case measure => have := HKG.out; omega
        case rel =>
          refine ⟨k + 1, vq, by have := HKG.out; omega, by omega, by omega, by go_num, by rw [hvq]; split <;> split <;> omega, HXR.out.more j, HRR.out.grow (by repeat (first | (with_reducible exact Below.refl _ _) | (with_reducible refine Below.allocS ?_ _) | (with_reducible refine Below.moreS ?_ _) | (with_reducible refine Below.drew ?_) | (with_reducible refine below_drewN ?_ _))), HGP.out.trans (Gp.of_below (by repeat (first | (with_reducible exact Below.refl _ _) | (with_reducible refine Below.allocS ?_ _) | (with_reducible refine Below.moreS ?_ _) | (with_reducible refine Below.drew ?_) | (with_reducible refine below_drewN ?_ _))))⟩
    · obtain rfl : k = 5 := by omega
      have hv : vq = kB := by rw [hvq, if_pos (by omega)]
      subst hv
      have c1 : wr.cell? ⟨bw, off + 1, none⟩ = some (bstr s1) := (hgp.cell2 bw (off + 1) hbw hwg hwx).trans D1.out
      clear hkg hxr hrr hgp hlt hvq
      go_wp2_with fail
      refine (HN.out wr ⟨HB1.out.env, HB1.out.bl.trans (HGP.out.below (fun q hq => hq.elim (fun e => by rw [e]; exact HB1.out.lo) (fun e => by rw [e]; exact hgx0)) HB1.out.bl.size), HB1.out.lo⟩ HRR.out).mono ?_
      rintro e w2 ⟨rfl, hr2, hg2⟩
      have hx2 : Blk w2 gx t _ := HXR.out.grown hg2 (by simpa using Ne.symm hne)
      have HX2 := Lib.hid hx2
      have HR2 := Lib.hid hr2
      have HG2 : Hid (Gp (P2 g gx) w1 w2) := HGP.out.trans (Gp.of_gm hg2 (Or.inl rfl))
      obtain ⟨v8, hv8⟩ : ∃ v8, w2.cell? ⟨gx, 8, none⟩ = some v8 := by
        rw [hx2.cell]
        exact ⟨_, Array.getElem?_eq_getElem (by simp [HCS.out])⟩
      have y8 : w2.frozen? ⟨gx, 8, none⟩ = false := hx2.frozen 8
      have hxl2 := hx2.lt
      clear hr2 hg2 hx2
      go_wp2_with fail
      refine bodyPost_ret (results_none rfl _ _ _) rfl ?_
      exact ⟨rfl, HR2.out.far HX2.out (no_text_set HNT.out) (gm_set _) hne, HX2.out.set_ 8 _, (Gp.of_gm HG1.out (Or.inl rfl)).trans (HG2.out.trans (Gp.set _ (Or.inr rfl)))⟩
end Go.Proofs.YtbdmepidabnfkaaGreatDoor
