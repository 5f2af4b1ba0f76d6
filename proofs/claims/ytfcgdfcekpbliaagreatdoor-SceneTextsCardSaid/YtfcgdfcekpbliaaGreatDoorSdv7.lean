/-
  Scenarios: the document's road back from a text: a client.
-/
import Derived.Test.YtfcgdfcekpbliaaGreatDoorSdv6
import Derived.Test.YtfcgdfcekpbliaaGreatDoorSdv5
import Derived.Test.YtfcgdfcekpbliaaGreatDoorSdo1
import Derived.Test.YtfcgdfcekpbliaaGreatDoorScr2
import Derived.Test.YtfcgdfcekpbliaaGreatDoorMh
import Derived.Test.YtfcgdfcekpbliaaGreatDoorMk
namespace Go.Proofs.YtfcgdfcekpbliaaGreatDoor
set_option linter.unusedSimpArgs false
set_option linter.unusedVariables false
set_option linter.unusedSectionVars false
open Go.ChangeShapes Go.WideShapes Go.ChangeAt Go.RowKit Go.Deep Go.Shelf

set_option maxHeartbeats 32000000 in
set_option maxRecDepth 100000 in
theorem ref51_Read0 (t : List UInt8) (ht : t.length ≤ 3000) (L : List (List UInt8)) (hLF : linesF t = (L, true)) (hl2 : 2 ≤ L.length) (hfs : L[0] ≠ firstS 1) (w : World) :
    Calls Tryz.prog 14 #[bstr t] w (ReadD (refScn t) w) := by
  have HLI : Hid (∀ o, Calls Tryz.prog 37 #[bstr t] (w.alloc o) fun e w' => ∃ a cap, e = .returned (.tuple #[.slice a L.length cap, .bool true]) ∧ SlX w' w'.heap.size a L ∧ Below (w.alloc o).heap.size (w.alloc o) w') := fun o => by
    have := ref04_Lines t (w.alloc o) (by omega)
    rw [hLF] at this
    exact this
  have hll := linesF_short ht
  rw [hLF] at hll
  simp only at hll
  have HRD : Hid (refScn t = if (L.drop 1).all okL = true then endScn t (mkScn L) else (zScn, false)) := by
    show _ = _
    unfold refScn
    rw [hLF]
    simp only
    rw [if_neg (by simp; omega)]
  generalize refScn t = R at HRD ⊢
  have HSH := Lib.hid hll.2
  have hlen := hll.1
  have hn2 : ¬ (L.length : Int) < 2 := by omega
  have hn2n : ¬ L.length < 2 := by omega
  have HFS := Lib.hid hfs
  clear hLF hll hfs
  have hl0 : 0 < L.length := by omega
  go_enter Tryz.func14, Tryz.ntmps14
  go_wp2_with fail
  refine (HLI.out _).mono ?_
  rintro e w1 ⟨aL, cL, rfl, hsl, hb1⟩
  have hT1k : Blk w1 w.heap.size QdT zPd := (Blk.new w QdT zPd).below hb1 (by simp)
  have HB1 : Hid (Below w.heap.size w w1) := Below.trans bel (hb1.mono (by simp))
  obtain ⟨b, off, ha, hbb, c0, _⟩ := SlR.atX hsl (k := 0) (by omega)
  subst ha
  rw [Nat.add_zero] at c0
  have HAT : Hid (∀ k (hk : k < L.length), w1.cell? ⟨b, off + k, none⟩ = some (bstr L[k])) := fun k hk => by
    obtain ⟨b2, off2, e2, _, h, _⟩ := SlR.atX hsl (k := k) hk
    injection e2 with e2
    injection e2 with e3 e4
    subst e3 e4
    exact h
  have hg1 := hT1k.lt
  have HT1 := Lib.hid hT1k
  have hsub : IntKind.i64.wrap ((L.length : Int) - 1) = (L.length : Int) - 1 := IntWalk.i64_in _ (by omega)
  have e1S : (L[0] == ([115, 99, 101, 110, 97, 114, 105, 111, 32, 115, 101, 114, 118, 101, 114] : List UInt8)) = false := by 
    have h1 : firstS 1 = [115, 99, 101, 110, 97, 114, 105, 111, 32, 115, 101, 114, 118, 101, 114] := by decide
    have h2 := HFS.out
    rw [h1] at h2
    simpa using h2
  have HE1 := Lib.hid e1S
  generalize L[0] = s0 at c0 e1S
  clear hb1 hsl hT1k
  go_wp2_with fail
  obtain ⟨w2, hw2⟩ : ∃ w2, w2 = w1.alloc (.cells #[.int .i64 0, .slice none 0 0, .int .i64 0, .int .i64 0] QdT) := ⟨_, rfl⟩
  rw [← hw2]
  have hbk2 : Blk w2 w1.heap.size QdT #[.int .i64 0, .slice none 0 0, .int .i64 0, .int .i64 0] := by rw [hw2]; exact Blk.new _ _ _
  have HB2 : Hid (Below w1.heap.size w1 w2) := by show Below _ _ _; rw [hw2]; exact bel
  clear hw2
  obtain ⟨KD, hKD⟩ : ∃ KD, KD = kindD (splitF (atD L (L.length - 1))).1 := ⟨_, rfl⟩
  obtain ⟨NN, hNN⟩ : ∃ NN, NN = nmR (splitF (atD L (L.length - 1))).1 2 := ⟨_, rfl⟩
  have HKD := Lib.hid hKD
  have HNN := Lib.hid hNN
  clear hKD hNN
  go_loopg [7] L.length (fun q i wr => ∃ (p : Nat) (v : Value), p + q = L.length + 1 ∧ p ≤ L.length ∧ 1 ≤ p ∧ i = .int .i64 p ∧ OwnSt QtT w1.heap.size wr v (accD L p) ∧ Blk wr w1.heap.size QdT #[.int .i64 0, v, .int .i64 (if p = L.length then KD else 0), .int .i64 (if p = L.length then NN else 0)] ∧ Below w1.heap.size w1 wr ∧ Hid (((L.drop 1).take (p - 1)).all okL = true))
  case atStart =>
    have h1 : ¬ 1 = L.length := by omega
    exact ⟨1, .slice none 0 0, by omega, by omega, by omega, rfl, by unfold accD; simpa using OwnSt.nil QtT w1.heap.size w2, by rw [if_neg h1, if_neg h1]; exact hbk2, HB2.out, by show _ = _; simp⟩
  case round =>
    obtain ⟨p, v, hpq, hple, hp1, rfl, ho, hbk, hb, HOKL⟩ := hrel
    have HPQ := Lib.hid hpq
    obtain ⟨av, cv, rfl⟩ := ho.slice
    have HO := Lib.hid ho
    have HB := Lib.hid hb
    have HBB : Hid (Below w.heap.size w wr) := HB1.out.trans (hb.mono HB1.out.size)
    have hzr := hb.size
    have HTr : Hid (Blk wr w.heap.size QdT zPd) := HT1.out.below hb hg1
    have hal : (accD L p).length ≤ 3001 := by have := acc_len L p; omega
    have hsl := hbk.lt
    have hbz : b < wr.heap.size := by omega
    clear hpq ho hb hbk2
    by_cases hlt : p < L.length
    · have hpn : ¬ p = L.length := by omega
      rw [if_neg hpn, if_neg hpn] at hbk
      have HBK := Lib.hid hbk
      have hpl : (p : Int) < (L.length : Int) := by omega
      have c1 : wr.cell? ⟨b, off + p, none⟩ = some (bstr L[p]) := (HB.out.cell (p := ⟨b, off + p, none⟩) hbb).trans (HAT.out p hlt)
      have hs9 := HSH.out _ (List.getElem_mem hlt)
      have HACC : Hid (p < L.length - 1 → accD L (p + 1) = accD L p ++ [stepD (splitF L[p]).1]) := fun h => acc_step hp1 h
      have HOKN : Hid (okL L[p] = true → ((L.drop 1).take (p + 1 - 1)).all okL = true) := fun h => by
        obtain ⟨q, rfl⟩ : ∃ q, p = q + 1 := ⟨p - 1, by omega⟩
        have hq : q < (L.drop 1).length := by rw [List.length_drop]; omega
        rw [Nat.add_sub_cancel, List.take_succ_eq_append_getElem hq, List.all_append]
        have e2 : (L.drop 1)[q] = L[q + 1] := by rw [List.getElem_drop]; congr 1; omega
        rw [e2]
        have := HOKL.out
        rw [Nat.add_sub_cancel] at this
        rw [this]
        simp [h]
      have HBAD : Hid (okL L[p] = false → R = (zScn, false)) := fun h => by
        rw [HRD.out, if_neg]
        intro e
        rw [List.all_eq_true] at e
        have hm : L[p] ∈ L.drop 1 := by
          obtain ⟨q, rfl⟩ : ∃ q, p = q + 1 := ⟨p - 1, by omega⟩
          have hq : q < (L.drop 1).length := by rw [List.length_drop]; omega
          have e2 : (L.drop 1)[q] = L[q + 1] := by rw [List.getElem_drop]; congr 1; omega
          rw [← e2]
          exact List.getElem_mem hq
        rw [e _ hm] at h
        cases h
      have HLAST : Hid (p = L.length - 1 → KD = kindD (splitF L[p]).1 ∧ NN = nmR (splitF L[p]).1 2) := fun h => by
        have e : atD L (L.length - 1) = L[p] := by
          subst h
          unfold atD
          rw [List.getD_eq_getElem?_getD, List.getElem?_eq_getElem hlt]
          rfl
        rw [← e]
        exact ⟨HKD.out, HNN.out⟩
      have HSP : Hid (∀ W, Calls Tryz.prog 38 #[bstr L[p]] W fun e w' => ∃ a cap, e = .returned (.tuple #[.slice a (splitF L[p]).1.length cap, .bool (splitF L[p]).2]) ∧ SlX w' w'.heap.size a (splitF L[p]).1 ∧ Below W.heap.size W w') := fun W => ref04_Split L[p] W hs9
      have hsp := split_short hs9
      have hok : okL L[p] = ((splitF L[p]).2 && !(splitF L[p]).1.isEmpty) := rfl
      rw [hok] at HOKN HBAD
      generalize L[p] = s at c1 HSP HACC HOKN HBAD HLAST hsp
      generalize splitF s = sp at HSP HACC HOKN HBAD HLAST hsp
      obtain ⟨l, was⟩ := sp
      simp only at HSP HACC HOKN HBAD HLAST hsp
      clear hbk hs9 hok
      go_wp2_with fail
      refine (HSP.out _).mono ?_
      rintro e w3 ⟨a3, c3, rfl, hs3, hb3⟩
      have HB3 := Lib.hid hb3
      have hz3 := hb3.size
      have HK3 : Hid (Blk w3 w1.heap.size QdT #[.int .i64 0, .slice av (accD L p).length cv, .int .i64 0, .int .i64 0]) := HBK.out.below hb3 hsl
      have HT3 : Hid (Blk w3 w.heap.size QdT zPd) := HTr.out.below hb3 (by omega)
      have HO3 : Hid (OwnSt QtT w1.heap.size w3 (.slice av (accD L p).length cv) (accD L p)) := HO.out.below hb3
      have HBB3 : Hid (Below w.heap.size w w3) := HBB.out.trans (hb3.mono HBB.out.size)
      have HBW3 : Hid (Below w1.heap.size w1 w3) := HB.out.trans (hb3.mono hzr)
      have HS3 := Lib.hid hs3
      have hsl3 := HK3.out.lt
      clear hs3 hb3 c1 HSP HBK HO HTr
      by_cases hgo : was = true ∧ l ≠ []
      · obtain ⟨rfl, hne⟩ := hgo
        have hp0 : 0 < l.length := List.length_pos_iff.2 hne
        have hp0i : ((l.length : Int) == 0) = false := by rw [beq_eq_false_iff_ne]; omega
        have hp0j : ¬ ((l.length : Int) = 0) := by omega
        have hp0k : ¬ l.length = 0 := by omega
        have HOK2 := Lib.hid (HOKN.out (by cases l with
          | nil => exact absurd rfl hne
          | cons y r => rfl))
        clear HOKN HBAD hne
        by_cases hlast : p < L.length - 1
        · have hlai : (p : Int) < (L.length : Int) - 1 := by omega
          have HAC2 := Lib.hid (HACC.out hlast)
          have HSTP : Hid (∀ W, Below w3.heap.size w3 W → Calls Tryz.prog 39 #[.slice a3 l.length c3] W (DstP (stepD l) W)) := fun W hW => ref51_step a3 c3 l hp0 hsp.1 hsp.2 W ((HS3.out.below hW (Nat.le_refl _)).mono hW.size (fun _ _ _ h => h))
          have hnx : ¬ p + 1 = L.length := by omega
          clear HACC HLAST
          generalize accD L p = acc at HO3 HK3 HAC2 hal
          generalize stepD l = x at HSTP HAC2
          go_wp2_with fail
          refine gp_start (Pv w1.heap.size (.slice av acc.length cv)) (by kernel_rfl) ?_
          obtain ⟨wd, hwd⟩ : ∃ wd, wd = w3.drew := ⟨_, rfl⟩
          rw [← hwd]
          have HOd : Hid (OwnSt QtT w1.heap.size wd (.slice av acc.length cv) acc) := by show OwnSt _ _ _ _ _; rw [hwd]; exact HO3.out.below bel
          have HKd : Hid (Blk wd w1.heap.size QdT #[.int .i64 0, .slice av acc.length cv, .int .i64 0, .int .i64 0]) := by show Blk _ _ _ _; rw [hwd]; exact HK3.out.drew
          have HBd : Hid (Below w1.heap.size w1 wd) := by show Below _ _ _; rw [hwd]; exact HBW3.out.drew
          have HBx : Hid (Below w3.heap.size w3 wd) := by show Below _ _ _; rw [hwd]; exact bel
          have kd1 : wd.cell? ⟨w1.heap.size, 1, none⟩ = some (.slice av acc.length cv) := HKd.out.cell 1
          have bd := HKd.out.lt
          have hzd := HBd.out.size
          clear hwd
          refine gp_take 0 (v := ?_) rfl (by kernel_rfl) (by kernel_rfl) (by kernel_rfl) (fun _ _ _ h => h) (Or.inl ⟨by first | kernel_rfl | rfl, ?_⟩) ?_
          rotate_left
          · intro wS hSw; clear hSw; go_simp; try with_reducible rfl
          try simp only [Act.put, List.getElem_toArray, List.getElem_cons_succ, List.getElem_cons_zero, List.setIfInBounds_toArray, List.set_cons_zero, List.set_cons_succ]
          refine gp_take 2 (v := ?_) rfl (by kernel_rfl) (by kernel_rfl) (by kernel_rfl) (fun _ _ _ h => h) (Or.inl ⟨by first | kernel_rfl | rfl, ?_⟩) ?_
          rotate_left
          · intro wS hSw; clear hSw; go_simp; try with_reducible rfl
          try simp only [Act.put, List.getElem_toArray, List.getElem_cons_succ, List.getElem_cons_zero, List.setIfInBounds_toArray, List.set_cons_zero, List.set_cons_succ]
          refine gpv_two 1 3 (by kernel_rfl) rfl rfl (fun K' hK => ?_) (fun K' hK => ?_)
          · go_simp
            go_wp2_with fail
            refine hK.out _ _ (show Gp _ _ _ from Gp.refl _) ?_
            clear hK K'
            try simp only [Act.put, List.getElem_toArray, List.getElem_cons_succ, List.getElem_cons_zero, List.setIfInBounds_toArray, List.set_cons_zero, List.set_cons_succ]
            refine gp_step 3 (by kernel_rfl) rfl (fun K hK => ?_)
            go_simp
            go_wp2_with fail
            refine (HSTP.out _ HBx.out).mono ?_
            rintro e w4 ⟨fa, fc, sa, sc, rfl, hof, hog, hb4⟩
            have HSO : Hid (StO w4 x #[.int .i64 x.kd, .int .i64 x.sm, .int .i64 x.nn, .bool x.fin, .slice fa x.fs.length fc, .slice sa x.ss.length sc].toList) := ⟨fa, fc, sa, sc, rfl, own_lower hof, own_lower hog⟩
            have HO4 : Hid (OwnSt QtT w1.heap.size w4 (.slice av acc.length cv) acc) := HOd.out.below hb4
            have HK4 : Hid (Blk w4 w1.heap.size QdT #[.int .i64 0, .slice av acc.length cv, .int .i64 0, .int .i64 0]) := HKd.out.below hb4 bd
            have HB4 : Hid (Below w1.heap.size w1 w4) := HBd.out.trans (hb4.mono hzd)
            have kd4 : w4.cell? ⟨w1.heap.size, 1, none⟩ = some (.slice av acc.length cv) := HK4.out.cell 1
            have bd4 := HK4.out.lt
            have hzd4 := HB4.out.size
            go_wp2_with fail
            refine hK.out _ _ (show Gp _ _ _ from Gp.of_below hb4) ?_
            clear hK K
            try simp only [Act.put, List.getElem_toArray, List.getElem_cons_succ, List.getElem_cons_zero, List.setIfInBounds_toArray, List.set_cons_zero, List.set_cons_succ]
            clear hb4 hof hog
            refine gp_step 4 (by kernel_rfl) rfl (fun K hK => ?_)
            go_simp
            go_wp2_with fail
            refine hK.out _ _ (show Gp _ _ _ from (by first | exact Gp.refl _ | (refine Gp.of_below ?_; repeat (first | (with_reducible exact Below.refl _ _) | (with_reducible exact grown_merge _ _ _ _) | (with_reducible exact grown_merge2 _ _ _ _ _ _) | (with_reducible refine Below.allocS ?_ _) | (with_reducible refine Below.moreS ?_ _) | (with_reducible refine Below.drew ?_))))) ?_
            clear hK K
            try simp only [Act.put, List.getElem_toArray, List.getElem_cons_succ, List.getElem_cons_zero, List.setIfInBounds_toArray, List.set_cons_zero, List.set_cons_succ]
            refine gp_step 5 (by kernel_rfl) rfl (fun K hK => ?_)
            refine step_stepO st_qsteps (.tmp 57) (.tmp 60) (y := x) rfl rfl rfl (HO4.out.below bel) (by decide) (by decide) (cs := #[.int .i64 x.kd, .int .i64 x.sm, .int .i64 x.nn, .bool x.fin, .slice fa x.fs.length fc, .slice sa x.ss.length sc]) (HSO.out.keep (KeepT.below bel)) rfl blk (by omega) (by simp only [World.size_alloc]; omega) ?_
            intro v' w5 ho5 hb5 hk5 hgr
            have HK5 := Lib.hid (hk5 w1.heap.size QdT #[.int .i64 0, .slice av acc.length cv, .int .i64 0, .int .i64 0] (HK4.out.below (B := w4.heap.size) bel bd4) (by decide))
            have HO5 := Lib.hid ho5
            have HB5 : Hid (Below w1.heap.size w1 w5) := HB4.out.trans (Below.trans (Below.mono (B := w4.heap.size) bel hzd4) hb5)
            have k5 : w5.cell? ⟨w1.heap.size, 1, none⟩ = some (.slice av acc.length cv) := HK5.out.cell 1
            have f5 : w5.frozen? ⟨w1.heap.size, 1, none⟩ = false := HK5.out.frozen 1
            have l5 := HK5.out.lt
            obtain ⟨a5, c5, rfl⟩ := ho5.slice
            refine hK.out _ _ (show Gp _ _ _ from gpv_grown hgr) ?_
            clear hK K ho5 hb5 hk5 hgr
            try simp only [Act.put, List.getElem_toArray, List.getElem_cons_succ, List.getElem_cons_zero, List.setIfInBounds_toArray, List.set_cons_zero, List.set_cons_succ]
            refine gp_step 6 (by kernel_rfl) rfl (fun K hK => ?_)
            go_simp
            go_wp2_with fail
            refine hK.out _ _ (show Gp _ _ _ from Gp.refl _) ?_
            clear hK K
            try simp only [Act.put, List.getElem_toArray, List.getElem_cons_succ, List.getElem_cons_zero, List.setIfInBounds_toArray, List.set_cons_zero, List.set_cons_succ]
            refine gp_step 7 (by kernel_rfl) rfl (fun K hK => ?_)
            go_simp
            go_wp2_with fail
            refine hK.out _ _ (show Gp _ _ _ from Gp.set _ (.inl rfl)) ?_
            clear hK K
            try simp only [Act.put, List.getElem_toArray, List.getElem_cons_succ, List.getElem_cons_zero, List.setIfInBounds_toArray, List.set_cons_zero, List.set_cons_succ]
            refine wpAnyH_done (by kernel_rfl) ?_ _
            go_wp2_with fail
            go_roundg (L.length - p)
            case measure => have := HPQ.out; omega
            case rel => exact ⟨p + 1, .slice a5 (acc ++ [x]).length c5, by have := HPQ.out; omega, by omega, by omega, by go_num, by rw [HAC2.out]; simpa using OwnSt.far (i := 1) (u := .slice a5 (acc ++ [x]).length c5) HO5.out HK5.out (by decide) (by decide) (by decide), by rw [if_neg hnx, if_neg hnx]; simpa using HK5.out.set_ 1 (.slice a5 (acc ++ [x]).length c5), HB5.out.setCell (p := ⟨w1.heap.size, 1, none⟩) (Nat.le_refl _) _, HOK2⟩
          · go_simp
            go_wp2_with fail
            refine (HSTP.out _ HBx.out).mono ?_
            rintro e w4 ⟨fa, fc, sa, sc, rfl, hof, hog, hb4⟩
            have HSO : Hid (StO w4 x #[.int .i64 x.kd, .int .i64 x.sm, .int .i64 x.nn, .bool x.fin, .slice fa x.fs.length fc, .slice sa x.ss.length sc].toList) := ⟨fa, fc, sa, sc, rfl, own_lower hof, own_lower hog⟩
            have HO4 : Hid (OwnSt QtT w1.heap.size w4 (.slice av acc.length cv) acc) := HOd.out.below hb4
            have HK4 : Hid (Blk w4 w1.heap.size QdT #[.int .i64 0, .slice av acc.length cv, .int .i64 0, .int .i64 0]) := HKd.out.below hb4 bd
            have HB4 : Hid (Below w1.heap.size w1 w4) := HBd.out.trans (hb4.mono hzd)
            have kd4 : w4.cell? ⟨w1.heap.size, 1, none⟩ = some (.slice av acc.length cv) := HK4.out.cell 1
            have bd4 := HK4.out.lt
            have hzd4 := HB4.out.size
            go_wp2_with fail
            refine hK.out _ _ (show Gp _ _ _ from Gp.of_below hb4) ?_
            clear hK K'
            try simp only [Act.put, List.getElem_toArray, List.getElem_cons_succ, List.getElem_cons_zero, List.setIfInBounds_toArray, List.set_cons_zero, List.set_cons_succ]
            clear hb4 hof hog
            refine gpv_two 1 4 (by kernel_rfl) rfl rfl (fun K' hK => ?_) (fun K' hK => ?_)
            · go_simp
              go_wp2_with fail
              refine hK.out _ _ (show Gp _ _ _ from Gp.refl _) ?_
              clear hK K'
              try simp only [Act.put, List.getElem_toArray, List.getElem_cons_succ, List.getElem_cons_zero, List.setIfInBounds_toArray, List.set_cons_zero, List.set_cons_succ]
              refine gp_step 4 (by kernel_rfl) rfl (fun K hK => ?_)
              go_simp
              go_wp2_with fail
              refine hK.out _ _ (show Gp _ _ _ from (by first | exact Gp.refl _ | (refine Gp.of_below ?_; repeat (first | (with_reducible exact Below.refl _ _) | (with_reducible exact grown_merge _ _ _ _) | (with_reducible exact grown_merge2 _ _ _ _ _ _) | (with_reducible refine Below.allocS ?_ _) | (with_reducible refine Below.moreS ?_ _) | (with_reducible refine Below.drew ?_))))) ?_
              clear hK K
              try simp only [Act.put, List.getElem_toArray, List.getElem_cons_succ, List.getElem_cons_zero, List.setIfInBounds_toArray, List.set_cons_zero, List.set_cons_succ]
              refine gp_step 5 (by kernel_rfl) rfl (fun K hK => ?_)
              refine step_stepO st_qsteps (.tmp 57) (.tmp 60) (y := x) rfl rfl rfl (HO4.out.below bel) (by decide) (by decide) (cs := #[.int .i64 x.kd, .int .i64 x.sm, .int .i64 x.nn, .bool x.fin, .slice fa x.fs.length fc, .slice sa x.ss.length sc]) (HSO.out.keep (KeepT.below bel)) rfl blk (by omega) (by simp only [World.size_alloc]; omega) ?_
              intro v' w5 ho5 hb5 hk5 hgr
              have HK5 := Lib.hid (hk5 w1.heap.size QdT #[.int .i64 0, .slice av acc.length cv, .int .i64 0, .int .i64 0] (HK4.out.below (B := w4.heap.size) bel bd4) (by decide))
              have HO5 := Lib.hid ho5
              have HB5 : Hid (Below w1.heap.size w1 w5) := HB4.out.trans (Below.trans (Below.mono (B := w4.heap.size) bel hzd4) hb5)
              have k5 : w5.cell? ⟨w1.heap.size, 1, none⟩ = some (.slice av acc.length cv) := HK5.out.cell 1
              have f5 : w5.frozen? ⟨w1.heap.size, 1, none⟩ = false := HK5.out.frozen 1
              have l5 := HK5.out.lt
              obtain ⟨a5, c5, rfl⟩ := ho5.slice
              refine hK.out _ _ (show Gp _ _ _ from gpv_grown hgr) ?_
              clear hK K ho5 hb5 hk5 hgr
              try simp only [Act.put, List.getElem_toArray, List.getElem_cons_succ, List.getElem_cons_zero, List.setIfInBounds_toArray, List.set_cons_zero, List.set_cons_succ]
              refine gp_step 6 (by kernel_rfl) rfl (fun K hK => ?_)
              go_simp
              go_wp2_with fail
              refine hK.out _ _ (show Gp _ _ _ from Gp.refl _) ?_
              clear hK K
              try simp only [Act.put, List.getElem_toArray, List.getElem_cons_succ, List.getElem_cons_zero, List.setIfInBounds_toArray, List.set_cons_zero, List.set_cons_succ]
              refine gp_step 7 (by kernel_rfl) rfl (fun K hK => ?_)
              go_simp
              go_wp2_with fail
              refine hK.out _ _ (show Gp _ _ _ from Gp.set _ (.inl rfl)) ?_
              clear hK K
              try simp only [Act.put, List.getElem_toArray, List.getElem_cons_succ, List.getElem_cons_zero, List.setIfInBounds_toArray, List.set_cons_zero, List.set_cons_succ]
              refine wpAnyH_done (by kernel_rfl) ?_ _
              go_wp2_with fail
              go_roundg (L.length - p)
              case measure => have := HPQ.out; omega
              case rel => exact ⟨p + 1, .slice a5 (acc ++ [x]).length c5, by have := HPQ.out; omega, by omega, by omega, by go_num, by rw [HAC2.out]; simpa using OwnSt.far (i := 1) (u := .slice a5 (acc ++ [x]).length c5) HO5.out HK5.out (by decide) (by decide) (by decide), by rw [if_neg hnx, if_neg hnx]; simpa using HK5.out.set_ 1 (.slice a5 (acc ++ [x]).length c5), HB5.out.setCell (p := ⟨w1.heap.size, 1, none⟩) (Nat.le_refl _) _, HOK2⟩
            · go_simp
              go_wp2_with fail
              refine hK.out _ _ (show Gp _ _ _ from (by first | exact Gp.refl _ | (refine Gp.of_below ?_; repeat (first | (with_reducible exact Below.refl _ _) | (with_reducible exact grown_merge _ _ _ _) | (with_reducible exact grown_merge2 _ _ _ _ _ _) | (with_reducible refine Below.allocS ?_ _) | (with_reducible refine Below.moreS ?_ _) | (with_reducible refine Below.drew ?_))))) ?_
              clear hK K'
              try simp only [Act.put, List.getElem_toArray, List.getElem_cons_succ, List.getElem_cons_zero, List.setIfInBounds_toArray, List.set_cons_zero, List.set_cons_succ]
              refine gp_step 1 (by kernel_rfl) rfl (fun K hK => ?_)
              go_simp
              go_wp2_with fail
              refine hK.out _ _ (show Gp _ _ _ from (by first | exact Gp.refl _ | (refine Gp.of_below ?_; repeat (first | (with_reducible exact Below.refl _ _) | (with_reducible exact grown_merge _ _ _ _) | (with_reducible exact grown_merge2 _ _ _ _ _ _) | (with_reducible refine Below.allocS ?_ _) | (with_reducible refine Below.moreS ?_ _) | (with_reducible refine Below.drew ?_))))) ?_
              clear hK K
              try simp only [Act.put, List.getElem_toArray, List.getElem_cons_succ, List.getElem_cons_zero, List.setIfInBounds_toArray, List.set_cons_zero, List.set_cons_succ]
              refine gp_step 5 (by kernel_rfl) rfl (fun K hK => ?_)
              refine step_stepO st_qsteps (.tmp 57) (.tmp 60) (y := x) rfl rfl rfl (HO4.out.below bel) (by decide) (by decide) (cs := #[.int .i64 x.kd, .int .i64 x.sm, .int .i64 x.nn, .bool x.fin, .slice fa x.fs.length fc, .slice sa x.ss.length sc]) (HSO.out.keep (KeepT.below bel)) rfl blk (by omega) (by simp only [World.size_alloc]; omega) ?_
              intro v' w5 ho5 hb5 hk5 hgr
              have HK5 := Lib.hid (hk5 w1.heap.size QdT #[.int .i64 0, .slice av acc.length cv, .int .i64 0, .int .i64 0] (HK4.out.below (B := w4.heap.size) bel bd4) (by decide))
              have HO5 := Lib.hid ho5
              have HB5 : Hid (Below w1.heap.size w1 w5) := HB4.out.trans (Below.trans (Below.mono (B := w4.heap.size) bel hzd4) hb5)
              have k5 : w5.cell? ⟨w1.heap.size, 1, none⟩ = some (.slice av acc.length cv) := HK5.out.cell 1
              have f5 : w5.frozen? ⟨w1.heap.size, 1, none⟩ = false := HK5.out.frozen 1
              have l5 := HK5.out.lt
              obtain ⟨a5, c5, rfl⟩ := ho5.slice
              refine hK.out _ _ (show Gp _ _ _ from gpv_grown hgr) ?_
              clear hK K ho5 hb5 hk5 hgr
              try simp only [Act.put, List.getElem_toArray, List.getElem_cons_succ, List.getElem_cons_zero, List.setIfInBounds_toArray, List.set_cons_zero, List.set_cons_succ]
              refine gp_step 6 (by kernel_rfl) rfl (fun K hK => ?_)
              go_simp
              go_wp2_with fail
              refine hK.out _ _ (show Gp _ _ _ from Gp.refl _) ?_
              clear hK K
              try simp only [Act.put, List.getElem_toArray, List.getElem_cons_succ, List.getElem_cons_zero, List.setIfInBounds_toArray, List.set_cons_zero, List.set_cons_succ]
              refine gp_step 7 (by kernel_rfl) rfl (fun K hK => ?_)
              go_simp
              go_wp2_with fail
              refine hK.out _ _ (show Gp _ _ _ from Gp.set _ (.inl rfl)) ?_
              clear hK K
              try simp only [Act.put, List.getElem_toArray, List.getElem_cons_succ, List.getElem_cons_zero, List.setIfInBounds_toArray, List.set_cons_zero, List.set_cons_succ]
              refine wpAnyH_done (by kernel_rfl) ?_ _
              go_wp2_with fail
              go_roundg (L.length - p)
              case measure => have := HPQ.out; omega
              case rel => exact ⟨p + 1, .slice a5 (acc ++ [x]).length c5, by have := HPQ.out; omega, by omega, by omega, by go_num, by rw [HAC2.out]; simpa using OwnSt.far (i := 1) (u := .slice a5 (acc ++ [x]).length c5) HO5.out HK5.out (by decide) (by decide) (by decide), by rw [if_neg hnx, if_neg hnx]; simpa using HK5.out.set_ 1 (.slice a5 (acc ++ [x]).length c5), HB5.out.setCell (p := ⟨w1.heap.size, 1, none⟩) (Nat.le_refl _) _, HOK2⟩
        · obtain rfl : p = L.length - 1 := by omega
          have hlai : ¬ ((L.length - 1 : Nat) : Int) < (L.length : Int) - 1 := by omega
          obtain ⟨hKD, hNN⟩ := HLAST.out rfl
          have HK9 := Lib.hid hKD
          have HN9 := Lib.hid hNN
          have HAL := Lib.hid (acc_last (L := L) hl2)
          have hnx : L.length - 1 + 1 = L.length := by omega
          clear HACC HLAST hKD hNN
          generalize accD L (L.length - 1) = acc at HO3 HK3 HAL hal
          go_wp2_with fail
          obtain ⟨X, hX⟩ : ∃ X, X = idxX injW (atD l 1) := ⟨_, rfl⟩
          have hXhi : X < 26 := by rw [hX]; exact idx_hi _
          have hXlo : -1 ≤ X := by rw [hX]; exact idx_lo _
          have HXI := Lib.hid hX
          have HXH := Lib.hid hXhi
          have HXL := Lib.hid hXlo
          clear hX hXhi hXlo
          go_loopg [10] 26 (fun q2 i wx => ∃ (r : Nat), r + q2 = 26 ∧ i = .int .i64 ((r : Int) + 1) ∧ Blk wx w1.heap.size QdT #[.int .i64 0, .slice av acc.length cv, .int .i64 (if 1 < l.length ∧ 0 ≤ X ∧ X < (r : Int) then X + 1 else 0), .int .i64 0] ∧ Gm w1.heap.size w3 wx)
          case atStart => exact ⟨0, by omega, rfl, by rw [if_neg (by omega)]; exact HK3.out, Gm.refl _⟩
          case round =>
            obtain ⟨r, hrq, rfl, hbk, hg⟩ := hrel
            have HRQ := Lib.hid hrq
            have HGM := Lib.hid hg
            have hgl := hbk.lt
            have hzx := hg.size
            have s1 : IntKind.i64.wrap ((r : Int) + 1 - 1) = (r : Int) := by rw [show (r : Int) + 1 - 1 = r by omega]; exact IntWalk.i64_in _ (by omega)
            have s3 : IntKind.i64.wrap (r : Int) = (r : Int) := IntWalk.i64_in _ (by omega)
            have s2 : IntKind.i64.wrap ((r : Int) + 1 + 1) = ((r + 1 : Nat) : Int) + 1 := by rw [show (r : Int) + 1 + 1 = ((r + 1 : Nat) : Int) + 1 by omega]; exact IntWalk.i64_in _ (by omega)
            clear hrq hg
            by_cases hr : r < 26
            · have t1 : (r : Int) + 1 ≤ 26 := by omega
              have t2 : (r : Int) < 26 := by omega
              have hNX : (if 1 < l.length ∧ 0 ≤ X ∧ X < ((r + 1 : Nat) : Int) then X + 1 else 0) = if 1 < l.length ∧ X = (r : Int) then (r : Int) + 1 else (if 1 < l.length ∧ 0 ≤ X ∧ X < (r : Int) then X + 1 else 0) := by
                repeat' split
                all_goals omega
              have HNX := Lib.hid hNX
              clear hNX
              generalize (if 1 < l.length ∧ 0 ≤ X ∧ X < (r : Int) then X + 1 else 0) = kq at hbk HNX
              have HBQ := Lib.hid hbk
              clear hbk
              by_cases hl1 : 1 < l.length
              · have hl1i : (1 : Int) < (l.length : Int) := by omega
                have HSX := slX_farB (Nat.le_refl _) HK3.out sc_nt HS3.out HGM.out
                obtain ⟨b8, off8, ha8, hb8, c8, _⟩ := SlR.atX HSX (k := 1) hl1
                subst ha8
                have HEQ : Hid ((injW.getD r [] == l[1]) = decide (X = (r : Int))) := by show _ = _; rw [names_idx r hr hl1, HXI.out]
                have Href51_Read0 : Hid (∀ W, Calls Tryz.prog 34 #[] W fun e w' => ∃ g j, e = .returned (.slice (some ⟨g, 0, none⟩) 26 26) ∧ w'.cell? ⟨g, r, none⟩ = some (bstr (injW.getD r [])) ∧ g < w'.heap.size ∧ w' = W.more j) := fun W => (ref46_Names W).mono fun e w' hx => by
                  obtain ⟨g, j, h1, h2, h3, h4⟩ := hx
                  exact ⟨g, j, h1, h2 r hr, h3, h4⟩
                have HNX2 : Hid ((if 1 < l.length ∧ 0 ≤ X ∧ X < ((r + 1 : Nat) : Int) then X + 1 else 0) = if X = (r : Int) then (r : Int) + 1 else kq) := by
                  show _ = _
                  rw [HNX.out]
                  by_cases h : X = (r : Int) <;> simp [h, hl1]
                generalize injW.getD r [] = NQ1 at HEQ Href51_Read0
                generalize l[1] = l1 at HEQ c8
                clear HNX HSX
                have hb8w : b8 < wr.heap.size := by omega
                have hl1d : decide ((1 : Int) < (l.length : Int)) = true := decide_eq_true hl1i
                by_cases hXr : X = (r : Int)
                · have heq : (NQ1 == l1) = true := by rw [HEQ.out, decide_eq_true hXr]
                  go_wp2_with fail
                  refine grown_start (by kernel_rfl) ?_
                  obtain ⟨wd, hwd⟩ : ∃ wd, wd = wr.drew := ⟨_, rfl⟩
                  rw [← hwd]
                  have HBd : Hid (Below wr.heap.size wr wd) := by show Below _ _ _; rw [hwd]; exact bel
                  have HKd : Hid (Blk wd w1.heap.size QdT #[.int .i64 0, .slice av acc.length cv, .int .i64 kq, .int .i64 0]) := HBQ.out.below HBd.out hgl
                  have hbd := HBd.out.size
                  have m2 : wd.cell? ⟨w1.heap.size, 2, none⟩ = some (.int .i64 kq) := HKd.out.cell 2
                  have f2 : wd.frozen? ⟨w1.heap.size, 2, none⟩ = false := HKd.out.frozen 2
                  have ml := HKd.out.lt
                  have d8 : wd.cell? ⟨b8, off8 + 1, none⟩ = some (bstr l1) := (HBd.out.cell (p := ⟨b8, off8 + 1, none⟩) hb8w).trans c8
                  have hb8d : b8 < wd.heap.size := by omega
                  clear c8
                  clear hwd
                  refine tk 0 ?_
                  refine tk 1 ?_
                  refine tk 2 ?_
                  refine tk 3 ?_
                  refine tk 5 ?_
                  refine tk 6 ?_
                  refine tk 9 ?_
                  refine tk 10 ?_
                  refine tk 11 ?_
                  refine grown_step 4 (by kernel_rfl) rfl (fun K hK => ?_)
                  go_simp
                  go_wp2_with fail
                  refine (Href51_Read0.out _).mono ?_
                  rintro e w' ⟨g9, j1, rfl, hc9, hg9, rfl⟩
                  simp only [World.size_more] at hg9
                  go_wp2_with fail
                  refine hK.out _ _ belg ?_
                  clear hK K
                  try simp only [Act.put, nfa, nfb, nfc, nfd, List.set_cons_zero, List.set_cons_succ]
                  refine tk 7 ?_
                  refine tk 8 ?_
                  refine tk 12 ?_
                  refine tk 13 ?_
                  refine wpAnyH_done (by kernel_rfl) ?_ _
                  go_wp2_with fail
                  go_roundg (26 - (r + 1))
                  case measure => have := HRQ.out; omega
                  case rel => exact ⟨r + 1, by have := HRQ.out; omega, by go_num, by rw [HNX2.out, if_pos hXr]; exact (HKd.out.set_ 2 _).more _, HGM.out.trans ((gm_below HBd.out).trans ((gm_set _).trans (gm_below (Below.moreS (Below.refl _ _) _))))⟩
                · have heq : (NQ1 == l1) = false := by rw [HEQ.out, decide_eq_false hXr]
                  go_wp2_with fail
                  refine grown_start (by kernel_rfl) ?_
                  obtain ⟨wd, hwd⟩ : ∃ wd, wd = wr.drew := ⟨_, rfl⟩
                  rw [← hwd]
                  have HBd : Hid (Below wr.heap.size wr wd) := by show Below _ _ _; rw [hwd]; exact bel
                  have HKd : Hid (Blk wd w1.heap.size QdT #[.int .i64 0, .slice av acc.length cv, .int .i64 kq, .int .i64 0]) := HBQ.out.below HBd.out hgl
                  have hbd := HBd.out.size
                  have m2 : wd.cell? ⟨w1.heap.size, 2, none⟩ = some (.int .i64 kq) := HKd.out.cell 2
                  have f2 : wd.frozen? ⟨w1.heap.size, 2, none⟩ = false := HKd.out.frozen 2
                  have ml := HKd.out.lt
                  have d8 : wd.cell? ⟨b8, off8 + 1, none⟩ = some (bstr l1) := (HBd.out.cell (p := ⟨b8, off8 + 1, none⟩) hb8w).trans c8
                  have hb8d : b8 < wd.heap.size := by omega
                  clear c8
                  clear hwd
                  refine tk 0 ?_
                  refine tk 1 ?_
                  refine tk 2 ?_
                  refine tk 3 ?_
                  refine tk 5 ?_
                  refine tk 6 ?_
                  refine tk 9 ?_
                  refine tk 10 ?_
                  refine tk 11 ?_
                  refine grown_step 4 (by kernel_rfl) rfl (fun K hK => ?_)
                  go_simp
                  go_wp2_with fail
                  refine (Href51_Read0.out _).mono ?_
                  rintro e w' ⟨g9, j1, rfl, hc9, hg9, rfl⟩
                  simp only [World.size_more] at hg9
                  go_wp2_with fail
                  refine hK.out _ _ belg ?_
                  clear hK K
                  try simp only [Act.put, nfa, nfb, nfc, nfd, List.set_cons_zero, List.set_cons_succ]
                  refine tk 7 ?_
                  refine tk 8 ?_
                  refine tk 12 ?_
                  refine tk 13 ?_
                  refine wpAnyH_done (by kernel_rfl) ?_ _
                  go_wp2_with fail
                  go_roundg (26 - (r + 1))
                  case measure => have := HRQ.out; omega
                  case rel => exact ⟨r + 1, by have := HRQ.out; omega, by go_num, by rw [HNX2.out, if_neg hXr]; exact HKd.out.more _, HGM.out.trans ((gm_below HBd.out).trans (gm_below (Below.moreS (Below.refl _ _) _)))⟩
              · have hl1i : ¬ (1 : Int) < (l.length : Int) := by omega
                have hl1j : (l.length : Int) ≤ 1 := by omega
                have hl1d : decide ((1 : Int) < (l.length : Int)) = false := decide_eq_false hl1i
                have HNX2 : Hid ((if 1 < l.length ∧ 0 ≤ X ∧ X < ((r + 1 : Nat) : Int) then X + 1 else 0) = kq) := by
                  show _ = _
                  rw [HNX.out, if_neg (fun h => hl1 h.1)]
                clear HNX
                go_wp2_with fail
                refine grown_start (by kernel_rfl) ?_
                obtain ⟨wd, hwd⟩ : ∃ wd, wd = wr.drew := ⟨_, rfl⟩
                rw [← hwd]
                have HBd : Hid (Below wr.heap.size wr wd) := by show Below _ _ _; rw [hwd]; exact bel
                have HKd : Hid (Blk wd w1.heap.size QdT #[.int .i64 0, .slice av acc.length cv, .int .i64 kq, .int .i64 0]) := HBQ.out.below HBd.out hgl
                have hbd := HBd.out.size
                have m2 : wd.cell? ⟨w1.heap.size, 2, none⟩ = some (.int .i64 kq) := HKd.out.cell 2
                have f2 : wd.frozen? ⟨w1.heap.size, 2, none⟩ = false := HKd.out.frozen 2
                have ml := HKd.out.lt
                clear hwd
                refine tk 0 ?_
                refine tk 1 ?_
                refine tk 2 ?_
                refine tk 3 ?_
                refine grown_take 4 (v := undef) rfl (by kernel_rfl) (by kernel_rfl) (by kernel_rfl) (fun _ _ _ h => h) (Or.inr ⟨by kernel_rfl, rfl⟩) ?_
                try simp only [Act.put, List.getElem_toArray, List.getElem_cons_succ, List.getElem_cons_zero, List.setIfInBounds_toArray, List.set_cons_zero, List.set_cons_succ]
                refine grown_take 5 (v := undef) rfl (by kernel_rfl) (by kernel_rfl) (by kernel_rfl) (fun _ _ _ h => h) (Or.inr ⟨by kernel_rfl, rfl⟩) ?_
                try simp only [Act.put, List.getElem_toArray, List.getElem_cons_succ, List.getElem_cons_zero, List.setIfInBounds_toArray, List.set_cons_zero, List.set_cons_succ]
                refine grown_take 6 (v := undef) rfl (by kernel_rfl) (by kernel_rfl) (by kernel_rfl) (fun _ _ _ h => h) (Or.inr ⟨by kernel_rfl, rfl⟩) ?_
                try simp only [Act.put, List.getElem_toArray, List.getElem_cons_succ, List.getElem_cons_zero, List.setIfInBounds_toArray, List.set_cons_zero, List.set_cons_succ]
                refine grown_take 7 (v := undef) rfl (by kernel_rfl) (by kernel_rfl) (by kernel_rfl) (fun _ _ _ h => h) (Or.inr ⟨by kernel_rfl, rfl⟩) ?_
                try simp only [Act.put, List.getElem_toArray, List.getElem_cons_succ, List.getElem_cons_zero, List.setIfInBounds_toArray, List.set_cons_zero, List.set_cons_succ]
                refine grown_take 8 (v := undef) rfl (by kernel_rfl) (by kernel_rfl) (by kernel_rfl) (fun _ _ _ h => h) (Or.inr ⟨by kernel_rfl, rfl⟩) ?_
                try simp only [Act.put, List.getElem_toArray, List.getElem_cons_succ, List.getElem_cons_zero, List.setIfInBounds_toArray, List.set_cons_zero, List.set_cons_succ]
                refine grown_take 9 (v := undef) rfl (by kernel_rfl) (by kernel_rfl) (by kernel_rfl) (fun _ _ _ h => h) (Or.inr ⟨by kernel_rfl, rfl⟩) ?_
                try simp only [Act.put, List.getElem_toArray, List.getElem_cons_succ, List.getElem_cons_zero, List.setIfInBounds_toArray, List.set_cons_zero, List.set_cons_succ]
                refine grown_take 10 (v := undef) rfl (by kernel_rfl) (by kernel_rfl) (by kernel_rfl) (fun _ _ _ h => h) (Or.inr ⟨by kernel_rfl, rfl⟩) ?_
                try simp only [Act.put, List.getElem_toArray, List.getElem_cons_succ, List.getElem_cons_zero, List.setIfInBounds_toArray, List.set_cons_zero, List.set_cons_succ]
                refine grown_take 11 (v := undef) rfl (by kernel_rfl) (by kernel_rfl) (by kernel_rfl) (fun _ _ _ h => h) (Or.inr ⟨by kernel_rfl, rfl⟩) ?_
                try simp only [Act.put, List.getElem_toArray, List.getElem_cons_succ, List.getElem_cons_zero, List.setIfInBounds_toArray, List.set_cons_zero, List.set_cons_succ]
                refine grown_take 12 (v := undef) rfl (by kernel_rfl) (by kernel_rfl) (by kernel_rfl) (fun _ _ _ h => h) (Or.inr ⟨by kernel_rfl, rfl⟩) ?_
                try simp only [Act.put, List.getElem_toArray, List.getElem_cons_succ, List.getElem_cons_zero, List.setIfInBounds_toArray, List.set_cons_zero, List.set_cons_succ]
                refine tk 13 ?_
                refine wpAnyH_done (by kernel_rfl) ?_ _
                go_wp2_with fail
                go_roundg (26 - (r + 1))
                case measure => have := HRQ.out; omega
                case rel => exact ⟨r + 1, by have := HRQ.out; omega, by go_num, by rw [HNX2.out]; exact HKd.out, HGM.out.trans (gm_below HBd.out)⟩
            · obtain rfl : r = 26 := by have := HRQ.out; omega
              have t1 : ¬ ((26 : Nat) : Int) + 1 ≤ 26 := by omega
              have HKQ : Hid ((if 1 < l.length ∧ 0 ≤ X ∧ X < ((26 : Nat) : Int) then X + 1 else 0) = KD) := by
                show _ = _
                have h1 := HXH.out
                have h2 := HXL.out
                rw [HK9.out]
                unfold kindD
                rw [← HXI.out]
                repeat' split
                all_goals omega
              rw [HKQ.out] at hbk
              have HBQ := Lib.hid hbk
              have HSX := slX_farB (Nat.le_refl _) HK3.out sc_nt HS3.out HGM.out
              have HATC : Hid (Calls Tryz.prog 40 #[.slice a3 l.length c3, .int .i64 2] wr fun e w' => e = .returned (.int .i64 NN) ∧ ∃ j, w' = wr.more j) := by
                have h := ref51_at a3 c3 l 2 (by omega) (fun x hx => by have := hsp.2 x hx; omega) (by omega) wr (HSX.mono hzx (fun _ _ _ h => h))
                rw [← HN9.out] at h
                exact h
              have k3 : wr.cell? ⟨w1.heap.size, 3, none⟩ = some (.int .i64 0) := hbk.cell 3
              have f3 : wr.frozen? ⟨w1.heap.size, 3, none⟩ = false := hbk.frozen 3
              have HO9 : Hid (OwnSt QtT w1.heap.size wr (.slice av acc.length cv) acc) := HO3.out.gm HK3.out (by decide) (by decide) (by decide) HGM.out
              have HB9 : Hid (Below w1.heap.size w1 wr) := HBW3.out.trans (HGM.out.below (Nat.le_refl _) HBW3.out.size)
              have h26 : ((26 : Nat) : Int) = 26 := rfl
              clear hbk HSX HKQ
              go_wp2_with (go_at_call 40; (with_reducible refine (HATC.out).mono ?_); rintro e w' ⟨rfl, j, rfl⟩)
              go_roundg 1
              case measure => have := HPQ.out; omega
              case rel => exact ⟨L.length, .slice av acc.length cv, by omega, by omega, by omega, by go_num, by rw [← HAL.out]; exact (HO9.out.far HBQ.out (by decide) (by decide) (by decide)).below (Below.moreS (Below.refl _ _) _), by rw [if_pos rfl, if_pos rfl]; exact (HBQ.out.set_ 3 _).more _, (HB9.out.setCell (p := ⟨w1.heap.size, 3, none⟩) (Nat.le_refl _) _).trans (Below.mono (B := _) (Below.moreS (Below.refl _ _) _) (by have := HB9.out.size; simpa using this)), by have := HOK2.out; rw [hnx] at this; exact this⟩
      · have HZ : Hid (R = (zScn, false)) := HBAD.out (by
          cases was with
          | false => rfl
          | true => cases l with
            | nil => rfl
            | cons y r => exact absurd ⟨rfl, by simp⟩ hgo)
        obtain rfl := HZ.out
        have r0 : w3.cell? ⟨w.heap.size, 0, none⟩ = some (.int .i64 0) := HT3.out.cell 0
        have r1 : w3.cell? ⟨w.heap.size, 1, none⟩ = some (.slice none 0 0) := HT3.out.cell 1
        have r2 : w3.cell? ⟨w.heap.size, 2, none⟩ = some (.int .i64 0) := HT3.out.cell 2
        have r3 : w3.cell? ⟨w.heap.size, 3, none⟩ = some (.int .i64 0) := HT3.out.cell 3
        have y0 := HT3.out.frozen 0
        have y1 := HT3.out.frozen 1
        have y2 := HT3.out.frozen 2
        have y3 := HT3.out.frozen 3
        have rl := HT3.out.lt
        clear HZ HBAD HOKN HACC HLAST HRD
        cases was
        · clear hgo
          go_wp2_with fail
          refine bodyPost_ret (res_cell_tmp rfl st_Qd rfl (HT3.out.put4) rfl rfl) rfl ?_
          exact ⟨none, 0, rfl, .nil, fun x hx => by simp [zScn] at hx, below_four HBB3.out (Nat.le_refl _)⟩
        · obtain rfl : l = [] := by cases l with
            | nil => rfl
            | cons y r => exact absurd ⟨rfl, by simp⟩ hgo
          clear hgo
          go_wp2_with fail
          refine bodyPost_ret (res_cell_tmp rfl st_Qd rfl (HT3.out.put4) rfl rfl) rfl ?_
          exact ⟨none, 0, rfl, .nil, fun x hx => by simp [zScn] at hx, below_four HBB3.out (Nat.le_refl _)⟩
    · obtain rfl : p = L.length := by omega
      rw [if_pos rfl, if_pos rfl] at hbk
      have HBK := Lib.hid hbk
      have hpl : ¬ (L.length : Int) < (L.length : Int) := by omega
      have HMK : Hid (mkScn L = ⟨0, accD L L.length, KD, NN⟩) := by
        show _ = _
        have e0 : atD L 0 = L[0] := by unfold atD; rw [List.getD_eq_getElem?_getD, List.getElem?_eq_getElem hl0]; rfl
        unfold mkScn
        rw [e0, if_neg HFS.out, ← HKD.out, ← HNN.out, acc_end hl2]
      have HEN : Hid (R = if rightScn (mkScn L) = true ∧ textScn (mkScn L) = t then (mkScn L, true) else (zScn, false)) := by
        have h := HOKL.out
        rw [List.take_of_length_le (by rw [List.length_drop]; exact Nat.le_refl _)] at h
        show _ = _
        rw [HRD.out, if_pos h]
        rfl
      rw [HMK.out] at HEN
      have HSM := Lib.hid (acc_small HSH.out L.length)
      generalize accD L L.length = acc at HEN HO hbk HBK hal HSM
      have HSL : Hid (SlSt wr wr wr.heap.size av acc) := OwnSt.read HO.out HSM.out
      have HRI : Hid (∀ W, Below wr.heap.size wr W → Calls Tryz.prog 9 #[.agg #[.int .i64 0, .slice av acc.length cv, .int .i64 KD, .int .i64 NN]] W fun e w' => e = .returned (.bool (rightScn ⟨0, acc, KD, NN⟩)) ∧ ∃ j, w' = W.more j) := fun W hW =>
        ref45_Right 0 KD NN acc (fun x hx => (HSM.out x hx).sm) (by omega) av cv W (SlSt.low HSL.out hW)
      have HTX : Hid (rightScn ⟨0, acc, KD, NN⟩ = true → ∀ W, Below wr.heap.size wr W → Calls Tryz.prog 11 #[.agg #[.int .i64 0, .slice av acc.length cv, .int .i64 KD, .int .i64 NN]] W fun e w' => e = .returned (bstr (textScn ⟨0, acc, KD, NN⟩)) ∧ ∃ j, w' = W.more j) := fun h W hW =>
        ref51_Text 0 KD NN acc (scn_ok h) (by
          unfold rightScn at h
          simp only [Bool.and_eq_true, decide_eq_true_eq] at h
          have := h.1
          omega) av cv W (SlSt.low HSL.out hW)
      generalize rightScn ⟨0, acc, KD, NN⟩ = rg at HRI HTX HEN
      generalize textScn ⟨0, acc, KD, NN⟩ = TX at HTX HEN
      have k0 : wr.cell? ⟨w1.heap.size, 0, none⟩ = some (.int .i64 0) := HBK.out.cell 0
      have k1 : wr.cell? ⟨w1.heap.size, 1, none⟩ = some (.slice av acc.length cv) := HBK.out.cell 1
      have k2 : wr.cell? ⟨w1.heap.size, 2, none⟩ = some (.int .i64 KD) := HBK.out.cell 2
      have k3 : wr.cell? ⟨w1.heap.size, 3, none⟩ = some (.int .i64 NN) := HBK.out.cell 3
      have r0 : wr.cell? ⟨w.heap.size, 0, none⟩ = some (.int .i64 0) := HTr.out.cell 0
      have r1 : wr.cell? ⟨w.heap.size, 1, none⟩ = some (.slice none 0 0) := HTr.out.cell 1
      have r2 : wr.cell? ⟨w.heap.size, 2, none⟩ = some (.int .i64 0) := HTr.out.cell 2
      have r3 : wr.cell? ⟨w.heap.size, 3, none⟩ = some (.int .i64 0) := HTr.out.cell 3
      have y0 := HTr.out.frozen 0
      have y1 := HTr.out.frozen 1
      have y2 := HTr.out.frozen 2
      have y3 := HTr.out.frozen 3
      have rl := HTr.out.lt
      have hne2 : ¬ w1.heap.size = w.heap.size := by omega
      have hne3 : ¬ w.heap.size = w1.heap.size := by omega
      clear hbk HMK HRD HOKL HKD HNN HAT HSH HFS HE1 HSL
      cases rg
      · obtain rfl : R = (zScn, false) := by rw [HEN.out, if_neg (by simp)]
        clear HEN HTX
        go_wp2_with (go_at_call 9; (with_reducible refine (HRI.out _ bel).mono ?_); rintro e w' ⟨rfl, j, rfl⟩)
        refine bodyPost_ret (res_cell_tmp rfl st_Qd rfl ((HTr.out.put4).more _) rfl rfl) rfl ?_
        exact ⟨none, 0, rfl, .nil, fun x hx => by simp [zScn] at hx, Below.ofMore (below_four HBB.out (Nat.le_refl _)) (below_four HBB.out (Nat.le_refl _)).size _⟩
      · have HTX2 := Lib.hid (HTX.out rfl)
        cases hte : (TX == t)
        · have hte2 : (TX != t) = true := by simpa [bne] using hte
          obtain rfl : R = (zScn, false) := by rw [HEN.out, if_neg (by intro h; rw [h.2] at hte; simp at hte)]
          clear HEN HTX
          go_wp2_with (first | (go_at_call 9; (with_reducible refine (HRI.out _ bel).mono ?_); rintro e w' ⟨rfl, j, rfl⟩) | (go_at_call 11; (with_reducible refine (HTX2.out _ bel).mono ?_); rintro e w' ⟨rfl, j, rfl⟩))
          refine bodyPost_ret (res_cell_tmp rfl st_Qd rfl ((HTr.out.put4).more _) rfl rfl) rfl ?_
          exact ⟨none, 0, rfl, .nil, fun x hx => by simp [zScn] at hx, Below.ofMore (below_four HBB.out (Nat.le_refl _)) (below_four HBB.out (Nat.le_refl _)).size _⟩
        · have hte2 : (TX != t) = false := by simpa [bne] using hte
          obtain rfl : R = (⟨0, acc, KD, NN⟩, true) := by rw [HEN.out, if_pos ⟨rfl, by simpa using hte⟩]
          clear HEN HTX
          go_wp2_with (first | (go_at_call 9; (with_reducible refine (HRI.out _ bel).mono ?_); rintro e w' ⟨rfl, j, rfl⟩) | (go_at_call 11; (with_reducible refine (HTX2.out _ bel).mono ?_); rintro e w' ⟨rfl, j, rfl⟩))
          refine bodyPost_ret (res_cell_tmp rfl st_Qd rfl ((HTr.out.put4).more _) rfl rfl) rfl ?_
          exact ⟨av, cv, rfl, OwnSt.read ((four_far HO.out HTr.out (by decide) (by decide) (by decide)).below (Below.moreS (Below.refl _ _) _)) HSM.out, HSM.out, Below.ofMore (below_four HBB.out (Nat.le_refl _)) (below_four HBB.out (Nat.le_refl _)).size _⟩
end Go.Proofs.YtfcgdfcekpbliaaGreatDoor
