/-
  Scenarios: the document's step of a line.
-/
import Derived.Test.YtfcgdfcekpbliaaGreatDoorSdv2
import Derived.Test.YtfcgdfcekpbliaaGreatDoorMi
namespace Go.Proofs.YtfcgdfcekpbliaaGreatDoor
set_option linter.unusedSimpArgs false
set_option linter.unusedVariables false
set_option linter.unusedSectionVars false
open Go.ChangeShapes Go.WideShapes Go.ChangeAt Go.RowKit Go.Deep Go.Shelf

set_option maxHeartbeats 32000000 in
set_option maxRecDepth 100000 in
theorem ref51_step_set (a : Option Addr) (cap : Nat) (l : List (List UInt8)) (h0 : 0 < l.length) (hl : l.length ≤ 100000) (hll : ∀ x ∈ l, x.length ≤ 90000) (hx0 : atD l 0 = [115, 101, 116]) (w : World) (hS : SlX w w.heap.size a l) :
    Calls Tryz.prog 39 #[.slice a l.length cap] w (DstP (stepD l) w) := by
  have HAT : Hid (∀ (i : Nat) W, i ≤ 1000000 → Below w.heap.size w W → Calls Tryz.prog 40 #[.slice a l.length cap, .int .i64 (i : Int)] W fun e w' => e = .returned (.int .i64 (nmR l i)) ∧ ∃ j, w' = W.more j) := fun i W hi hW =>
    ref51_at a cap l i (by omega) (fun x hx => by have := hll x hx; omega) hi W ((hS.below hW (Nat.le_refl _)).mono hW.size (fun _ _ _ h => h))
  have HA1 : Hid (∀ W, Below w.heap.size w W → Calls Tryz.prog 40 #[.slice a l.length cap, .int .i64 1] W fun e w' => e = .returned (.int .i64 (nmR l 1)) ∧ ∃ j, w' = W.more j) := fun W hW => HAT.out 1 W (by omega) hW
  have HA2 : Hid (∀ W, Below w.heap.size w W → Calls Tryz.prog 40 #[.slice a l.length cap, .int .i64 2] W fun e w' => e = .returned (.int .i64 (nmR l 2)) ∧ ∃ j, w' = W.more j) := fun W hW => HAT.out 2 W (by omega) hW
  have HFL : Hid (∀ W, Below w.heap.size w W → Calls Tryz.prog 66 #[.slice a l.length cap, .int .i64 3] W fun e w' => ∃ v, e = .returned v ∧ OwnF W.heap.size w' v (fldsR (l.drop 3)) ∧ Below W.heap.size W w') := fun W hW =>
    ref51_fields a cap l hl hll W ((hS.below hW (Nat.le_refl _)).mono hW.size (fun _ _ _ h => h))
  obtain ⟨b, off, ha, hbb, c0, _⟩ := SlR.atX hS (k := 0) h0
  subst ha
  obtain ⟨b1, off1, ha1, _, c9, _⟩ := SlR.atX hS (k := l.length - 1) (by omega)
  injection ha1 with ha1
  injection ha1 with e1 e2
  subst e1 e2
  rw [Nat.add_zero] at c0
  have HC2 : Hid (∀ h : 2 < l.length, w.cell? ⟨b, off + 2, none⟩ = some (bstr l[2])) := fun h => by
    obtain ⟨b1, off1, ha1, _, c, _⟩ := SlR.atX hS (k := 2) h
    injection ha1 with ha1
    injection ha1 with e1 e2
    subst e1 e2
    exact c
  have hz0 : atD l 0 = l[0] := by unfold atD; rw [List.getD_eq_getElem?_getD, List.getElem?_eq_getElem h0]; rfl
  have hz2 : ∀ h : 2 < l.length, atD l 2 = l[2] := fun h => by unfold atD; rw [List.getD_eq_getElem?_getD, List.getElem?_eq_getElem h]; rfl
  have hz9 : l.getLast?.getD [] = l[l.length - 1] := by rw [List.getLast?_eq_getElem?, List.getElem?_eq_getElem (by omega)]; rfl
  have hsub : IntKind.i64.wrap ((l.length : Int) - 1) = (l.length : Int) - 1 := IntWalk.i64_in _ (by omega)
  have n3 : (0 : Int) ≤ (l.length : Int) - 1 := by omega
  have n4 : ((l.length : Int) - 1).toNat = l.length - 1 := by omega
  have n5 : (0 : Int) < (l.length : Int) := by omega
  have n6 : (l.length : Int) - 1 < (l.length : Int) := by omega
  have HST : Hid (stepD l = if l[0] = [104, 101, 97, 100, 101, 114, 115] then ⟨1, nmR l 1, 0, decide (2 < l.length) && (atD l 2 == [101, 110, 100]), fldsR (l.drop 3), []⟩
    else if l[0] = [100, 97, 116, 97] then ⟨2, nmR l 1, nmR l 2, (l[l.length - 1] == [101, 110, 100]), [], []⟩
    else if l[0] = [115, 101, 116] then ⟨3, 0, 0, false, [], setsR (l.drop 1)⟩
    else if l[0] = [103, 114, 111, 119] then ⟨4, nmR l 1, nmR l 2, false, [], []⟩
    else if l[0] = [99, 117, 116] then ⟨5, nmR l 1, nmR l 2, false, [], []⟩
    else if l[0] = [99, 97, 108, 108] then ⟨6, 0, nmR l 1, false, [], []⟩
    else if l[0] = [108, 101, 97, 118, 101] then ⟨7, 0, nmR l 1, false, [], []⟩
    else ⟨8, 0, nmR l 1, false, [], []⟩) := by show _ = _; unfold stepD; rw [hz0, hz9]
  have HZ2 := Lib.hid hz2
  generalize stepD l = ST at HST ⊢
  rw [hz0] at hx0
  generalize l[0] = x0 at c0 HST hx0
  generalize l[l.length - 1] = x9 at c9 HST
  clear hS hll hz0 hz2 hz9
  subst hx0
  have e0 : (([115, 101, 116] : List UInt8) == ([104, 101, 97, 100, 101, 114, 115] : List UInt8)) = false := by decide
  have e1 : (([115, 101, 116] : List UInt8) == ([100, 97, 116, 97] : List UInt8)) = false := by decide
  obtain rfl : ST = ⟨3, 0, 0, false, [], setsR (l.drop 1)⟩ := by rw [HST.out, if_neg (by decide), if_neg (by decide), if_pos rfl]
  clear HST
  clear HC2 HZ2
  obtain ⟨R, hR⟩ : ∃ R, R = setsR (l.drop 1) := ⟨_, rfl⟩
  rw [← hR]
  have HRR := Lib.hid hR
  clear hR
  go_enter Tryz.func39, Tryz.ntmps39
  go_wp2_with fail
  obtain ⟨w1, hw1⟩ : ∃ w1, w1 = (w.alloc (.cells zQt QtT)).alloc (.cells #[.int .i64 3, .int .i64 0, .int .i64 0, .bool false, .slice none 0 0, .slice none 0 0] QtT) := ⟨_, rfl⟩
  rw [show ((w.alloc (.cells #[.int .i64 0, .int .i64 0, .int .i64 0, .bool false, .slice none 0 0, .slice none 0 0] QtT)).alloc (.cells #[.int .i64 3, .int .i64 0, .int .i64 0, .bool false, .slice none 0 0, .slice none 0 0] QtT)) = w1 from hw1.symm]
  have ht1 : Blk w1 w.heap.size QtT zQt := by rw [hw1]; exact (Blk.new _ _ _).alloc _
  have hk1 : Blk w1 (w.heap.size + 1) QtT #[.int .i64 3, .int .i64 0, .int .i64 0, .bool false, .slice none 0 0, .slice none 0 0] := by rw [hw1]; exact Blk.at_ _ _ _ (by simp)
  have HB1 : Hid (Below w.heap.size w w1) := by show Below _ _ _; rw [hw1]; exact bel
  clear hw1 HA1 HA2 HFL c9 n3 n4 hsub n5 n6
  go_loopg [5] (l.length + 3) (fun q i wr => ∃ (p : Nat) (acc : List (Int × Int)) (sa : Option Addr) (sc : Nat), i = .int .i64 p ∧ l.length + 3 - p ≤ q ∧ p ≤ l.length + 1 ∧ acc.length ≤ p ∧ OwnG w.heap.size wr (.slice sa acc.length sc) acc ∧ Blk wr (w.heap.size + 1) QtT #[.int .i64 3, .int .i64 0, .int .i64 0, .bool false, .slice none 0 0, .slice sa acc.length sc] ∧ Blk wr w.heap.size QtT zQt ∧ Below w.heap.size w wr ∧ Hid (R = acc ++ setsR (l.drop p)))
  case atStart => exact ⟨1, [], none, 0, rfl, by omega, by omega, by simp, World.ownsRow_nil _ _ _ _, hk1, ht1, HB1.out, HRR⟩
  case round =>
    obtain ⟨p, acc, sa, sc, rfl, hpq, hp3, hap, ho, hk, ht, hb, HF⟩ := hrel
    have HPQ := Lib.hid hpq
    have HAP := Lib.hid hap
    have HO := Lib.hid ho
    have HK := Lib.hid hk
    have HT := Lib.hid ht
    have HB := Lib.hid hb
    have hkl := hk.lt
    have hzr := hb.size
    have s1 : IntKind.i64.wrap ((p : Int) + 1) = (p : Int) + 1 := IntWalk.i64_in _ (by omega)
    have s2 : IntKind.i64.wrap ((p : Int) + 2) = (p : Int) + 2 := IntWalk.i64_in _ (by omega)
    have hal : acc.length ≤ 100001 := by omega
    clear hpq hap ho hk ht hb
    by_cases hlt : p + 1 < l.length
    · have j1 : (p : Int) + 1 < (l.length : Int) := by omega
      have HU : Hid (R = (acc ++ [(nmR l p, nmR l (p + 1))]) ++ setsR (l.drop (p + 2))) := by
        show _ = _
        rw [HF.out, sets_step hlt]
        simp
      have HQ1 : Hid (∀ W, Below w.heap.size w W → Calls Tryz.prog 40 #[.slice (some ⟨b, off, none⟩) l.length cap, .int .i64 (p : Int)] W fun e w' => e = .returned (.int .i64 (nmR l p)) ∧ ∃ j, w' = W.more j) := fun W hW => HAT.out p W (by omega) hW
      have HQ2 : Hid (∀ W, Below w.heap.size w W → Calls Tryz.prog 40 #[.slice (some ⟨b, off, none⟩) l.length cap, .int .i64 ((p : Int) + 1)] W fun e w' => e = .returned (.int .i64 (nmR l (p + 1))) ∧ ∃ j, w' = W.more j) := fun W hW => by
        have h := HAT.out (p + 1) W (by omega) hW
        rwa [show ((p + 1 : Nat) : Int) = (p : Int) + 1 by omega] at h
      generalize nmR l p = n1 at HU HQ1
      generalize nmR l (p + 1) = n2 at HU HQ2
      clear HF
      go_wp2_with fail
      refine gp_start (Pv (w.heap.size + 1) (.slice sa acc.length sc)) (by kernel_rfl) ?_
      obtain ⟨wd, hwd⟩ : ∃ wd, wd = wr.drew := ⟨_, rfl⟩
      rw [← hwd]
      have HOd : Hid (OwnG w.heap.size wd (.slice sa acc.length sc) acc) := by show OwnG _ _ _ _; rw [hwd]; exact HO.out
      have HKd : Hid (Blk wd (w.heap.size + 1) QtT #[.int .i64 3, .int .i64 0, .int .i64 0, .bool false, .slice none 0 0, .slice sa acc.length sc]) := by show Blk _ _ _ _; rw [hwd]; exact HK.out.drew
      have HTd : Hid (Blk wd w.heap.size QtT zQt) := by show Blk _ _ _ _; rw [hwd]; exact HT.out.drew
      have HBd : Hid (Below w.heap.size w wd) := by show Below _ _ _; rw [hwd]; exact HB.out.drew
      have k5 : wd.cell? ⟨w.heap.size + 1, 5, none⟩ = some (.slice sa acc.length sc) := HKd.out.cell 5
      have bd := HKd.out.lt
      have bd2 := HTd.out.lt
      have hzd := HBd.out.size
      clear hwd
      refine gp_take 0 (v := ?_) rfl (by kernel_rfl) (by kernel_rfl) (by kernel_rfl) (fun _ _ _ h => h) (Or.inl ⟨by first | kernel_rfl | rfl, ?_⟩) ?_
      rotate_left
      · intro wS hSw; clear hSw; go_simp; try with_reducible rfl
      try simp only [Act.put, List.getElem_toArray, List.getElem_cons_succ, List.getElem_cons_zero, List.setIfInBounds_toArray, List.set_cons_zero, List.set_cons_succ]
      refine gp_take 2 (v := ?_) rfl (by kernel_rfl) (by kernel_rfl) (by kernel_rfl) (fun _ _ _ h => h) (Or.inl ⟨by first | kernel_rfl | rfl, ?_⟩) ?_
      rotate_left
      · intro wS hSw; clear hSw; go_simp; try with_reducible rfl
      try simp only [Act.put, List.getElem_toArray, List.getElem_cons_succ, List.getElem_cons_zero, List.setIfInBounds_toArray, List.set_cons_zero, List.set_cons_succ]
      refine gp_take 3 (v := ?_) rfl (by kernel_rfl) (by kernel_rfl) (by kernel_rfl) (fun _ _ _ h => h) (Or.inl ⟨by first | kernel_rfl | rfl, ?_⟩) ?_
      rotate_left
      · intro wS hSw; clear hSw; go_simp; try with_reducible rfl
      try simp only [Act.put, List.getElem_toArray, List.getElem_cons_succ, List.getElem_cons_zero, List.setIfInBounds_toArray, List.set_cons_zero, List.set_cons_succ]
      refine gp_take 5 (v := ?_) rfl (by kernel_rfl) (by kernel_rfl) (by kernel_rfl) (fun _ _ _ h => h) (Or.inl ⟨by first | kernel_rfl | rfl, ?_⟩) ?_
      rotate_left
      · intro wS hSw; clear hSw; go_simp; try with_reducible rfl
      try simp only [Act.put, List.getElem_toArray, List.getElem_cons_succ, List.getElem_cons_zero, List.setIfInBounds_toArray, List.set_cons_zero, List.set_cons_succ]
      refine gp_take 6 (v := ?_) rfl (by kernel_rfl) (by kernel_rfl) (by kernel_rfl) (fun _ _ _ h => h) (Or.inl ⟨by first | kernel_rfl | rfl, ?_⟩) ?_
      rotate_left
      · intro wS hSw; clear hSw; go_simp; try with_reducible rfl
      try simp only [Act.put, List.getElem_toArray, List.getElem_cons_succ, List.getElem_cons_zero, List.setIfInBounds_toArray, List.set_cons_zero, List.set_cons_succ]
      refine gp_take 7 (v := ?_) rfl (by kernel_rfl) (by kernel_rfl) (by kernel_rfl) (fun _ _ _ h => h) (Or.inl ⟨by first | kernel_rfl | rfl, ?_⟩) ?_
      rotate_left
      · intro wS hSw; clear hSw; go_simp; try with_reducible rfl
      try simp only [Act.put, List.getElem_toArray, List.getElem_cons_succ, List.getElem_cons_zero, List.setIfInBounds_toArray, List.set_cons_zero, List.set_cons_succ]
      refine gpv_two 1 4 (by kernel_rfl) rfl rfl (fun K' hK => ?_) (fun K' hK => ?_)
      · go_simp
        go_wp2_with fail
        refine hK.out _ _ (show Gp _ _ _ from (by first | exact Gp.refl _ | (refine Gp.of_below ?_; repeat (first | (with_reducible exact Below.refl _ _) | (with_reducible exact grown_merge _ _ _ _) | (with_reducible exact grown_merge2 _ _ _ _ _ _) | (with_reducible refine Below.allocS ?_ _) | (with_reducible refine Below.moreS ?_ _) | (with_reducible refine Below.drew ?_))))) ?_
        clear hK K'
        try simp only [Act.put, List.getElem_toArray, List.getElem_cons_succ, List.getElem_cons_zero, List.setIfInBounds_toArray, List.set_cons_zero, List.set_cons_succ]
        refine gp_step 4 (by kernel_rfl) rfl (fun K hK => ?_)
        go_simp
        go_wp2_with (go_at_call 40; (with_reducible refine (HQ1.out _ (HBd.out.trans (Below.mono (B := wd.heap.size) bel hzd))).mono ?_); rintro e w' ⟨rfl, j, rfl⟩)
        refine hK.out _ _ (show Gp _ _ _ from (by first | exact Gp.refl _ | (refine Gp.of_below ?_; repeat (first | (with_reducible exact Below.refl _ _) | (with_reducible exact grown_merge _ _ _ _) | (with_reducible exact grown_merge2 _ _ _ _ _ _) | (with_reducible refine Below.allocS ?_ _) | (with_reducible refine Below.moreS ?_ _) | (with_reducible refine Below.drew ?_))))) ?_
        clear hK K
        try simp only [Act.put, List.getElem_toArray, List.getElem_cons_succ, List.getElem_cons_zero, List.setIfInBounds_toArray, List.set_cons_zero, List.set_cons_succ]
        refine gp_step 8 (by kernel_rfl) rfl (fun K hK => ?_)
        go_simp
        go_wp2_with (go_at_call 40; (with_reducible refine (HQ2.out _ (HBd.out.trans (Below.mono (B := wd.heap.size) bel hzd))).mono ?_); rintro e w' ⟨rfl, j, rfl⟩)
        refine hK.out _ _ (show Gp _ _ _ from (by first | exact Gp.refl _ | (refine Gp.of_below ?_; repeat (first | (with_reducible exact Below.refl _ _) | (with_reducible exact grown_merge _ _ _ _) | (with_reducible exact grown_merge2 _ _ _ _ _ _) | (with_reducible refine Below.allocS ?_ _) | (with_reducible refine Below.moreS ?_ _) | (with_reducible refine Below.drew ?_))))) ?_
        clear hK K
        try simp only [Act.put, List.getElem_toArray, List.getElem_cons_succ, List.getElem_cons_zero, List.setIfInBounds_toArray, List.set_cons_zero, List.set_cons_succ]
        refine gp_step 9 (by kernel_rfl) rfl (fun K hK => ?_)
        go_simp
        go_wp2_with fail
        refine hK.out _ _ (show Gp _ _ _ from (by first | exact Gp.refl _ | (refine Gp.of_below ?_; repeat (first | (with_reducible exact Below.refl _ _) | (with_reducible exact grown_merge _ _ _ _) | (with_reducible exact grown_merge2 _ _ _ _ _ _) | (with_reducible refine Below.allocS ?_ _) | (with_reducible refine Below.moreS ?_ _) | (with_reducible refine Below.drew ?_))))) ?_
        clear hK K
        try simp only [Act.put, List.getElem_toArray, List.getElem_cons_succ, List.getElem_cons_zero, List.setIfInBounds_toArray, List.set_cons_zero, List.set_cons_succ]
        refine gp_step 10 (by kernel_rfl) rfl (fun K hK => ?_)
        go_simp
        go_wp2_with fail
        refine hK.out _ _ (show Gp _ _ _ from (by first | exact Gp.refl _ | (refine Gp.of_below ?_; repeat (first | (with_reducible exact Below.refl _ _) | (with_reducible exact grown_merge _ _ _ _) | (with_reducible exact grown_merge2 _ _ _ _ _ _) | (with_reducible refine Below.allocS ?_ _) | (with_reducible refine Below.moreS ?_ _) | (with_reducible refine Below.drew ?_))))) ?_
        clear hK K
        try simp only [Act.put, List.getElem_toArray, List.getElem_cons_succ, List.getElem_cons_zero, List.setIfInBounds_toArray, List.set_cons_zero, List.set_cons_succ]
        refine gp_step 11 (by kernel_rfl) rfl (fun K hK => ?_)
        refine step_app st_sg (.tmp 51) (.tmp 60) rfl rfl (v := .slice sa acc.length sc) rfl (show World.ownsRow _ _ _ _ _ _ _ from own_below HOd.out (show Below wd.heap.size wd _ from bel) (Nat.le_refl _)) rfl blk rfl (by intro y hy; simp at hy; rcases hy with rfl | rfl <;> rfl) (by unfold maxLen; omega) (by omega) (by simp only [World.size_more, World.size_alloc]; omega) ?_
        intro v' x2 hown hgr
        obtain ⟨a2, c2, rfl, -⟩ := own_slice hown
        have hoi := fun W (hW : Below wd.heap.size wd W) => own_below (show wd.ownsRow _ _ _ _ _ _ from HOd.out) hW (Nat.le_refl _)
        have HK2 : Hid (Blk x2 (w.heap.size + 1) QtT #[.int .i64 3, .int .i64 0, .int .i64 0, .bool false, .slice none 0 0, .slice sa acc.length sc]) := Blk.grown (HKd.out.below (B := wd.heap.size) bel bd) hgr (own_ne_ty (hoi _ bel) (HKd.out.below (B := wd.heap.size) bel bd) (by decide))
        have HT2 : Hid (Blk x2 w.heap.size QtT zQt) := Blk.grown (HTd.out.below (B := wd.heap.size) bel bd2) hgr (own_ne_ty (hoi _ bel) (HTd.out.below (B := wd.heap.size) bel bd2) (by decide))
        have HB2 : Hid (Below w.heap.size w x2) := HBd.out.trans ((Below.mono (B := wd.heap.size) bel hzd).trans (own_grown (Below.refl _ _) (hoi _ bel) hgr (Nat.le_refl _) (by simp only [World.size_more, World.size_alloc]; omega)))
        have HO2 : Hid (OwnG w.heap.size x2 (.slice a2 (acc.length + 1) c2) (acc ++ [(n1, n2)])) := by
          show World.ownsRow _ _ _ _ _ _ _
          rw [List.length_append, List.flatMap_append]
          exact hown
        have f5 : x2.cell? ⟨w.heap.size + 1, 5, none⟩ = some (.slice sa acc.length sc) := HK2.out.cell 5
        have y5 : x2.frozen? ⟨w.heap.size + 1, 5, none⟩ = false := HK2.out.frozen 5
        have l5 := HK2.out.lt
        refine hK.out _ _ (show Gp _ _ _ from gpv_grown hgr) ?_
        clear hK K hown hgr hoi
        try simp only [Act.put, List.getElem_toArray, List.getElem_cons_succ, List.getElem_cons_zero, List.setIfInBounds_toArray, List.set_cons_zero, List.set_cons_succ]
        refine gp_step 12 (by kernel_rfl) rfl (fun K hK => ?_)
        go_simp
        go_wp2_with fail
        refine hK.out _ _ (show Gp _ _ _ from Gp.refl _) ?_
        clear hK K
        try simp only [Act.put, List.getElem_toArray, List.getElem_cons_succ, List.getElem_cons_zero, List.setIfInBounds_toArray, List.set_cons_zero, List.set_cons_succ]
        refine gp_step 13 (by kernel_rfl) rfl (fun K hK => ?_)
        go_simp
        go_wp2_with fail
        refine hK.out _ _ (show Gp _ _ _ from Gp.set _ (.inl rfl)) ?_
        clear hK K
        try simp only [Act.put, List.getElem_toArray, List.getElem_cons_succ, List.getElem_cons_zero, List.setIfInBounds_toArray, List.set_cons_zero, List.set_cons_succ]
        refine wpAnyH_done (by kernel_rfl) ?_ _
        go_wp2_with fail
        go_roundg (l.length + 1 - p)
        case measure => have := HPQ.out; omega
        case rel => exact ⟨p + 2, acc ++ [(n1, n2)], a2, c2, by go_num, by omega, by omega, by have := HAP.out; simp; omega, by rw [List.length_append]; exact own_far HO2.out HK2.out (by decide), by rw [List.length_append]; exact HK2.out.set_ 5 _, HT2.out.far (p := ⟨w.heap.size + 1, 5, none⟩) (by simp) _, HB2.out.setCell (p := ⟨w.heap.size + 1, 5, none⟩) (by simp) _, HU⟩
      · go_simp
        go_wp2_with (go_at_call 40; (with_reducible refine (HQ1.out _ (HBd.out.trans (Below.mono (B := wd.heap.size) bel hzd))).mono ?_); rintro e w' ⟨rfl, j, rfl⟩)
        refine hK.out _ _ (show Gp _ _ _ from (by first | exact Gp.refl _ | (refine Gp.of_below ?_; repeat (first | (with_reducible exact Below.refl _ _) | (with_reducible exact grown_merge _ _ _ _) | (with_reducible exact grown_merge2 _ _ _ _ _ _) | (with_reducible refine Below.allocS ?_ _) | (with_reducible refine Below.moreS ?_ _) | (with_reducible refine Below.drew ?_))))) ?_
        clear hK K'
        try simp only [Act.put, List.getElem_toArray, List.getElem_cons_succ, List.getElem_cons_zero, List.setIfInBounds_toArray, List.set_cons_zero, List.set_cons_succ]
        refine gpv_two 1 8 (by kernel_rfl) rfl rfl (fun K' hK => ?_) (fun K' hK => ?_)
        · go_simp
          go_wp2_with fail
          refine hK.out _ _ (show Gp _ _ _ from (by first | exact Gp.refl _ | (refine Gp.of_below ?_; repeat (first | (with_reducible exact Below.refl _ _) | (with_reducible exact grown_merge _ _ _ _) | (with_reducible exact grown_merge2 _ _ _ _ _ _) | (with_reducible refine Below.allocS ?_ _) | (with_reducible refine Below.moreS ?_ _) | (with_reducible refine Below.drew ?_))))) ?_
          clear hK K'
          try simp only [Act.put, List.getElem_toArray, List.getElem_cons_succ, List.getElem_cons_zero, List.setIfInBounds_toArray, List.set_cons_zero, List.set_cons_succ]
          refine gp_step 8 (by kernel_rfl) rfl (fun K hK => ?_)
          go_simp
          go_wp2_with (go_at_call 40; (with_reducible refine (HQ2.out _ (HBd.out.trans (Below.mono (B := wd.heap.size) bel hzd))).mono ?_); rintro e w' ⟨rfl, j, rfl⟩)
          refine hK.out _ _ (show Gp _ _ _ from (by first | exact Gp.refl _ | (refine Gp.of_below ?_; repeat (first | (with_reducible exact Below.refl _ _) | (with_reducible exact grown_merge _ _ _ _) | (with_reducible exact grown_merge2 _ _ _ _ _ _) | (with_reducible refine Below.allocS ?_ _) | (with_reducible refine Below.moreS ?_ _) | (with_reducible refine Below.drew ?_))))) ?_
          clear hK K
          try simp only [Act.put, List.getElem_toArray, List.getElem_cons_succ, List.getElem_cons_zero, List.setIfInBounds_toArray, List.set_cons_zero, List.set_cons_succ]
          refine gp_step 9 (by kernel_rfl) rfl (fun K hK => ?_)
          go_simp
          go_wp2_with fail
          refine hK.out _ _ (show Gp _ _ _ from (by first | exact Gp.refl _ | (refine Gp.of_below ?_; repeat (first | (with_reducible exact Below.refl _ _) | (with_reducible exact grown_merge _ _ _ _) | (with_reducible exact grown_merge2 _ _ _ _ _ _) | (with_reducible refine Below.allocS ?_ _) | (with_reducible refine Below.moreS ?_ _) | (with_reducible refine Below.drew ?_))))) ?_
          clear hK K
          try simp only [Act.put, List.getElem_toArray, List.getElem_cons_succ, List.getElem_cons_zero, List.setIfInBounds_toArray, List.set_cons_zero, List.set_cons_succ]
          refine gp_step 10 (by kernel_rfl) rfl (fun K hK => ?_)
          go_simp
          go_wp2_with fail
          refine hK.out _ _ (show Gp _ _ _ from (by first | exact Gp.refl _ | (refine Gp.of_below ?_; repeat (first | (with_reducible exact Below.refl _ _) | (with_reducible exact grown_merge _ _ _ _) | (with_reducible exact grown_merge2 _ _ _ _ _ _) | (with_reducible refine Below.allocS ?_ _) | (with_reducible refine Below.moreS ?_ _) | (with_reducible refine Below.drew ?_))))) ?_
          clear hK K
          try simp only [Act.put, List.getElem_toArray, List.getElem_cons_succ, List.getElem_cons_zero, List.setIfInBounds_toArray, List.set_cons_zero, List.set_cons_succ]
          refine gp_step 11 (by kernel_rfl) rfl (fun K hK => ?_)
          refine step_app st_sg (.tmp 51) (.tmp 60) rfl rfl (v := .slice sa acc.length sc) rfl (show World.ownsRow _ _ _ _ _ _ _ from own_below HOd.out (show Below wd.heap.size wd _ from bel) (Nat.le_refl _)) rfl blk rfl (by intro y hy; simp at hy; rcases hy with rfl | rfl <;> rfl) (by unfold maxLen; omega) (by omega) (by simp only [World.size_more, World.size_alloc]; omega) ?_
          intro v' x2 hown hgr
          obtain ⟨a2, c2, rfl, -⟩ := own_slice hown
          have hoi := fun W (hW : Below wd.heap.size wd W) => own_below (show wd.ownsRow _ _ _ _ _ _ from HOd.out) hW (Nat.le_refl _)
          have HK2 : Hid (Blk x2 (w.heap.size + 1) QtT #[.int .i64 3, .int .i64 0, .int .i64 0, .bool false, .slice none 0 0, .slice sa acc.length sc]) := Blk.grown (HKd.out.below (B := wd.heap.size) bel bd) hgr (own_ne_ty (hoi _ bel) (HKd.out.below (B := wd.heap.size) bel bd) (by decide))
          have HT2 : Hid (Blk x2 w.heap.size QtT zQt) := Blk.grown (HTd.out.below (B := wd.heap.size) bel bd2) hgr (own_ne_ty (hoi _ bel) (HTd.out.below (B := wd.heap.size) bel bd2) (by decide))
          have HB2 : Hid (Below w.heap.size w x2) := HBd.out.trans ((Below.mono (B := wd.heap.size) bel hzd).trans (own_grown (Below.refl _ _) (hoi _ bel) hgr (Nat.le_refl _) (by simp only [World.size_more, World.size_alloc]; omega)))
          have HO2 : Hid (OwnG w.heap.size x2 (.slice a2 (acc.length + 1) c2) (acc ++ [(n1, n2)])) := by
            show World.ownsRow _ _ _ _ _ _ _
            rw [List.length_append, List.flatMap_append]
            exact hown
          have f5 : x2.cell? ⟨w.heap.size + 1, 5, none⟩ = some (.slice sa acc.length sc) := HK2.out.cell 5
          have y5 : x2.frozen? ⟨w.heap.size + 1, 5, none⟩ = false := HK2.out.frozen 5
          have l5 := HK2.out.lt
          refine hK.out _ _ (show Gp _ _ _ from gpv_grown hgr) ?_
          clear hK K hown hgr hoi
          try simp only [Act.put, List.getElem_toArray, List.getElem_cons_succ, List.getElem_cons_zero, List.setIfInBounds_toArray, List.set_cons_zero, List.set_cons_succ]
          refine gp_step 12 (by kernel_rfl) rfl (fun K hK => ?_)
          go_simp
          go_wp2_with fail
          refine hK.out _ _ (show Gp _ _ _ from Gp.refl _) ?_
          clear hK K
          try simp only [Act.put, List.getElem_toArray, List.getElem_cons_succ, List.getElem_cons_zero, List.setIfInBounds_toArray, List.set_cons_zero, List.set_cons_succ]
          refine gp_step 13 (by kernel_rfl) rfl (fun K hK => ?_)
          go_simp
          go_wp2_with fail
          refine hK.out _ _ (show Gp _ _ _ from Gp.set _ (.inl rfl)) ?_
          clear hK K
          try simp only [Act.put, List.getElem_toArray, List.getElem_cons_succ, List.getElem_cons_zero, List.setIfInBounds_toArray, List.set_cons_zero, List.set_cons_succ]
          refine wpAnyH_done (by kernel_rfl) ?_ _
          go_wp2_with fail
          go_roundg (l.length + 1 - p)
          case measure => have := HPQ.out; omega
          case rel => exact ⟨p + 2, acc ++ [(n1, n2)], a2, c2, by go_num, by omega, by omega, by have := HAP.out; simp; omega, by rw [List.length_append]; exact own_far HO2.out HK2.out (by decide), by rw [List.length_append]; exact HK2.out.set_ 5 _, HT2.out.far (p := ⟨w.heap.size + 1, 5, none⟩) (by simp) _, HB2.out.setCell (p := ⟨w.heap.size + 1, 5, none⟩) (by simp) _, HU⟩
        · go_simp
          go_wp2_with (go_at_call 40; (with_reducible refine (HQ2.out _ (HBd.out.trans (Below.mono (B := wd.heap.size) bel hzd))).mono ?_); rintro e w' ⟨rfl, j, rfl⟩)
          refine hK.out _ _ (show Gp _ _ _ from (by first | exact Gp.refl _ | (refine Gp.of_below ?_; repeat (first | (with_reducible exact Below.refl _ _) | (with_reducible exact grown_merge _ _ _ _) | (with_reducible exact grown_merge2 _ _ _ _ _ _) | (with_reducible refine Below.allocS ?_ _) | (with_reducible refine Below.moreS ?_ _) | (with_reducible refine Below.drew ?_))))) ?_
          clear hK K'
          try simp only [Act.put, List.getElem_toArray, List.getElem_cons_succ, List.getElem_cons_zero, List.setIfInBounds_toArray, List.set_cons_zero, List.set_cons_succ]
          refine gpv_two 1 9 (by kernel_rfl) rfl rfl (fun K' hK => ?_) (fun K' hK => ?_)
          · go_simp
            go_wp2_with fail
            refine hK.out _ _ (show Gp _ _ _ from (by first | exact Gp.refl _ | (refine Gp.of_below ?_; repeat (first | (with_reducible exact Below.refl _ _) | (with_reducible exact grown_merge _ _ _ _) | (with_reducible exact grown_merge2 _ _ _ _ _ _) | (with_reducible refine Below.allocS ?_ _) | (with_reducible refine Below.moreS ?_ _) | (with_reducible refine Below.drew ?_))))) ?_
            clear hK K'
            try simp only [Act.put, List.getElem_toArray, List.getElem_cons_succ, List.getElem_cons_zero, List.setIfInBounds_toArray, List.set_cons_zero, List.set_cons_succ]
            refine gp_step 9 (by kernel_rfl) rfl (fun K hK => ?_)
            go_simp
            go_wp2_with fail
            refine hK.out _ _ (show Gp _ _ _ from (by first | exact Gp.refl _ | (refine Gp.of_below ?_; repeat (first | (with_reducible exact Below.refl _ _) | (with_reducible exact grown_merge _ _ _ _) | (with_reducible exact grown_merge2 _ _ _ _ _ _) | (with_reducible refine Below.allocS ?_ _) | (with_reducible refine Below.moreS ?_ _) | (with_reducible refine Below.drew ?_))))) ?_
            clear hK K
            try simp only [Act.put, List.getElem_toArray, List.getElem_cons_succ, List.getElem_cons_zero, List.setIfInBounds_toArray, List.set_cons_zero, List.set_cons_succ]
            refine gp_step 10 (by kernel_rfl) rfl (fun K hK => ?_)
            go_simp
            go_wp2_with fail
            refine hK.out _ _ (show Gp _ _ _ from (by first | exact Gp.refl _ | (refine Gp.of_below ?_; repeat (first | (with_reducible exact Below.refl _ _) | (with_reducible exact grown_merge _ _ _ _) | (with_reducible exact grown_merge2 _ _ _ _ _ _) | (with_reducible refine Below.allocS ?_ _) | (with_reducible refine Below.moreS ?_ _) | (with_reducible refine Below.drew ?_))))) ?_
            clear hK K
            try simp only [Act.put, List.getElem_toArray, List.getElem_cons_succ, List.getElem_cons_zero, List.setIfInBounds_toArray, List.set_cons_zero, List.set_cons_succ]
            refine gp_step 11 (by kernel_rfl) rfl (fun K hK => ?_)
            refine step_app st_sg (.tmp 51) (.tmp 60) rfl rfl (v := .slice sa acc.length sc) rfl (show World.ownsRow _ _ _ _ _ _ _ from own_below HOd.out (show Below wd.heap.size wd _ from bel) (Nat.le_refl _)) rfl blk rfl (by intro y hy; simp at hy; rcases hy with rfl | rfl <;> rfl) (by unfold maxLen; omega) (by omega) (by simp only [World.size_more, World.size_alloc]; omega) ?_
            intro v' x2 hown hgr
            obtain ⟨a2, c2, rfl, -⟩ := own_slice hown
            have hoi := fun W (hW : Below wd.heap.size wd W) => own_below (show wd.ownsRow _ _ _ _ _ _ from HOd.out) hW (Nat.le_refl _)
            have HK2 : Hid (Blk x2 (w.heap.size + 1) QtT #[.int .i64 3, .int .i64 0, .int .i64 0, .bool false, .slice none 0 0, .slice sa acc.length sc]) := Blk.grown (HKd.out.below (B := wd.heap.size) bel bd) hgr (own_ne_ty (hoi _ bel) (HKd.out.below (B := wd.heap.size) bel bd) (by decide))
            have HT2 : Hid (Blk x2 w.heap.size QtT zQt) := Blk.grown (HTd.out.below (B := wd.heap.size) bel bd2) hgr (own_ne_ty (hoi _ bel) (HTd.out.below (B := wd.heap.size) bel bd2) (by decide))
            have HB2 : Hid (Below w.heap.size w x2) := HBd.out.trans ((Below.mono (B := wd.heap.size) bel hzd).trans (own_grown (Below.refl _ _) (hoi _ bel) hgr (Nat.le_refl _) (by simp only [World.size_more, World.size_alloc]; omega)))
            have HO2 : Hid (OwnG w.heap.size x2 (.slice a2 (acc.length + 1) c2) (acc ++ [(n1, n2)])) := by
              show World.ownsRow _ _ _ _ _ _ _
              rw [List.length_append, List.flatMap_append]
              exact hown
            have f5 : x2.cell? ⟨w.heap.size + 1, 5, none⟩ = some (.slice sa acc.length sc) := HK2.out.cell 5
            have y5 : x2.frozen? ⟨w.heap.size + 1, 5, none⟩ = false := HK2.out.frozen 5
            have l5 := HK2.out.lt
            refine hK.out _ _ (show Gp _ _ _ from gpv_grown hgr) ?_
            clear hK K hown hgr hoi
            try simp only [Act.put, List.getElem_toArray, List.getElem_cons_succ, List.getElem_cons_zero, List.setIfInBounds_toArray, List.set_cons_zero, List.set_cons_succ]
            refine gp_step 12 (by kernel_rfl) rfl (fun K hK => ?_)
            go_simp
            go_wp2_with fail
            refine hK.out _ _ (show Gp _ _ _ from Gp.refl _) ?_
            clear hK K
            try simp only [Act.put, List.getElem_toArray, List.getElem_cons_succ, List.getElem_cons_zero, List.setIfInBounds_toArray, List.set_cons_zero, List.set_cons_succ]
            refine gp_step 13 (by kernel_rfl) rfl (fun K hK => ?_)
            go_simp
            go_wp2_with fail
            refine hK.out _ _ (show Gp _ _ _ from Gp.set _ (.inl rfl)) ?_
            clear hK K
            try simp only [Act.put, List.getElem_toArray, List.getElem_cons_succ, List.getElem_cons_zero, List.setIfInBounds_toArray, List.set_cons_zero, List.set_cons_succ]
            refine wpAnyH_done (by kernel_rfl) ?_ _
            go_wp2_with fail
            go_roundg (l.length + 1 - p)
            case measure => have := HPQ.out; omega
            case rel => exact ⟨p + 2, acc ++ [(n1, n2)], a2, c2, by go_num, by omega, by omega, by have := HAP.out; simp; omega, by rw [List.length_append]; exact own_far HO2.out HK2.out (by decide), by rw [List.length_append]; exact HK2.out.set_ 5 _, HT2.out.far (p := ⟨w.heap.size + 1, 5, none⟩) (by simp) _, HB2.out.setCell (p := ⟨w.heap.size + 1, 5, none⟩) (by simp) _, HU⟩
          · go_simp
            go_wp2_with fail
            refine hK.out _ _ (show Gp _ _ _ from (by first | exact Gp.refl _ | (refine Gp.of_below ?_; repeat (first | (with_reducible exact Below.refl _ _) | (with_reducible exact grown_merge _ _ _ _) | (with_reducible exact grown_merge2 _ _ _ _ _ _) | (with_reducible refine Below.allocS ?_ _) | (with_reducible refine Below.moreS ?_ _) | (with_reducible refine Below.drew ?_))))) ?_
            clear hK K'
            try simp only [Act.put, List.getElem_toArray, List.getElem_cons_succ, List.getElem_cons_zero, List.setIfInBounds_toArray, List.set_cons_zero, List.set_cons_succ]
            refine gpv_two 1 10 (by kernel_rfl) rfl rfl (fun K' hK => ?_) (fun K' hK => ?_)
            · go_simp
              go_wp2_with fail
              refine hK.out _ _ (show Gp _ _ _ from (by first | exact Gp.refl _ | (refine Gp.of_below ?_; repeat (first | (with_reducible exact Below.refl _ _) | (with_reducible exact grown_merge _ _ _ _) | (with_reducible exact grown_merge2 _ _ _ _ _ _) | (with_reducible refine Below.allocS ?_ _) | (with_reducible refine Below.moreS ?_ _) | (with_reducible refine Below.drew ?_))))) ?_
              clear hK K'
              try simp only [Act.put, List.getElem_toArray, List.getElem_cons_succ, List.getElem_cons_zero, List.setIfInBounds_toArray, List.set_cons_zero, List.set_cons_succ]
              refine gp_step 10 (by kernel_rfl) rfl (fun K hK => ?_)
              go_simp
              go_wp2_with fail
              refine hK.out _ _ (show Gp _ _ _ from (by first | exact Gp.refl _ | (refine Gp.of_below ?_; repeat (first | (with_reducible exact Below.refl _ _) | (with_reducible exact grown_merge _ _ _ _) | (with_reducible exact grown_merge2 _ _ _ _ _ _) | (with_reducible refine Below.allocS ?_ _) | (with_reducible refine Below.moreS ?_ _) | (with_reducible refine Below.drew ?_))))) ?_
              clear hK K
              try simp only [Act.put, List.getElem_toArray, List.getElem_cons_succ, List.getElem_cons_zero, List.setIfInBounds_toArray, List.set_cons_zero, List.set_cons_succ]
              refine gp_step 11 (by kernel_rfl) rfl (fun K hK => ?_)
              refine step_app st_sg (.tmp 51) (.tmp 60) rfl rfl (v := .slice sa acc.length sc) rfl (show World.ownsRow _ _ _ _ _ _ _ from own_below HOd.out (show Below wd.heap.size wd _ from bel) (Nat.le_refl _)) rfl blk rfl (by intro y hy; simp at hy; rcases hy with rfl | rfl <;> rfl) (by unfold maxLen; omega) (by omega) (by simp only [World.size_more, World.size_alloc]; omega) ?_
              intro v' x2 hown hgr
              obtain ⟨a2, c2, rfl, -⟩ := own_slice hown
              have hoi := fun W (hW : Below wd.heap.size wd W) => own_below (show wd.ownsRow _ _ _ _ _ _ from HOd.out) hW (Nat.le_refl _)
              have HK2 : Hid (Blk x2 (w.heap.size + 1) QtT #[.int .i64 3, .int .i64 0, .int .i64 0, .bool false, .slice none 0 0, .slice sa acc.length sc]) := Blk.grown (HKd.out.below (B := wd.heap.size) bel bd) hgr (own_ne_ty (hoi _ bel) (HKd.out.below (B := wd.heap.size) bel bd) (by decide))
              have HT2 : Hid (Blk x2 w.heap.size QtT zQt) := Blk.grown (HTd.out.below (B := wd.heap.size) bel bd2) hgr (own_ne_ty (hoi _ bel) (HTd.out.below (B := wd.heap.size) bel bd2) (by decide))
              have HB2 : Hid (Below w.heap.size w x2) := HBd.out.trans ((Below.mono (B := wd.heap.size) bel hzd).trans (own_grown (Below.refl _ _) (hoi _ bel) hgr (Nat.le_refl _) (by simp only [World.size_more, World.size_alloc]; omega)))
              have HO2 : Hid (OwnG w.heap.size x2 (.slice a2 (acc.length + 1) c2) (acc ++ [(n1, n2)])) := by
                show World.ownsRow _ _ _ _ _ _ _
                rw [List.length_append, List.flatMap_append]
                exact hown
              have f5 : x2.cell? ⟨w.heap.size + 1, 5, none⟩ = some (.slice sa acc.length sc) := HK2.out.cell 5
              have y5 : x2.frozen? ⟨w.heap.size + 1, 5, none⟩ = false := HK2.out.frozen 5
              have l5 := HK2.out.lt
              refine hK.out _ _ (show Gp _ _ _ from gpv_grown hgr) ?_
              clear hK K hown hgr hoi
              try simp only [Act.put, List.getElem_toArray, List.getElem_cons_succ, List.getElem_cons_zero, List.setIfInBounds_toArray, List.set_cons_zero, List.set_cons_succ]
              refine gp_step 12 (by kernel_rfl) rfl (fun K hK => ?_)
              go_simp
              go_wp2_with fail
              refine hK.out _ _ (show Gp _ _ _ from Gp.refl _) ?_
              clear hK K
              try simp only [Act.put, List.getElem_toArray, List.getElem_cons_succ, List.getElem_cons_zero, List.setIfInBounds_toArray, List.set_cons_zero, List.set_cons_succ]
              refine gp_step 13 (by kernel_rfl) rfl (fun K hK => ?_)
              go_simp
              go_wp2_with fail
              refine hK.out _ _ (show Gp _ _ _ from Gp.set _ (.inl rfl)) ?_
              clear hK K
              try simp only [Act.put, List.getElem_toArray, List.getElem_cons_succ, List.getElem_cons_zero, List.setIfInBounds_toArray, List.set_cons_zero, List.set_cons_succ]
              refine wpAnyH_done (by kernel_rfl) ?_ _
              go_wp2_with fail
              go_roundg (l.length + 1 - p)
              case measure => have := HPQ.out; omega
              case rel => exact ⟨p + 2, acc ++ [(n1, n2)], a2, c2, by go_num, by omega, by omega, by have := HAP.out; simp; omega, by rw [List.length_append]; exact own_far HO2.out HK2.out (by decide), by rw [List.length_append]; exact HK2.out.set_ 5 _, HT2.out.far (p := ⟨w.heap.size + 1, 5, none⟩) (by simp) _, HB2.out.setCell (p := ⟨w.heap.size + 1, 5, none⟩) (by simp) _, HU⟩
            · go_simp
              go_wp2_with fail
              refine hK.out _ _ (show Gp _ _ _ from (by first | exact Gp.refl _ | (refine Gp.of_below ?_; repeat (first | (with_reducible exact Below.refl _ _) | (with_reducible exact grown_merge _ _ _ _) | (with_reducible exact grown_merge2 _ _ _ _ _ _) | (with_reducible refine Below.allocS ?_ _) | (with_reducible refine Below.moreS ?_ _) | (with_reducible refine Below.drew ?_))))) ?_
              clear hK K'
              try simp only [Act.put, List.getElem_toArray, List.getElem_cons_succ, List.getElem_cons_zero, List.setIfInBounds_toArray, List.set_cons_zero, List.set_cons_succ]
              refine gp_step 1 (by kernel_rfl) rfl (fun K hK => ?_)
              go_simp
              go_wp2_with fail
              refine hK.out _ _ (show Gp _ _ _ from (by first | exact Gp.refl _ | (refine Gp.of_below ?_; repeat (first | (with_reducible exact Below.refl _ _) | (with_reducible exact grown_merge _ _ _ _) | (with_reducible exact grown_merge2 _ _ _ _ _ _) | (with_reducible refine Below.allocS ?_ _) | (with_reducible refine Below.moreS ?_ _) | (with_reducible refine Below.drew ?_))))) ?_
              clear hK K
              try simp only [Act.put, List.getElem_toArray, List.getElem_cons_succ, List.getElem_cons_zero, List.setIfInBounds_toArray, List.set_cons_zero, List.set_cons_succ]
              refine gp_step 11 (by kernel_rfl) rfl (fun K hK => ?_)
              refine step_app st_sg (.tmp 51) (.tmp 60) rfl rfl (v := .slice sa acc.length sc) rfl (show World.ownsRow _ _ _ _ _ _ _ from own_below HOd.out (show Below wd.heap.size wd _ from bel) (Nat.le_refl _)) rfl blk rfl (by intro y hy; simp at hy; rcases hy with rfl | rfl <;> rfl) (by unfold maxLen; omega) (by omega) (by simp only [World.size_more, World.size_alloc]; omega) ?_
              intro v' x2 hown hgr
              obtain ⟨a2, c2, rfl, -⟩ := own_slice hown
              have hoi := fun W (hW : Below wd.heap.size wd W) => own_below (show wd.ownsRow _ _ _ _ _ _ from HOd.out) hW (Nat.le_refl _)
              have HK2 : Hid (Blk x2 (w.heap.size + 1) QtT #[.int .i64 3, .int .i64 0, .int .i64 0, .bool false, .slice none 0 0, .slice sa acc.length sc]) := Blk.grown (HKd.out.below (B := wd.heap.size) bel bd) hgr (own_ne_ty (hoi _ bel) (HKd.out.below (B := wd.heap.size) bel bd) (by decide))
              have HT2 : Hid (Blk x2 w.heap.size QtT zQt) := Blk.grown (HTd.out.below (B := wd.heap.size) bel bd2) hgr (own_ne_ty (hoi _ bel) (HTd.out.below (B := wd.heap.size) bel bd2) (by decide))
              have HB2 : Hid (Below w.heap.size w x2) := HBd.out.trans ((Below.mono (B := wd.heap.size) bel hzd).trans (own_grown (Below.refl _ _) (hoi _ bel) hgr (Nat.le_refl _) (by simp only [World.size_more, World.size_alloc]; omega)))
              have HO2 : Hid (OwnG w.heap.size x2 (.slice a2 (acc.length + 1) c2) (acc ++ [(n1, n2)])) := by
                show World.ownsRow _ _ _ _ _ _ _
                rw [List.length_append, List.flatMap_append]
                exact hown
              have f5 : x2.cell? ⟨w.heap.size + 1, 5, none⟩ = some (.slice sa acc.length sc) := HK2.out.cell 5
              have y5 : x2.frozen? ⟨w.heap.size + 1, 5, none⟩ = false := HK2.out.frozen 5
              have l5 := HK2.out.lt
              refine hK.out _ _ (show Gp _ _ _ from gpv_grown hgr) ?_
              clear hK K hown hgr hoi
              try simp only [Act.put, List.getElem_toArray, List.getElem_cons_succ, List.getElem_cons_zero, List.setIfInBounds_toArray, List.set_cons_zero, List.set_cons_succ]
              refine gp_step 12 (by kernel_rfl) rfl (fun K hK => ?_)
              go_simp
              go_wp2_with fail
              refine hK.out _ _ (show Gp _ _ _ from Gp.refl _) ?_
              clear hK K
              try simp only [Act.put, List.getElem_toArray, List.getElem_cons_succ, List.getElem_cons_zero, List.setIfInBounds_toArray, List.set_cons_zero, List.set_cons_succ]
              refine gp_step 13 (by kernel_rfl) rfl (fun K hK => ?_)
              go_simp
              go_wp2_with fail
              refine hK.out _ _ (show Gp _ _ _ from Gp.set _ (.inl rfl)) ?_
              clear hK K
              try simp only [Act.put, List.getElem_toArray, List.getElem_cons_succ, List.getElem_cons_zero, List.setIfInBounds_toArray, List.set_cons_zero, List.set_cons_succ]
              refine wpAnyH_done (by kernel_rfl) ?_ _
              go_wp2_with fail
              go_roundg (l.length + 1 - p)
              case measure => have := HPQ.out; omega
              case rel => exact ⟨p + 2, acc ++ [(n1, n2)], a2, c2, by go_num, by omega, by omega, by have := HAP.out; simp; omega, by rw [List.length_append]; exact own_far HO2.out HK2.out (by decide), by rw [List.length_append]; exact HK2.out.set_ 5 _, HT2.out.far (p := ⟨w.heap.size + 1, 5, none⟩) (by simp) _, HB2.out.setCell (p := ⟨w.heap.size + 1, 5, none⟩) (by simp) _, HU⟩
    · have j1 : ¬ (p : Int) + 1 < (l.length : Int) := by omega
      obtain rfl : R = acc := by rw [HF.out, sets_end hlt]; simp
      have k0 : wr.cell? ⟨w.heap.size + 1, 0, none⟩ = some (.int .i64 3) := HK.out.cell 0
      have k1 : wr.cell? ⟨w.heap.size + 1, 1, none⟩ = some (.int .i64 0) := HK.out.cell 1
      have k2 : wr.cell? ⟨w.heap.size + 1, 2, none⟩ = some (.int .i64 0) := HK.out.cell 2
      have k3 : wr.cell? ⟨w.heap.size + 1, 3, none⟩ = some (.bool false) := HK.out.cell 3
      have k4 : wr.cell? ⟨w.heap.size + 1, 4, none⟩ = some (.slice none 0 0) := HK.out.cell 4
      have k5 : wr.cell? ⟨w.heap.size + 1, 5, none⟩ = some (.slice sa R.length sc) := HK.out.cell 5
      have r0 : wr.cell? ⟨w.heap.size, 0, none⟩ = some (.int .i64 0) := HT.out.cell 0
      have r1 : wr.cell? ⟨w.heap.size, 1, none⟩ = some (.int .i64 0) := HT.out.cell 1
      have r2 : wr.cell? ⟨w.heap.size, 2, none⟩ = some (.int .i64 0) := HT.out.cell 2
      have r3 : wr.cell? ⟨w.heap.size, 3, none⟩ = some (.bool false) := HT.out.cell 3
      have r4 : wr.cell? ⟨w.heap.size, 4, none⟩ = some (.slice none 0 0) := HT.out.cell 4
      have r5 : wr.cell? ⟨w.heap.size, 5, none⟩ = some (.slice none 0 0) := HT.out.cell 5
      have s0 := HT.out.frozen 0
      have s1 := HT.out.frozen 1
      have s2 := HT.out.frozen 2
      have s3 := HT.out.frozen 3
      have s4 := HT.out.frozen 4
      have s5 := HT.out.frozen 5
      have rl := HT.out.lt
      have hne : ¬ w.heap.size + 1 = w.heap.size := by omega
      have hne2 : ¬ w.heap.size = w.heap.size + 1 := by omega
      clear HRR HF HAT
      go_wp2_with fail
      refine bodyPost_ret (res_cell rfl st_Qt rfl (HT.out.put6) rfl) rfl ?_
      exact ⟨none, 0, sa, sc, rfl, World.ownsRow_nil _ _ _ _, own_six HO.out HT.out (by decide), below_six HB.out (Nat.le_refl _)⟩
end Go.Proofs.YtfcgdfcekpbliaaGreatDoor
