/-
  Scenarios: the program's last line.
-/
import Derived.Test.YtfcgdfcekpbliaaGreatDoorScv5
import Derived.Test.YtfcgdfcekpbliaaGreatDoorMi
namespace Go.Proofs.YtfcgdfcekpbliaaGreatDoor
set_option linter.unusedSimpArgs false
set_option linter.unusedVariables false
set_option linter.unusedSectionVars false
open Go.ChangeShapes Go.WideShapes Go.ChangeAt Go.RowKit Go.Deep Go.Shelf

abbrev WrT : TypeId := 33
theorem st_Wr : StructTy Tryz.prog WrT 2 := ⟨_, Tryz.underlying33, rfl, by kernel_rfl⟩
theorem gp_load {P : Program} {ops : Array Oper} {Q : Exit → Act → World → Prop} {md : Region.Mode} {p : Nat → Prop} (i : Nat) {oi : Oper} {fuel : Nat} {listed : Array Bool} {a : Act} {w : World} (hi : ops[i]? = some oi)
    (hs : Region.noSelect ops = true) (hf : Region.free md ops listed i = true) (hr : (Region.ready md ops listed).contains i = true)
    (ty : TypeId) (x : Operand) (cs : Array Value) (hQ : ∀ c a w, Q (.panic c) (a.put oi.dst (.agg cs)) w → Q (.panic c) a w) (hw : Region.wanted oi (yielded ops a.tmps) = true) (ho : oi.op = .load ty x) (b : Nat) (hx : a.eval x = .pointer (some ⟨b, 0, none⟩)) {t : TypeId} (hb : Blk w b t cs) (hbB : ¬ p b) (d : TypeDesc)
    (hu : P.underlying ty = some d) (hd : d.isRow = true) (hsz : (P.info? ty).map (·.size) = some cs.size)
    (h : wpAnyH P md ops Q (Gp p w) fuel (listed.setIfInBounds i true) (a.put oi.dst (.agg cs)) w) : wpAnyH P md ops Q (Gp p w) (fuel + 1) listed a w :=
  gp_take i hi hs hf hr hQ (by
    have := yieldsIf_load_mid (P := P) (ops := ops) (S := Gp p w) (op := oi) (a := a) hw ty x ho b 0 hx cs.toList d (fun w' hw' j v hj => by
      rw [Nat.zero_add, Gp.cell hw' b j hb.lt hbB, hb.cell j, ← Array.getElem?_toList]
      exact hj) hu hd (by simpa using hsz)
    simpa using this) h
def Pr (r : Nat) (k : Nat) : Prop := k = r
theorem split_short {s : List UInt8} (hs : s.length ≤ 90000) : (splitF s).1.length ≤ 100000 ∧ ∀ x ∈ (splitF s).1, x.length ≤ 90000 := by
  unfold splitF
  split
  · simp
  · split
    · refine ⟨by have := cut_len 32 s; show (cutF 32 s).length ≤ _; omega, fun x hx => ?_⟩
      have := cut_short 32 s x hx
      omega
    · simp
set_option maxHeartbeats 16000000 in
set_option maxRecDepth 100000 in
theorem scene_wrong (s : List UInt8) (hs : s.length ≤ 90000) (w : World) (hE : Env w) :
    Calls Tryz.prog 32 #[bstr s] w fun e w' => e = .returned (.tuple #[.agg #[.int .i64 (wrongP s).1, .int .i64 (wrongP s).2.1], .bool (wrongP s).2.2]) ∧ ∃ j, w' = w.more j := by
  obtain ⟨m, hM⟩ := hE.max
  obtain ⟨l, ok, hsp⟩ : ∃ l ok, splitF s = (l, ok) := ⟨_, _, rfl⟩
  obtain ⟨h1, h2, h3, hh⟩ : ∃ h1 h2 h3, rdW l (!ok) = (h1, h2, h3) := ⟨_, _, _, rfl⟩
  obtain ⟨k1, k2, k3, hk⟩ : ∃ k1 k2 k3, rdW h2 h3 = (k1, k2, k3) := ⟨_, _, _, rfl⟩
  obtain ⟨n1, n2, n3, hn⟩ : ∃ n1 n2 n3, rdN k2 k3 = (n1, n2, n3) := ⟨_, _, _, rfl⟩
  have hls := split_short hs
  rw [hsp] at hls
  simp only at hls
  have hl2 : h2.length ≤ 100000 ∧ ∀ x ∈ h2, x ∈ l := ⟨by have := rdW_len l (!ok); rw [hh] at this; simp only at this; omega, rdW_sub hh⟩
  have hl3 : k2.length ≤ 100000 ∧ ∀ x ∈ k2, x ∈ l := ⟨by have := rdW_len h2 h3; rw [hk] at this; simp only at this; omega, fun x hx => hl2.2 x (rdW_sub hk x hx)⟩
  have hw : wrongP s = (idxX injW k1 + 1, n1, (h1 == [119, 114, 111, 110, 103]) && (decide (0 ≤ idxX injW k1) && (!n3 && n2.isEmpty))) := by
    unfold wrongP
    simp only [hsp, hh, hk, hn]
  have HLI : Hid (∀ W, Calls Tryz.prog 30 #[bstr s] (w.alloc W) fun e w' => ∃ g, e = .returned (.pointer (some ⟨g, 0, none⟩)) ∧ (w.alloc W).heap.size ≤ g ∧ Rd w'.heap.size w' g l (!ok) ∧ Below (w.alloc W).heap.size (w.alloc W) w') := fun W => by
    have := scene_line s hs m (w.alloc W) (((Below.refl w.heap.size w).alloc (Nat.le_refl _) W).cell (p := MaxA) (cell_lt hM) |>.trans hM)
    rw [hsp] at this
    exact this
  have HBN : Hid (∀ W, Below w.heap.size w W → Calls Tryz.prog 58 #[bstr k1] W fun e w' => e = .returned (.tuple #[.int .i64 (idxX injW k1 + 1), .bool (decide (0 ≤ idxX injW k1))]) ∧ ∃ j, w' = W.more j) := fun W hW => inject_ByName k1 m W ((hW.cell (p := MaxA) (cell_lt hM)).trans hM)
  rw [hw]
  simp only
  generalize idxX injW k1 + 1 = KD at HBN ⊢
  generalize decide (0 ≤ idxX injW k1) = IS at HBN ⊢
  have HH := Lib.hid hh
  have HK := Lib.hid hk
  have HN := Lib.hid hn
  have HEN := Lib.hid hE
  have HLS := Lib.hid hls
  have HL2 := Lib.hid hl2.2
  have HL3 := Lib.hid hl3.2
  have hq2 := hl2.1
  have hq3 := hl3.1
  have hq1 := hls.1
  clear hw hM hsp hh hk hn hE hls hl2 hl3
  go_enter Tryz.func32, Tryz.ntmps32
  go_wp2_with fail
  refine (HLI.out _).mono ?_
  rintro e w1 ⟨g, rfl, hgz, hr1, hb1⟩
  simp only [World.size_alloc] at hgz
  have hrs1 : Blk w1 w.heap.size WrT #[.int .i64 0, .int .i64 0] := (Blk.new w WrT _).below hb1 (by simp)
  have HB1 : Hid (Below w.heap.size w w1) := Below.trans bel (hb1.mono (by simp))
  have HR1 := Lib.hid hr1
  have HT1 := Lib.hid hrs1
  obtain ⟨BB, hBB⟩ : ∃ BB, BB = w1.heap.size := ⟨_, rfl⟩
  rw [← hBB] at HR1
  have hgr : g ≠ w.heap.size := by omega
  clear hr1 hb1 hrs1 hBB
  go_wp2_with fail
  refine (rd_word g l (!ok) (by omega) w1 HR1.out).mono ?_
  rintro e w2 ⟨rfl, hr2, hg2⟩
  rw [HH.out] at hr2 ⊢
  have HR2 := Lib.hid hr2
  have HT2 := Lib.hid (HT1.out.grown hg2 (by simp; omega))
  have HB2 : Hid (Below w.heap.size w w2) := HB1.out.trans (hg2.below (by omega) HB1.out.size)
  clear hr2 hg2 HR1 HT1 HB1
  go_wp2_with fail
  refine (rd_word g h2 h3 (by omega) w2 HR2.out).mono ?_
  rintro e w3 ⟨rfl, hr3, hg3⟩
  rw [HK.out] at hr3 ⊢
  have HR3 := Lib.hid hr3
  have HT3 := Lib.hid (HT2.out.grown hg3 (by simp; omega))
  have HB3 : Hid (Below w.heap.size w w3) := HB2.out.trans (hg3.below (by omega) HB2.out.size)
  clear hr3 hg3 HR2 HT2 HB2
  go_wp2_with (go_at_call 58; (with_reducible refine (HBN.out _ HB3.out).mono ?_); rintro e w' ⟨rfl, j, rfl⟩)
  refine (rd_number g k2 k3 (by omega) (fun x hx => HLS.out.2 x (HL3.out x hx)) w _ ⟨HEN.out, HB3.out.trans (Below.mono (B := w3.heap.size) bel HB3.out.size), by omega⟩ (HR3.out.grow bel)).mono ?_
  rintro e w4 ⟨rfl, hr4, hg4⟩
  rw [HN.out] at hr4 ⊢
  have HR4 := Lib.hid hr4
  have HT4 := Lib.hid ((HT3.out.more _).grown hg4 (by simp; omega))
  have HB4 : Hid (Below w.heap.size w w4) := (HB3.out.trans (Below.mono (B := w3.heap.size) bel HB3.out.size)).trans (hg4.below (by omega) (by have := HB3.out.size; simp only [World.size_more]; omega))
  clear hr4 hg4 HR3 HT3 HB3
  have hg4l := HR4.out.lt
  have ht4l := HT4.out.lt
  cases hc : (h1 == ([119, 114, 111, 110, 103] : List UInt8))
  · have HCC := Lib.hid hc
    go_wp2_with fail
    refine gp_start (Pr w.heap.size) (by kernel_rfl) ?_
    obtain ⟨wd, hwd⟩ : ∃ wd, wd = (w4.alloc (.cells #[.int .i64 KD, .int .i64 n1] WrT)).drew := ⟨_, rfl⟩
    rw [← hwd]
    have hwx : Blk wd w4.heap.size WrT #[.int .i64 KD, .int .i64 n1] := by rw [hwd]; exact (Blk.new _ _ _).drew
    have HTd : Hid (Blk wd w.heap.size WrT #[.int .i64 0, .int .i64 0]) := by show Blk _ _ _ _; rw [hwd]; exact (HT4.out.alloc _).drew
    obtain ⟨ra, rc, hrb, _, _⟩ := HR4.out.st
    have hrd := (hrb.alloc (.cells #[.int .i64 KD, .int .i64 n1] WrT)).drew
    rw [← hwd] at hrd
    have HBd : Hid (Below w.heap.size w wd) := by show Below _ _ _; rw [hwd]; exact (HB4.out.alloc HB4.out.size _).drew
    have q0 : wd.cell? ⟨g, 0, none⟩ = some (.slice ra n2.length rc) := hrd.cell 0
    have q1 : wd.cell? ⟨g, 1, none⟩ = some (.bool n3) := hrd.cell 1
    have hgd := hrd.lt
    have hgn : ¬ Pr w.heap.size g := fun e => hgr e
    have hxn : ¬ Pr w.heap.size w4.heap.size := fun e => by unfold Pr at e; omega
    clear hwd hrb hrd HB4 HT4 HR4
    refine gp_load 0 rfl (by kernel_rfl) (by kernel_rfl) (by kernel_rfl) 33 (.tmp 8) #[.int .i64 KD, .int .i64 n1] (fun _ _ _ h => h) (by first | kernel_rfl | rfl) rfl w4.heap.size rfl hwx hxn _ Tryz.underlying33 rfl (by kernel_rfl) ?_
    try simp only [Act.put, List.getElem_toArray, List.getElem_cons_succ, List.getElem_cons_zero, List.setIfInBounds_toArray, List.set_cons_zero, List.set_cons_succ]
    refine gp_take 1 (v := ?_) rfl (by kernel_rfl) (by kernel_rfl) (by kernel_rfl) (fun _ _ _ h => h) (Or.inl ⟨by first | kernel_rfl | rfl, ?_⟩) ?_
    rotate_left
    · intro wS hSw; have hSc := fun o => hSw.cell g o hgd hgn; clear hSw; go_simp; try with_reducible rfl
    try simp only [Act.put, List.getElem_toArray, List.getElem_cons_succ, List.getElem_cons_zero, List.setIfInBounds_toArray, List.set_cons_zero, List.set_cons_succ]
    refine gp_take 2 (v := ?_) rfl (by kernel_rfl) (by kernel_rfl) (by kernel_rfl) (fun _ _ _ h => h) (Or.inl ⟨by first | kernel_rfl | rfl, ?_⟩) ?_
    rotate_left
    · intro wS hSw; have hSc := fun o => hSw.cell g o hgd hgn; clear hSw; go_simp; try with_reducible rfl
    try simp only [Act.put, List.getElem_toArray, List.getElem_cons_succ, List.getElem_cons_zero, List.setIfInBounds_toArray, List.set_cons_zero, List.set_cons_succ]
    refine gp_take 3 (v := ?_) rfl (by kernel_rfl) (by kernel_rfl) (by kernel_rfl) (fun _ _ _ h => h) (Or.inl ⟨by first | kernel_rfl | rfl, ?_⟩) ?_
    rotate_left
    · intro wS hSw; have hSc := fun o => hSw.cell g o hgd hgn; clear hSw; go_simp; try with_reducible rfl
    try simp only [Act.put, List.getElem_toArray, List.getElem_cons_succ, List.getElem_cons_zero, List.setIfInBounds_toArray, List.set_cons_zero, List.set_cons_succ]
    refine gp_take 4 (v := undef) rfl (by kernel_rfl) (by kernel_rfl) (by kernel_rfl) (fun _ _ _ h => h) (Or.inr ⟨by kernel_rfl, rfl⟩) ?_
    try simp only [Act.put, List.getElem_toArray, List.getElem_cons_succ, List.getElem_cons_zero, List.setIfInBounds_toArray, List.set_cons_zero, List.set_cons_succ]
    refine gp_take 5 (v := ?_) rfl (by kernel_rfl) (by kernel_rfl) (by kernel_rfl) (fun _ _ _ h => h) (Or.inl ⟨by first | kernel_rfl | rfl, ?_⟩) ?_
    rotate_left
    · intro wS hSw; have hSc := fun o => hSw.cell g o hgd hgn; clear hSw; go_simp; try with_reducible rfl
    try simp only [Act.put, List.getElem_toArray, List.getElem_cons_succ, List.getElem_cons_zero, List.setIfInBounds_toArray, List.set_cons_zero, List.set_cons_succ]
    refine gp_take 6 (v := ?_) rfl (by kernel_rfl) (by kernel_rfl) (by kernel_rfl) (fun _ _ _ h => h) (Or.inl ⟨by first | kernel_rfl | rfl, ?_⟩) ?_
    rotate_left
    · intro wS hSw; have hSc := fun o => hSw.cell g o hgd hgn; clear hSw; go_simp; try with_reducible rfl
    try simp only [Act.put, List.getElem_toArray, List.getElem_cons_succ, List.getElem_cons_zero, List.setIfInBounds_toArray, List.set_cons_zero, List.set_cons_succ]
    refine gp_take 7 (v := undef) rfl (by kernel_rfl) (by kernel_rfl) (by kernel_rfl) (fun _ _ _ h => h) (Or.inr ⟨by kernel_rfl, rfl⟩) ?_
    try simp only [Act.put, List.getElem_toArray, List.getElem_cons_succ, List.getElem_cons_zero, List.setIfInBounds_toArray, List.set_cons_zero, List.set_cons_succ]
    refine gp_take 8 (v := undef) rfl (by kernel_rfl) (by kernel_rfl) (by kernel_rfl) (fun _ _ _ h => h) (Or.inr ⟨by kernel_rfl, rfl⟩) ?_
    try simp only [Act.put, List.getElem_toArray, List.getElem_cons_succ, List.getElem_cons_zero, List.setIfInBounds_toArray, List.set_cons_zero, List.set_cons_succ]
    refine gp_take 9 (v := undef) rfl (by kernel_rfl) (by kernel_rfl) (by kernel_rfl) (fun _ _ _ h => h) (Or.inr ⟨by kernel_rfl, rfl⟩) ?_
    try simp only [Act.put, List.getElem_toArray, List.getElem_cons_succ, List.getElem_cons_zero, List.setIfInBounds_toArray, List.set_cons_zero, List.set_cons_succ]
    refine gp_take 10 (v := undef) rfl (by kernel_rfl) (by kernel_rfl) (by kernel_rfl) (fun _ _ _ h => h) (Or.inr ⟨by kernel_rfl, rfl⟩) ?_
    try simp only [Act.put, List.getElem_toArray, List.getElem_cons_succ, List.getElem_cons_zero, List.setIfInBounds_toArray, List.set_cons_zero, List.set_cons_succ]
    refine gp_take 11 (v := undef) rfl (by kernel_rfl) (by kernel_rfl) (by kernel_rfl) (fun _ _ _ h => h) (Or.inr ⟨by kernel_rfl, rfl⟩) ?_
    try simp only [Act.put, List.getElem_toArray, List.getElem_cons_succ, List.getElem_cons_zero, List.setIfInBounds_toArray, List.set_cons_zero, List.set_cons_succ]
    refine gp_take 12 (v := ?_) rfl (by kernel_rfl) (by kernel_rfl) (by kernel_rfl) (fun _ _ _ h => h) (Or.inl ⟨by first | kernel_rfl | rfl, ?_⟩) ?_
    rotate_left
    · intro wS hSw; have hSc := fun o => hSw.cell g o hgd hgn; clear hSw; go_simp; try with_reducible rfl
    try simp only [Act.put, List.getElem_toArray, List.getElem_cons_succ, List.getElem_cons_zero, List.setIfInBounds_toArray, List.set_cons_zero, List.set_cons_succ]
    refine gp_take 13 (v := ?_) rfl (by kernel_rfl) (by kernel_rfl) (by kernel_rfl) (fun _ _ _ h => h) (Or.inl ⟨by first | kernel_rfl | rfl, ?_⟩) ?_
    rotate_left
    · intro wS hSw; have hSc := fun o => hSw.cell g o hgd hgn; clear hSw; go_simp; try with_reducible rfl
    try simp only [Act.put, List.getElem_toArray, List.getElem_cons_succ, List.getElem_cons_zero, List.setIfInBounds_toArray, List.set_cons_zero, List.set_cons_succ]
    refine gp_take 14 (v := undef) rfl (by kernel_rfl) (by kernel_rfl) (by kernel_rfl) (fun _ _ _ h => h) (Or.inr ⟨by kernel_rfl, rfl⟩) ?_
    try simp only [Act.put, List.getElem_toArray, List.getElem_cons_succ, List.getElem_cons_zero, List.setIfInBounds_toArray, List.set_cons_zero, List.set_cons_succ]
    refine gp_take 15 (v := undef) rfl (by kernel_rfl) (by kernel_rfl) (by kernel_rfl) (fun _ _ _ h => h) (Or.inr ⟨by kernel_rfl, rfl⟩) ?_
    try simp only [Act.put, List.getElem_toArray, List.getElem_cons_succ, List.getElem_cons_zero, List.setIfInBounds_toArray, List.set_cons_zero, List.set_cons_succ]
    refine gp_take 16 (v := undef) rfl (by kernel_rfl) (by kernel_rfl) (by kernel_rfl) (fun _ _ _ h => h) (Or.inr ⟨by kernel_rfl, rfl⟩) ?_
    try simp only [Act.put, List.getElem_toArray, List.getElem_cons_succ, List.getElem_cons_zero, List.setIfInBounds_toArray, List.set_cons_zero, List.set_cons_succ]
    refine gp_take 17 (v := undef) rfl (by kernel_rfl) (by kernel_rfl) (by kernel_rfl) (fun _ _ _ h => h) (Or.inr ⟨by kernel_rfl, rfl⟩) ?_
    try simp only [Act.put, List.getElem_toArray, List.getElem_cons_succ, List.getElem_cons_zero, List.setIfInBounds_toArray, List.set_cons_zero, List.set_cons_succ]
    refine gp_take 18 (v := undef) rfl (by kernel_rfl) (by kernel_rfl) (by kernel_rfl) (fun _ _ _ h => h) (Or.inr ⟨by kernel_rfl, rfl⟩) ?_
    try simp only [Act.put, List.getElem_toArray, List.getElem_cons_succ, List.getElem_cons_zero, List.setIfInBounds_toArray, List.set_cons_zero, List.set_cons_succ]
    refine gp_take 19 (v := undef) rfl (by kernel_rfl) (by kernel_rfl) (by kernel_rfl) (fun _ _ _ h => h) (Or.inr ⟨by kernel_rfl, rfl⟩) ?_
    try simp only [Act.put, List.getElem_toArray, List.getElem_cons_succ, List.getElem_cons_zero, List.setIfInBounds_toArray, List.set_cons_zero, List.set_cons_succ]
    refine gp_take 20 (v := ?_) rfl (by kernel_rfl) (by kernel_rfl) (by kernel_rfl) (fun _ _ _ h => h) (Or.inl ⟨by first | kernel_rfl | rfl, ?_⟩) ?_
    rotate_left
    · intro wS hSw; have hSc := fun o => hSw.cell g o hgd hgn; clear hSw; go_simp; try with_reducible rfl
    try simp only [Act.put, List.getElem_toArray, List.getElem_cons_succ, List.getElem_cons_zero, List.setIfInBounds_toArray, List.set_cons_zero, List.set_cons_succ]
    have t0 : wd.cell? ⟨w.heap.size, 0, none⟩ = some (.int .i64 0) := HTd.out.cell 0
    have t1 : wd.cell? ⟨w.heap.size, 1, none⟩ = some (.int .i64 0) := HTd.out.cell 1
    have f0 : wd.frozen? ⟨w.heap.size, 0, none⟩ = false := HTd.out.frozen 0
    have f1 : wd.frozen? ⟨w.heap.size, 1, none⟩ = false := HTd.out.frozen 1
    have tl := HTd.out.lt
    refine gp_step 21 (by kernel_rfl) rfl (fun K hK => ?_)
    go_simp
    go_wp2_with fail
    refine hK.out _ _ (show Gp _ _ _ from (Gp.set (p := Pr w.heap.size) _ rfl).trans (Gp.set (p := Pr w.heap.size) _ rfl)) ?_
    clear hK K
    try simp only [Act.put, List.getElem_toArray, List.getElem_cons_succ, List.getElem_cons_zero, List.setIfInBounds_toArray, List.set_cons_zero, List.set_cons_succ]
    refine gp_step 22 (by kernel_rfl) rfl (fun K hK => ?_)
    go_simp
    go_wp2_with fail
    refine hK.out _ _ (show Gp _ _ _ from Gp.refl _) ?_
    clear hK K
    try simp only [Act.put, List.getElem_toArray, List.getElem_cons_succ, List.getElem_cons_zero, List.setIfInBounds_toArray, List.set_cons_zero, List.set_cons_succ]
    refine wpAnyH_done (by kernel_rfl) ?_ _
    go_wp2_with fail
    refine bodyPost_ret (res_cell_tmp rfl st_Wr rfl (HTd.out.put2) rfl rfl) rfl ?_
    exact ⟨by rw [HCC.out]; rfl, Below.junk (((HBd.out).setCell (p := ⟨w.heap.size, 0, none⟩) (Nat.le_refl _) _).setCell (p := ⟨w.heap.size, 1, none⟩) (Nat.le_refl _) _)⟩
  · have HCC := Lib.hid hc
    cases IS
    · go_wp2_with fail
      refine gp_start (Pr w.heap.size) (by kernel_rfl) ?_
      obtain ⟨wd, hwd⟩ : ∃ wd, wd = (w4.alloc (.cells #[.int .i64 KD, .int .i64 n1] WrT)).drew := ⟨_, rfl⟩
      rw [← hwd]
      have hwx : Blk wd w4.heap.size WrT #[.int .i64 KD, .int .i64 n1] := by rw [hwd]; exact (Blk.new _ _ _).drew
      have HTd : Hid (Blk wd w.heap.size WrT #[.int .i64 0, .int .i64 0]) := by show Blk _ _ _ _; rw [hwd]; exact (HT4.out.alloc _).drew
      obtain ⟨ra, rc, hrb, _, _⟩ := HR4.out.st
      have hrd := (hrb.alloc (.cells #[.int .i64 KD, .int .i64 n1] WrT)).drew
      rw [← hwd] at hrd
      have HBd : Hid (Below w.heap.size w wd) := by show Below _ _ _; rw [hwd]; exact (HB4.out.alloc HB4.out.size _).drew
      have q0 : wd.cell? ⟨g, 0, none⟩ = some (.slice ra n2.length rc) := hrd.cell 0
      have q1 : wd.cell? ⟨g, 1, none⟩ = some (.bool n3) := hrd.cell 1
      have hgd := hrd.lt
      have hgn : ¬ Pr w.heap.size g := fun e => hgr e
      have hxn : ¬ Pr w.heap.size w4.heap.size := fun e => by unfold Pr at e; omega
      clear hwd hrb hrd HB4 HT4 HR4
      refine gp_load 0 rfl (by kernel_rfl) (by kernel_rfl) (by kernel_rfl) 33 (.tmp 8) #[.int .i64 KD, .int .i64 n1] (fun _ _ _ h => h) (by first | kernel_rfl | rfl) rfl w4.heap.size rfl hwx hxn _ Tryz.underlying33 rfl (by kernel_rfl) ?_
      try simp only [Act.put, List.getElem_toArray, List.getElem_cons_succ, List.getElem_cons_zero, List.setIfInBounds_toArray, List.set_cons_zero, List.set_cons_succ]
      refine gp_take 1 (v := ?_) rfl (by kernel_rfl) (by kernel_rfl) (by kernel_rfl) (fun _ _ _ h => h) (Or.inl ⟨by first | kernel_rfl | rfl, ?_⟩) ?_
      rotate_left
      · intro wS hSw; have hSc := fun o => hSw.cell g o hgd hgn; clear hSw; go_simp; try with_reducible rfl
      try simp only [Act.put, List.getElem_toArray, List.getElem_cons_succ, List.getElem_cons_zero, List.setIfInBounds_toArray, List.set_cons_zero, List.set_cons_succ]
      refine gp_take 2 (v := ?_) rfl (by kernel_rfl) (by kernel_rfl) (by kernel_rfl) (fun _ _ _ h => h) (Or.inl ⟨by first | kernel_rfl | rfl, ?_⟩) ?_
      rotate_left
      · intro wS hSw; have hSc := fun o => hSw.cell g o hgd hgn; clear hSw; go_simp; try with_reducible rfl
      try simp only [Act.put, List.getElem_toArray, List.getElem_cons_succ, List.getElem_cons_zero, List.setIfInBounds_toArray, List.set_cons_zero, List.set_cons_succ]
      refine gp_take 3 (v := ?_) rfl (by kernel_rfl) (by kernel_rfl) (by kernel_rfl) (fun _ _ _ h => h) (Or.inl ⟨by first | kernel_rfl | rfl, ?_⟩) ?_
      rotate_left
      · intro wS hSw; have hSc := fun o => hSw.cell g o hgd hgn; clear hSw; go_simp; try with_reducible rfl
      try simp only [Act.put, List.getElem_toArray, List.getElem_cons_succ, List.getElem_cons_zero, List.setIfInBounds_toArray, List.set_cons_zero, List.set_cons_succ]
      refine gp_take 4 (v := ?_) rfl (by kernel_rfl) (by kernel_rfl) (by kernel_rfl) (fun _ _ _ h => h) (Or.inl ⟨by first | kernel_rfl | rfl, ?_⟩) ?_
      rotate_left
      · intro wS hSw; have hSc := fun o => hSw.cell g o hgd hgn; clear hSw; go_simp; try with_reducible rfl
      try simp only [Act.put, List.getElem_toArray, List.getElem_cons_succ, List.getElem_cons_zero, List.setIfInBounds_toArray, List.set_cons_zero, List.set_cons_succ]
      refine gp_take 5 (v := ?_) rfl (by kernel_rfl) (by kernel_rfl) (by kernel_rfl) (fun _ _ _ h => h) (Or.inl ⟨by first | kernel_rfl | rfl, ?_⟩) ?_
      rotate_left
      · intro wS hSw; have hSc := fun o => hSw.cell g o hgd hgn; clear hSw; go_simp; try with_reducible rfl
      try simp only [Act.put, List.getElem_toArray, List.getElem_cons_succ, List.getElem_cons_zero, List.setIfInBounds_toArray, List.set_cons_zero, List.set_cons_succ]
      refine gp_take 6 (v := ?_) rfl (by kernel_rfl) (by kernel_rfl) (by kernel_rfl) (fun _ _ _ h => h) (Or.inl ⟨by first | kernel_rfl | rfl, ?_⟩) ?_
      rotate_left
      · intro wS hSw; have hSc := fun o => hSw.cell g o hgd hgn; clear hSw; go_simp; try with_reducible rfl
      try simp only [Act.put, List.getElem_toArray, List.getElem_cons_succ, List.getElem_cons_zero, List.setIfInBounds_toArray, List.set_cons_zero, List.set_cons_succ]
      refine gp_take 7 (v := undef) rfl (by kernel_rfl) (by kernel_rfl) (by kernel_rfl) (fun _ _ _ h => h) (Or.inr ⟨by kernel_rfl, rfl⟩) ?_
      try simp only [Act.put, List.getElem_toArray, List.getElem_cons_succ, List.getElem_cons_zero, List.setIfInBounds_toArray, List.set_cons_zero, List.set_cons_succ]
      refine gp_take 8 (v := undef) rfl (by kernel_rfl) (by kernel_rfl) (by kernel_rfl) (fun _ _ _ h => h) (Or.inr ⟨by kernel_rfl, rfl⟩) ?_
      try simp only [Act.put, List.getElem_toArray, List.getElem_cons_succ, List.getElem_cons_zero, List.setIfInBounds_toArray, List.set_cons_zero, List.set_cons_succ]
      refine gp_take 9 (v := undef) rfl (by kernel_rfl) (by kernel_rfl) (by kernel_rfl) (fun _ _ _ h => h) (Or.inr ⟨by kernel_rfl, rfl⟩) ?_
      try simp only [Act.put, List.getElem_toArray, List.getElem_cons_succ, List.getElem_cons_zero, List.setIfInBounds_toArray, List.set_cons_zero, List.set_cons_succ]
      refine gp_take 10 (v := undef) rfl (by kernel_rfl) (by kernel_rfl) (by kernel_rfl) (fun _ _ _ h => h) (Or.inr ⟨by kernel_rfl, rfl⟩) ?_
      try simp only [Act.put, List.getElem_toArray, List.getElem_cons_succ, List.getElem_cons_zero, List.setIfInBounds_toArray, List.set_cons_zero, List.set_cons_succ]
      refine gp_take 11 (v := undef) rfl (by kernel_rfl) (by kernel_rfl) (by kernel_rfl) (fun _ _ _ h => h) (Or.inr ⟨by kernel_rfl, rfl⟩) ?_
      try simp only [Act.put, List.getElem_toArray, List.getElem_cons_succ, List.getElem_cons_zero, List.setIfInBounds_toArray, List.set_cons_zero, List.set_cons_succ]
      refine gp_take 12 (v := ?_) rfl (by kernel_rfl) (by kernel_rfl) (by kernel_rfl) (fun _ _ _ h => h) (Or.inl ⟨by first | kernel_rfl | rfl, ?_⟩) ?_
      rotate_left
      · intro wS hSw; have hSc := fun o => hSw.cell g o hgd hgn; clear hSw; go_simp; try with_reducible rfl
      try simp only [Act.put, List.getElem_toArray, List.getElem_cons_succ, List.getElem_cons_zero, List.setIfInBounds_toArray, List.set_cons_zero, List.set_cons_succ]
      refine gp_take 13 (v := ?_) rfl (by kernel_rfl) (by kernel_rfl) (by kernel_rfl) (fun _ _ _ h => h) (Or.inl ⟨by first | kernel_rfl | rfl, ?_⟩) ?_
      rotate_left
      · intro wS hSw; have hSc := fun o => hSw.cell g o hgd hgn; clear hSw; go_simp; try with_reducible rfl
      try simp only [Act.put, List.getElem_toArray, List.getElem_cons_succ, List.getElem_cons_zero, List.setIfInBounds_toArray, List.set_cons_zero, List.set_cons_succ]
      refine gp_take 14 (v := undef) rfl (by kernel_rfl) (by kernel_rfl) (by kernel_rfl) (fun _ _ _ h => h) (Or.inr ⟨by kernel_rfl, rfl⟩) ?_
      try simp only [Act.put, List.getElem_toArray, List.getElem_cons_succ, List.getElem_cons_zero, List.setIfInBounds_toArray, List.set_cons_zero, List.set_cons_succ]
      refine gp_take 15 (v := undef) rfl (by kernel_rfl) (by kernel_rfl) (by kernel_rfl) (fun _ _ _ h => h) (Or.inr ⟨by kernel_rfl, rfl⟩) ?_
      try simp only [Act.put, List.getElem_toArray, List.getElem_cons_succ, List.getElem_cons_zero, List.setIfInBounds_toArray, List.set_cons_zero, List.set_cons_succ]
      refine gp_take 16 (v := undef) rfl (by kernel_rfl) (by kernel_rfl) (by kernel_rfl) (fun _ _ _ h => h) (Or.inr ⟨by kernel_rfl, rfl⟩) ?_
      try simp only [Act.put, List.getElem_toArray, List.getElem_cons_succ, List.getElem_cons_zero, List.setIfInBounds_toArray, List.set_cons_zero, List.set_cons_succ]
      refine gp_take 17 (v := undef) rfl (by kernel_rfl) (by kernel_rfl) (by kernel_rfl) (fun _ _ _ h => h) (Or.inr ⟨by kernel_rfl, rfl⟩) ?_
      try simp only [Act.put, List.getElem_toArray, List.getElem_cons_succ, List.getElem_cons_zero, List.setIfInBounds_toArray, List.set_cons_zero, List.set_cons_succ]
      refine gp_take 18 (v := undef) rfl (by kernel_rfl) (by kernel_rfl) (by kernel_rfl) (fun _ _ _ h => h) (Or.inr ⟨by kernel_rfl, rfl⟩) ?_
      try simp only [Act.put, List.getElem_toArray, List.getElem_cons_succ, List.getElem_cons_zero, List.setIfInBounds_toArray, List.set_cons_zero, List.set_cons_succ]
      refine gp_take 19 (v := undef) rfl (by kernel_rfl) (by kernel_rfl) (by kernel_rfl) (fun _ _ _ h => h) (Or.inr ⟨by kernel_rfl, rfl⟩) ?_
      try simp only [Act.put, List.getElem_toArray, List.getElem_cons_succ, List.getElem_cons_zero, List.setIfInBounds_toArray, List.set_cons_zero, List.set_cons_succ]
      refine gp_take 20 (v := ?_) rfl (by kernel_rfl) (by kernel_rfl) (by kernel_rfl) (fun _ _ _ h => h) (Or.inl ⟨by first | kernel_rfl | rfl, ?_⟩) ?_
      rotate_left
      · intro wS hSw; have hSc := fun o => hSw.cell g o hgd hgn; clear hSw; go_simp; try with_reducible rfl
      try simp only [Act.put, List.getElem_toArray, List.getElem_cons_succ, List.getElem_cons_zero, List.setIfInBounds_toArray, List.set_cons_zero, List.set_cons_succ]
      have t0 : wd.cell? ⟨w.heap.size, 0, none⟩ = some (.int .i64 0) := HTd.out.cell 0
      have t1 : wd.cell? ⟨w.heap.size, 1, none⟩ = some (.int .i64 0) := HTd.out.cell 1
      have f0 : wd.frozen? ⟨w.heap.size, 0, none⟩ = false := HTd.out.frozen 0
      have f1 : wd.frozen? ⟨w.heap.size, 1, none⟩ = false := HTd.out.frozen 1
      have tl := HTd.out.lt
      refine gp_step 21 (by kernel_rfl) rfl (fun K hK => ?_)
      go_simp
      go_wp2_with fail
      refine hK.out _ _ (show Gp _ _ _ from (Gp.set (p := Pr w.heap.size) _ rfl).trans (Gp.set (p := Pr w.heap.size) _ rfl)) ?_
      clear hK K
      try simp only [Act.put, List.getElem_toArray, List.getElem_cons_succ, List.getElem_cons_zero, List.setIfInBounds_toArray, List.set_cons_zero, List.set_cons_succ]
      refine gp_step 22 (by kernel_rfl) rfl (fun K hK => ?_)
      go_simp
      go_wp2_with fail
      refine hK.out _ _ (show Gp _ _ _ from Gp.refl _) ?_
      clear hK K
      try simp only [Act.put, List.getElem_toArray, List.getElem_cons_succ, List.getElem_cons_zero, List.setIfInBounds_toArray, List.set_cons_zero, List.set_cons_succ]
      refine wpAnyH_done (by kernel_rfl) ?_ _
      go_wp2_with fail
      refine bodyPost_ret (res_cell_tmp rfl st_Wr rfl (HTd.out.put2) rfl rfl) rfl ?_
      exact ⟨by rw [HCC.out]; rfl, Below.junk (((HBd.out).setCell (p := ⟨w.heap.size, 0, none⟩) (Nat.le_refl _) _).setCell (p := ⟨w.heap.size, 1, none⟩) (Nat.le_refl _) _)⟩
    · cases n3
      · cases n2 with
        | nil =>
          go_wp2_with fail
          refine gp_start (Pr w.heap.size) (by kernel_rfl) ?_
          obtain ⟨wd, hwd⟩ : ∃ wd, wd = (w4.alloc (.cells #[.int .i64 KD, .int .i64 n1] WrT)).drew := ⟨_, rfl⟩
          rw [← hwd]
          have hwx : Blk wd w4.heap.size WrT #[.int .i64 KD, .int .i64 n1] := by rw [hwd]; exact (Blk.new _ _ _).drew
          have HTd : Hid (Blk wd w.heap.size WrT #[.int .i64 0, .int .i64 0]) := by show Blk _ _ _ _; rw [hwd]; exact (HT4.out.alloc _).drew
          obtain ⟨ra, rc, hrb, _, _⟩ := HR4.out.st
          have hrd := (hrb.alloc (.cells #[.int .i64 KD, .int .i64 n1] WrT)).drew
          rw [← hwd] at hrd
          have HBd : Hid (Below w.heap.size w wd) := by show Below _ _ _; rw [hwd]; exact (HB4.out.alloc HB4.out.size _).drew
          have q0 : wd.cell? ⟨g, 0, none⟩ = some (.slice ra 0 rc) := hrd.cell 0
          have q1 : wd.cell? ⟨g, 1, none⟩ = some (.bool false) := hrd.cell 1
          have hgd := hrd.lt
          have hgn : ¬ Pr w.heap.size g := fun e => hgr e
          have hxn : ¬ Pr w.heap.size w4.heap.size := fun e => by unfold Pr at e; omega
          clear hwd hrb hrd HB4 HT4 HR4
          refine gp_load 0 rfl (by kernel_rfl) (by kernel_rfl) (by kernel_rfl) 33 (.tmp 8) #[.int .i64 KD, .int .i64 n1] (fun _ _ _ h => h) (by first | kernel_rfl | rfl) rfl w4.heap.size rfl hwx hxn _ Tryz.underlying33 rfl (by kernel_rfl) ?_
          try simp only [Act.put, List.getElem_toArray, List.getElem_cons_succ, List.getElem_cons_zero, List.setIfInBounds_toArray, List.set_cons_zero, List.set_cons_succ]
          refine gp_take 1 (v := ?_) rfl (by kernel_rfl) (by kernel_rfl) (by kernel_rfl) (fun _ _ _ h => h) (Or.inl ⟨by first | kernel_rfl | rfl, ?_⟩) ?_
          rotate_left
          · intro wS hSw; have hSc := fun o => hSw.cell g o hgd hgn; clear hSw; go_simp; try with_reducible rfl
          try simp only [Act.put, List.getElem_toArray, List.getElem_cons_succ, List.getElem_cons_zero, List.setIfInBounds_toArray, List.set_cons_zero, List.set_cons_succ]
          refine gp_take 2 (v := ?_) rfl (by kernel_rfl) (by kernel_rfl) (by kernel_rfl) (fun _ _ _ h => h) (Or.inl ⟨by first | kernel_rfl | rfl, ?_⟩) ?_
          rotate_left
          · intro wS hSw; have hSc := fun o => hSw.cell g o hgd hgn; clear hSw; go_simp; try with_reducible rfl
          try simp only [Act.put, List.getElem_toArray, List.getElem_cons_succ, List.getElem_cons_zero, List.setIfInBounds_toArray, List.set_cons_zero, List.set_cons_succ]
          refine gp_take 3 (v := ?_) rfl (by kernel_rfl) (by kernel_rfl) (by kernel_rfl) (fun _ _ _ h => h) (Or.inl ⟨by first | kernel_rfl | rfl, ?_⟩) ?_
          rotate_left
          · intro wS hSw; have hSc := fun o => hSw.cell g o hgd hgn; clear hSw; go_simp; try with_reducible rfl
          try simp only [Act.put, List.getElem_toArray, List.getElem_cons_succ, List.getElem_cons_zero, List.setIfInBounds_toArray, List.set_cons_zero, List.set_cons_succ]
          refine gp_take 4 (v := ?_) rfl (by kernel_rfl) (by kernel_rfl) (by kernel_rfl) (fun _ _ _ h => h) (Or.inl ⟨by first | kernel_rfl | rfl, ?_⟩) ?_
          rotate_left
          · intro wS hSw; have hSc := fun o => hSw.cell g o hgd hgn; clear hSw; go_simp; try with_reducible rfl
          try simp only [Act.put, List.getElem_toArray, List.getElem_cons_succ, List.getElem_cons_zero, List.setIfInBounds_toArray, List.set_cons_zero, List.set_cons_succ]
          refine gp_take 5 (v := ?_) rfl (by kernel_rfl) (by kernel_rfl) (by kernel_rfl) (fun _ _ _ h => h) (Or.inl ⟨by first | kernel_rfl | rfl, ?_⟩) ?_
          rotate_left
          · intro wS hSw; have hSc := fun o => hSw.cell g o hgd hgn; clear hSw; go_simp; try with_reducible rfl
          try simp only [Act.put, List.getElem_toArray, List.getElem_cons_succ, List.getElem_cons_zero, List.setIfInBounds_toArray, List.set_cons_zero, List.set_cons_succ]
          refine gp_take 6 (v := ?_) rfl (by kernel_rfl) (by kernel_rfl) (by kernel_rfl) (fun _ _ _ h => h) (Or.inl ⟨by first | kernel_rfl | rfl, ?_⟩) ?_
          rotate_left
          · intro wS hSw; have hSc := fun o => hSw.cell g o hgd hgn; clear hSw; go_simp; try with_reducible rfl
          try simp only [Act.put, List.getElem_toArray, List.getElem_cons_succ, List.getElem_cons_zero, List.setIfInBounds_toArray, List.set_cons_zero, List.set_cons_succ]
          refine gp_take 7 (v := ?_) rfl (by kernel_rfl) (by kernel_rfl) (by kernel_rfl) (fun _ _ _ h => h) (Or.inl ⟨by first | kernel_rfl | rfl, ?_⟩) ?_
          rotate_left
          · intro wS hSw; have hSc := fun o => hSw.cell g o hgd hgn; clear hSw; go_simp; try with_reducible rfl
          try simp only [Act.put, List.getElem_toArray, List.getElem_cons_succ, List.getElem_cons_zero, List.setIfInBounds_toArray, List.set_cons_zero, List.set_cons_succ]
          refine gp_take 8 (v := ?_) rfl (by kernel_rfl) (by kernel_rfl) (by kernel_rfl) (fun _ _ _ h => h) (Or.inl ⟨by first | kernel_rfl | rfl, ?_⟩) ?_
          rotate_left
          · intro wS hSw; have hSc := fun o => hSw.cell g o hgd hgn; clear hSw; go_simp; try with_reducible rfl
          try simp only [Act.put, List.getElem_toArray, List.getElem_cons_succ, List.getElem_cons_zero, List.setIfInBounds_toArray, List.set_cons_zero, List.set_cons_succ]
          refine gp_take 9 (v := ?_) rfl (by kernel_rfl) (by kernel_rfl) (by kernel_rfl) (fun _ _ _ h => h) (Or.inl ⟨by first | kernel_rfl | rfl, ?_⟩) ?_
          rotate_left
          · intro wS hSw; have hSc := fun o => hSw.cell g o hgd hgn; clear hSw; go_simp; try with_reducible rfl
          try simp only [Act.put, List.getElem_toArray, List.getElem_cons_succ, List.getElem_cons_zero, List.setIfInBounds_toArray, List.set_cons_zero, List.set_cons_succ]
          refine gp_take 10 (v := ?_) rfl (by kernel_rfl) (by kernel_rfl) (by kernel_rfl) (fun _ _ _ h => h) (Or.inl ⟨by first | kernel_rfl | rfl, ?_⟩) ?_
          rotate_left
          · intro wS hSw; have hSc := fun o => hSw.cell g o hgd hgn; clear hSw; go_simp; try with_reducible rfl
          try simp only [Act.put, List.getElem_toArray, List.getElem_cons_succ, List.getElem_cons_zero, List.setIfInBounds_toArray, List.set_cons_zero, List.set_cons_succ]
          refine gp_take 11 (v := ?_) rfl (by kernel_rfl) (by kernel_rfl) (by kernel_rfl) (fun _ _ _ h => h) (Or.inl ⟨by first | kernel_rfl | rfl, ?_⟩) ?_
          rotate_left
          · intro wS hSw; have hSc := fun o => hSw.cell g o hgd hgn; clear hSw; go_simp; try with_reducible rfl
          try simp only [Act.put, List.getElem_toArray, List.getElem_cons_succ, List.getElem_cons_zero, List.setIfInBounds_toArray, List.set_cons_zero, List.set_cons_succ]
          refine gp_take 12 (v := ?_) rfl (by kernel_rfl) (by kernel_rfl) (by kernel_rfl) (fun _ _ _ h => h) (Or.inl ⟨by first | kernel_rfl | rfl, ?_⟩) ?_
          rotate_left
          · intro wS hSw; have hSc := fun o => hSw.cell g o hgd hgn; clear hSw; go_simp; try with_reducible rfl
          try simp only [Act.put, List.getElem_toArray, List.getElem_cons_succ, List.getElem_cons_zero, List.setIfInBounds_toArray, List.set_cons_zero, List.set_cons_succ]
          refine gp_take 13 (v := ?_) rfl (by kernel_rfl) (by kernel_rfl) (by kernel_rfl) (fun _ _ _ h => h) (Or.inl ⟨by first | kernel_rfl | rfl, ?_⟩) ?_
          rotate_left
          · intro wS hSw; have hSc := fun o => hSw.cell g o hgd hgn; clear hSw; go_simp; try with_reducible rfl
          try simp only [Act.put, List.getElem_toArray, List.getElem_cons_succ, List.getElem_cons_zero, List.setIfInBounds_toArray, List.set_cons_zero, List.set_cons_succ]
          refine gp_take 14 (v := ?_) rfl (by kernel_rfl) (by kernel_rfl) (by kernel_rfl) (fun _ _ _ h => h) (Or.inl ⟨by first | kernel_rfl | rfl, ?_⟩) ?_
          rotate_left
          · intro wS hSw; have hSc := fun o => hSw.cell g o hgd hgn; clear hSw; go_simp; try with_reducible rfl
          try simp only [Act.put, List.getElem_toArray, List.getElem_cons_succ, List.getElem_cons_zero, List.setIfInBounds_toArray, List.set_cons_zero, List.set_cons_succ]
          refine gp_take 15 (v := ?_) rfl (by kernel_rfl) (by kernel_rfl) (by kernel_rfl) (fun _ _ _ h => h) (Or.inl ⟨by first | kernel_rfl | rfl, ?_⟩) ?_
          rotate_left
          · intro wS hSw; have hSc := fun o => hSw.cell g o hgd hgn; clear hSw; go_simp; try with_reducible rfl
          try simp only [Act.put, List.getElem_toArray, List.getElem_cons_succ, List.getElem_cons_zero, List.setIfInBounds_toArray, List.set_cons_zero, List.set_cons_succ]
          refine gp_take 16 (v := ?_) rfl (by kernel_rfl) (by kernel_rfl) (by kernel_rfl) (fun _ _ _ h => h) (Or.inl ⟨by first | kernel_rfl | rfl, ?_⟩) ?_
          rotate_left
          · intro wS hSw; have hSc := fun o => hSw.cell g o hgd hgn; clear hSw; go_simp; try with_reducible rfl
          try simp only [Act.put, List.getElem_toArray, List.getElem_cons_succ, List.getElem_cons_zero, List.setIfInBounds_toArray, List.set_cons_zero, List.set_cons_succ]
          refine gp_take 17 (v := ?_) rfl (by kernel_rfl) (by kernel_rfl) (by kernel_rfl) (fun _ _ _ h => h) (Or.inl ⟨by first | kernel_rfl | rfl, ?_⟩) ?_
          rotate_left
          · intro wS hSw; have hSc := fun o => hSw.cell g o hgd hgn; clear hSw; go_simp; try with_reducible rfl
          try simp only [Act.put, List.getElem_toArray, List.getElem_cons_succ, List.getElem_cons_zero, List.setIfInBounds_toArray, List.set_cons_zero, List.set_cons_succ]
          refine gp_take 18 (v := ?_) rfl (by kernel_rfl) (by kernel_rfl) (by kernel_rfl) (fun _ _ _ h => h) (Or.inl ⟨by first | kernel_rfl | rfl, ?_⟩) ?_
          rotate_left
          · intro wS hSw; have hSc := fun o => hSw.cell g o hgd hgn; clear hSw; go_simp; try with_reducible rfl
          try simp only [Act.put, List.getElem_toArray, List.getElem_cons_succ, List.getElem_cons_zero, List.setIfInBounds_toArray, List.set_cons_zero, List.set_cons_succ]
          refine gp_take 19 (v := ?_) rfl (by kernel_rfl) (by kernel_rfl) (by kernel_rfl) (fun _ _ _ h => h) (Or.inl ⟨by first | kernel_rfl | rfl, ?_⟩) ?_
          rotate_left
          · intro wS hSw; have hSc := fun o => hSw.cell g o hgd hgn; clear hSw; go_simp; try with_reducible rfl
          try simp only [Act.put, List.getElem_toArray, List.getElem_cons_succ, List.getElem_cons_zero, List.setIfInBounds_toArray, List.set_cons_zero, List.set_cons_succ]
          refine gp_take 20 (v := ?_) rfl (by kernel_rfl) (by kernel_rfl) (by kernel_rfl) (fun _ _ _ h => h) (Or.inl ⟨by first | kernel_rfl | rfl, ?_⟩) ?_
          rotate_left
          · intro wS hSw; have hSc := fun o => hSw.cell g o hgd hgn; clear hSw; go_simp; try with_reducible rfl
          try simp only [Act.put, List.getElem_toArray, List.getElem_cons_succ, List.getElem_cons_zero, List.setIfInBounds_toArray, List.set_cons_zero, List.set_cons_succ]
          have t0 : wd.cell? ⟨w.heap.size, 0, none⟩ = some (.int .i64 0) := HTd.out.cell 0
          have t1 : wd.cell? ⟨w.heap.size, 1, none⟩ = some (.int .i64 0) := HTd.out.cell 1
          have f0 : wd.frozen? ⟨w.heap.size, 0, none⟩ = false := HTd.out.frozen 0
          have f1 : wd.frozen? ⟨w.heap.size, 1, none⟩ = false := HTd.out.frozen 1
          have tl := HTd.out.lt
          refine gp_step 21 (by kernel_rfl) rfl (fun K hK => ?_)
          go_simp
          go_wp2_with fail
          refine hK.out _ _ (show Gp _ _ _ from (Gp.set (p := Pr w.heap.size) _ rfl).trans (Gp.set (p := Pr w.heap.size) _ rfl)) ?_
          clear hK K
          try simp only [Act.put, List.getElem_toArray, List.getElem_cons_succ, List.getElem_cons_zero, List.setIfInBounds_toArray, List.set_cons_zero, List.set_cons_succ]
          refine gp_step 22 (by kernel_rfl) rfl (fun K hK => ?_)
          go_simp
          go_wp2_with fail
          refine hK.out _ _ (show Gp _ _ _ from Gp.refl _) ?_
          clear hK K
          try simp only [Act.put, List.getElem_toArray, List.getElem_cons_succ, List.getElem_cons_zero, List.setIfInBounds_toArray, List.set_cons_zero, List.set_cons_succ]
          refine wpAnyH_done (by kernel_rfl) ?_ _
          go_wp2_with fail
          refine bodyPost_ret (res_cell_tmp rfl st_Wr rfl (HTd.out.put2) rfl rfl) rfl ?_
          exact ⟨by rw [HCC.out]; rfl, Below.junk (((HBd.out).setCell (p := ⟨w.heap.size, 0, none⟩) (Nat.le_refl _) _).setCell (p := ⟨w.heap.size, 1, none⟩) (Nat.le_refl _) _)⟩
        | cons y r =>
          have hcl : ¬ ((r.length : Int) + 1 = 0) := by omega
          have hcm : ((r.length : Int) + 1 == 0) = false := by rw [beq_eq_false_iff_ne]; omega
          go_wp2_with fail
          refine gp_start (Pr w.heap.size) (by kernel_rfl) ?_
          obtain ⟨wd, hwd⟩ : ∃ wd, wd = (w4.alloc (.cells #[.int .i64 KD, .int .i64 n1] WrT)).drew := ⟨_, rfl⟩
          rw [← hwd]
          have hwx : Blk wd w4.heap.size WrT #[.int .i64 KD, .int .i64 n1] := by rw [hwd]; exact (Blk.new _ _ _).drew
          have HTd : Hid (Blk wd w.heap.size WrT #[.int .i64 0, .int .i64 0]) := by show Blk _ _ _ _; rw [hwd]; exact (HT4.out.alloc _).drew
          obtain ⟨ra, rc, hrb, _, _⟩ := HR4.out.st
          have hrd := (hrb.alloc (.cells #[.int .i64 KD, .int .i64 n1] WrT)).drew
          rw [← hwd] at hrd
          have HBd : Hid (Below w.heap.size w wd) := by show Below _ _ _; rw [hwd]; exact (HB4.out.alloc HB4.out.size _).drew
          have q0 : wd.cell? ⟨g, 0, none⟩ = some (.slice ra (r.length + 1) rc) := hrd.cell 0
          have q1 : wd.cell? ⟨g, 1, none⟩ = some (.bool false) := hrd.cell 1
          have hgd := hrd.lt
          have hgn : ¬ Pr w.heap.size g := fun e => hgr e
          have hxn : ¬ Pr w.heap.size w4.heap.size := fun e => by unfold Pr at e; omega
          clear hwd hrb hrd HB4 HT4 HR4
          refine gp_load 0 rfl (by kernel_rfl) (by kernel_rfl) (by kernel_rfl) 33 (.tmp 8) #[.int .i64 KD, .int .i64 n1] (fun _ _ _ h => h) (by first | kernel_rfl | rfl) rfl w4.heap.size rfl hwx hxn _ Tryz.underlying33 rfl (by kernel_rfl) ?_
          try simp only [Act.put, List.getElem_toArray, List.getElem_cons_succ, List.getElem_cons_zero, List.setIfInBounds_toArray, List.set_cons_zero, List.set_cons_succ]
          refine gp_take 1 (v := ?_) rfl (by kernel_rfl) (by kernel_rfl) (by kernel_rfl) (fun _ _ _ h => h) (Or.inl ⟨by first | kernel_rfl | rfl, ?_⟩) ?_
          rotate_left
          · intro wS hSw; have hSc := fun o => hSw.cell g o hgd hgn; clear hSw; go_simp; try with_reducible rfl
          try simp only [Act.put, List.getElem_toArray, List.getElem_cons_succ, List.getElem_cons_zero, List.setIfInBounds_toArray, List.set_cons_zero, List.set_cons_succ]
          refine gp_take 2 (v := ?_) rfl (by kernel_rfl) (by kernel_rfl) (by kernel_rfl) (fun _ _ _ h => h) (Or.inl ⟨by first | kernel_rfl | rfl, ?_⟩) ?_
          rotate_left
          · intro wS hSw; have hSc := fun o => hSw.cell g o hgd hgn; clear hSw; go_simp; try with_reducible rfl
          try simp only [Act.put, List.getElem_toArray, List.getElem_cons_succ, List.getElem_cons_zero, List.setIfInBounds_toArray, List.set_cons_zero, List.set_cons_succ]
          refine gp_take 3 (v := ?_) rfl (by kernel_rfl) (by kernel_rfl) (by kernel_rfl) (fun _ _ _ h => h) (Or.inl ⟨by first | kernel_rfl | rfl, ?_⟩) ?_
          rotate_left
          · intro wS hSw; have hSc := fun o => hSw.cell g o hgd hgn; clear hSw; go_simp; try with_reducible rfl
          try simp only [Act.put, List.getElem_toArray, List.getElem_cons_succ, List.getElem_cons_zero, List.setIfInBounds_toArray, List.set_cons_zero, List.set_cons_succ]
          refine gp_take 4 (v := ?_) rfl (by kernel_rfl) (by kernel_rfl) (by kernel_rfl) (fun _ _ _ h => h) (Or.inl ⟨by first | kernel_rfl | rfl, ?_⟩) ?_
          rotate_left
          · intro wS hSw; have hSc := fun o => hSw.cell g o hgd hgn; clear hSw; go_simp; try with_reducible rfl
          try simp only [Act.put, List.getElem_toArray, List.getElem_cons_succ, List.getElem_cons_zero, List.setIfInBounds_toArray, List.set_cons_zero, List.set_cons_succ]
          refine gp_take 5 (v := ?_) rfl (by kernel_rfl) (by kernel_rfl) (by kernel_rfl) (fun _ _ _ h => h) (Or.inl ⟨by first | kernel_rfl | rfl, ?_⟩) ?_
          rotate_left
          · intro wS hSw; have hSc := fun o => hSw.cell g o hgd hgn; clear hSw; go_simp; try with_reducible rfl
          try simp only [Act.put, List.getElem_toArray, List.getElem_cons_succ, List.getElem_cons_zero, List.setIfInBounds_toArray, List.set_cons_zero, List.set_cons_succ]
          refine gp_take 6 (v := ?_) rfl (by kernel_rfl) (by kernel_rfl) (by kernel_rfl) (fun _ _ _ h => h) (Or.inl ⟨by first | kernel_rfl | rfl, ?_⟩) ?_
          rotate_left
          · intro wS hSw; have hSc := fun o => hSw.cell g o hgd hgn; clear hSw; go_simp; try with_reducible rfl
          try simp only [Act.put, List.getElem_toArray, List.getElem_cons_succ, List.getElem_cons_zero, List.setIfInBounds_toArray, List.set_cons_zero, List.set_cons_succ]
          refine gp_take 7 (v := ?_) rfl (by kernel_rfl) (by kernel_rfl) (by kernel_rfl) (fun _ _ _ h => h) (Or.inl ⟨by first | kernel_rfl | rfl, ?_⟩) ?_
          rotate_left
          · intro wS hSw; have hSc := fun o => hSw.cell g o hgd hgn; clear hSw; go_simp; try with_reducible rfl
          try simp only [Act.put, List.getElem_toArray, List.getElem_cons_succ, List.getElem_cons_zero, List.setIfInBounds_toArray, List.set_cons_zero, List.set_cons_succ]
          refine gp_take 8 (v := ?_) rfl (by kernel_rfl) (by kernel_rfl) (by kernel_rfl) (fun _ _ _ h => h) (Or.inl ⟨by first | kernel_rfl | rfl, ?_⟩) ?_
          rotate_left
          · intro wS hSw; have hSc := fun o => hSw.cell g o hgd hgn; clear hSw; go_simp; try with_reducible rfl
          try simp only [Act.put, List.getElem_toArray, List.getElem_cons_succ, List.getElem_cons_zero, List.setIfInBounds_toArray, List.set_cons_zero, List.set_cons_succ]
          refine gp_take 9 (v := ?_) rfl (by kernel_rfl) (by kernel_rfl) (by kernel_rfl) (fun _ _ _ h => h) (Or.inl ⟨by first | kernel_rfl | rfl, ?_⟩) ?_
          rotate_left
          · intro wS hSw; have hSc := fun o => hSw.cell g o hgd hgn; clear hSw; go_simp; try with_reducible rfl
          try simp only [Act.put, List.getElem_toArray, List.getElem_cons_succ, List.getElem_cons_zero, List.setIfInBounds_toArray, List.set_cons_zero, List.set_cons_succ]
          refine gp_take 10 (v := ?_) rfl (by kernel_rfl) (by kernel_rfl) (by kernel_rfl) (fun _ _ _ h => h) (Or.inl ⟨by first | kernel_rfl | rfl, ?_⟩) ?_
          rotate_left
          · intro wS hSw; have hSc := fun o => hSw.cell g o hgd hgn; clear hSw; go_simp; try with_reducible rfl
          try simp only [Act.put, List.getElem_toArray, List.getElem_cons_succ, List.getElem_cons_zero, List.setIfInBounds_toArray, List.set_cons_zero, List.set_cons_succ]
          refine gp_take 11 (v := ?_) rfl (by kernel_rfl) (by kernel_rfl) (by kernel_rfl) (fun _ _ _ h => h) (Or.inl ⟨by first | kernel_rfl | rfl, ?_⟩) ?_
          rotate_left
          · intro wS hSw; have hSc := fun o => hSw.cell g o hgd hgn; clear hSw; go_simp; try with_reducible rfl
          try simp only [Act.put, List.getElem_toArray, List.getElem_cons_succ, List.getElem_cons_zero, List.setIfInBounds_toArray, List.set_cons_zero, List.set_cons_succ]
          refine gp_take 12 (v := ?_) rfl (by kernel_rfl) (by kernel_rfl) (by kernel_rfl) (fun _ _ _ h => h) (Or.inl ⟨by first | kernel_rfl | rfl, ?_⟩) ?_
          rotate_left
          · intro wS hSw; have hSc := fun o => hSw.cell g o hgd hgn; clear hSw; go_simp; try with_reducible rfl
          try simp only [Act.put, List.getElem_toArray, List.getElem_cons_succ, List.getElem_cons_zero, List.setIfInBounds_toArray, List.set_cons_zero, List.set_cons_succ]
          refine gp_take 13 (v := ?_) rfl (by kernel_rfl) (by kernel_rfl) (by kernel_rfl) (fun _ _ _ h => h) (Or.inl ⟨by first | kernel_rfl | rfl, ?_⟩) ?_
          rotate_left
          · intro wS hSw; have hSc := fun o => hSw.cell g o hgd hgn; clear hSw; go_simp; try with_reducible rfl
          try simp only [Act.put, List.getElem_toArray, List.getElem_cons_succ, List.getElem_cons_zero, List.setIfInBounds_toArray, List.set_cons_zero, List.set_cons_succ]
          refine gp_take 14 (v := ?_) rfl (by kernel_rfl) (by kernel_rfl) (by kernel_rfl) (fun _ _ _ h => h) (Or.inl ⟨by first | kernel_rfl | rfl, ?_⟩) ?_
          rotate_left
          · intro wS hSw; have hSc := fun o => hSw.cell g o hgd hgn; clear hSw; go_simp; try with_reducible rfl
          try simp only [Act.put, List.getElem_toArray, List.getElem_cons_succ, List.getElem_cons_zero, List.setIfInBounds_toArray, List.set_cons_zero, List.set_cons_succ]
          refine gp_take 15 (v := ?_) rfl (by kernel_rfl) (by kernel_rfl) (by kernel_rfl) (fun _ _ _ h => h) (Or.inl ⟨by first | kernel_rfl | rfl, ?_⟩) ?_
          rotate_left
          · intro wS hSw; have hSc := fun o => hSw.cell g o hgd hgn; clear hSw; go_simp; try with_reducible rfl
          try simp only [Act.put, List.getElem_toArray, List.getElem_cons_succ, List.getElem_cons_zero, List.setIfInBounds_toArray, List.set_cons_zero, List.set_cons_succ]
          refine gp_take 16 (v := ?_) rfl (by kernel_rfl) (by kernel_rfl) (by kernel_rfl) (fun _ _ _ h => h) (Or.inl ⟨by first | kernel_rfl | rfl, ?_⟩) ?_
          rotate_left
          · intro wS hSw; have hSc := fun o => hSw.cell g o hgd hgn; clear hSw; go_simp; try with_reducible rfl
          try simp only [Act.put, List.getElem_toArray, List.getElem_cons_succ, List.getElem_cons_zero, List.setIfInBounds_toArray, List.set_cons_zero, List.set_cons_succ]
          refine gp_take 17 (v := ?_) rfl (by kernel_rfl) (by kernel_rfl) (by kernel_rfl) (fun _ _ _ h => h) (Or.inl ⟨by first | kernel_rfl | rfl, ?_⟩) ?_
          rotate_left
          · intro wS hSw; have hSc := fun o => hSw.cell g o hgd hgn; clear hSw; go_simp; try with_reducible rfl
          try simp only [Act.put, List.getElem_toArray, List.getElem_cons_succ, List.getElem_cons_zero, List.setIfInBounds_toArray, List.set_cons_zero, List.set_cons_succ]
          refine gp_take 18 (v := ?_) rfl (by kernel_rfl) (by kernel_rfl) (by kernel_rfl) (fun _ _ _ h => h) (Or.inl ⟨by first | kernel_rfl | rfl, ?_⟩) ?_
          rotate_left
          · intro wS hSw; have hSc := fun o => hSw.cell g o hgd hgn; clear hSw; go_simp; try with_reducible rfl
          try simp only [Act.put, List.getElem_toArray, List.getElem_cons_succ, List.getElem_cons_zero, List.setIfInBounds_toArray, List.set_cons_zero, List.set_cons_succ]
          refine gp_take 19 (v := ?_) rfl (by kernel_rfl) (by kernel_rfl) (by kernel_rfl) (fun _ _ _ h => h) (Or.inl ⟨by first | kernel_rfl | rfl, ?_⟩) ?_
          rotate_left
          · intro wS hSw; have hSc := fun o => hSw.cell g o hgd hgn; clear hSw; go_simp; try with_reducible rfl
          try simp only [Act.put, List.getElem_toArray, List.getElem_cons_succ, List.getElem_cons_zero, List.setIfInBounds_toArray, List.set_cons_zero, List.set_cons_succ]
          refine gp_take 20 (v := ?_) rfl (by kernel_rfl) (by kernel_rfl) (by kernel_rfl) (fun _ _ _ h => h) (Or.inl ⟨by first | kernel_rfl | rfl, ?_⟩) ?_
          rotate_left
          · intro wS hSw; have hSc := fun o => hSw.cell g o hgd hgn; clear hSw; go_simp; try with_reducible rfl
          try simp only [Act.put, List.getElem_toArray, List.getElem_cons_succ, List.getElem_cons_zero, List.setIfInBounds_toArray, List.set_cons_zero, List.set_cons_succ]
          have t0 : wd.cell? ⟨w.heap.size, 0, none⟩ = some (.int .i64 0) := HTd.out.cell 0
          have t1 : wd.cell? ⟨w.heap.size, 1, none⟩ = some (.int .i64 0) := HTd.out.cell 1
          have f0 : wd.frozen? ⟨w.heap.size, 0, none⟩ = false := HTd.out.frozen 0
          have f1 : wd.frozen? ⟨w.heap.size, 1, none⟩ = false := HTd.out.frozen 1
          have tl := HTd.out.lt
          refine gp_step 21 (by kernel_rfl) rfl (fun K hK => ?_)
          go_simp
          go_wp2_with fail
          refine hK.out _ _ (show Gp _ _ _ from (Gp.set (p := Pr w.heap.size) _ rfl).trans (Gp.set (p := Pr w.heap.size) _ rfl)) ?_
          clear hK K
          try simp only [Act.put, List.getElem_toArray, List.getElem_cons_succ, List.getElem_cons_zero, List.setIfInBounds_toArray, List.set_cons_zero, List.set_cons_succ]
          refine gp_step 22 (by kernel_rfl) rfl (fun K hK => ?_)
          go_simp
          go_wp2_with fail
          refine hK.out _ _ (show Gp _ _ _ from Gp.refl _) ?_
          clear hK K
          try simp only [Act.put, List.getElem_toArray, List.getElem_cons_succ, List.getElem_cons_zero, List.setIfInBounds_toArray, List.set_cons_zero, List.set_cons_succ]
          refine wpAnyH_done (by kernel_rfl) ?_ _
          go_wp2_with fail
          refine bodyPost_ret (res_cell_tmp rfl st_Wr rfl (HTd.out.put2) rfl rfl) rfl ?_
          exact ⟨by rw [HCC.out]; rfl, Below.junk (((HBd.out).setCell (p := ⟨w.heap.size, 0, none⟩) (Nat.le_refl _) _).setCell (p := ⟨w.heap.size, 1, none⟩) (Nat.le_refl _) _)⟩
      · go_wp2_with fail
        refine gp_start (Pr w.heap.size) (by kernel_rfl) ?_
        obtain ⟨wd, hwd⟩ : ∃ wd, wd = (w4.alloc (.cells #[.int .i64 KD, .int .i64 n1] WrT)).drew := ⟨_, rfl⟩
        rw [← hwd]
        have hwx : Blk wd w4.heap.size WrT #[.int .i64 KD, .int .i64 n1] := by rw [hwd]; exact (Blk.new _ _ _).drew
        have HTd : Hid (Blk wd w.heap.size WrT #[.int .i64 0, .int .i64 0]) := by show Blk _ _ _ _; rw [hwd]; exact (HT4.out.alloc _).drew
        obtain ⟨ra, rc, hrb, _, _⟩ := HR4.out.st
        have hrd := (hrb.alloc (.cells #[.int .i64 KD, .int .i64 n1] WrT)).drew
        rw [← hwd] at hrd
        have HBd : Hid (Below w.heap.size w wd) := by show Below _ _ _; rw [hwd]; exact (HB4.out.alloc HB4.out.size _).drew
        have q0 : wd.cell? ⟨g, 0, none⟩ = some (.slice ra n2.length rc) := hrd.cell 0
        have q1 : wd.cell? ⟨g, 1, none⟩ = some (.bool true) := hrd.cell 1
        have hgd := hrd.lt
        have hgn : ¬ Pr w.heap.size g := fun e => hgr e
        have hxn : ¬ Pr w.heap.size w4.heap.size := fun e => by unfold Pr at e; omega
        clear hwd hrb hrd HB4 HT4 HR4
        refine gp_load 0 rfl (by kernel_rfl) (by kernel_rfl) (by kernel_rfl) 33 (.tmp 8) #[.int .i64 KD, .int .i64 n1] (fun _ _ _ h => h) (by first | kernel_rfl | rfl) rfl w4.heap.size rfl hwx hxn _ Tryz.underlying33 rfl (by kernel_rfl) ?_
        try simp only [Act.put, List.getElem_toArray, List.getElem_cons_succ, List.getElem_cons_zero, List.setIfInBounds_toArray, List.set_cons_zero, List.set_cons_succ]
        refine gp_take 1 (v := ?_) rfl (by kernel_rfl) (by kernel_rfl) (by kernel_rfl) (fun _ _ _ h => h) (Or.inl ⟨by first | kernel_rfl | rfl, ?_⟩) ?_
        rotate_left
        · intro wS hSw; have hSc := fun o => hSw.cell g o hgd hgn; clear hSw; go_simp; try with_reducible rfl
        try simp only [Act.put, List.getElem_toArray, List.getElem_cons_succ, List.getElem_cons_zero, List.setIfInBounds_toArray, List.set_cons_zero, List.set_cons_succ]
        refine gp_take 2 (v := ?_) rfl (by kernel_rfl) (by kernel_rfl) (by kernel_rfl) (fun _ _ _ h => h) (Or.inl ⟨by first | kernel_rfl | rfl, ?_⟩) ?_
        rotate_left
        · intro wS hSw; have hSc := fun o => hSw.cell g o hgd hgn; clear hSw; go_simp; try with_reducible rfl
        try simp only [Act.put, List.getElem_toArray, List.getElem_cons_succ, List.getElem_cons_zero, List.setIfInBounds_toArray, List.set_cons_zero, List.set_cons_succ]
        refine gp_take 3 (v := ?_) rfl (by kernel_rfl) (by kernel_rfl) (by kernel_rfl) (fun _ _ _ h => h) (Or.inl ⟨by first | kernel_rfl | rfl, ?_⟩) ?_
        rotate_left
        · intro wS hSw; have hSc := fun o => hSw.cell g o hgd hgn; clear hSw; go_simp; try with_reducible rfl
        try simp only [Act.put, List.getElem_toArray, List.getElem_cons_succ, List.getElem_cons_zero, List.setIfInBounds_toArray, List.set_cons_zero, List.set_cons_succ]
        refine gp_take 4 (v := ?_) rfl (by kernel_rfl) (by kernel_rfl) (by kernel_rfl) (fun _ _ _ h => h) (Or.inl ⟨by first | kernel_rfl | rfl, ?_⟩) ?_
        rotate_left
        · intro wS hSw; have hSc := fun o => hSw.cell g o hgd hgn; clear hSw; go_simp; try with_reducible rfl
        try simp only [Act.put, List.getElem_toArray, List.getElem_cons_succ, List.getElem_cons_zero, List.setIfInBounds_toArray, List.set_cons_zero, List.set_cons_succ]
        refine gp_take 5 (v := ?_) rfl (by kernel_rfl) (by kernel_rfl) (by kernel_rfl) (fun _ _ _ h => h) (Or.inl ⟨by first | kernel_rfl | rfl, ?_⟩) ?_
        rotate_left
        · intro wS hSw; have hSc := fun o => hSw.cell g o hgd hgn; clear hSw; go_simp; try with_reducible rfl
        try simp only [Act.put, List.getElem_toArray, List.getElem_cons_succ, List.getElem_cons_zero, List.setIfInBounds_toArray, List.set_cons_zero, List.set_cons_succ]
        refine gp_take 6 (v := ?_) rfl (by kernel_rfl) (by kernel_rfl) (by kernel_rfl) (fun _ _ _ h => h) (Or.inl ⟨by first | kernel_rfl | rfl, ?_⟩) ?_
        rotate_left
        · intro wS hSw; have hSc := fun o => hSw.cell g o hgd hgn; clear hSw; go_simp; try with_reducible rfl
        try simp only [Act.put, List.getElem_toArray, List.getElem_cons_succ, List.getElem_cons_zero, List.setIfInBounds_toArray, List.set_cons_zero, List.set_cons_succ]
        refine gp_take 7 (v := ?_) rfl (by kernel_rfl) (by kernel_rfl) (by kernel_rfl) (fun _ _ _ h => h) (Or.inl ⟨by first | kernel_rfl | rfl, ?_⟩) ?_
        rotate_left
        · intro wS hSw; have hSc := fun o => hSw.cell g o hgd hgn; clear hSw; go_simp; try with_reducible rfl
        try simp only [Act.put, List.getElem_toArray, List.getElem_cons_succ, List.getElem_cons_zero, List.setIfInBounds_toArray, List.set_cons_zero, List.set_cons_succ]
        refine gp_take 8 (v := ?_) rfl (by kernel_rfl) (by kernel_rfl) (by kernel_rfl) (fun _ _ _ h => h) (Or.inl ⟨by first | kernel_rfl | rfl, ?_⟩) ?_
        rotate_left
        · intro wS hSw; have hSc := fun o => hSw.cell g o hgd hgn; clear hSw; go_simp; try with_reducible rfl
        try simp only [Act.put, List.getElem_toArray, List.getElem_cons_succ, List.getElem_cons_zero, List.setIfInBounds_toArray, List.set_cons_zero, List.set_cons_succ]
        refine gp_take 9 (v := ?_) rfl (by kernel_rfl) (by kernel_rfl) (by kernel_rfl) (fun _ _ _ h => h) (Or.inl ⟨by first | kernel_rfl | rfl, ?_⟩) ?_
        rotate_left
        · intro wS hSw; have hSc := fun o => hSw.cell g o hgd hgn; clear hSw; go_simp; try with_reducible rfl
        try simp only [Act.put, List.getElem_toArray, List.getElem_cons_succ, List.getElem_cons_zero, List.setIfInBounds_toArray, List.set_cons_zero, List.set_cons_succ]
        refine gp_take 10 (v := ?_) rfl (by kernel_rfl) (by kernel_rfl) (by kernel_rfl) (fun _ _ _ h => h) (Or.inl ⟨by first | kernel_rfl | rfl, ?_⟩) ?_
        rotate_left
        · intro wS hSw; have hSc := fun o => hSw.cell g o hgd hgn; clear hSw; go_simp; try with_reducible rfl
        try simp only [Act.put, List.getElem_toArray, List.getElem_cons_succ, List.getElem_cons_zero, List.setIfInBounds_toArray, List.set_cons_zero, List.set_cons_succ]
        refine gp_take 11 (v := ?_) rfl (by kernel_rfl) (by kernel_rfl) (by kernel_rfl) (fun _ _ _ h => h) (Or.inl ⟨by first | kernel_rfl | rfl, ?_⟩) ?_
        rotate_left
        · intro wS hSw; have hSc := fun o => hSw.cell g o hgd hgn; clear hSw; go_simp; try with_reducible rfl
        try simp only [Act.put, List.getElem_toArray, List.getElem_cons_succ, List.getElem_cons_zero, List.setIfInBounds_toArray, List.set_cons_zero, List.set_cons_succ]
        refine gp_take 12 (v := ?_) rfl (by kernel_rfl) (by kernel_rfl) (by kernel_rfl) (fun _ _ _ h => h) (Or.inl ⟨by first | kernel_rfl | rfl, ?_⟩) ?_
        rotate_left
        · intro wS hSw; have hSc := fun o => hSw.cell g o hgd hgn; clear hSw; go_simp; try with_reducible rfl
        try simp only [Act.put, List.getElem_toArray, List.getElem_cons_succ, List.getElem_cons_zero, List.setIfInBounds_toArray, List.set_cons_zero, List.set_cons_succ]
        refine gp_take 13 (v := ?_) rfl (by kernel_rfl) (by kernel_rfl) (by kernel_rfl) (fun _ _ _ h => h) (Or.inl ⟨by first | kernel_rfl | rfl, ?_⟩) ?_
        rotate_left
        · intro wS hSw; have hSc := fun o => hSw.cell g o hgd hgn; clear hSw; go_simp; try with_reducible rfl
        try simp only [Act.put, List.getElem_toArray, List.getElem_cons_succ, List.getElem_cons_zero, List.setIfInBounds_toArray, List.set_cons_zero, List.set_cons_succ]
        refine gp_take 14 (v := undef) rfl (by kernel_rfl) (by kernel_rfl) (by kernel_rfl) (fun _ _ _ h => h) (Or.inr ⟨by kernel_rfl, rfl⟩) ?_
        try simp only [Act.put, List.getElem_toArray, List.getElem_cons_succ, List.getElem_cons_zero, List.setIfInBounds_toArray, List.set_cons_zero, List.set_cons_succ]
        refine gp_take 15 (v := undef) rfl (by kernel_rfl) (by kernel_rfl) (by kernel_rfl) (fun _ _ _ h => h) (Or.inr ⟨by kernel_rfl, rfl⟩) ?_
        try simp only [Act.put, List.getElem_toArray, List.getElem_cons_succ, List.getElem_cons_zero, List.setIfInBounds_toArray, List.set_cons_zero, List.set_cons_succ]
        refine gp_take 16 (v := undef) rfl (by kernel_rfl) (by kernel_rfl) (by kernel_rfl) (fun _ _ _ h => h) (Or.inr ⟨by kernel_rfl, rfl⟩) ?_
        try simp only [Act.put, List.getElem_toArray, List.getElem_cons_succ, List.getElem_cons_zero, List.setIfInBounds_toArray, List.set_cons_zero, List.set_cons_succ]
        refine gp_take 17 (v := undef) rfl (by kernel_rfl) (by kernel_rfl) (by kernel_rfl) (fun _ _ _ h => h) (Or.inr ⟨by kernel_rfl, rfl⟩) ?_
        try simp only [Act.put, List.getElem_toArray, List.getElem_cons_succ, List.getElem_cons_zero, List.setIfInBounds_toArray, List.set_cons_zero, List.set_cons_succ]
        refine gp_take 18 (v := undef) rfl (by kernel_rfl) (by kernel_rfl) (by kernel_rfl) (fun _ _ _ h => h) (Or.inr ⟨by kernel_rfl, rfl⟩) ?_
        try simp only [Act.put, List.getElem_toArray, List.getElem_cons_succ, List.getElem_cons_zero, List.setIfInBounds_toArray, List.set_cons_zero, List.set_cons_succ]
        refine gp_take 19 (v := undef) rfl (by kernel_rfl) (by kernel_rfl) (by kernel_rfl) (fun _ _ _ h => h) (Or.inr ⟨by kernel_rfl, rfl⟩) ?_
        try simp only [Act.put, List.getElem_toArray, List.getElem_cons_succ, List.getElem_cons_zero, List.setIfInBounds_toArray, List.set_cons_zero, List.set_cons_succ]
        refine gp_take 20 (v := ?_) rfl (by kernel_rfl) (by kernel_rfl) (by kernel_rfl) (fun _ _ _ h => h) (Or.inl ⟨by first | kernel_rfl | rfl, ?_⟩) ?_
        rotate_left
        · intro wS hSw; have hSc := fun o => hSw.cell g o hgd hgn; clear hSw; go_simp; try with_reducible rfl
        try simp only [Act.put, List.getElem_toArray, List.getElem_cons_succ, List.getElem_cons_zero, List.setIfInBounds_toArray, List.set_cons_zero, List.set_cons_succ]
        have t0 : wd.cell? ⟨w.heap.size, 0, none⟩ = some (.int .i64 0) := HTd.out.cell 0
        have t1 : wd.cell? ⟨w.heap.size, 1, none⟩ = some (.int .i64 0) := HTd.out.cell 1
        have f0 : wd.frozen? ⟨w.heap.size, 0, none⟩ = false := HTd.out.frozen 0
        have f1 : wd.frozen? ⟨w.heap.size, 1, none⟩ = false := HTd.out.frozen 1
        have tl := HTd.out.lt
        refine gp_step 21 (by kernel_rfl) rfl (fun K hK => ?_)
        go_simp
        go_wp2_with fail
        refine hK.out _ _ (show Gp _ _ _ from (Gp.set (p := Pr w.heap.size) _ rfl).trans (Gp.set (p := Pr w.heap.size) _ rfl)) ?_
        clear hK K
        try simp only [Act.put, List.getElem_toArray, List.getElem_cons_succ, List.getElem_cons_zero, List.setIfInBounds_toArray, List.set_cons_zero, List.set_cons_succ]
        refine gp_step 22 (by kernel_rfl) rfl (fun K hK => ?_)
        go_simp
        go_wp2_with fail
        refine hK.out _ _ (show Gp _ _ _ from Gp.refl _) ?_
        clear hK K
        try simp only [Act.put, List.getElem_toArray, List.getElem_cons_succ, List.getElem_cons_zero, List.setIfInBounds_toArray, List.set_cons_zero, List.set_cons_succ]
        refine wpAnyH_done (by kernel_rfl) ?_ _
        go_wp2_with fail
        refine bodyPost_ret (res_cell_tmp rfl st_Wr rfl (HTd.out.put2) rfl rfl) rfl ?_
        exact ⟨by rw [HCC.out]; rfl, Below.junk (((HBd.out).setCell (p := ⟨w.heap.size, 0, none⟩) (Nat.le_refl _) _).setCell (p := ⟨w.heap.size, 1, none⟩) (Nat.le_refl _) _)⟩
end Go.Proofs.YtfcgdfcekpbliaaGreatDoor
