/-
  Parts of the proof, one behind the other: contracts of the program and plain laws; no condition of their own.
-/
import Derived.Test.YtjhhdgmhocpceaaGreatDoorMn
import Derived.Test.YtjhhdgmhocpceaaGreatDoorMm
/-
  The document's frame, where it has no fault: a pad (types 0, 1).
-/
namespace Go.Proofs.YtjhhdgmhocpceaaGreatDoor
set_option linter.unusedSimpArgs false
set_option linter.unusedVariables false
set_option linter.unusedSectionVars false
open Go.ChangeShapes Go.WideShapes Go.ChangeAt Go.RowKit Go.Deep Go.Shelf

set_option maxHeartbeats 4000000 in
set_option maxRecDepth 100000 in
theorem ref14_Parse_pad (fr ty fl st : Int) (rs : Bool) (a : Option Addr) (c : Nat) (l : List UInt8) (h0 : 0 ≤ fl) (h1 : fl ≤ 255) (hl : l.length ≤ 1048576) (hlc : l.length ≤ c) (hf : (faultF ty fl st l).1 = 0)
    (g2 : ¬ ty = 2) (g3 : ¬ ty = 3) (g4 : ¬ ty = 4) (g5 : ¬ ty = 5) (g7 : ¬ ty = 7) (g8 : ¬ ty = 8) (e8 : hasF ty fl 8 = true) (e32 : hasF ty fl 32 = false) (hk : (l.headD 0).toNat + 1 ≤ l.length) (w : World) (h : SlB w w.heap.size a l) :
    Calls Tryz.prog 35 #[rawV fr ty fl st rs a l.length c] w (RpaP (⟨ty, fl, st, ((l.headD 0).toNat : Int), ((l.drop 1).take (l.length - 1 - (l.headD 0).toNat)), [], 0, 0, false, 0, 0, 0, 0⟩, (0, 0)) w) := by
  have HF : Hid (∀ W, Below w.heap.size w W → Calls Tryz.prog 56 #[rawV fr ty fl st rs a l.length c] W (FauP (0, 0) W)) := fun W hW => by
    have := ref14_fault fr ty fl st rs a c l h0 h1 (by omega) W (h.grow hW)
    rwa [fault_zero.1 hf] at this
  have H8 : Hid (∀ W, Calls Tryz.prog 57 #[.int .i64 ty, .int .i64 fl, .int .i64 8] W fun e w' => e = .returned (.bool true) ∧ W = w') := fun W => by have := ref08_Has ty fl 8 (by simp) h0 h1 W; rwa [e8] at this
  have H32 : Hid (∀ W, Calls Tryz.prog 57 #[.int .i64 ty, .int .i64 fl, .int .i64 32] W fun e w' => e = .returned (.bool false) ∧ W = w') := fun W => by have := ref08_Has ty fl 32 (by simp) h0 h1 W; rwa [e32] at this
  obtain ⟨b, o, rfl, hbw, -⟩ := SlR.atB h (k := 0) (by omega)
  have hc0 := slb_byte h (k := 0) (by omega)
  rw [getD_zero, Nat.add_zero] at hc0
  have hy0 := (u8_le (l.headD 0))
  generalize (l.headD 0).toNat = x at hc0 hy0 hk ⊢
  obtain ⟨M, hM⟩ : ∃ M, M = l.length - x := ⟨_, rfl⟩
  have hMi : (l.length : Int) - (x : Int) = (M : Int) := by omega
  have HD : Hid (((l.drop 1).take (l.length - 1 - x)).length = M - 1) := by show _ = _; simp; omega
  have hMl : M ≤ l.length := by omega
  have hMk : 1 ≤ M := by omega
  have hMc : M ≤ c := by omega
  have HMM : Hid (l.length = M + x) := by show _ = _; omega
  clear hM
  have HSD : Hid (∀ W, Below w.heap.size w W → SlB W W.heap.size (if c = 1 then (some ⟨b, o, none⟩ : Option Addr) else some ⟨b, o + 1, none⟩) ((l.drop 1).take (l.length - 1 - x))) := fun W hW => by
    have := SlR.take (SlR.drop_if (h.grow hW) 1 hlc) (l.length - 1 - x)
    rw [Nat.mul_one, Option.map_some, add_at] at this
    exact this
  have i1 : (1 : Int) ≤ (M : Nat) := by omega
  generalize ((l.drop 1).take (l.length - 1 - x)) = D at HD HSD ⊢
  have hDl : D.length ≤ 1048576 := by rw [HD.out]; omega
  have HDL := Lib.hid hDl
  have HLC := Lib.hid hlc
  have i2 : (l.length : Int) ≤ c := by omega
  unfold FauP at HF
  clear h h0 h1 hf hDl e8 e32
  go_enter Tryz.func35, Tryz.ntmps35
  go_wp2_with (first | (go_at_call 56; (with_reducible refine (HF.out _ bel).mono ?_); rintro e w' ⟨rfl, jf, rfl⟩) | (go_at_call 57; (with_reducible refine (H8.out _).mono ?_); rintro e w' ⟨rfl, rfl⟩) | (go_at_call 57; (with_reducible refine (H32.out _).mono ?_); rintro e w' ⟨rfl, rfl⟩))
  refine wnm fun wz hwz => ?_
  obtain ⟨gb, hgb⟩ : ∃ gb, gb = w.heap.size + 1 + 1 + 1 + jf.heap.size + 1 := ⟨_, rfl⟩
  have HB : Hid (Below w.heap.size w wz) := by show Below _ _ _; rw [hwz]; exact bel
  have HK1 : Hid (Blk wz (w.heap.size + 1) FrmT (fmC 0 0 0 0 none 0 0 none 0 0 0 0 false 0 0 0 0)) := by show Blk _ _ _ _; rw [hwz]; exact blk
  have HK2 : Hid (Blk wz (w.heap.size + 2) FuT #[.int .i64 0, .int .i64 0]) := by show Blk _ _ _ _; rw [hwz]; exact blk
  have HKF : Hid (Blk wz gb FrmT (fmC ty fl st ((x : Int)) none 0 0 none 0 0 0 0 false 0 0 0 0)) := by show Blk _ _ _ _; rw [hwz, hgb]; exact blk
  rw [← hgb]
  have hgb2 : w.heap.size + 3 ≤ gb := by omega
  clear hwz hgb
  refine gg_start (Gp (fun q => q = gb)) (fun _ => Gp.refl _) (h := ?_)
  obtain ⟨wd, hwd⟩ : ∃ wd, wd = wz.drew := ⟨_, rfl⟩
  rw [← hwd]
  have HBD : Hid (Below w.heap.size w wd) := by show Below _ _ _; rw [hwd]; exact Below.drew HB.out
  have HD1 : Hid (Blk wd (w.heap.size + 1) FrmT (fmC 0 0 0 0 none 0 0 none 0 0 0 0 false 0 0 0 0)) := by show Blk _ _ _ _; rw [hwd]; exact HK1.out
  have HD2 : Hid (Blk wd (w.heap.size + 2) FuT #[.int .i64 0, .int .i64 0]) := by show Blk _ _ _ _; rw [hwd]; exact HK2.out
  have HDF : Hid (Blk wd gb FrmT (fmC ty fl st ((x : Int)) none 0 0 none 0 0 0 0 false 0 0 0 0)) := by show Blk _ _ _ _; rw [hwd]; exact HKF.out
  clear hwd
  have d4 : wd.cell? ⟨gb, 4, none⟩ = some (.slice none 0 0) := HDF.out.cell 4
  have dl := HDF.out.lt
  refine tk 0 ?_
  refine tk 2 ?_
  refine tk 3 ?_
  refine tk 4 ?_
  refine tk 5 ?_
  obtain ⟨SA, hSA⟩ : ∃ SA : Option Addr, SA = if c = 1 then some ⟨b, o, none⟩ else some ⟨b, o + 1, none⟩ := ⟨_, rfl⟩
  rw [← hSA] at HSD ⊢
  clear hSA
  refine gg_step (fun _ _ _ h h2 => h.trans h2) 1 (by kernel_rfl) rfl (fun K hK => ?_)
  go_simp
  go_wp2_with fail
  refine hK.out _ _ (Gp.refl _) ?_
  clear hK K
  try simp only [Act.put, nfa, nfb, nfc, nfd, List.set_cons_zero, List.set_cons_succ]
  refine gg_step (fun _ _ _ h h2 => h.trans h2) 6 (by kernel_rfl) rfl (fun K hK => ?_)
  refine step_bytes (.tmp 136) (.tmp 140) rfl rfl (B := wd.heap.size) (l := []) (m := D) (A := SA) (n := M - 1) (c := c - 1) rfl (OwnB.nil _ _) rfl (by first | exact HD.out | (rw [HD.out]; omega)) (HSD.out _ HBD.out) (by have := HDL.out; have := HD.out; simp; omega) (Nat.le_refl _) (fun v' w5 ho hb5 => ?_)
  refine hK.out _ _ (Gp.of_below hb5) ?_
  clear hK K
  try simp only [Act.put, nfa, nfb, nfc, nfd, List.set_cons_zero, List.set_cons_succ]
  obtain ⟨a5, c5, rfl, hc5, hs5, hn5⟩ := OwnB.full ho
  rw [List.nil_append] at hc5 hs5 ⊢
  have HB5 := Lib.hid hb5
  have HC5 := Lib.hid hc5
  have HS5 := Lib.hid hs5
  have HN5 := Lib.hid hn5
  have HF5 := Lib.hid (HDF.out.below hb5 dl)
  have x4 : w5.cell? ⟨gb, 4, none⟩ = some (.slice none 0 0) := HF5.out.cell 4
  have x4f := HF5.out.frozen 4
  have x4l := HF5.out.lt
  clear ho hb5 hc5 hs5 hn5 d4
  refine tk 7 ?_
  refine gg_step (fun _ _ _ h h2 => h.trans h2) 8 (by kernel_rfl) rfl (fun K hK => ?_)
  go_simp
  go_wp2_with fail
  obtain ⟨w6, hw6⟩ : ∃ w6, w6 = w5.setCell ⟨gb, 4, none⟩ (.slice a5 D.length c5) := ⟨_, rfl⟩
  rw [← hw6]
  have hg6 : Gp (fun q => q = gb) w5 w6 := by rw [hw6]; exact Gp.set (p := fun q => q = gb) _ rfl
  have HF6 : Hid (Blk w6 gb FrmT (fmC ty fl st ((x : Int)) a5 D.length c5 none 0 0 0 0 false 0 0 0 0)) := by show Blk _ _ _ _; rw [hw6]; exact HF5.out.set_ 4 _
  refine hK.out _ _ hg6 ?_
  have HG6 := Lib.hid hg6
  clear hK K hw6 hg6 x4 x4f x4l
  try simp only [Act.put, nfa, nfb, nfc, nfd, List.set_cons_zero, List.set_cons_succ]
  refine wpAnyH_done (by kernel_rfl) ?_ _
  go_wp2_with (first | (refine wpList_load_row rfl FrmT _ rfl gb rfl FrmT _ (0, 0) _ HF6.out Tryz.underlying53 rfl (by kernel_rfl) ?_) | (refine wpList_store_row rfl FrmT _ _ rfl (w.heap.size + 1) _ rfl rfl FrmT _ (HG6.out.blk (HD1.out.below HB5.out HD1.out.lt) (by omega)) (by kernel_rfl) rfl fm_one ?_) | (refine wpList_store_row rfl FuT _ _ rfl (w.heap.size + 2) _ rfl rfl FuT _ ((gp_row _ _ _).blk (HG6.out.blk (HD2.out.below HB5.out HD2.out.lt) (by omega)) (by omega)) (by kernel_rfl) rfl fu_one ?_))
  have hgg : Gp (fun q => q = w.heap.size + 1 ∨ q = w.heap.size + 2 ∨ q = gb) w5 _ := ((HG6.out.imp (fun k hk => .inr (.inr hk))).trans ((gp_row w6 (w.heap.size + 1) (fmC ty fl st ((x : Int)) a5 D.length c5 none 0 0 0 0 false 0 0 0 0)).imp (fun k hk => .inl hk))).trans ((gp_row _ (w.heap.size + 2) #[.int .i64 0, .int .i64 0]).imp (fun k hk => .inr (.inl hk)))
  refine bodyPost_ret (res_cell2 rfl st_Fm rfl ((gp_row _ (w.heap.size + 2) _).blk (blk_row (HG6.out.blk (HD1.out.below HB5.out HD1.out.lt) (by omega)) _) (by omega)) rfl st_Fu rfl (blk_row ((gp_row _ (w.heap.size + 1) _).blk (HG6.out.blk (HD2.out.below HB5.out HD2.out.lt) (by omega)) (by omega)) _) rfl) rfl ⟨_, rfl, ⟨a5, c5, none, 0, rfl, SlR.gpN (N := wd.heap.size) HS5.out HN5.out (fun k hk => by have := HD2.out.lt; omega) hgg, HC5.out, fun p hp => by have := HN5.out p hp; have := HBD.out.size; omega, .nil, Nat.le_refl _, fun p hp => by cases hp⟩, ?_⟩
  exact (HBD.out.trans (HB5.out.mono HBD.out.size)).trans (hgg.below (fun q hq => by omega) (Nat.le_trans HBD.out.size HB5.out.size))
end Go.Proofs.YtjhhdgmhocpceaaGreatDoor
/-
  The document's frame, where it has no fault: a promise (type 5).
-/
namespace Go.Proofs.YtjhhdgmhocpceaaGreatDoor
set_option linter.unusedSimpArgs false
set_option linter.unusedVariables false
set_option linter.unusedSectionVars false
open Go.ChangeShapes Go.WideShapes Go.ChangeAt Go.RowKit Go.Deep Go.Shelf

set_option maxHeartbeats 4000000 in
set_option maxRecDepth 100000 in
theorem ref14_Parse_5 (fr fl st : Int) (rs : Bool) (a : Option Addr) (c : Nat) (l : List UInt8) (h0 : 0 ≤ fl) (h1 : fl ≤ 255) (hl : l.length ≤ 1048576) (hlc : l.length ≤ c) (hf : (faultF 5 fl st l).1 = 0)
    (e8 : hasF 5 fl 8 = false) (e32 : hasF 5 fl 32 = false) (hk : 4 ≤ l.length) (w : World) (h : SlB w w.heap.size a l) :
    Calls Tryz.prog 35 #[rawV fr 5 fl st rs a l.length c] w (RpaP (⟨5, fl, st, -1, ((l.drop 4).take (l.length - 4 - 0)), [], 0, 0, false, (lowF (numF 4 l 0).1).1, 0, 0, 0⟩, (0, 0)) w) := by
  have HF : Hid (∀ W, Below w.heap.size w W → Calls Tryz.prog 56 #[rawV fr 5 fl st rs a l.length c] W (FauP (0, 0) W)) := fun W hW => by
    have := ref14_fault fr 5 fl st rs a c l h0 h1 (by omega) W (h.grow hW)
    rwa [fault_zero.1 hf] at this
  have H8 : Hid (∀ W, Calls Tryz.prog 57 #[.int .i64 5, .int .i64 fl, .int .i64 8] W fun e w' => e = .returned (.bool false) ∧ W = w') := fun W => by have := ref08_Has 5 fl 8 (by simp) h0 h1 W; rwa [e8] at this
  have H32 : Hid (∀ W, Calls Tryz.prog 57 #[.int .i64 5, .int .i64 fl, .int .i64 32] W fun e w' => e = .returned (.bool false) ∧ W = w') := fun W => by have := ref08_Has 5 fl 32 (by simp) h0 h1 W; rwa [e32] at this
  obtain ⟨b, o, rfl, hbw, -⟩ := SlR.atB h (k := 0) (by omega)
  have HN : Hid (∀ W, Below w.heap.size w W → Calls Tryz.prog 58 #[.slice (some ⟨b, o, none⟩) l.length c, .int .i64 0] W fun e w' => e = .returned (.tuple #[.int .i64 (lowF (numF 4 l 0).1).1, .bool (lowF (numF 4 l 0).1).2]) ∧ ∃ j, w' = W.more j) := fun W hW => ref14_number (some ⟨b, o, none⟩) c l 0 (by omega) hlc W (h.grow hW)
  have HD : Hid (((l.drop 4).take (l.length - 4 - 0)).length = l.length - 4) := by show _ = _; simp
  have hMk : 4 ≤ l.length := by omega
  generalize lowF (numF 4 l 0).1 = L at HN ⊢
  obtain ⟨V, vb⟩ := L
  have HSD : Hid (∀ W, Below w.heap.size w W → SlB W W.heap.size (if c = 4 then (some ⟨b, o, none⟩ : Option Addr) else some ⟨b, o + 4, none⟩) ((l.drop 4).take (l.length - 4 - 0))) := fun W hW => by
    have := SlR.take (SlR.drop_if (h.grow hW) 4 hlc) (l.length - 4 - 0)
    rw [Nat.mul_one, Option.map_some, add_at] at this
    exact this
  have i1 : (4 : Int) ≤ (l.length : Nat) := by omega
  generalize ((l.drop 4).take (l.length - 4 - 0)) = D at HD HSD ⊢
  have hDl : D.length ≤ 1048576 := by rw [HD.out]; omega
  have HDL := Lib.hid hDl
  have HLC := Lib.hid hlc
  have i2 : (l.length : Int) ≤ c := by omega
  unfold FauP at HF
  clear h h0 h1 hf hDl e8 e32
  go_enter Tryz.func35, Tryz.ntmps35
  go_wp2_with (first | (go_at_call 56; (with_reducible refine (HF.out _ bel).mono ?_); rintro e w' ⟨rfl, jf, rfl⟩) | (go_at_call 57; (with_reducible refine (H8.out _).mono ?_); rintro e w' ⟨rfl, rfl⟩) | (go_at_call 57; (with_reducible refine (H32.out _).mono ?_); rintro e w' ⟨rfl, rfl⟩) | (go_at_call 58; (with_reducible refine (HN.out _ bel).mono ?_); rintro e w' ⟨rfl, j, rfl⟩))
  refine wnm fun wz hwz => ?_
  obtain ⟨gb, hgb⟩ : ∃ gb, gb = w.heap.size + 1 + 1 + 1 + jf.heap.size + 1 := ⟨_, rfl⟩
  have HB : Hid (Below w.heap.size w wz) := by show Below _ _ _; rw [hwz]; exact bel
  have HK1 : Hid (Blk wz (w.heap.size + 1) FrmT (fmC 0 0 0 0 none 0 0 none 0 0 0 0 false 0 0 0 0)) := by show Blk _ _ _ _; rw [hwz]; exact blk
  have HK2 : Hid (Blk wz (w.heap.size + 2) FuT #[.int .i64 0, .int .i64 0]) := by show Blk _ _ _ _; rw [hwz]; exact blk
  have HKF : Hid (Blk wz gb FrmT (fmC 5 fl st (-1) none 0 0 none 0 0 0 0 false V 0 0 0)) := by show Blk _ _ _ _; rw [hwz, hgb]; exact blk
  rw [← hgb]
  have hgb2 : w.heap.size + 3 ≤ gb := by omega
  clear hwz hgb
  refine gg_start (Gp (fun q => q = gb)) (fun _ => Gp.refl _) (h := ?_)
  obtain ⟨wd, hwd⟩ : ∃ wd, wd = wz.drew := ⟨_, rfl⟩
  rw [← hwd]
  have HBD : Hid (Below w.heap.size w wd) := by show Below _ _ _; rw [hwd]; exact Below.drew HB.out
  have HD1 : Hid (Blk wd (w.heap.size + 1) FrmT (fmC 0 0 0 0 none 0 0 none 0 0 0 0 false 0 0 0 0)) := by show Blk _ _ _ _; rw [hwd]; exact HK1.out
  have HD2 : Hid (Blk wd (w.heap.size + 2) FuT #[.int .i64 0, .int .i64 0]) := by show Blk _ _ _ _; rw [hwd]; exact HK2.out
  have HDF : Hid (Blk wd gb FrmT (fmC 5 fl st (-1) none 0 0 none 0 0 0 0 false V 0 0 0)) := by show Blk _ _ _ _; rw [hwd]; exact HKF.out
  clear hwd
  have d4 : wd.cell? ⟨gb, 4, none⟩ = some (.slice none 0 0) := HDF.out.cell 4
  have dl := HDF.out.lt
  refine tk 0 ?_
  refine tk 2 ?_
  refine tk 3 ?_
  refine tk 4 ?_
  refine tk 5 ?_
  obtain ⟨SA, hSA⟩ : ∃ SA : Option Addr, SA = if c = 4 then some ⟨b, o, none⟩ else some ⟨b, o + 4, none⟩ := ⟨_, rfl⟩
  rw [← hSA] at HSD ⊢
  clear hSA
  refine gg_step (fun _ _ _ h h2 => h.trans h2) 1 (by kernel_rfl) rfl (fun K hK => ?_)
  go_simp
  go_wp2_with fail
  refine hK.out _ _ (Gp.refl _) ?_
  clear hK K
  try simp only [Act.put, nfa, nfb, nfc, nfd, List.set_cons_zero, List.set_cons_succ]
  refine gg_step (fun _ _ _ h h2 => h.trans h2) 6 (by kernel_rfl) rfl (fun K hK => ?_)
  refine step_bytes (.tmp 136) (.tmp 140) rfl rfl (B := wd.heap.size) (l := []) (m := D) (A := SA) (n := l.length - 4) (c := c - 4) rfl (OwnB.nil _ _) rfl (by first | exact HD.out | (rw [HD.out]; omega)) (HSD.out _ HBD.out) (by have := HDL.out; have := HD.out; simp; omega) (Nat.le_refl _) (fun v' w5 ho hb5 => ?_)
  refine hK.out _ _ (Gp.of_below hb5) ?_
  clear hK K
  try simp only [Act.put, nfa, nfb, nfc, nfd, List.set_cons_zero, List.set_cons_succ]
  obtain ⟨a5, c5, rfl, hc5, hs5, hn5⟩ := OwnB.full ho
  rw [List.nil_append] at hc5 hs5 ⊢
  have HB5 := Lib.hid hb5
  have HC5 := Lib.hid hc5
  have HS5 := Lib.hid hs5
  have HN5 := Lib.hid hn5
  have HF5 := Lib.hid (HDF.out.below hb5 dl)
  have x4 : w5.cell? ⟨gb, 4, none⟩ = some (.slice none 0 0) := HF5.out.cell 4
  have x4f := HF5.out.frozen 4
  have x4l := HF5.out.lt
  clear ho hb5 hc5 hs5 hn5 d4
  refine tk 7 ?_
  refine gg_step (fun _ _ _ h h2 => h.trans h2) 8 (by kernel_rfl) rfl (fun K hK => ?_)
  go_simp
  go_wp2_with fail
  obtain ⟨w6, hw6⟩ : ∃ w6, w6 = w5.setCell ⟨gb, 4, none⟩ (.slice a5 D.length c5) := ⟨_, rfl⟩
  rw [← hw6]
  have hg6 : Gp (fun q => q = gb) w5 w6 := by rw [hw6]; exact Gp.set (p := fun q => q = gb) _ rfl
  have HF6 : Hid (Blk w6 gb FrmT (fmC 5 fl st (-1) a5 D.length c5 none 0 0 0 0 false V 0 0 0)) := by show Blk _ _ _ _; rw [hw6]; exact HF5.out.set_ 4 _
  refine hK.out _ _ hg6 ?_
  have HG6 := Lib.hid hg6
  clear hK K hw6 hg6 x4 x4f x4l
  try simp only [Act.put, nfa, nfb, nfc, nfd, List.set_cons_zero, List.set_cons_succ]
  refine wpAnyH_done (by kernel_rfl) ?_ _
  go_wp2_with (first | (refine wpList_load_row rfl FrmT _ rfl gb rfl FrmT _ (0, 0) _ HF6.out Tryz.underlying53 rfl (by kernel_rfl) ?_) | (refine wpList_store_row rfl FrmT _ _ rfl (w.heap.size + 1) _ rfl rfl FrmT _ (HG6.out.blk (HD1.out.below HB5.out HD1.out.lt) (by omega)) (by kernel_rfl) rfl fm_one ?_) | (refine wpList_store_row rfl FuT _ _ rfl (w.heap.size + 2) _ rfl rfl FuT _ ((gp_row _ _ _).blk (HG6.out.blk (HD2.out.below HB5.out HD2.out.lt) (by omega)) (by omega)) (by kernel_rfl) rfl fu_one ?_))
  have hgg : Gp (fun q => q = w.heap.size + 1 ∨ q = w.heap.size + 2 ∨ q = gb) w5 _ := ((HG6.out.imp (fun k hk => .inr (.inr hk))).trans ((gp_row w6 (w.heap.size + 1) (fmC 5 fl st (-1) a5 D.length c5 none 0 0 0 0 false V 0 0 0)).imp (fun k hk => .inl hk))).trans ((gp_row _ (w.heap.size + 2) #[.int .i64 0, .int .i64 0]).imp (fun k hk => .inr (.inl hk)))
  refine bodyPost_ret (res_cell2 rfl st_Fm rfl ((gp_row _ (w.heap.size + 2) _).blk (blk_row (HG6.out.blk (HD1.out.below HB5.out HD1.out.lt) (by omega)) _) (by omega)) rfl st_Fu rfl (blk_row ((gp_row _ (w.heap.size + 1) _).blk (HG6.out.blk (HD2.out.below HB5.out HD2.out.lt) (by omega)) (by omega)) _) rfl) rfl ⟨_, rfl, ⟨a5, c5, none, 0, rfl, SlR.gpN (N := wd.heap.size) HS5.out HN5.out (fun k hk => by have := HD2.out.lt; omega) hgg, HC5.out, fun p hp => by have := HN5.out p hp; have := HBD.out.size; omega, .nil, Nat.le_refl _, fun p hp => by cases hp⟩, ?_⟩
  exact (HBD.out.trans (HB5.out.mono HBD.out.size)).trans (hgg.below (fun q hq => by omega) (Nat.le_trans HBD.out.size HB5.out.size))
end Go.Proofs.YtjhhdgmhocpceaaGreatDoor
/-
  The document's frame, where it has no fault: a promise with a pad (type 5).
-/
namespace Go.Proofs.YtjhhdgmhocpceaaGreatDoor
set_option linter.unusedSimpArgs false
set_option linter.unusedVariables false
set_option linter.unusedSectionVars false
open Go.ChangeShapes Go.WideShapes Go.ChangeAt Go.RowKit Go.Deep Go.Shelf

set_option maxHeartbeats 4000000 in
set_option maxRecDepth 100000 in
theorem ref14_Parse_5p (fr fl st : Int) (rs : Bool) (a : Option Addr) (c : Nat) (l : List UInt8) (h0 : 0 ≤ fl) (h1 : fl ≤ 255) (hl : l.length ≤ 1048576) (hlc : l.length ≤ c) (hf : (faultF 5 fl st l).1 = 0)
    (e8 : hasF 5 fl 8 = true) (e32 : hasF 5 fl 32 = false) (hk : (l.headD 0).toNat + 5 ≤ l.length) (w : World) (h : SlB w w.heap.size a l) :
    Calls Tryz.prog 35 #[rawV fr 5 fl st rs a l.length c] w (RpaP (⟨5, fl, st, ((l.headD 0).toNat : Int), ((l.drop 5).take (l.length - 5 - (l.headD 0).toNat)), [], 0, 0, false, (lowF (numF 4 l 1).1).1, 0, 0, 0⟩, (0, 0)) w) := by
  have HF : Hid (∀ W, Below w.heap.size w W → Calls Tryz.prog 56 #[rawV fr 5 fl st rs a l.length c] W (FauP (0, 0) W)) := fun W hW => by
    have := ref14_fault fr 5 fl st rs a c l h0 h1 (by omega) W (h.grow hW)
    rwa [fault_zero.1 hf] at this
  have H8 : Hid (∀ W, Calls Tryz.prog 57 #[.int .i64 5, .int .i64 fl, .int .i64 8] W fun e w' => e = .returned (.bool true) ∧ W = w') := fun W => by have := ref08_Has 5 fl 8 (by simp) h0 h1 W; rwa [e8] at this
  have H32 : Hid (∀ W, Calls Tryz.prog 57 #[.int .i64 5, .int .i64 fl, .int .i64 32] W fun e w' => e = .returned (.bool false) ∧ W = w') := fun W => by have := ref08_Has 5 fl 32 (by simp) h0 h1 W; rwa [e32] at this
  obtain ⟨b, o, rfl, hbw, -⟩ := SlR.atB h (k := 0) (by omega)
  have HN : Hid (∀ W, Below w.heap.size w W → Calls Tryz.prog 58 #[.slice (some ⟨b, o, none⟩) l.length c, .int .i64 1] W fun e w' => e = .returned (.tuple #[.int .i64 (lowF (numF 4 l 1).1).1, .bool (lowF (numF 4 l 1).1).2]) ∧ ∃ j, w' = W.more j) := fun W hW => ref14_number (some ⟨b, o, none⟩) c l 1 (by omega) hlc W (h.grow hW)
  have hc0 := slb_byte h (k := 0) (by omega)
  rw [getD_zero, Nat.add_zero] at hc0
  have hy0 := (u8_le (l.headD 0))
  generalize (l.headD 0).toNat = x at hc0 hy0 hk ⊢
  obtain ⟨M, hM⟩ : ∃ M, M = l.length - x := ⟨_, rfl⟩
  have hMi : (l.length : Int) - (x : Int) = (M : Int) := by omega
  have HD : Hid (((l.drop 5).take (l.length - 5 - x)).length = M - 5) := by show _ = _; simp; omega
  have hMl : M ≤ l.length := by omega
  have hMk : 5 ≤ M := by omega
  have hMc : M ≤ c := by omega
  have HMM : Hid (l.length = M + x) := by show _ = _; omega
  clear hM
  generalize lowF (numF 4 l 1).1 = L at HN ⊢
  obtain ⟨V, vb⟩ := L
  have HSD : Hid (∀ W, Below w.heap.size w W → SlB W W.heap.size (if c = 5 then (some ⟨b, o, none⟩ : Option Addr) else some ⟨b, o + 5, none⟩) ((l.drop 5).take (l.length - 5 - x))) := fun W hW => by
    have := SlR.take (SlR.drop_if (h.grow hW) 5 hlc) (l.length - 5 - x)
    rw [Nat.mul_one, Option.map_some, add_at] at this
    exact this
  have i1 : (5 : Int) ≤ (M : Nat) := by omega
  generalize ((l.drop 5).take (l.length - 5 - x)) = D at HD HSD ⊢
  have hDl : D.length ≤ 1048576 := by rw [HD.out]; omega
  have HDL := Lib.hid hDl
  have HLC := Lib.hid hlc
  have i2 : (l.length : Int) ≤ c := by omega
  unfold FauP at HF
  clear h h0 h1 hf hDl e8 e32
  go_enter Tryz.func35, Tryz.ntmps35
  go_wp2_with (first | (go_at_call 56; (with_reducible refine (HF.out _ bel).mono ?_); rintro e w' ⟨rfl, jf, rfl⟩) | (go_at_call 57; (with_reducible refine (H8.out _).mono ?_); rintro e w' ⟨rfl, rfl⟩) | (go_at_call 57; (with_reducible refine (H32.out _).mono ?_); rintro e w' ⟨rfl, rfl⟩) | (go_at_call 58; (with_reducible refine (HN.out _ bel).mono ?_); rintro e w' ⟨rfl, j, rfl⟩))
  refine wnm fun wz hwz => ?_
  obtain ⟨gb, hgb⟩ : ∃ gb, gb = w.heap.size + 1 + 1 + 1 + jf.heap.size + 1 := ⟨_, rfl⟩
  have HB : Hid (Below w.heap.size w wz) := by show Below _ _ _; rw [hwz]; exact bel
  have HK1 : Hid (Blk wz (w.heap.size + 1) FrmT (fmC 0 0 0 0 none 0 0 none 0 0 0 0 false 0 0 0 0)) := by show Blk _ _ _ _; rw [hwz]; exact blk
  have HK2 : Hid (Blk wz (w.heap.size + 2) FuT #[.int .i64 0, .int .i64 0]) := by show Blk _ _ _ _; rw [hwz]; exact blk
  have HKF : Hid (Blk wz gb FrmT (fmC 5 fl st ((x : Int)) none 0 0 none 0 0 0 0 false V 0 0 0)) := by show Blk _ _ _ _; rw [hwz, hgb]; exact blk
  rw [← hgb]
  have hgb2 : w.heap.size + 3 ≤ gb := by omega
  clear hwz hgb
  refine gg_start (Gp (fun q => q = gb)) (fun _ => Gp.refl _) (h := ?_)
  obtain ⟨wd, hwd⟩ : ∃ wd, wd = wz.drew := ⟨_, rfl⟩
  rw [← hwd]
  have HBD : Hid (Below w.heap.size w wd) := by show Below _ _ _; rw [hwd]; exact Below.drew HB.out
  have HD1 : Hid (Blk wd (w.heap.size + 1) FrmT (fmC 0 0 0 0 none 0 0 none 0 0 0 0 false 0 0 0 0)) := by show Blk _ _ _ _; rw [hwd]; exact HK1.out
  have HD2 : Hid (Blk wd (w.heap.size + 2) FuT #[.int .i64 0, .int .i64 0]) := by show Blk _ _ _ _; rw [hwd]; exact HK2.out
  have HDF : Hid (Blk wd gb FrmT (fmC 5 fl st ((x : Int)) none 0 0 none 0 0 0 0 false V 0 0 0)) := by show Blk _ _ _ _; rw [hwd]; exact HKF.out
  clear hwd
  have d4 : wd.cell? ⟨gb, 4, none⟩ = some (.slice none 0 0) := HDF.out.cell 4
  have dl := HDF.out.lt
  refine tk 0 ?_
  refine tk 2 ?_
  refine tk 3 ?_
  refine tk 4 ?_
  refine tk 5 ?_
  obtain ⟨SA, hSA⟩ : ∃ SA : Option Addr, SA = if c = 5 then some ⟨b, o, none⟩ else some ⟨b, o + 5, none⟩ := ⟨_, rfl⟩
  rw [← hSA] at HSD ⊢
  clear hSA
  refine gg_step (fun _ _ _ h h2 => h.trans h2) 1 (by kernel_rfl) rfl (fun K hK => ?_)
  go_simp
  go_wp2_with fail
  refine hK.out _ _ (Gp.refl _) ?_
  clear hK K
  try simp only [Act.put, nfa, nfb, nfc, nfd, List.set_cons_zero, List.set_cons_succ]
  refine gg_step (fun _ _ _ h h2 => h.trans h2) 6 (by kernel_rfl) rfl (fun K hK => ?_)
  refine step_bytes (.tmp 136) (.tmp 140) rfl rfl (B := wd.heap.size) (l := []) (m := D) (A := SA) (n := M - 5) (c := c - 5) rfl (OwnB.nil _ _) rfl (by first | exact HD.out | (rw [HD.out]; omega)) (HSD.out _ HBD.out) (by have := HDL.out; have := HD.out; simp; omega) (Nat.le_refl _) (fun v' w5 ho hb5 => ?_)
  refine hK.out _ _ (Gp.of_below hb5) ?_
  clear hK K
  try simp only [Act.put, nfa, nfb, nfc, nfd, List.set_cons_zero, List.set_cons_succ]
  obtain ⟨a5, c5, rfl, hc5, hs5, hn5⟩ := OwnB.full ho
  rw [List.nil_append] at hc5 hs5 ⊢
  have HB5 := Lib.hid hb5
  have HC5 := Lib.hid hc5
  have HS5 := Lib.hid hs5
  have HN5 := Lib.hid hn5
  have HF5 := Lib.hid (HDF.out.below hb5 dl)
  have x4 : w5.cell? ⟨gb, 4, none⟩ = some (.slice none 0 0) := HF5.out.cell 4
  have x4f := HF5.out.frozen 4
  have x4l := HF5.out.lt
  clear ho hb5 hc5 hs5 hn5 d4
  refine tk 7 ?_
  refine gg_step (fun _ _ _ h h2 => h.trans h2) 8 (by kernel_rfl) rfl (fun K hK => ?_)
  go_simp
  go_wp2_with fail
  obtain ⟨w6, hw6⟩ : ∃ w6, w6 = w5.setCell ⟨gb, 4, none⟩ (.slice a5 D.length c5) := ⟨_, rfl⟩
  rw [← hw6]
  have hg6 : Gp (fun q => q = gb) w5 w6 := by rw [hw6]; exact Gp.set (p := fun q => q = gb) _ rfl
  have HF6 : Hid (Blk w6 gb FrmT (fmC 5 fl st ((x : Int)) a5 D.length c5 none 0 0 0 0 false V 0 0 0)) := by show Blk _ _ _ _; rw [hw6]; exact HF5.out.set_ 4 _
  refine hK.out _ _ hg6 ?_
  have HG6 := Lib.hid hg6
  clear hK K hw6 hg6 x4 x4f x4l
  try simp only [Act.put, nfa, nfb, nfc, nfd, List.set_cons_zero, List.set_cons_succ]
  refine wpAnyH_done (by kernel_rfl) ?_ _
  go_wp2_with (first | (refine wpList_load_row rfl FrmT _ rfl gb rfl FrmT _ (0, 0) _ HF6.out Tryz.underlying53 rfl (by kernel_rfl) ?_) | (refine wpList_store_row rfl FrmT _ _ rfl (w.heap.size + 1) _ rfl rfl FrmT _ (HG6.out.blk (HD1.out.below HB5.out HD1.out.lt) (by omega)) (by kernel_rfl) rfl fm_one ?_) | (refine wpList_store_row rfl FuT _ _ rfl (w.heap.size + 2) _ rfl rfl FuT _ ((gp_row _ _ _).blk (HG6.out.blk (HD2.out.below HB5.out HD2.out.lt) (by omega)) (by omega)) (by kernel_rfl) rfl fu_one ?_))
  have hgg : Gp (fun q => q = w.heap.size + 1 ∨ q = w.heap.size + 2 ∨ q = gb) w5 _ := ((HG6.out.imp (fun k hk => .inr (.inr hk))).trans ((gp_row w6 (w.heap.size + 1) (fmC 5 fl st ((x : Int)) a5 D.length c5 none 0 0 0 0 false V 0 0 0)).imp (fun k hk => .inl hk))).trans ((gp_row _ (w.heap.size + 2) #[.int .i64 0, .int .i64 0]).imp (fun k hk => .inr (.inl hk)))
  refine bodyPost_ret (res_cell2 rfl st_Fm rfl ((gp_row _ (w.heap.size + 2) _).blk (blk_row (HG6.out.blk (HD1.out.below HB5.out HD1.out.lt) (by omega)) _) (by omega)) rfl st_Fu rfl (blk_row ((gp_row _ (w.heap.size + 1) _).blk (HG6.out.blk (HD2.out.below HB5.out HD2.out.lt) (by omega)) (by omega)) _) rfl) rfl ⟨_, rfl, ⟨a5, c5, none, 0, rfl, SlR.gpN (N := wd.heap.size) HS5.out HN5.out (fun k hk => by have := HD2.out.lt; omega) hgg, HC5.out, fun p hp => by have := HN5.out p hp; have := HBD.out.size; omega, .nil, Nat.le_refl _, fun p hp => by cases hp⟩, ?_⟩
  exact (HBD.out.trans (HB5.out.mono HBD.out.size)).trans (hgg.below (fun q hq => by omega) (Nat.le_trans HBD.out.size HB5.out.size))
end Go.Proofs.YtjhhdgmhocpceaaGreatDoor
/-
  The document's frame, where it has no fault: settings.
-/
namespace Go.Proofs.YtjhhdgmhocpceaaGreatDoor
set_option linter.unusedSimpArgs false
set_option linter.unusedVariables false
set_option linter.unusedSectionVars false
open Go.ChangeShapes Go.WideShapes Go.ChangeAt Go.RowKit Go.Deep Go.Shelf

set_option maxHeartbeats 4000000 in
set_option maxRecDepth 100000 in
theorem ref14_Parse_4 (fr fl st : Int) (rs : Bool) (a : Option Addr) (c : Nat) (l : List UInt8) (h0 : 0 ≤ fl) (h1 : fl ≤ 255) (hl : l.length ≤ 1048576) (hlc : l.length ≤ c) (hf : (faultF 4 fl st l).1 = 0) (h6 : l.length % 6 = 0) (w : World) (h : SlB w w.heap.size a l) :
    Calls Tryz.prog 35 #[rawV fr 4 fl st rs a l.length c] w (RpaP (⟨4, fl, st, -1, [], setsF l, 0, 0, false, 0, 0, 0, 0⟩, (0, 0)) w) := by
  have HF : Hid (∀ W, Below w.heap.size w W → Calls Tryz.prog 56 #[rawV fr 4 fl st rs a l.length c] W (FauP (0, 0) W)) := fun W hW => by
    have := ref14_fault fr 4 fl st rs a c l h0 h1 (by omega) W (h.grow hW)
    rwa [fault_zero.1 hf] at this
  have H8 : Hid (∀ W, Calls Tryz.prog 57 #[.int .i64 4, .int .i64 fl, .int .i64 8] W fun e w' => e = .returned (.bool false) ∧ W = w') := fun W => by have := ref08_Has 4 fl 8 (by simp) h0 h1 W; rwa [no8 (by omega)] at this
  have H32 : Hid (∀ W, Calls Tryz.prog 57 #[.int .i64 4, .int .i64 fl, .int .i64 32] W fun e w' => e = .returned (.bool false) ∧ W = w') := fun W => by have := ref08_Has 4 fl 32 (by simp) h0 h1 W; rwa [no32 (by omega)] at this
  have HC : Hid (∀ W, Below w.heap.size w W → Calls Tryz.prog 60 #[.slice a l.length c] W (StqP W.heap.size l W)) := fun W hW => ref13_Parse a c l W (h.grow hW) hlc h6 hl
  unfold FauP at HF
  clear h h0 h1 hf
  go_enter Tryz.func35, Tryz.ntmps35
  go_wp2_with (first | (go_at_call 56; (with_reducible refine (HF.out _ bel).mono ?_); rintro e w' ⟨rfl, j, rfl⟩) | (go_at_call 57; (with_reducible refine (H8.out _).mono ?_); rintro e w' ⟨rfl, rfl⟩) | (go_at_call 57; (with_reducible refine (H32.out _).mono ?_); rintro e w' ⟨rfl, rfl⟩))
  refine cnm fun wz hwz => ?_
  obtain ⟨gb, hgb⟩ : ∃ gb, gb = w.heap.size + 1 + 1 + 1 + j.heap.size + 1 := ⟨_, rfl⟩
  have HB : Hid (Below w.heap.size w wz) := by show Below _ _ _; rw [hwz]; exact bel
  have HK1 : Hid (Blk wz (w.heap.size + 1) FrmT (fmC 0 0 0 0 none 0 0 none 0 0 0 0 false 0 0 0 0)) := by show Blk _ _ _ _; rw [hwz]; exact blk
  have HK2 : Hid (Blk wz (w.heap.size + 2) FuT #[.int .i64 0, .int .i64 0]) := by show Blk _ _ _ _; rw [hwz]; exact blk
  have HKF : Hid (Blk wz gb FrmT (fmC 4 fl st (-1) none 0 0 none 0 0 0 0 false 0 0 0 0)) := by show Blk _ _ _ _; rw [hwz, hgb]; exact blk
  rw [← hgb]
  have hgb2 : w.heap.size + 3 ≤ gb := by omega
  clear hwz hgb
  refine (HC.out wz HB.out).mono ?_
  rintro e w5 ⟨a5, c5, rfl, hc5, hs5, hn5, hb5⟩
  have HB5 := Lib.hid hb5
  have HC5 := Lib.hid hc5
  have HS5 := Lib.hid hs5
  have HN5 := Lib.hid hn5
  have HF5 := Lib.hid (HKF.out.below hb5 HKF.out.lt)
  have HD1 := Lib.hid (HK1.out.below hb5 HK1.out.lt)
  have HD2 := Lib.hid (HK2.out.below hb5 HK2.out.lt)
  have x5 : w5.cell? ⟨gb, 5, none⟩ = some (.slice none 0 0) := HF5.out.cell 5
  have x5f := HF5.out.frozen 5
  have x5l := HF5.out.lt
  have zl := HKF.out.lt
  clear hb5 hc5 hs5 hn5
  go_wp2_with (first | (refine wpList_load_row rfl FrmT _ rfl gb rfl FrmT _ (0, 0) _ (HF5.out.set_ 5 _) Tryz.underlying53 rfl (by kernel_rfl) ?_) | (refine wpList_store_row rfl FrmT _ _ rfl (w.heap.size + 1) _ rfl rfl FrmT _ (HD1.out.far (p := ⟨gb, 5, none⟩) (by simp; omega) _) (by kernel_rfl) rfl fm_one ?_) | (refine wpList_store_row rfl FuT _ _ rfl (w.heap.size + 2) _ rfl rfl FuT _ ((gp_row _ _ _).blk (HD2.out.far (p := ⟨gb, 5, none⟩) (by simp; omega) _) (by omega)) (by kernel_rfl) rfl fu_one ?_))
  have hgg : Gp (fun q => q = w.heap.size + 1 ∨ q = w.heap.size + 2 ∨ q = gb) w5 _ := (((Gp.set (p := fun q => q = gb) (w := w5) (g := gb) (o := 5) (.slice a5 (setsF l).length c5) rfl).imp (fun k hk => .inr (.inr hk))).trans ((gp_row _ (w.heap.size + 1) (fmC 4 fl st (-1) none 0 0 a5 (setsF l).length c5 0 0 false 0 0 0 0)).imp (fun k hk => .inl hk))).trans ((gp_row _ (w.heap.size + 2) #[.int .i64 0, .int .i64 0]).imp (fun k hk => .inr (.inl hk)))
  refine bodyPost_ret (res_cell2 rfl st_Fm rfl ((gp_row _ (w.heap.size + 2) _).blk (blk_row (HD1.out.far (p := ⟨gb, 5, none⟩) (by simp; omega) _) _) (by omega)) rfl st_Fu rfl (blk_row ((gp_row _ (w.heap.size + 1) _).blk (HD2.out.far (p := ⟨gb, 5, none⟩) (by simp; omega) _) (by omega)) _) rfl) rfl ⟨_, rfl, ⟨none, 0, a5, c5, rfl, .nil, Nat.le_refl _, (fun p hp => by cases hp), SlR.gpN (N := wz.heap.size) HS5.out HN5.out (fun k hk => by omega) hgg, HC5.out, fun p hp => by have := HN5.out p hp; have := HB.out.size; omega⟩, ?_⟩
  exact (HB.out.trans (HB5.out.mono HB.out.size)).trans (hgg.below (fun q hq => by omega) (Nat.le_trans HB.out.size HB5.out.size))
end Go.Proofs.YtjhhdgmhocpceaaGreatDoor
/-
  The document's frame, whole: Parse is parseF0.
-/
namespace Go.Proofs.YtjhhdgmhocpceaaGreatDoor
set_option linter.unusedSimpArgs false
set_option linter.unusedVariables false
set_option linter.unusedSectionVars false
open Go.ChangeShapes Go.WideShapes Go.ChangeAt Go.RowKit Go.Deep Go.Shelf

theorem fault_ok {ty fl st : Int} {l : List UInt8} (h : (faultF ty fl st l).1 = 0) : strOk ty st = true ∧ lenOk ty fl l.length = true ∧ aheadF ty fl ≤ l.length ∧ (hasF ty fl 8 = true → (l.headD 0).toNat + aheadF ty fl ≤ l.length) := by
  unfold faultF at h
  split at h
  · simp at h
  · rename_i h1
    split at h
    · split at h <;> simp at h
    · rename_i h2
      split at h
      · split at h <;> simp at h
      · rename_i h3
        split at h
        · simp at h
        · rename_i h4
          refine ⟨by cases he : strOk ty st <;> simp_all, by cases he : lenOk ty fl l.length <;> simp_all, by omega, fun e => ?_⟩
          have : ¬ l.length < (l.headD 0).toNat + aheadF ty fl := fun e2 => h4 ⟨e, e2⟩
          omega
theorem parse_ok {ty fl st : Int} {l : List UInt8} (h1 : strOk ty st = true) (h2 : lenOk ty fl l.length = true) : parseF0 ty fl st l = insF ty fl st l := by
  unfold parseF0
  rw [if_neg (by rw [h1]; simp), if_neg (by rw [h2]; simp)]
theorem num1_at {l : List UInt8} {k : Nat} (h : k < l.length) : (numF 1 l k).1 = ((l.getD k 0).toNat : Int) := by
  unfold numF
  rw [getF_in (by simp; omega), List.getD_eq_getElem?_getD, List.getElem?_eq_getElem h, List.drop_eq_getElem_cons h]
  simp only [List.take_succ_cons, List.take_zero, Option.getD_some]
  simp [beN]
/-- Inside, where nothing is wrong. -/
theorem ins_ok {ty fl st : Int} {l : List UInt8} (h4 : ¬ ty = 4) (m : Nm) (pad : Int) (hm : padN ty fl l = (m, pad)) (hs : m.sh = false) (hp : ¬ pad > ((l.length - m.n : Nat) : Int)) :
    insF ty fl st l = (⟨ty, fl, st, pad, (l.drop m.n).take (l.length - m.n - pad.toNat), [], m.wt, m.pa, m.al, m.pr, m.la, m.co, m.sp⟩, (0, 0)) := by
  unfold insF
  simp only [hm, hs, Bool.false_eq_true, if_false, if_neg hp, if_neg h4]
theorem has32_one {ty fl : Int} (h : ¬ ty = 1) : ¬ (ty = 1 ∧ hasF 1 fl 32 = true) := fun e => h e.1
theorem pad_no {ty fl : Int} {l : List UInt8} (h : hasF ty fl 8 = false) : padN ty fl l = (numsF ty fl l 0 false, -1) := by unfold padN; simp [h]
theorem pad_yes {ty fl : Int} {l : List UInt8} (h : hasF ty fl 8 = true) (hl : 1 ≤ l.length) : padN ty fl l = (numsF ty fl l 1 false, ((l.headD 0).toNat : Int)) := by
  unfold padN
  simp only [h, if_true]
  rw [nxtN_in (by omega), nxtS_in (by omega), num1_head hl]
theorem two4 {l : List UInt8} {n : Nat} (h : n + 4 ≤ l.length) : nxtN 4 l n = n + 4 ∧ ∀ sh, nxtS 4 l n sh = sh := ⟨nxtN_in h, fun _ => nxtS_in h⟩
theorem nums_wei {ty fl : Int} {l : List UInt8} {n : Nat} (hc : ty = 1 ∧ hasF 1 fl 32 = true ∨ ty = 2) (h : n + 5 ≤ l.length) : numsF ty fl l n false = ⟨((l.getD (n + 4) 0).toNat : Int), (lowF (numF 4 l n).1).1, (lowF (numF 4 l n).1).2, 0, 0, 0, 0, n + 5, false⟩ := by
  unfold numsF
  rw [if_pos hc]
  unfold weiF
  rw [nxtN_in (k := 4) (by omega), nxtS_in (k := 4) (by omega), nxtN_in (k := 1) (by omega), nxtS_in (k := 1) (by omega), num1_at (by omega)]
theorem nums_5 {fl : Int} {l : List UInt8} {n : Nat} (h : n + 4 ≤ l.length) : numsF 5 fl l n false = ⟨0, 0, false, (lowF (numF 4 l n).1).1, 0, 0, 0, n + 4, false⟩ := by
  unfold numsF
  rw [if_neg (by simp), if_neg (by decide), if_pos rfl, nxtN_in h, nxtS_in h]
theorem nums_7 {fl : Int} {l : List UInt8} (h : 8 ≤ l.length) : numsF 7 fl l 0 false = ⟨0, 0, false, 0, (lowF (numF 4 l 0).1).1, (numF 4 l 4).1, 0, 8, false⟩ := by
  unfold numsF
  rw [if_neg (by simp), if_neg (by decide), if_neg (by decide), if_pos rfl, nxtN_in (n := 0) (by omega), nxtS_in (n := 0) (by omega), nxtN_in (by omega), nxtS_in (by omega)]
theorem nums_3 {fl : Int} {l : List UInt8} (h : 4 ≤ l.length) : numsF 3 fl l 0 false = ⟨0, 0, false, 0, 0, (numF 4 l 0).1, 0, 4, false⟩ := by
  unfold numsF
  rw [if_neg (by simp), if_pos rfl, nxtN_in (by omega), nxtS_in (by omega)]
theorem nums_8 {fl : Int} {l : List UInt8} (h : 4 ≤ l.length) : numsF 8 fl l 0 false = ⟨0, 0, false, 0, 0, 0, (lowF (numF 4 l 0).1).1, 4, false⟩ := by
  unfold numsF
  rw [if_neg (by simp), if_neg (by decide), if_neg (by decide), if_neg (by decide), if_pos rfl, nxtN_in (by omega), nxtS_in (by omega)]
theorem nums_0 {ty fl : Int} {l : List UInt8} {n : Nat} (h1 : ¬ (ty = 1 ∧ hasF 1 fl 32 = true)) (g2 : ¬ ty = 2) (g3 : ¬ ty = 3) (g5 : ¬ ty = 5) (g7 : ¬ ty = 7) (g8 : ¬ ty = 8) : numsF ty fl l n false = ⟨0, 0, false, 0, 0, 0, 0, n, false⟩ := by
  unfold numsF
  rw [if_neg (by simp [h1, g2]), if_neg g3, if_neg g5, if_neg g7, if_neg g8]
theorem ahead_ge {ty fl : Int} {l : List UInt8} (h : aheadF ty fl ≤ l.length) : (hasF ty fl 8 = true → 1 ≤ l.length) := fun e => by
  have : 1 ≤ aheadF ty fl := by unfold aheadF; rw [if_pos e]; omega
  omega
theorem ref14_Parse (fr ty fl st : Int) (rs : Bool) (a : Option Addr) (c : Nat) (l : List UInt8) (h0 : 0 ≤ fl) (h1 : fl ≤ 255) (hl : l.length ≤ 1048576) (hlc : l.length ≤ c) (w : World) (h : SlB w w.heap.size a l) :
    Calls Tryz.prog 35 #[rawV fr ty fl st rs a l.length c] w (RpaP (parseF0 ty fl st l) w) := by
  by_cases hf : (faultF ty fl st l).1 = 0
  case neg => exact ref14_Parse_bad fr ty fl st rs a c l h0 h1 hl hf w h
  obtain ⟨f1, f2, f3, f4⟩ := fault_ok hf
  rw [parse_ok f1 f2]
  have hfix := len_fix f2
  by_cases g4 : ty = 4
  · subst g4
    have h6 : l.length % 6 = 0 := by
      unfold lenOk at f2
      simp at f2
      split at f2
      · rw [f2]; rfl
      · exact f2
    have e8 : hasF 4 fl 8 = false := no8 (by omega)
    have := ref14_Parse_4 fr fl st rs a c l h0 h1 hl hlc hf h6 w h
    have hi : insF 4 fl st l = (⟨4, fl, st, -1, [], setsF l, 0, 0, false, 0, 0, 0, 0⟩, (0, 0)) := by
      unfold insF
      simp only [pad_no e8, nums_0 (ty := 4) (fl := fl) (l := l) (n := 0) (by simp) (by decide) (by decide) (by decide) (by decide) (by decide), Bool.false_eq_true, if_false]
      rw [if_neg (by omega), if_pos trivial]
    rwa [hi]
  by_cases g3 : ty = 3
  · subst g3
    have h4 : 4 ≤ l.length := hfix
    have h4' : l.length = 4 := by unfold lenOk at f2; simpa using f2
    have e8 : hasF 3 fl 8 = false := no8 (by omega)
    have := ref14_Parse_3 fr fl st rs a c l h0 h1 hl hlc hf h4 w h
    rw [ins_ok (by decide) _ _ ((pad_no e8).trans (by rw [nums_3 h4])) rfl (by simp only; omega)]
    have hd : (l.drop 4).take (l.length - 4 - (-1 : Int).toNat) = [] := by rw [h4']; rfl
    simp only [hd]
    exact this
  by_cases g8 : ty = 8
  · subst g8
    have h4 : 4 ≤ l.length := hfix
    have h4' : l.length = 4 := by unfold lenOk at f2; simpa using f2
    have e8 : hasF 8 fl 8 = false := no8 (by omega)
    have := ref14_Parse_8 fr fl st rs a c l h0 h1 hl hlc hf h4 w h
    rw [ins_ok (by decide) _ _ ((pad_no e8).trans (by rw [nums_8 h4])) rfl (by simp only; omega)]
    have hd : (l.drop 4).take (l.length - 4 - (-1 : Int).toNat) = [] := by rw [h4']; rfl
    simp only [hd]
    exact this
  by_cases g7 : ty = 7
  · subst g7
    have h8 : 8 ≤ l.length := hfix
    have e8 : hasF 7 fl 8 = false := no8 (by omega)
    have := ref14_Parse_7 fr fl st rs a c l h0 h1 hl hlc hf e8 (no32 (by omega)) h8 w h
    rw [ins_ok (by decide) _ _ ((pad_no e8).trans (by rw [nums_7 h8])) rfl (by simp only; omega)]
    exact this
  by_cases g2 : ty = 2
  · subst g2
    have h5 : 5 ≤ l.length := hfix
    have e8 : hasF 2 fl 8 = false := no8 (by omega)
    have := ref14_Parse_2 fr fl st rs a c l h0 h1 hl hlc hf e8 h5 w h
    rw [ins_ok (by decide) _ _ ((pad_no e8).trans (by rw [nums_wei (.inr rfl) h5])) rfl (by simp only; omega)]
    exact this
  by_cases g5 : ty = 5
  · subst g5
    have hn := no32 (ty := 5) (fl := fl) (by decide)
    cases e8 : hasF 5 fl 8 with
    | false =>
      have ha : aheadF 5 fl = 4 := by unfold aheadF; rw [e8, hn]; rfl
      rw [ha] at f3
      have := ref14_Parse_5 fr fl st rs a c l h0 h1 hl hlc hf e8 hn f3 w h
      rw [ins_ok (by decide) _ _ ((pad_no e8).trans (by rw [nums_5 f3])) rfl (by simp only; omega)]
      exact this
    | true =>
      have ha : aheadF 5 fl = 5 := by unfold aheadF; rw [e8, hn]; rfl
      have f4 := f4 e8
      rw [ha] at f3 f4
      have := ref14_Parse_5p fr fl st rs a c l h0 h1 hl hlc hf e8 hn f4 w h
      rw [ins_ok (by decide) _ _ ((pad_yes e8 (by omega)).trans (by rw [nums_5 (n := 1) (by omega)])) rfl (by simp only; omega)]
      exact this
  by_cases g1 : ty = 1
  · subst g1
    cases e8 : hasF 1 fl 8 with
    | false =>
      cases e32 : hasF 1 fl 32 with
      | false =>
        have := ref14_Parse_plain fr 1 fl st rs a c l h0 h1 hl hlc hf e8 e32 g2 g3 g4 g5 g7 g8 w h
        rw [ins_ok (by decide) _ _ ((pad_no e8).trans (by rw [nums_0 (by simp [e32]) g2 g3 g5 g7 g8])) rfl (by simp only; omega)]
        have hd : (l.drop 0).take (l.length - 0 - (-1 : Int).toNat) = l := by simp
        simp only [hd]
        exact this
      | true =>
        have ha : aheadF 1 fl = 5 := by unfold aheadF; rw [e8, e32]; rfl
        rw [ha] at f3
        have := ref14_Parse_1w fr fl st rs a c l h0 h1 hl hlc hf e8 e32 f3 w h
        rw [ins_ok (by decide) _ _ ((pad_no e8).trans (by rw [nums_wei (.inl ⟨rfl, e32⟩) f3])) rfl (by simp only; omega)]
        exact this
    | true =>
      cases e32 : hasF 1 fl 32 with
      | false =>
        have ha : aheadF 1 fl = 1 := by unfold aheadF; rw [e8, e32]; rfl
        have f4 := f4 e8
        rw [ha] at f3 f4
        have := ref14_Parse_pad fr 1 fl st rs a c l h0 h1 hl hlc hf g2 g3 g4 g5 g7 g8 e8 e32 f4 w h
        rw [ins_ok (by decide) _ _ ((pad_yes e8 f3).trans (by rw [nums_0 (by simp [e32]) g2 g3 g5 g7 g8])) rfl (by simp only; omega)]
        exact this
      | true =>
        have ha : aheadF 1 fl = 6 := by unfold aheadF; rw [e8, e32]; rfl
        have f4 := f4 e8
        rw [ha] at f3 f4
        have := ref14_Parse_1pw fr fl st rs a c l h0 h1 hl hlc hf e8 e32 f4 w h
        rw [ins_ok (by decide) _ _ ((pad_yes e8 (by omega)).trans (by rw [nums_wei (n := 1) (.inl ⟨rfl, e32⟩) (by omega)])) rfl (by simp only; omega)]
        exact this
  have hn := no32 (ty := ty) (fl := fl) g1
  have n1 : ¬ (ty = 1 ∧ hasF 1 fl 32 = true) := fun e => g1 e.1
  cases e8 : hasF ty fl 8 with
  | false =>
    have := ref14_Parse_plain fr ty fl st rs a c l h0 h1 hl hlc hf e8 hn g2 g3 g4 g5 g7 g8 w h
    rw [ins_ok g4 _ _ ((pad_no e8).trans (by rw [nums_0 n1 g2 g3 g5 g7 g8])) rfl (by simp only; omega)]
    have hd : (l.drop 0).take (l.length - 0 - (-1 : Int).toNat) = l := by simp
    simp only [hd]
    exact this
  | true =>
    have ha : aheadF ty fl = 1 := by unfold aheadF; rw [e8, hn, if_neg g5]; rfl
    have f4 := f4 e8
    rw [ha] at f3 f4
    have := ref14_Parse_pad fr ty fl st rs a c l h0 h1 hl hlc hf g2 g3 g4 g5 g7 g8 e8 hn f4 w h
    rw [ins_ok g4 _ _ ((pad_yes e8 f3).trans (by rw [nums_0 n1 g2 g3 g5 g7 g8])) rfl (by simp only; omega)]
    exact this
end Go.Proofs.YtjhhdgmhocpceaaGreatDoor
