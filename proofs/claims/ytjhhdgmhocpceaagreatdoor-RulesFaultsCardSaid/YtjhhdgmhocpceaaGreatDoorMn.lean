/-
  Parts of the proof, one behind the other: contracts of the program and plain laws; no condition of their own.
-/
import Derived.Test.YtjhhdgmhocpceaaGreatDoorMm
/-
  The document's frame, where it has no fault: two numbers (type 7).
-/
namespace Go.Proofs.YtjhhdgmhocpceaaGreatDoor
set_option linter.unusedSimpArgs false
set_option linter.unusedVariables false
set_option linter.unusedSectionVars false
open Go.ChangeShapes Go.WideShapes Go.ChangeAt Go.RowKit Go.Deep Go.Shelf

theorem slb_byte {w : World} {b o : Nat} {l : List UInt8} (h : SlB w w.heap.size (some ⟨b, o, none⟩) l) {k : Nat} (hk : k < l.length) : w.cell? ⟨b, o + k, none⟩ = some (.int .u8 ((l.getD k 0).toNat : Int)) := by
  obtain ⟨b', o', e, -, hc⟩ := SlR.atB h hk
  cases e
  rw [hc, List.getD_eq_getElem?_getD, List.getElem?_eq_getElem hk]
  rfl
theorem u8_le (x : UInt8) : x.toNat ≤ 255 := by have := x.toNat_lt; omega
theorem getD_zero (l : List UInt8) : l.getD 0 0 = l.headD 0 := by cases l <;> rfl
set_option maxHeartbeats 4000000 in
set_option maxRecDepth 100000 in
theorem ref14_Parse_7 (fr fl st : Int) (rs : Bool) (a : Option Addr) (c : Nat) (l : List UInt8) (h0 : 0 ≤ fl) (h1 : fl ≤ 255) (hl : l.length ≤ 1048576) (hlc : l.length ≤ c) (hf : (faultF 7 fl st l).1 = 0)
    (e8 : hasF 7 fl 8 = false) (e32 : hasF 7 fl 32 = false) (hk : 8 ≤ l.length) (w : World) (h : SlB w w.heap.size a l) :
    Calls Tryz.prog 35 #[rawV fr 7 fl st rs a l.length c] w (RpaP (⟨7, fl, st, -1, ((l.drop 8).take (l.length - 8 - 0)), [], 0, 0, false, 0, (lowF (numF 4 l 0).1).1, (numF 4 l 4).1, 0⟩, (0, 0)) w) := by
  have HF : Hid (∀ W, Below w.heap.size w W → Calls Tryz.prog 56 #[rawV fr 7 fl st rs a l.length c] W (FauP (0, 0) W)) := fun W hW => by
    have := ref14_fault fr 7 fl st rs a c l h0 h1 (by omega) W (h.grow hW)
    rwa [fault_zero.1 hf] at this
  have H8 : Hid (∀ W, Calls Tryz.prog 57 #[.int .i64 7, .int .i64 fl, .int .i64 8] W fun e w' => e = .returned (.bool false) ∧ W = w') := fun W => by have := ref08_Has 7 fl 8 (by simp) h0 h1 W; rwa [e8] at this
  have H32 : Hid (∀ W, Calls Tryz.prog 57 #[.int .i64 7, .int .i64 fl, .int .i64 32] W fun e w' => e = .returned (.bool false) ∧ W = w') := fun W => by have := ref08_Has 7 fl 32 (by simp) h0 h1 W; rwa [e32] at this
  obtain ⟨b, o, rfl, hbw, -⟩ := SlR.atB h (k := 0) (by omega)
  have HN : Hid (∀ W, Below w.heap.size w W → Calls Tryz.prog 58 #[.slice (some ⟨b, o, none⟩) l.length c, .int .i64 0] W fun e w' => e = .returned (.tuple #[.int .i64 (lowF (numF 4 l 0).1).1, .bool (lowF (numF 4 l 0).1).2]) ∧ ∃ j, w' = W.more j) := fun W hW => ref14_number (some ⟨b, o, none⟩) c l 0 (by omega) hlc W (h.grow hW)
  have HC : Hid (∀ W, Below w.heap.size w W → Calls Tryz.prog 59 #[.slice (some ⟨b, o, none⟩) l.length c, .int .i64 4] W fun e w' => e = .returned (.int .i64 (numF 4 l 4).1) ∧ ∃ j, w' = W.more j) := fun W hW => ref14_code (some ⟨b, o, none⟩) c l 4 (by omega) hlc W (h.grow hW)
  have HD : Hid (((l.drop 8).take (l.length - 8 - 0)).length = l.length - 8) := by show _ = _; simp
  have hMk : 8 ≤ l.length := by omega
  generalize lowF (numF 4 l 0).1 = L at HN ⊢
  obtain ⟨V, vb⟩ := L
  generalize (numF 4 l 4).1 = V2 at HC ⊢
  have HSD : Hid (∀ W, Below w.heap.size w W → SlB W W.heap.size (if c = 8 then (some ⟨b, o, none⟩ : Option Addr) else some ⟨b, o + 8, none⟩) ((l.drop 8).take (l.length - 8 - 0))) := fun W hW => by
    have := SlR.take (SlR.drop_if (h.grow hW) 8 hlc) (l.length - 8 - 0)
    rw [Nat.mul_one, Option.map_some, add_at] at this
    exact this
  have i1 : (8 : Int) ≤ (l.length : Nat) := by omega
  generalize ((l.drop 8).take (l.length - 8 - 0)) = D at HD HSD ⊢
  have hDl : D.length ≤ 1048576 := by rw [HD.out]; omega
  have HDL := Lib.hid hDl
  have HLC := Lib.hid hlc
  have i2 : (l.length : Int) ≤ c := by omega
  unfold FauP at HF
  clear h h0 h1 hf hDl e8 e32
  go_enter Tryz.func35, Tryz.ntmps35
  go_wp2_with (first | (go_at_call 56; (with_reducible refine (HF.out _ bel).mono ?_); rintro e w' ⟨rfl, jf, rfl⟩) | (go_at_call 57; (with_reducible refine (H8.out _).mono ?_); rintro e w' ⟨rfl, rfl⟩) | (go_at_call 57; (with_reducible refine (H32.out _).mono ?_); rintro e w' ⟨rfl, rfl⟩) | (go_at_call 58; (with_reducible refine (HN.out _ bel).mono ?_); rintro e w' ⟨rfl, j, rfl⟩) | (go_at_call 59; (with_reducible refine (HC.out _ bel).mono ?_); rintro e w' ⟨rfl, j, rfl⟩))
  refine wnm fun wz hwz => ?_
  obtain ⟨gb, hgb⟩ : ∃ gb, gb = w.heap.size + 1 + 1 + 1 + jf.heap.size + 1 := ⟨_, rfl⟩
  have HB : Hid (Below w.heap.size w wz) := by show Below _ _ _; rw [hwz]; exact bel
  have HK1 : Hid (Blk wz (w.heap.size + 1) FrmT (fmC 0 0 0 0 none 0 0 none 0 0 0 0 false 0 0 0 0)) := by show Blk _ _ _ _; rw [hwz]; exact blk
  have HK2 : Hid (Blk wz (w.heap.size + 2) FuT #[.int .i64 0, .int .i64 0]) := by show Blk _ _ _ _; rw [hwz]; exact blk
  have HKF : Hid (Blk wz gb FrmT (fmC 7 fl st (-1) none 0 0 none 0 0 0 0 false 0 V V2 0)) := by show Blk _ _ _ _; rw [hwz, hgb]; exact blk
  rw [← hgb]
  have hgb2 : w.heap.size + 3 ≤ gb := by omega
  clear hwz hgb
  refine gg_start (Gp (fun q => q = gb)) (fun _ => Gp.refl _) (h := ?_)
  obtain ⟨wd, hwd⟩ : ∃ wd, wd = wz.drew := ⟨_, rfl⟩
  rw [← hwd]
  have HBD : Hid (Below w.heap.size w wd) := by show Below _ _ _; rw [hwd]; exact Below.drew HB.out
  have HD1 : Hid (Blk wd (w.heap.size + 1) FrmT (fmC 0 0 0 0 none 0 0 none 0 0 0 0 false 0 0 0 0)) := by show Blk _ _ _ _; rw [hwd]; exact HK1.out
  have HD2 : Hid (Blk wd (w.heap.size + 2) FuT #[.int .i64 0, .int .i64 0]) := by show Blk _ _ _ _; rw [hwd]; exact HK2.out
  have HDF : Hid (Blk wd gb FrmT (fmC 7 fl st (-1) none 0 0 none 0 0 0 0 false 0 V V2 0)) := by show Blk _ _ _ _; rw [hwd]; exact HKF.out
  clear hwd
  have d4 : wd.cell? ⟨gb, 4, none⟩ = some (.slice none 0 0) := HDF.out.cell 4
  have dl := HDF.out.lt
  refine tk 0 ?_
  refine tk 2 ?_
  refine tk 3 ?_
  refine tk 4 ?_
  refine tk 5 ?_
  obtain ⟨SA, hSA⟩ : ∃ SA : Option Addr, SA = if c = 8 then some ⟨b, o, none⟩ else some ⟨b, o + 8, none⟩ := ⟨_, rfl⟩
  rw [← hSA] at HSD ⊢
  clear hSA
  refine gg_step (fun _ _ _ h h2 => h.trans h2) 1 (by kernel_rfl) rfl (fun K hK => ?_)
  go_simp
  go_wp2_with fail
  refine hK.out _ _ (Gp.refl _) ?_
  clear hK K
  try simp only [Act.put, nfa, nfb, nfc, nfd, List.set_cons_zero, List.set_cons_succ]
  refine gg_step (fun _ _ _ h h2 => h.trans h2) 6 (by kernel_rfl) rfl (fun K hK => ?_)
  refine step_bytes (.tmp 136) (.tmp 140) rfl rfl (B := wd.heap.size) (l := []) (m := D) (A := SA) (n := l.length - 8) (c := c - 8) rfl (OwnB.nil _ _) rfl (by first | exact HD.out | (rw [HD.out]; omega)) (HSD.out _ HBD.out) (by have := HDL.out; have := HD.out; simp; omega) (Nat.le_refl _) (fun v' w5 ho hb5 => ?_)
  refine hK.out _ _ (Gp.of_below hb5) ?_
  clear hK K
  try simp only [Act.put, nfa, nfb, nfc, nfd, List.set_cons_zero, List.set_cons_succ]
  obtain ⟨a5, c5, rfl, hc5, hs5, hn5⟩ := OwnB.full ho
  rw [List.nil_append] at hc5 hs5 ⊢
  have HB5 := Lib.hid hb5
  have HC5 := Lib.hid hc5
  have HS5 := Lib.hid hs5
  have HN5 := Lib.hid hn5
  have HF5 := Lib.hid (HDF.out.below hb5 dl)
  have x4 : w5.cell? ⟨gb, 4, none⟩ = some (.slice none 0 0) := HF5.out.cell 4
  have x4f := HF5.out.frozen 4
  have x4l := HF5.out.lt
  clear ho hb5 hc5 hs5 hn5 d4
  refine tk 7 ?_
  refine gg_step (fun _ _ _ h h2 => h.trans h2) 8 (by kernel_rfl) rfl (fun K hK => ?_)
  go_simp
  go_wp2_with fail
  obtain ⟨w6, hw6⟩ : ∃ w6, w6 = w5.setCell ⟨gb, 4, none⟩ (.slice a5 D.length c5) := ⟨_, rfl⟩
  rw [← hw6]
  have hg6 : Gp (fun q => q = gb) w5 w6 := by rw [hw6]; exact Gp.set (p := fun q => q = gb) _ rfl
  have HF6 : Hid (Blk w6 gb FrmT (fmC 7 fl st (-1) a5 D.length c5 none 0 0 0 0 false 0 V V2 0)) := by show Blk _ _ _ _; rw [hw6]; exact HF5.out.set_ 4 _
  refine hK.out _ _ hg6 ?_
  have HG6 := Lib.hid hg6
  clear hK K hw6 hg6 x4 x4f x4l
  try simp only [Act.put, nfa, nfb, nfc, nfd, List.set_cons_zero, List.set_cons_succ]
  refine wpAnyH_done (by kernel_rfl) ?_ _
  go_wp2_with (first | (refine wpList_load_row rfl FrmT _ rfl gb rfl FrmT _ (0, 0) _ HF6.out Tryz.underlying53 rfl (by kernel_rfl) ?_) | (refine wpList_store_row rfl FrmT _ _ rfl (w.heap.size + 1) _ rfl rfl FrmT _ (HG6.out.blk (HD1.out.below HB5.out HD1.out.lt) (by omega)) (by kernel_rfl) rfl fm_one ?_) | (refine wpList_store_row rfl FuT _ _ rfl (w.heap.size + 2) _ rfl rfl FuT _ ((gp_row _ _ _).blk (HG6.out.blk (HD2.out.below HB5.out HD2.out.lt) (by omega)) (by omega)) (by kernel_rfl) rfl fu_one ?_))
  have hgg : Gp (fun q => q = w.heap.size + 1 ∨ q = w.heap.size + 2 ∨ q = gb) w5 _ := ((HG6.out.imp (fun k hk => .inr (.inr hk))).trans ((gp_row w6 (w.heap.size + 1) (fmC 7 fl st (-1) a5 D.length c5 none 0 0 0 0 false 0 V V2 0)).imp (fun k hk => .inl hk))).trans ((gp_row _ (w.heap.size + 2) #[.int .i64 0, .int .i64 0]).imp (fun k hk => .inr (.inl hk)))
  refine bodyPost_ret (res_cell2 rfl st_Fm rfl ((gp_row _ (w.heap.size + 2) _).blk (blk_row (HG6.out.blk (HD1.out.below HB5.out HD1.out.lt) (by omega)) _) (by omega)) rfl st_Fu rfl (blk_row ((gp_row _ (w.heap.size + 1) _).blk (HG6.out.blk (HD2.out.below HB5.out HD2.out.lt) (by omega)) (by omega)) _) rfl) rfl ⟨_, rfl, ⟨a5, c5, none, 0, rfl, SlR.gpN (N := wd.heap.size) HS5.out HN5.out (fun k hk => by have := HD2.out.lt; omega) hgg, HC5.out, fun p hp => by have := HN5.out p hp; have := HBD.out.size; omega, .nil, Nat.le_refl _, fun p hp => by cases hp⟩, ?_⟩
  exact (HBD.out.trans (HB5.out.mono HBD.out.size)).trans (hgg.below (fun q hq => by omega) (Nat.le_trans HBD.out.size HB5.out.size))
end Go.Proofs.YtjhhdgmhocpceaaGreatDoor
/-
  The document's frame, where it has no fault: a weight (type 2).
-/
namespace Go.Proofs.YtjhhdgmhocpceaaGreatDoor
set_option linter.unusedSimpArgs false
set_option linter.unusedVariables false
set_option linter.unusedSectionVars false
open Go.ChangeShapes Go.WideShapes Go.ChangeAt Go.RowKit Go.Deep Go.Shelf

set_option maxHeartbeats 4000000 in
set_option maxRecDepth 100000 in
theorem ref14_Parse_2 (fr fl st : Int) (rs : Bool) (a : Option Addr) (c : Nat) (l : List UInt8) (h0 : 0 ≤ fl) (h1 : fl ≤ 255) (hl : l.length ≤ 1048576) (hlc : l.length ≤ c) (hf : (faultF 2 fl st l).1 = 0)
    (e8 : hasF 2 fl 8 = false) (hk : 5 ≤ l.length) (w : World) (h : SlB w w.heap.size a l) :
    Calls Tryz.prog 35 #[rawV fr 2 fl st rs a l.length c] w (RpaP (⟨2, fl, st, -1, ((l.drop 5).take (l.length - 5 - 0)), [], ((l.getD 4 0).toNat : Int), (lowF (numF 4 l 0).1).1, (lowF (numF 4 l 0).1).2, 0, 0, 0, 0⟩, (0, 0)) w) := by
  have HF : Hid (∀ W, Below w.heap.size w W → Calls Tryz.prog 56 #[rawV fr 2 fl st rs a l.length c] W (FauP (0, 0) W)) := fun W hW => by
    have := ref14_fault fr 2 fl st rs a c l h0 h1 (by omega) W (h.grow hW)
    rwa [fault_zero.1 hf] at this
  have H8 : Hid (∀ W, Calls Tryz.prog 57 #[.int .i64 2, .int .i64 fl, .int .i64 8] W fun e w' => e = .returned (.bool false) ∧ W = w') := fun W => by have := ref08_Has 2 fl 8 (by simp) h0 h1 W; rwa [e8] at this
  obtain ⟨b, o, rfl, hbw, -⟩ := SlR.atB h (k := 0) (by omega)
  have HN : Hid (∀ W, Below w.heap.size w W → Calls Tryz.prog 58 #[.slice (some ⟨b, o, none⟩) l.length c, .int .i64 0] W fun e w' => e = .returned (.tuple #[.int .i64 (lowF (numF 4 l 0).1).1, .bool (lowF (numF 4 l 0).1).2]) ∧ ∃ j, w' = W.more j) := fun W hW => ref14_number (some ⟨b, o, none⟩) c l 0 (by omega) hlc W (h.grow hW)
  have hc4 := slb_byte h (k := 4) (by omega)
  have hy4 := (u8_le (l.getD 4 0))
  generalize (l.getD 4 0).toNat = y at hc4 hy4 ⊢
  have HD : Hid (((l.drop 5).take (l.length - 5 - 0)).length = l.length - 5) := by show _ = _; simp
  have hMk : 5 ≤ l.length := by omega
  generalize lowF (numF 4 l 0).1 = L at HN ⊢
  obtain ⟨V, vb⟩ := L
  have HSD : Hid (∀ W, Below w.heap.size w W → SlB W W.heap.size (if c = 5 then (some ⟨b, o, none⟩ : Option Addr) else some ⟨b, o + 5, none⟩) ((l.drop 5).take (l.length - 5 - 0))) := fun W hW => by
    have := SlR.take (SlR.drop_if (h.grow hW) 5 hlc) (l.length - 5 - 0)
    rw [Nat.mul_one, Option.map_some, add_at] at this
    exact this
  have i1 : (5 : Int) ≤ (l.length : Nat) := by omega
  generalize ((l.drop 5).take (l.length - 5 - 0)) = D at HD HSD ⊢
  have hDl : D.length ≤ 1048576 := by rw [HD.out]; omega
  have HDL := Lib.hid hDl
  have HLC := Lib.hid hlc
  have i2 : (l.length : Int) ≤ c := by omega
  unfold FauP at HF
  clear h h0 h1 hf hDl e8
  go_enter Tryz.func35, Tryz.ntmps35
  go_wp2_with (first | (go_at_call 56; (with_reducible refine (HF.out _ bel).mono ?_); rintro e w' ⟨rfl, jf, rfl⟩) | (go_at_call 57; (with_reducible refine (H8.out _).mono ?_); rintro e w' ⟨rfl, rfl⟩) | (go_at_call 58; (with_reducible refine (HN.out _ bel).mono ?_); rintro e w' ⟨rfl, j, rfl⟩))
  refine wnm fun wz hwz => ?_
  obtain ⟨gb, hgb⟩ : ∃ gb, gb = w.heap.size + 1 + 1 + 1 + jf.heap.size + 1 := ⟨_, rfl⟩
  have HB : Hid (Below w.heap.size w wz) := by show Below _ _ _; rw [hwz]; exact bel
  have HK1 : Hid (Blk wz (w.heap.size + 1) FrmT (fmC 0 0 0 0 none 0 0 none 0 0 0 0 false 0 0 0 0)) := by show Blk _ _ _ _; rw [hwz]; exact blk
  have HK2 : Hid (Blk wz (w.heap.size + 2) FuT #[.int .i64 0, .int .i64 0]) := by show Blk _ _ _ _; rw [hwz]; exact blk
  have HKF : Hid (Blk wz gb FrmT (fmC 2 fl st (-1) none 0 0 none 0 0 (y : Int) V vb 0 0 0 0)) := by show Blk _ _ _ _; rw [hwz, hgb]; exact blk
  rw [← hgb]
  have hgb2 : w.heap.size + 3 ≤ gb := by omega
  clear hwz hgb
  refine gg_start (Gp (fun q => q = gb)) (fun _ => Gp.refl _) (h := ?_)
  obtain ⟨wd, hwd⟩ : ∃ wd, wd = wz.drew := ⟨_, rfl⟩
  rw [← hwd]
  have HBD : Hid (Below w.heap.size w wd) := by show Below _ _ _; rw [hwd]; exact Below.drew HB.out
  have HD1 : Hid (Blk wd (w.heap.size + 1) FrmT (fmC 0 0 0 0 none 0 0 none 0 0 0 0 false 0 0 0 0)) := by show Blk _ _ _ _; rw [hwd]; exact HK1.out
  have HD2 : Hid (Blk wd (w.heap.size + 2) FuT #[.int .i64 0, .int .i64 0]) := by show Blk _ _ _ _; rw [hwd]; exact HK2.out
  have HDF : Hid (Blk wd gb FrmT (fmC 2 fl st (-1) none 0 0 none 0 0 (y : Int) V vb 0 0 0 0)) := by show Blk _ _ _ _; rw [hwd]; exact HKF.out
  clear hwd
  have d4 : wd.cell? ⟨gb, 4, none⟩ = some (.slice none 0 0) := HDF.out.cell 4
  have dl := HDF.out.lt
  refine tk 0 ?_
  refine tk 2 ?_
  refine tk 3 ?_
  refine tk 4 ?_
  refine tk 5 ?_
  obtain ⟨SA, hSA⟩ : ∃ SA : Option Addr, SA = if c = 5 then some ⟨b, o, none⟩ else some ⟨b, o + 5, none⟩ := ⟨_, rfl⟩
  rw [← hSA] at HSD ⊢
  clear hSA
  refine gg_step (fun _ _ _ h h2 => h.trans h2) 1 (by kernel_rfl) rfl (fun K hK => ?_)
  go_simp
  go_wp2_with fail
  refine hK.out _ _ (Gp.refl _) ?_
  clear hK K
  try simp only [Act.put, nfa, nfb, nfc, nfd, List.set_cons_zero, List.set_cons_succ]
  refine gg_step (fun _ _ _ h h2 => h.trans h2) 6 (by kernel_rfl) rfl (fun K hK => ?_)
  refine step_bytes (.tmp 136) (.tmp 140) rfl rfl (B := wd.heap.size) (l := []) (m := D) (A := SA) (n := l.length - 5) (c := c - 5) rfl (OwnB.nil _ _) rfl (by first | exact HD.out | (rw [HD.out]; omega)) (HSD.out _ HBD.out) (by have := HDL.out; have := HD.out; simp; omega) (Nat.le_refl _) (fun v' w5 ho hb5 => ?_)
  refine hK.out _ _ (Gp.of_below hb5) ?_
  clear hK K
  try simp only [Act.put, nfa, nfb, nfc, nfd, List.set_cons_zero, List.set_cons_succ]
  obtain ⟨a5, c5, rfl, hc5, hs5, hn5⟩ := OwnB.full ho
  rw [List.nil_append] at hc5 hs5 ⊢
  have HB5 := Lib.hid hb5
  have HC5 := Lib.hid hc5
  have HS5 := Lib.hid hs5
  have HN5 := Lib.hid hn5
  have HF5 := Lib.hid (HDF.out.below hb5 dl)
  have x4 : w5.cell? ⟨gb, 4, none⟩ = some (.slice none 0 0) := HF5.out.cell 4
  have x4f := HF5.out.frozen 4
  have x4l := HF5.out.lt
  clear ho hb5 hc5 hs5 hn5 d4
  refine tk 7 ?_
  refine gg_step (fun _ _ _ h h2 => h.trans h2) 8 (by kernel_rfl) rfl (fun K hK => ?_)
  go_simp
  go_wp2_with fail
  obtain ⟨w6, hw6⟩ : ∃ w6, w6 = w5.setCell ⟨gb, 4, none⟩ (.slice a5 D.length c5) := ⟨_, rfl⟩
  rw [← hw6]
  have hg6 : Gp (fun q => q = gb) w5 w6 := by rw [hw6]; exact Gp.set (p := fun q => q = gb) _ rfl
  have HF6 : Hid (Blk w6 gb FrmT (fmC 2 fl st (-1) a5 D.length c5 none 0 0 (y : Int) V vb 0 0 0 0)) := by show Blk _ _ _ _; rw [hw6]; exact HF5.out.set_ 4 _
  refine hK.out _ _ hg6 ?_
  have HG6 := Lib.hid hg6
  clear hK K hw6 hg6 x4 x4f x4l
  try simp only [Act.put, nfa, nfb, nfc, nfd, List.set_cons_zero, List.set_cons_succ]
  refine wpAnyH_done (by kernel_rfl) ?_ _
  go_wp2_with (first | (refine wpList_load_row rfl FrmT _ rfl gb rfl FrmT _ (0, 0) _ HF6.out Tryz.underlying53 rfl (by kernel_rfl) ?_) | (refine wpList_store_row rfl FrmT _ _ rfl (w.heap.size + 1) _ rfl rfl FrmT _ (HG6.out.blk (HD1.out.below HB5.out HD1.out.lt) (by omega)) (by kernel_rfl) rfl fm_one ?_) | (refine wpList_store_row rfl FuT _ _ rfl (w.heap.size + 2) _ rfl rfl FuT _ ((gp_row _ _ _).blk (HG6.out.blk (HD2.out.below HB5.out HD2.out.lt) (by omega)) (by omega)) (by kernel_rfl) rfl fu_one ?_))
  have hgg : Gp (fun q => q = w.heap.size + 1 ∨ q = w.heap.size + 2 ∨ q = gb) w5 _ := ((HG6.out.imp (fun k hk => .inr (.inr hk))).trans ((gp_row w6 (w.heap.size + 1) (fmC 2 fl st (-1) a5 D.length c5 none 0 0 (y : Int) V vb 0 0 0 0)).imp (fun k hk => .inl hk))).trans ((gp_row _ (w.heap.size + 2) #[.int .i64 0, .int .i64 0]).imp (fun k hk => .inr (.inl hk)))
  refine bodyPost_ret (res_cell2 rfl st_Fm rfl ((gp_row _ (w.heap.size + 2) _).blk (blk_row (HG6.out.blk (HD1.out.below HB5.out HD1.out.lt) (by omega)) _) (by omega)) rfl st_Fu rfl (blk_row ((gp_row _ (w.heap.size + 1) _).blk (HG6.out.blk (HD2.out.below HB5.out HD2.out.lt) (by omega)) (by omega)) _) rfl) rfl ⟨_, rfl, ⟨a5, c5, none, 0, rfl, SlR.gpN (N := wd.heap.size) HS5.out HN5.out (fun k hk => by have := HD2.out.lt; omega) hgg, HC5.out, fun p hp => by have := HN5.out p hp; have := HBD.out.size; omega, .nil, Nat.le_refl _, fun p hp => by cases hp⟩, ?_⟩
  exact (HBD.out.trans (HB5.out.mono HBD.out.size)).trans (hgg.below (fun q hq => by omega) (Nat.le_trans HBD.out.size HB5.out.size))
end Go.Proofs.YtjhhdgmhocpceaaGreatDoor
/-
  The document's frame, where it has no fault: a weight (type 1).
-/
namespace Go.Proofs.YtjhhdgmhocpceaaGreatDoor
set_option linter.unusedSimpArgs false
set_option linter.unusedVariables false
set_option linter.unusedSectionVars false
open Go.ChangeShapes Go.WideShapes Go.ChangeAt Go.RowKit Go.Deep Go.Shelf

set_option maxHeartbeats 4000000 in
set_option maxRecDepth 100000 in
theorem ref14_Parse_1w (fr fl st : Int) (rs : Bool) (a : Option Addr) (c : Nat) (l : List UInt8) (h0 : 0 ≤ fl) (h1 : fl ≤ 255) (hl : l.length ≤ 1048576) (hlc : l.length ≤ c) (hf : (faultF 1 fl st l).1 = 0)
    (e8 : hasF 1 fl 8 = false) (e32 : hasF 1 fl 32 = true) (hk : 5 ≤ l.length) (w : World) (h : SlB w w.heap.size a l) :
    Calls Tryz.prog 35 #[rawV fr 1 fl st rs a l.length c] w (RpaP (⟨1, fl, st, -1, ((l.drop 5).take (l.length - 5 - 0)), [], ((l.getD 4 0).toNat : Int), (lowF (numF 4 l 0).1).1, (lowF (numF 4 l 0).1).2, 0, 0, 0, 0⟩, (0, 0)) w) := by
  have HF : Hid (∀ W, Below w.heap.size w W → Calls Tryz.prog 56 #[rawV fr 1 fl st rs a l.length c] W (FauP (0, 0) W)) := fun W hW => by
    have := ref14_fault fr 1 fl st rs a c l h0 h1 (by omega) W (h.grow hW)
    rwa [fault_zero.1 hf] at this
  have H8 : Hid (∀ W, Calls Tryz.prog 57 #[.int .i64 1, .int .i64 fl, .int .i64 8] W fun e w' => e = .returned (.bool false) ∧ W = w') := fun W => by have := ref08_Has 1 fl 8 (by simp) h0 h1 W; rwa [e8] at this
  have H32 : Hid (∀ W, Calls Tryz.prog 57 #[.int .i64 1, .int .i64 fl, .int .i64 32] W fun e w' => e = .returned (.bool true) ∧ W = w') := fun W => by have := ref08_Has 1 fl 32 (by simp) h0 h1 W; rwa [e32] at this
  obtain ⟨b, o, rfl, hbw, -⟩ := SlR.atB h (k := 0) (by omega)
  have HN : Hid (∀ W, Below w.heap.size w W → Calls Tryz.prog 58 #[.slice (some ⟨b, o, none⟩) l.length c, .int .i64 0] W fun e w' => e = .returned (.tuple #[.int .i64 (lowF (numF 4 l 0).1).1, .bool (lowF (numF 4 l 0).1).2]) ∧ ∃ j, w' = W.more j) := fun W hW => ref14_number (some ⟨b, o, none⟩) c l 0 (by omega) hlc W (h.grow hW)
  have hc4 := slb_byte h (k := 4) (by omega)
  have hy4 := (u8_le (l.getD 4 0))
  generalize (l.getD 4 0).toNat = y at hc4 hy4 ⊢
  have HD : Hid (((l.drop 5).take (l.length - 5 - 0)).length = l.length - 5) := by show _ = _; simp
  have hMk : 5 ≤ l.length := by omega
  generalize lowF (numF 4 l 0).1 = L at HN ⊢
  obtain ⟨V, vb⟩ := L
  have HSD : Hid (∀ W, Below w.heap.size w W → SlB W W.heap.size (if c = 5 then (some ⟨b, o, none⟩ : Option Addr) else some ⟨b, o + 5, none⟩) ((l.drop 5).take (l.length - 5 - 0))) := fun W hW => by
    have := SlR.take (SlR.drop_if (h.grow hW) 5 hlc) (l.length - 5 - 0)
    rw [Nat.mul_one, Option.map_some, add_at] at this
    exact this
  have i1 : (5 : Int) ≤ (l.length : Nat) := by omega
  generalize ((l.drop 5).take (l.length - 5 - 0)) = D at HD HSD ⊢
  have hDl : D.length ≤ 1048576 := by rw [HD.out]; omega
  have HDL := Lib.hid hDl
  have HLC := Lib.hid hlc
  have i2 : (l.length : Int) ≤ c := by omega
  unfold FauP at HF
  clear h h0 h1 hf hDl e8 e32
  go_enter Tryz.func35, Tryz.ntmps35
  go_wp2_with (first | (go_at_call 56; (with_reducible refine (HF.out _ bel).mono ?_); rintro e w' ⟨rfl, jf, rfl⟩) | (go_at_call 57; (with_reducible refine (H8.out _).mono ?_); rintro e w' ⟨rfl, rfl⟩) | (go_at_call 57; (with_reducible refine (H32.out _).mono ?_); rintro e w' ⟨rfl, rfl⟩) | (go_at_call 58; (with_reducible refine (HN.out _ bel).mono ?_); rintro e w' ⟨rfl, j, rfl⟩))
  refine wnm fun wz hwz => ?_
  obtain ⟨gb, hgb⟩ : ∃ gb, gb = w.heap.size + 1 + 1 + 1 + jf.heap.size + 1 := ⟨_, rfl⟩
  have HB : Hid (Below w.heap.size w wz) := by show Below _ _ _; rw [hwz]; exact bel
  have HK1 : Hid (Blk wz (w.heap.size + 1) FrmT (fmC 0 0 0 0 none 0 0 none 0 0 0 0 false 0 0 0 0)) := by show Blk _ _ _ _; rw [hwz]; exact blk
  have HK2 : Hid (Blk wz (w.heap.size + 2) FuT #[.int .i64 0, .int .i64 0]) := by show Blk _ _ _ _; rw [hwz]; exact blk
  have HKF : Hid (Blk wz gb FrmT (fmC 1 fl st (-1) none 0 0 none 0 0 (y : Int) V vb 0 0 0 0)) := by show Blk _ _ _ _; rw [hwz, hgb]; exact blk
  rw [← hgb]
  have hgb2 : w.heap.size + 3 ≤ gb := by omega
  clear hwz hgb
  refine gg_start (Gp (fun q => q = gb)) (fun _ => Gp.refl _) (h := ?_)
  obtain ⟨wd, hwd⟩ : ∃ wd, wd = wz.drew := ⟨_, rfl⟩
  rw [← hwd]
  have HBD : Hid (Below w.heap.size w wd) := by show Below _ _ _; rw [hwd]; exact Below.drew HB.out
  have HD1 : Hid (Blk wd (w.heap.size + 1) FrmT (fmC 0 0 0 0 none 0 0 none 0 0 0 0 false 0 0 0 0)) := by show Blk _ _ _ _; rw [hwd]; exact HK1.out
  have HD2 : Hid (Blk wd (w.heap.size + 2) FuT #[.int .i64 0, .int .i64 0]) := by show Blk _ _ _ _; rw [hwd]; exact HK2.out
  have HDF : Hid (Blk wd gb FrmT (fmC 1 fl st (-1) none 0 0 none 0 0 (y : Int) V vb 0 0 0 0)) := by show Blk _ _ _ _; rw [hwd]; exact HKF.out
  clear hwd
  have d4 : wd.cell? ⟨gb, 4, none⟩ = some (.slice none 0 0) := HDF.out.cell 4
  have dl := HDF.out.lt
  refine tk 0 ?_
  refine tk 2 ?_
  refine tk 3 ?_
  refine tk 4 ?_
  refine tk 5 ?_
  obtain ⟨SA, hSA⟩ : ∃ SA : Option Addr, SA = if c = 5 then some ⟨b, o, none⟩ else some ⟨b, o + 5, none⟩ := ⟨_, rfl⟩
  rw [← hSA] at HSD ⊢
  clear hSA
  refine gg_step (fun _ _ _ h h2 => h.trans h2) 1 (by kernel_rfl) rfl (fun K hK => ?_)
  go_simp
  go_wp2_with fail
  refine hK.out _ _ (Gp.refl _) ?_
  clear hK K
  try simp only [Act.put, nfa, nfb, nfc, nfd, List.set_cons_zero, List.set_cons_succ]
  refine gg_step (fun _ _ _ h h2 => h.trans h2) 6 (by kernel_rfl) rfl (fun K hK => ?_)
  refine step_bytes (.tmp 136) (.tmp 140) rfl rfl (B := wd.heap.size) (l := []) (m := D) (A := SA) (n := l.length - 5) (c := c - 5) rfl (OwnB.nil _ _) rfl (by first | exact HD.out | (rw [HD.out]; omega)) (HSD.out _ HBD.out) (by have := HDL.out; have := HD.out; simp; omega) (Nat.le_refl _) (fun v' w5 ho hb5 => ?_)
  refine hK.out _ _ (Gp.of_below hb5) ?_
  clear hK K
  try simp only [Act.put, nfa, nfb, nfc, nfd, List.set_cons_zero, List.set_cons_succ]
  obtain ⟨a5, c5, rfl, hc5, hs5, hn5⟩ := OwnB.full ho
  rw [List.nil_append] at hc5 hs5 ⊢
  have HB5 := Lib.hid hb5
  have HC5 := Lib.hid hc5
  have HS5 := Lib.hid hs5
  have HN5 := Lib.hid hn5
  have HF5 := Lib.hid (HDF.out.below hb5 dl)
  have x4 : w5.cell? ⟨gb, 4, none⟩ = some (.slice none 0 0) := HF5.out.cell 4
  have x4f := HF5.out.frozen 4
  have x4l := HF5.out.lt
  clear ho hb5 hc5 hs5 hn5 d4
  refine tk 7 ?_
  refine gg_step (fun _ _ _ h h2 => h.trans h2) 8 (by kernel_rfl) rfl (fun K hK => ?_)
  go_simp
  go_wp2_with fail
  obtain ⟨w6, hw6⟩ : ∃ w6, w6 = w5.setCell ⟨gb, 4, none⟩ (.slice a5 D.length c5) := ⟨_, rfl⟩
  rw [← hw6]
  have hg6 : Gp (fun q => q = gb) w5 w6 := by rw [hw6]; exact Gp.set (p := fun q => q = gb) _ rfl
  have HF6 : Hid (Blk w6 gb FrmT (fmC 1 fl st (-1) a5 D.length c5 none 0 0 (y : Int) V vb 0 0 0 0)) := by show Blk _ _ _ _; rw [hw6]; exact HF5.out.set_ 4 _
  refine hK.out _ _ hg6 ?_
  have HG6 := Lib.hid hg6
  clear hK K hw6 hg6 x4 x4f x4l
  try simp only [Act.put, nfa, nfb, nfc, nfd, List.set_cons_zero, List.set_cons_succ]
  refine wpAnyH_done (by kernel_rfl) ?_ _
  go_wp2_with (first | (refine wpList_load_row rfl FrmT _ rfl gb rfl FrmT _ (0, 0) _ HF6.out Tryz.underlying53 rfl (by kernel_rfl) ?_) | (refine wpList_store_row rfl FrmT _ _ rfl (w.heap.size + 1) _ rfl rfl FrmT _ (HG6.out.blk (HD1.out.below HB5.out HD1.out.lt) (by omega)) (by kernel_rfl) rfl fm_one ?_) | (refine wpList_store_row rfl FuT _ _ rfl (w.heap.size + 2) _ rfl rfl FuT _ ((gp_row _ _ _).blk (HG6.out.blk (HD2.out.below HB5.out HD2.out.lt) (by omega)) (by omega)) (by kernel_rfl) rfl fu_one ?_))
  have hgg : Gp (fun q => q = w.heap.size + 1 ∨ q = w.heap.size + 2 ∨ q = gb) w5 _ := ((HG6.out.imp (fun k hk => .inr (.inr hk))).trans ((gp_row w6 (w.heap.size + 1) (fmC 1 fl st (-1) a5 D.length c5 none 0 0 (y : Int) V vb 0 0 0 0)).imp (fun k hk => .inl hk))).trans ((gp_row _ (w.heap.size + 2) #[.int .i64 0, .int .i64 0]).imp (fun k hk => .inr (.inl hk)))
  refine bodyPost_ret (res_cell2 rfl st_Fm rfl ((gp_row _ (w.heap.size + 2) _).blk (blk_row (HG6.out.blk (HD1.out.below HB5.out HD1.out.lt) (by omega)) _) (by omega)) rfl st_Fu rfl (blk_row ((gp_row _ (w.heap.size + 1) _).blk (HG6.out.blk (HD2.out.below HB5.out HD2.out.lt) (by omega)) (by omega)) _) rfl) rfl ⟨_, rfl, ⟨a5, c5, none, 0, rfl, SlR.gpN (N := wd.heap.size) HS5.out HN5.out (fun k hk => by have := HD2.out.lt; omega) hgg, HC5.out, fun p hp => by have := HN5.out p hp; have := HBD.out.size; omega, .nil, Nat.le_refl _, fun p hp => by cases hp⟩, ?_⟩
  exact (HBD.out.trans (HB5.out.mono HBD.out.size)).trans (hgg.below (fun q hq => by omega) (Nat.le_trans HBD.out.size HB5.out.size))
end Go.Proofs.YtjhhdgmhocpceaaGreatDoor
/-
  The document's frame, where it has no fault: a pad and a weight (type 1).
-/
namespace Go.Proofs.YtjhhdgmhocpceaaGreatDoor
set_option linter.unusedSimpArgs false
set_option linter.unusedVariables false
set_option linter.unusedSectionVars false
open Go.ChangeShapes Go.WideShapes Go.ChangeAt Go.RowKit Go.Deep Go.Shelf

set_option maxHeartbeats 4000000 in
set_option maxRecDepth 100000 in
theorem ref14_Parse_1pw (fr fl st : Int) (rs : Bool) (a : Option Addr) (c : Nat) (l : List UInt8) (h0 : 0 ≤ fl) (h1 : fl ≤ 255) (hl : l.length ≤ 1048576) (hlc : l.length ≤ c) (hf : (faultF 1 fl st l).1 = 0)
    (e8 : hasF 1 fl 8 = true) (e32 : hasF 1 fl 32 = true) (hk : (l.headD 0).toNat + 6 ≤ l.length) (w : World) (h : SlB w w.heap.size a l) :
    Calls Tryz.prog 35 #[rawV fr 1 fl st rs a l.length c] w (RpaP (⟨1, fl, st, ((l.headD 0).toNat : Int), ((l.drop 6).take (l.length - 6 - (l.headD 0).toNat)), [], ((l.getD 5 0).toNat : Int), (lowF (numF 4 l 1).1).1, (lowF (numF 4 l 1).1).2, 0, 0, 0, 0⟩, (0, 0)) w) := by
  have HF : Hid (∀ W, Below w.heap.size w W → Calls Tryz.prog 56 #[rawV fr 1 fl st rs a l.length c] W (FauP (0, 0) W)) := fun W hW => by
    have := ref14_fault fr 1 fl st rs a c l h0 h1 (by omega) W (h.grow hW)
    rwa [fault_zero.1 hf] at this
  have H8 : Hid (∀ W, Calls Tryz.prog 57 #[.int .i64 1, .int .i64 fl, .int .i64 8] W fun e w' => e = .returned (.bool true) ∧ W = w') := fun W => by have := ref08_Has 1 fl 8 (by simp) h0 h1 W; rwa [e8] at this
  have H32 : Hid (∀ W, Calls Tryz.prog 57 #[.int .i64 1, .int .i64 fl, .int .i64 32] W fun e w' => e = .returned (.bool true) ∧ W = w') := fun W => by have := ref08_Has 1 fl 32 (by simp) h0 h1 W; rwa [e32] at this
  obtain ⟨b, o, rfl, hbw, -⟩ := SlR.atB h (k := 0) (by omega)
  have HN : Hid (∀ W, Below w.heap.size w W → Calls Tryz.prog 58 #[.slice (some ⟨b, o, none⟩) l.length c, .int .i64 1] W fun e w' => e = .returned (.tuple #[.int .i64 (lowF (numF 4 l 1).1).1, .bool (lowF (numF 4 l 1).1).2]) ∧ ∃ j, w' = W.more j) := fun W hW => ref14_number (some ⟨b, o, none⟩) c l 1 (by omega) hlc W (h.grow hW)
  have hc4 := slb_byte h (k := 5) (by omega)
  have hy4 := (u8_le (l.getD 5 0))
  generalize (l.getD 5 0).toNat = y at hc4 hy4 ⊢
  have hc0 := slb_byte h (k := 0) (by omega)
  rw [getD_zero, Nat.add_zero] at hc0
  have hy0 := (u8_le (l.headD 0))
  generalize (l.headD 0).toNat = x at hc0 hy0 hk ⊢
  obtain ⟨M, hM⟩ : ∃ M, M = l.length - x := ⟨_, rfl⟩
  have hMi : (l.length : Int) - (x : Int) = (M : Int) := by omega
  have HD : Hid (((l.drop 6).take (l.length - 6 - x)).length = M - 6) := by show _ = _; simp; omega
  have hMl : M ≤ l.length := by omega
  have hMk : 6 ≤ M := by omega
  have hMc : M ≤ c := by omega
  have HMM : Hid (l.length = M + x) := by show _ = _; omega
  clear hM
  generalize lowF (numF 4 l 1).1 = L at HN ⊢
  obtain ⟨V, vb⟩ := L
  have HSD : Hid (∀ W, Below w.heap.size w W → SlB W W.heap.size (if c = 6 then (some ⟨b, o, none⟩ : Option Addr) else some ⟨b, o + 6, none⟩) ((l.drop 6).take (l.length - 6 - x))) := fun W hW => by
    have := SlR.take (SlR.drop_if (h.grow hW) 6 hlc) (l.length - 6 - x)
    rw [Nat.mul_one, Option.map_some, add_at] at this
    exact this
  have i1 : (6 : Int) ≤ (M : Nat) := by omega
  generalize ((l.drop 6).take (l.length - 6 - x)) = D at HD HSD ⊢
  have hDl : D.length ≤ 1048576 := by rw [HD.out]; omega
  have HDL := Lib.hid hDl
  have HLC := Lib.hid hlc
  have i2 : (l.length : Int) ≤ c := by omega
  unfold FauP at HF
  clear h h0 h1 hf hDl e8 e32
  go_enter Tryz.func35, Tryz.ntmps35
  go_wp2_with (first | (go_at_call 56; (with_reducible refine (HF.out _ bel).mono ?_); rintro e w' ⟨rfl, jf, rfl⟩) | (go_at_call 57; (with_reducible refine (H8.out _).mono ?_); rintro e w' ⟨rfl, rfl⟩) | (go_at_call 57; (with_reducible refine (H32.out _).mono ?_); rintro e w' ⟨rfl, rfl⟩) | (go_at_call 58; (with_reducible refine (HN.out _ bel).mono ?_); rintro e w' ⟨rfl, j, rfl⟩))
  refine wnm fun wz hwz => ?_
  obtain ⟨gb, hgb⟩ : ∃ gb, gb = w.heap.size + 1 + 1 + 1 + jf.heap.size + 1 := ⟨_, rfl⟩
  have HB : Hid (Below w.heap.size w wz) := by show Below _ _ _; rw [hwz]; exact bel
  have HK1 : Hid (Blk wz (w.heap.size + 1) FrmT (fmC 0 0 0 0 none 0 0 none 0 0 0 0 false 0 0 0 0)) := by show Blk _ _ _ _; rw [hwz]; exact blk
  have HK2 : Hid (Blk wz (w.heap.size + 2) FuT #[.int .i64 0, .int .i64 0]) := by show Blk _ _ _ _; rw [hwz]; exact blk
  have HKF : Hid (Blk wz gb FrmT (fmC 1 fl st ((x : Int)) none 0 0 none 0 0 (y : Int) V vb 0 0 0 0)) := by show Blk _ _ _ _; rw [hwz, hgb]; exact blk
  rw [← hgb]
  have hgb2 : w.heap.size + 3 ≤ gb := by omega
  clear hwz hgb
  refine gg_start (Gp (fun q => q = gb)) (fun _ => Gp.refl _) (h := ?_)
  obtain ⟨wd, hwd⟩ : ∃ wd, wd = wz.drew := ⟨_, rfl⟩
  rw [← hwd]
  have HBD : Hid (Below w.heap.size w wd) := by show Below _ _ _; rw [hwd]; exact Below.drew HB.out
  have HD1 : Hid (Blk wd (w.heap.size + 1) FrmT (fmC 0 0 0 0 none 0 0 none 0 0 0 0 false 0 0 0 0)) := by show Blk _ _ _ _; rw [hwd]; exact HK1.out
  have HD2 : Hid (Blk wd (w.heap.size + 2) FuT #[.int .i64 0, .int .i64 0]) := by show Blk _ _ _ _; rw [hwd]; exact HK2.out
  have HDF : Hid (Blk wd gb FrmT (fmC 1 fl st ((x : Int)) none 0 0 none 0 0 (y : Int) V vb 0 0 0 0)) := by show Blk _ _ _ _; rw [hwd]; exact HKF.out
  clear hwd
  have d4 : wd.cell? ⟨gb, 4, none⟩ = some (.slice none 0 0) := HDF.out.cell 4
  have dl := HDF.out.lt
  refine tk 0 ?_
  refine tk 2 ?_
  refine tk 3 ?_
  refine tk 4 ?_
  refine tk 5 ?_
  obtain ⟨SA, hSA⟩ : ∃ SA : Option Addr, SA = if c = 6 then some ⟨b, o, none⟩ else some ⟨b, o + 6, none⟩ := ⟨_, rfl⟩
  rw [← hSA] at HSD ⊢
  clear hSA
  refine gg_step (fun _ _ _ h h2 => h.trans h2) 1 (by kernel_rfl) rfl (fun K hK => ?_)
  go_simp
  go_wp2_with fail
  refine hK.out _ _ (Gp.refl _) ?_
  clear hK K
  try simp only [Act.put, nfa, nfb, nfc, nfd, List.set_cons_zero, List.set_cons_succ]
  refine gg_step (fun _ _ _ h h2 => h.trans h2) 6 (by kernel_rfl) rfl (fun K hK => ?_)
  refine step_bytes (.tmp 136) (.tmp 140) rfl rfl (B := wd.heap.size) (l := []) (m := D) (A := SA) (n := M - 6) (c := c - 6) rfl (OwnB.nil _ _) rfl (by first | exact HD.out | (rw [HD.out]; omega)) (HSD.out _ HBD.out) (by have := HDL.out; have := HD.out; simp; omega) (Nat.le_refl _) (fun v' w5 ho hb5 => ?_)
  refine hK.out _ _ (Gp.of_below hb5) ?_
  clear hK K
  try simp only [Act.put, nfa, nfb, nfc, nfd, List.set_cons_zero, List.set_cons_succ]
  obtain ⟨a5, c5, rfl, hc5, hs5, hn5⟩ := OwnB.full ho
  rw [List.nil_append] at hc5 hs5 ⊢
  have HB5 := Lib.hid hb5
  have HC5 := Lib.hid hc5
  have HS5 := Lib.hid hs5
  have HN5 := Lib.hid hn5
  have HF5 := Lib.hid (HDF.out.below hb5 dl)
  have x4 : w5.cell? ⟨gb, 4, none⟩ = some (.slice none 0 0) := HF5.out.cell 4
  have x4f := HF5.out.frozen 4
  have x4l := HF5.out.lt
  clear ho hb5 hc5 hs5 hn5 d4
  refine tk 7 ?_
  refine gg_step (fun _ _ _ h h2 => h.trans h2) 8 (by kernel_rfl) rfl (fun K hK => ?_)
  go_simp
  go_wp2_with fail
  obtain ⟨w6, hw6⟩ : ∃ w6, w6 = w5.setCell ⟨gb, 4, none⟩ (.slice a5 D.length c5) := ⟨_, rfl⟩
  rw [← hw6]
  have hg6 : Gp (fun q => q = gb) w5 w6 := by rw [hw6]; exact Gp.set (p := fun q => q = gb) _ rfl
  have HF6 : Hid (Blk w6 gb FrmT (fmC 1 fl st ((x : Int)) a5 D.length c5 none 0 0 (y : Int) V vb 0 0 0 0)) := by show Blk _ _ _ _; rw [hw6]; exact HF5.out.set_ 4 _
  refine hK.out _ _ hg6 ?_
  have HG6 := Lib.hid hg6
  clear hK K hw6 hg6 x4 x4f x4l
  try simp only [Act.put, nfa, nfb, nfc, nfd, List.set_cons_zero, List.set_cons_succ]
  refine wpAnyH_done (by kernel_rfl) ?_ _
  go_wp2_with (first | (refine wpList_load_row rfl FrmT _ rfl gb rfl FrmT _ (0, 0) _ HF6.out Tryz.underlying53 rfl (by kernel_rfl) ?_) | (refine wpList_store_row rfl FrmT _ _ rfl (w.heap.size + 1) _ rfl rfl FrmT _ (HG6.out.blk (HD1.out.below HB5.out HD1.out.lt) (by omega)) (by kernel_rfl) rfl fm_one ?_) | (refine wpList_store_row rfl FuT _ _ rfl (w.heap.size + 2) _ rfl rfl FuT _ ((gp_row _ _ _).blk (HG6.out.blk (HD2.out.below HB5.out HD2.out.lt) (by omega)) (by omega)) (by kernel_rfl) rfl fu_one ?_))
  have hgg : Gp (fun q => q = w.heap.size + 1 ∨ q = w.heap.size + 2 ∨ q = gb) w5 _ := ((HG6.out.imp (fun k hk => .inr (.inr hk))).trans ((gp_row w6 (w.heap.size + 1) (fmC 1 fl st ((x : Int)) a5 D.length c5 none 0 0 (y : Int) V vb 0 0 0 0)).imp (fun k hk => .inl hk))).trans ((gp_row _ (w.heap.size + 2) #[.int .i64 0, .int .i64 0]).imp (fun k hk => .inr (.inl hk)))
  refine bodyPost_ret (res_cell2 rfl st_Fm rfl ((gp_row _ (w.heap.size + 2) _).blk (blk_row (HG6.out.blk (HD1.out.below HB5.out HD1.out.lt) (by omega)) _) (by omega)) rfl st_Fu rfl (blk_row ((gp_row _ (w.heap.size + 1) _).blk (HG6.out.blk (HD2.out.below HB5.out HD2.out.lt) (by omega)) (by omega)) _) rfl) rfl ⟨_, rfl, ⟨a5, c5, none, 0, rfl, SlR.gpN (N := wd.heap.size) HS5.out HN5.out (fun k hk => by have := HD2.out.lt; omega) hgg, HC5.out, fun p hp => by have := HN5.out p hp; have := HBD.out.size; omega, .nil, Nat.le_refl _, fun p hp => by cases hp⟩, ?_⟩
  exact (HBD.out.trans (HB5.out.mono HBD.out.size)).trans (hgg.below (fun q hq => by omega) (Nat.le_trans HBD.out.size HB5.out.size))
end Go.Proofs.YtjhhdgmhocpceaaGreatDoor
