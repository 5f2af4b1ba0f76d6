/-
  Scenarios: the program's reader of a step: settings.
-/
import Derived.Test.YtfcgdfcekpbliaaGreatDoorScv2
import Derived.Test.YtfcgdfcekpbliaaGreatDoorScu1
namespace Go.Proofs.YtfcgdfcekpbliaaGreatDoor
set_option linter.unusedSimpArgs false
set_option linter.unusedVariables false
set_option linter.unusedSectionVars false
open Go.ChangeShapes Go.WideShapes Go.ChangeAt Go.RowKit Go.Deep Go.Shelf

/-- The reader's block, the box, or the row that grows. -/
def P3 (g bx : Nat) (v : Value) (k : Nat) : Prop := k = g ∨ k = bx ∨ some k = v.ownBlock
theorem gp3_grown {g bx : Nat} {v : Value} {w w' : World} (h : w.grownBy w' v.ownBlock) : Gp (P3 g bx v) w w' := ⟨h.os, h.tape, h.output, h.size, fun k hk hp => h.block k hk (fun e => hp (.inr (.inr e)))⟩
theorem unquoteF_len (w : List UInt8) : (unquoteF w).1.length ≤ w.length := by
  unfold unquoteF
  split
  · simp
  · split
    · rename_i o ho
      have h := (unqP_R w.length w o (Nat.le_refl _) ho).2
      have hq : ∀ c : UInt8, 1 ≤ (quB c).length := fun c => by unfold quB pairB; split <;> simp
      rw [← h]
      clear h ho
      show o.length ≤ _
      induction o with
      | nil => simp
      | cons c r ih =>
        simp only [List.flatMap_cons, List.length_append, List.length_cons]
        have := hq c
        omega
    · simp
theorem st_sg : SliceTy Tryz.prog 47 SgT3 (.agg #[.int .i64 0, .int .i64 0]) 2 16 := .mk' Tryz.underlying47 (by kernel_rfl) rfl (by omega)
theorem st_fl : SliceTy Tryz.prog 46 FlT3 (.agg #[.string .empty, .string .empty, .bool false]) 3 40 := .mk' Tryz.underlying46 (by kernel_rfl) rfl (by omega)
theorem rdT_sub {L : List (List UInt8)} {b : Bool} {n : List UInt8} {p2 : List (List UInt8)} {p3 : Bool} (h : rdT L b = (n, p2, p3)) : p2.length ≤ L.length ∧ ∀ x ∈ p2, x ∈ L := by
  have h2 : (rdW L b).2.1 = p2 := (congrArg (fun q => q.2.1) h)
  subst h2
  exact ⟨by have := rdW_len L b; omega, rdW_sub (p1 := (rdW L b).1) (p3 := (rdW L b).2.2) rfl⟩
set_option maxHeartbeats 16000000 in
set_option maxRecDepth 100000 in
theorem rd_step_set {B : Nat} (g : Nat) (L : List (List UInt8)) (b : Bool) (hL : L.length ≤ 100000) (hLl : ∀ x ∈ L, x.length ≤ 90000) (w0 w : World) (hb : Rb w0 g w) (hd : Hd w0) (hS : Rd B w g L b)
    (p1 : List UInt8) (p2 : List (List UInt8)) (p3 : Bool) (hp : rdW L b = (p1, p2, p3)) (hk : kindW p1 = 3) (ls : List (Int × Int)) (f2 : List (List UInt8)) (f3 : Bool) (hf : manyP oneS p2.length p2 (p3 || decide ((3 : Int) = 0)) = (ls, f2, f3)) :
    Calls Tryz.prog 31 #[.pointer (some ⟨g, 0, none⟩)] w (RsP B g ⟨3, 0, 0, false, [], ls⟩ f2 f3 w) := by
  have hgl := hS.lt
  have HS := Lib.hid hS
  have HP := Lib.hid hp
  have HKK := Lib.hid hk
  have HB := Lib.hid hb
  have HHD : Hid (∀ W, Gm g w W → Hd W) := fun W hW => hd.below (hb.bl.trans (hW.below hb.lo hb.bl.size))
  have hp2 : p2.length ≤ 100000 := by have := rdW_len L b; rw [hp] at this; simp only at this; omega
  have HLL : Hid (∀ x ∈ p2, x.length ≤ 90000) := fun x hx => hLl x (rdW_sub hp x hx)
  clear hb hd hS hp hk hLl
  have HFF := Lib.hid hf
  clear hf
  go_enter Tryz.func31, Tryz.ntmps31
  go_wp2_with fail
  refine (rd_word g L b (by omega) _ (HS.out.grow bel)).mono ?_
  rintro e w1 ⟨rfl, hr1, hg1⟩
  rw [HP.out] at hr1 ⊢
  have hrs1 : Blk w1 w.heap.size PtT #[.int .i64 0, .int .i64 0, .int .i64 0, .bool false, .slice none 0 0, .slice none 0 0] := (Blk.new w PtT _).grown hg1 (by simp; omega)
  have HG1 : Hid (Gm g w w1) := (gm_below bel).trans hg1
  have HR1 := Lib.hid hr1
  have HT1 := Lib.hid hrs1
  clear hr1 hg1 hrs1
  go_wp2_with fail
  refine (rd_kind g p1 p2 p3 w1 (HHD.out _ HG1.out) HR1.out).mono ?_
  rintro e w2 ⟨rfl, hr2, hg2⟩
  rw [HKK.out] at hr2 ⊢
  have hrs2 : Blk w2 w.heap.size PtT #[.int .i64 0, .int .i64 0, .int .i64 0, .bool false, .slice none 0 0, .slice none 0 0] := HT1.out.grown hg2 (by simp; omega)
  have HG2 : Hid (Gm g w w2) := HG1.out.trans hg2
  have HT2 := Lib.hid hrs2
  have HR2 := Lib.hid hr2
  have hw2l := hrs2.lt
  clear hr2 hg2 hrs2 HG1 HR1 HT1
  have HX3 : Hid (RxS B w g w2.heap.size 3 0 0 false none 0 0 none 0 0 p2 (p3 || decide ((3 : Int) = 0)) (w2.alloc (.cells #[.int .i64 3, .int .i64 0, .int .i64 0, .bool false, .slice none 0 0, .slice none 0 0] PtT))) :=
    ⟨HR2.out.grow bel, Blk.new _ _ _, HT2.out.alloc _, HG2.out.trans (gm_below bel), hw2l, hgl⟩
  clear HG2 HT2 HR2
  go_wp2_with fail
  obtain ⟨w3, hw3⟩ : ∃ w3, w3 = w2.alloc (.cells #[.int .i64 3, .int .i64 0, .int .i64 0, .bool false, .slice none 0 0, .slice none 0 0] PtT) := ⟨_, rfl⟩
  rw [← hw3] at HX3 ⊢
  clear hw3
  obtain ⟨bx, hbx⟩ : ∃ bx, bx = w2.heap.size := ⟨_, rfl⟩
  rw [← hbx] at HX3 hw2l ⊢
  clear hbx
  have hne1 : ¬ bx = w.heap.size := by omega
  have hne2 : ¬ w.heap.size = bx := by omega
  have HBW : Hid (B ≤ w.heap.size) := HS.out.lz
  have hBw := HBW.out
  go_loopg [] p2.length (fun q wr => ∃ (L1 : List (List UInt8)) (b1 : Bool) (acc : List (Int × Int)) (sa : Option Addr) (sc : Nat), L1.length ≤ q ∧ acc.length + L1.length ≤ 100000 ∧ (∀ x ∈ L1, x.length ≤ 90000) ∧ RxS B w g bx 3 0 0 false none 0 0 sa acc.length sc L1 b1 wr ∧ OwnG w.heap.size wr (.slice sa acc.length sc) acc ∧ Hid ((ls, f2, f3) = (acc ++ (manyP oneS q L1 b1).1, (manyP oneS q L1 b1).2)))
  case atStart => exact ⟨p2, (p3 || decide ((3 : Int) = 0)), [], none, 0, Nat.le_refl _, by simp; omega, HLL.out, HX3.out, World.ownsRow_nil _ _ _ _, by show _ = _; rw [HFF.out]; rfl⟩
  case round =>
    obtain ⟨L1, b1, acc, sa, sc, hlq, hla, hls, hx, ho, HF⟩ := hrel
    have HLQ0 := Lib.hid hlq
    have HLA0 := Lib.hid hla
    have HLS := Lib.hid hls
    have HX := Lib.hid hx
    have HO := Lib.hid ho
    obtain ⟨ra, rc, hrb, _, _⟩ := hx.rd.st
    have u0 : wr.cell? ⟨g, 0, none⟩ = some (.slice ra L1.length rc) := hrb.cell 0
    have u1 : wr.cell? ⟨g, 1, none⟩ = some (.bool b1) := hrb.cell 1
    have ul := hrb.lt
    have hal : acc.length ≤ 100000 := by omega
    clear hlq hla hls hx ho hrb
    by_cases hgo : L1 ≠ [] ∧ b1 = false
    · obtain ⟨hne, rfl⟩ := hgo
      obtain ⟨q, rfl⟩ : ∃ q, gk = q + 1 := by
        cases gk with
        | zero => exact absurd (List.length_eq_zero_iff.1 (Nat.le_zero.1 HLQ0.out)) hne
        | succ q => exact ⟨q, rfl⟩
      have hpos : (0 : Int) < (L1.length : Int) := by have := List.length_pos_iff.2 hne; omega
      have hposn : 0 < L1.length := List.length_pos_iff.2 hne
      have hF : manyP oneS (q + 1) L1 false = ((oneS L1 false).1 :: (manyP oneS q (oneS L1 false).2.1 (oneS L1 false).2.2).1, (manyP oneS q (oneS L1 false).2.1 (oneS L1 false).2.2).2) := by
        rw [manyP, if_pos ⟨hne, rfl⟩]
      rw [hF] at HF
      have hol := oneS_len L1 false
      obtain ⟨n1, t2, t3, hn1⟩ : ∃ n1 t2 t3, rdN L1 false = (n1, t2, t3) := ⟨_, _, _, rfl⟩
      obtain ⟨n2, u2, u3, hn2⟩ : ∃ n2 u2 u3, rdN t2 t3 = (n2, u2, u3) := ⟨_, _, _, rfl⟩
      have h1 : oneS L1 false = ((n1, n2), u2, u3) := by unfold oneS; simp only [hn1, hn2]
      rw [h1] at HF hol
      simp only at HF hol
      have HN := Lib.hid hn1
      have HM := Lib.hid hn2
      have HLT : Hid (∀ x ∈ t2, x.length ≤ 90000) := fun x hx => HLS.out x ((rdN_sub hn1).2 x hx)
      have HLS2 : Hid (∀ x ∈ u2, x.length ≤ 90000) := fun x hx => HLT.out x ((rdN_sub hn2).2 x hx)
      have ht2 : t2.length ≤ 100000 := by have := (rdN_sub hn1).1; have := HLA0.out; omega
      have hl1 : L1.length ≤ 100000 := by have := HLA0.out; omega
      have HLQ : Hid (u2.length ≤ q) := by show _ ≤ _; have := HLQ0.out; omega
      have HLA : Hid (acc.length + 1 + u2.length ≤ 100000) := by show _ ≤ _; have := HLA0.out; omega
      have HF2 : Hid ((ls, f2, f3) = ((acc ++ [(n1, n2)]) ++ (manyP oneS q u2 u3).1, (manyP oneS q u2 u3).2)) := by
        show _ = _
        rw [HF.out]
        simp
      clear HF hn1 hn2 h1
      clear hF hol hne
      go_wp2_with fail
      refine gp_start (P3 g bx (.slice sa acc.length sc)) (by kernel_rfl) ?_
      obtain ⟨wd, hwd⟩ : ∃ wd, wd = wr.drew := ⟨_, rfl⟩
      rw [← hwd]
      have HXd : Hid (RxS B w g bx 3 0 0 false none 0 0 sa acc.length sc L1 false wd) := by show RxS _ _ _ _ _ _ _ _ _ _ _ _ _ _ _ _ _; rw [hwd]; exact ⟨⟨HX.out.rd.st, HX.out.rd.lz⟩, HX.out.bk, HX.out.rs, ⟨HX.out.gm.os, HX.out.gm.tape, HX.out.gm.output, HX.out.gm.size, HX.out.gm.block⟩, HX.out.lo, HX.out.gl⟩
      have HOd : Hid (OwnG w.heap.size wd (.slice sa acc.length sc) acc) := by show OwnG _ _ _ _; rw [hwd]; exact HO.out
      have kd5 : wd.cell? ⟨bx, 5, none⟩ = some (.slice sa acc.length sc) := HXd.out.bk.cell 5
      have bd5 := HXd.out.bk.lt
      clear hwd
      refine gp_take 0 (v := ?_) rfl (by kernel_rfl) (by kernel_rfl) (by kernel_rfl) (fun _ _ _ h => h) (Or.inl ⟨by first | kernel_rfl | rfl, ?_⟩) ?_
      rotate_left
      · intro wS hSw; clear hSw; go_simp; try with_reducible rfl
      try simp only [Act.put, List.getElem_toArray, List.getElem_cons_succ, List.getElem_cons_zero, List.setIfInBounds_toArray, List.set_cons_zero, List.set_cons_succ]
      refine gp_take 2 (v := ?_) rfl (by kernel_rfl) (by kernel_rfl) (by kernel_rfl) (fun _ _ _ h => h) (Or.inl ⟨by first | kernel_rfl | rfl, ?_⟩) ?_
      rotate_left
      · intro wS hSw; clear hSw; go_simp; try with_reducible rfl
      try simp only [Act.put, List.getElem_toArray, List.getElem_cons_succ, List.getElem_cons_zero, List.setIfInBounds_toArray, List.set_cons_zero, List.set_cons_succ]
      refine gp_take 4 (v := ?_) rfl (by kernel_rfl) (by kernel_rfl) (by kernel_rfl) (fun _ _ _ h => h) (Or.inl ⟨by first | kernel_rfl | rfl, ?_⟩) ?_
      rotate_left
      · intro wS hSw; clear hSw; go_simp; try with_reducible rfl
      try simp only [Act.put, List.getElem_toArray, List.getElem_cons_succ, List.getElem_cons_zero, List.setIfInBounds_toArray, List.set_cons_zero, List.set_cons_succ]
      refine gp_two 1 3 (by kernel_rfl) rfl rfl (fun K' hK => ?_) (fun K' hK => ?_)
      · go_simp
        go_wp2_with fail
        refine hK.out _ _ (show Gp _ _ _ from Gp.refl _) ?_
        clear hK K'
        try simp only [Act.put, List.getElem_toArray, List.getElem_cons_succ, List.getElem_cons_zero, List.setIfInBounds_toArray, List.set_cons_zero, List.set_cons_succ]
        refine gp_step 3 (by kernel_rfl) rfl (fun K hK => ?_)
        go_simp
        go_wp2_with fail
        refine (rd_number g L1 false (by omega) HLS.out w0 _ (HXd.out.env HB.out) HXd.out.rd).mono ?_
        rintro e w4 ⟨rfl, hr, hg⟩
        rw [HN.out] at hr ⊢
        have HX4 := Lib.hid (HXd.out.call hr hg)
        have HO4 : Hid (OwnG w.heap.size w4 (.slice sa acc.length sc) acc) := by
          obtain ⟨_, _, hgb, _⟩ := HXd.out.rd.st
          exact own_gm HOd.out hgb (by decide) hg
        have k45 : w4.cell? ⟨bx, 5, none⟩ = some (.slice sa acc.length sc) := HX4.out.bk.cell 5
        have b45 := HX4.out.bk.lt
        go_wp2_with fail
        refine hK.out _ _ (show Gp _ _ _ from Gp.of_gm hg (Or.inl rfl)) ?_
        clear hK K
        try simp only [Act.put, List.getElem_toArray, List.getElem_cons_succ, List.getElem_cons_zero, List.setIfInBounds_toArray, List.set_cons_zero, List.set_cons_succ]
        clear hr hg
        refine gp_step 5 (by kernel_rfl) rfl (fun K hK => ?_)
        go_simp
        go_wp2_with fail
        refine (rd_number g t2 t3 (by omega) HLT.out w0 _ (HX4.out.env HB.out) HX4.out.rd).mono ?_
        rintro e w5 ⟨rfl, hr, hg⟩
        rw [HM.out] at hr ⊢
        have HX5 := Lib.hid (HX4.out.call hr hg)
        have HO5 : Hid (OwnG w.heap.size w5 (.slice sa acc.length sc) acc) := by
          obtain ⟨_, _, hgb, _⟩ := HX4.out.rd.st
          exact own_gm HO4.out hgb (by decide) hg
        have k55 : w5.cell? ⟨bx, 5, none⟩ = some (.slice sa acc.length sc) := HX5.out.bk.cell 5
        have b55 := HX5.out.bk.lt
        go_wp2_with fail
        refine hK.out _ _ (show Gp _ _ _ from Gp.of_gm hg (Or.inl rfl)) ?_
        clear hK K
        try simp only [Act.put, List.getElem_toArray, List.getElem_cons_succ, List.getElem_cons_zero, List.setIfInBounds_toArray, List.set_cons_zero, List.set_cons_succ]
        clear hr hg
        refine gp_step 6 (by kernel_rfl) rfl (fun K hK => ?_)
        go_simp
        go_wp2_with fail
        refine hK.out _ _ (show Gp _ _ _ from Gp.refl _) ?_
        clear hK K
        try simp only [Act.put, List.getElem_toArray, List.getElem_cons_succ, List.getElem_cons_zero, List.setIfInBounds_toArray, List.set_cons_zero, List.set_cons_succ]
        refine gp_step 7 (by kernel_rfl) rfl (fun K hK => ?_)
        go_simp
        go_wp2_with fail
        refine hK.out _ _ (show Gp _ _ _ from Gp.of_below bel) ?_
        clear hK K
        try simp only [Act.put, List.getElem_toArray, List.getElem_cons_succ, List.getElem_cons_zero, List.setIfInBounds_toArray, List.set_cons_zero, List.set_cons_succ]
        refine gp_step 8 (by kernel_rfl) rfl (fun K hK => ?_)
        refine step_app st_sg (.tmp 71) (.tmp 77) rfl rfl (v := .slice sa acc.length sc) rfl (show World.ownsRow _ _ _ _ _ _ _ from own_below HO5.out (show Below w5.heap.size w5 _ from bel) (Nat.le_refl _)) rfl (Blk.at_ _ _ _ rfl) rfl (by intro y hy; simp at hy; rcases hy with rfl | rfl <;> rfl) (by unfold maxLen; omega) (by omega) (by simp only [World.size_alloc]; have := HX5.out.gm.size; omega) ?_
        intro v' x2 hown hgr
        obtain ⟨a2, c2, rfl, _⟩ := own_slice hown
        have hoi := (show (w5.alloc (.cells #[.int .i64 n1, .int .i64 n2] SgT3)).ownsRow _ _ _ _ _ _ from own_below HO5.out (show Below w5.heap.size w5 (w5.alloc (.cells #[.int .i64 n1, .int .i64 n2] SgT3)) from bel) (Nat.le_refl _))
        have HXa := HX5.out.grow (show Below w5.heap.size w5 (w5.alloc (.cells #[.int .i64 n1, .int .i64 n2] SgT3)) from bel)
        have HX6 := Lib.hid (HXa.row hgr (fun k hk => (hoi.lt k hk).1) hBw (own_ne_ty hoi HXa.bk (by decide)) (own_ne_ty hoi HXa.rs (by decide)))
        have HO6 : Hid (OwnG w.heap.size x2 (.slice a2 (acc.length + 1) c2) (acc ++ [(n1, n2)])) := by
          show World.ownsRow _ _ _ _ _ _ _
          rw [List.length_append, List.flatMap_append]
          exact hown
        have f5 : x2.cell? ⟨bx, 5, none⟩ = some (.slice sa acc.length sc) := HX6.out.bk.cell 5
        have y5 : x2.frozen? ⟨bx, 5, none⟩ = false := HX6.out.bk.frozen 5
        have l5 := HX6.out.bk.lt
        refine hK.out _ _ (show Gp _ _ _ from gp3_grown hgr) ?_
        clear hK K
        clear hown hgr hoi HXa
        try simp only [Act.put, List.getElem_toArray, List.getElem_cons_succ, List.getElem_cons_zero, List.setIfInBounds_toArray, List.set_cons_zero, List.set_cons_succ]
        refine gp_step 9 (by kernel_rfl) rfl (fun K hK => ?_)
        go_simp
        go_wp2_with fail
        refine hK.out _ _ (show Gp _ _ _ from Gp.refl _) ?_
        clear hK K
        try simp only [Act.put, List.getElem_toArray, List.getElem_cons_succ, List.getElem_cons_zero, List.setIfInBounds_toArray, List.set_cons_zero, List.set_cons_succ]
        refine gp_step 10 (by kernel_rfl) rfl (fun K hK => ?_)
        go_simp
        go_wp2_with fail
        refine hK.out _ _ (show Gp _ _ _ from Gp.set _ (.inr (.inl rfl))) ?_
        clear hK K
        try simp only [Act.put, List.getElem_toArray, List.getElem_cons_succ, List.getElem_cons_zero, List.setIfInBounds_toArray, List.set_cons_zero, List.set_cons_succ]
        refine wpAnyH_done (by kernel_rfl) ?_ _
        go_wp2_with fail
        go_roundg q
        case measure => omega
        case rel => exact ⟨_, _, _, _, _, by have := HLQ.out; omega, by have := HLA.out; simp only [List.length_append, List.length_cons, List.length_nil]; omega, HLS2.out, by rw [List.length_append]; exact HX6.out.put5 a2 (acc.length + 1) c2, by rw [List.length_append]; exact own_far HO6.out HX6.out.bk (by decide), HF2⟩
      · go_simp
        go_wp2_with fail
        refine (rd_number g L1 false (by omega) HLS.out w0 _ (HXd.out.env HB.out) HXd.out.rd).mono ?_
        rintro e w4 ⟨rfl, hr, hg⟩
        rw [HN.out] at hr ⊢
        have HX4 := Lib.hid (HXd.out.call hr hg)
        have HO4 : Hid (OwnG w.heap.size w4 (.slice sa acc.length sc) acc) := by
          obtain ⟨_, _, hgb, _⟩ := HXd.out.rd.st
          exact own_gm HOd.out hgb (by decide) hg
        have k45 : w4.cell? ⟨bx, 5, none⟩ = some (.slice sa acc.length sc) := HX4.out.bk.cell 5
        have b45 := HX4.out.bk.lt
        go_wp2_with fail
        refine hK.out _ _ (show Gp _ _ _ from Gp.of_gm hg (Or.inl rfl)) ?_
        clear hK K'
        try simp only [Act.put, List.getElem_toArray, List.getElem_cons_succ, List.getElem_cons_zero, List.setIfInBounds_toArray, List.set_cons_zero, List.set_cons_succ]
        clear hr hg
        refine gp_two 1 5 (by kernel_rfl) rfl rfl (fun K' hK => ?_) (fun K' hK => ?_)
        · go_simp
          go_wp2_with fail
          refine hK.out _ _ (show Gp _ _ _ from Gp.refl _) ?_
          clear hK K'
          try simp only [Act.put, List.getElem_toArray, List.getElem_cons_succ, List.getElem_cons_zero, List.setIfInBounds_toArray, List.set_cons_zero, List.set_cons_succ]
          refine gp_step 5 (by kernel_rfl) rfl (fun K hK => ?_)
          go_simp
          go_wp2_with fail
          refine (rd_number g t2 t3 (by omega) HLT.out w0 _ (HX4.out.env HB.out) HX4.out.rd).mono ?_
          rintro e w5 ⟨rfl, hr, hg⟩
          rw [HM.out] at hr ⊢
          have HX5 := Lib.hid (HX4.out.call hr hg)
          have HO5 : Hid (OwnG w.heap.size w5 (.slice sa acc.length sc) acc) := by
            obtain ⟨_, _, hgb, _⟩ := HX4.out.rd.st
            exact own_gm HO4.out hgb (by decide) hg
          have k55 : w5.cell? ⟨bx, 5, none⟩ = some (.slice sa acc.length sc) := HX5.out.bk.cell 5
          have b55 := HX5.out.bk.lt
          go_wp2_with fail
          refine hK.out _ _ (show Gp _ _ _ from Gp.of_gm hg (Or.inl rfl)) ?_
          clear hK K
          try simp only [Act.put, List.getElem_toArray, List.getElem_cons_succ, List.getElem_cons_zero, List.setIfInBounds_toArray, List.set_cons_zero, List.set_cons_succ]
          clear hr hg
          refine gp_step 6 (by kernel_rfl) rfl (fun K hK => ?_)
          go_simp
          go_wp2_with fail
          refine hK.out _ _ (show Gp _ _ _ from Gp.refl _) ?_
          clear hK K
          try simp only [Act.put, List.getElem_toArray, List.getElem_cons_succ, List.getElem_cons_zero, List.setIfInBounds_toArray, List.set_cons_zero, List.set_cons_succ]
          refine gp_step 7 (by kernel_rfl) rfl (fun K hK => ?_)
          go_simp
          go_wp2_with fail
          refine hK.out _ _ (show Gp _ _ _ from Gp.of_below bel) ?_
          clear hK K
          try simp only [Act.put, List.getElem_toArray, List.getElem_cons_succ, List.getElem_cons_zero, List.setIfInBounds_toArray, List.set_cons_zero, List.set_cons_succ]
          refine gp_step 8 (by kernel_rfl) rfl (fun K hK => ?_)
          refine step_app st_sg (.tmp 71) (.tmp 77) rfl rfl (v := .slice sa acc.length sc) rfl (show World.ownsRow _ _ _ _ _ _ _ from own_below HO5.out (show Below w5.heap.size w5 _ from bel) (Nat.le_refl _)) rfl (Blk.at_ _ _ _ rfl) rfl (by intro y hy; simp at hy; rcases hy with rfl | rfl <;> rfl) (by unfold maxLen; omega) (by omega) (by simp only [World.size_alloc]; have := HX5.out.gm.size; omega) ?_
          intro v' x2 hown hgr
          obtain ⟨a2, c2, rfl, _⟩ := own_slice hown
          have hoi := (show (w5.alloc (.cells #[.int .i64 n1, .int .i64 n2] SgT3)).ownsRow _ _ _ _ _ _ from own_below HO5.out (show Below w5.heap.size w5 (w5.alloc (.cells #[.int .i64 n1, .int .i64 n2] SgT3)) from bel) (Nat.le_refl _))
          have HXa := HX5.out.grow (show Below w5.heap.size w5 (w5.alloc (.cells #[.int .i64 n1, .int .i64 n2] SgT3)) from bel)
          have HX6 := Lib.hid (HXa.row hgr (fun k hk => (hoi.lt k hk).1) hBw (own_ne_ty hoi HXa.bk (by decide)) (own_ne_ty hoi HXa.rs (by decide)))
          have HO6 : Hid (OwnG w.heap.size x2 (.slice a2 (acc.length + 1) c2) (acc ++ [(n1, n2)])) := by
            show World.ownsRow _ _ _ _ _ _ _
            rw [List.length_append, List.flatMap_append]
            exact hown
          have f5 : x2.cell? ⟨bx, 5, none⟩ = some (.slice sa acc.length sc) := HX6.out.bk.cell 5
          have y5 : x2.frozen? ⟨bx, 5, none⟩ = false := HX6.out.bk.frozen 5
          have l5 := HX6.out.bk.lt
          refine hK.out _ _ (show Gp _ _ _ from gp3_grown hgr) ?_
          clear hK K
          clear hown hgr hoi HXa
          try simp only [Act.put, List.getElem_toArray, List.getElem_cons_succ, List.getElem_cons_zero, List.setIfInBounds_toArray, List.set_cons_zero, List.set_cons_succ]
          refine gp_step 9 (by kernel_rfl) rfl (fun K hK => ?_)
          go_simp
          go_wp2_with fail
          refine hK.out _ _ (show Gp _ _ _ from Gp.refl _) ?_
          clear hK K
          try simp only [Act.put, List.getElem_toArray, List.getElem_cons_succ, List.getElem_cons_zero, List.setIfInBounds_toArray, List.set_cons_zero, List.set_cons_succ]
          refine gp_step 10 (by kernel_rfl) rfl (fun K hK => ?_)
          go_simp
          go_wp2_with fail
          refine hK.out _ _ (show Gp _ _ _ from Gp.set _ (.inr (.inl rfl))) ?_
          clear hK K
          try simp only [Act.put, List.getElem_toArray, List.getElem_cons_succ, List.getElem_cons_zero, List.setIfInBounds_toArray, List.set_cons_zero, List.set_cons_succ]
          refine wpAnyH_done (by kernel_rfl) ?_ _
          go_wp2_with fail
          go_roundg q
          case measure => omega
          case rel => exact ⟨_, _, _, _, _, by have := HLQ.out; omega, by have := HLA.out; simp only [List.length_append, List.length_cons, List.length_nil]; omega, HLS2.out, by rw [List.length_append]; exact HX6.out.put5 a2 (acc.length + 1) c2, by rw [List.length_append]; exact own_far HO6.out HX6.out.bk (by decide), HF2⟩
        · go_simp
          go_wp2_with fail
          refine (rd_number g t2 t3 (by omega) HLT.out w0 _ (HX4.out.env HB.out) HX4.out.rd).mono ?_
          rintro e w5 ⟨rfl, hr, hg⟩
          rw [HM.out] at hr ⊢
          have HX5 := Lib.hid (HX4.out.call hr hg)
          have HO5 : Hid (OwnG w.heap.size w5 (.slice sa acc.length sc) acc) := by
            obtain ⟨_, _, hgb, _⟩ := HX4.out.rd.st
            exact own_gm HO4.out hgb (by decide) hg
          have k55 : w5.cell? ⟨bx, 5, none⟩ = some (.slice sa acc.length sc) := HX5.out.bk.cell 5
          have b55 := HX5.out.bk.lt
          go_wp2_with fail
          refine hK.out _ _ (show Gp _ _ _ from Gp.of_gm hg (Or.inl rfl)) ?_
          clear hK K'
          try simp only [Act.put, List.getElem_toArray, List.getElem_cons_succ, List.getElem_cons_zero, List.setIfInBounds_toArray, List.set_cons_zero, List.set_cons_succ]
          clear hr hg
          refine gp_two 1 6 (by kernel_rfl) rfl rfl (fun K' hK => ?_) (fun K' hK => ?_)
          · go_simp
            go_wp2_with fail
            refine hK.out _ _ (show Gp _ _ _ from Gp.refl _) ?_
            clear hK K'
            try simp only [Act.put, List.getElem_toArray, List.getElem_cons_succ, List.getElem_cons_zero, List.setIfInBounds_toArray, List.set_cons_zero, List.set_cons_succ]
            refine gp_step 6 (by kernel_rfl) rfl (fun K hK => ?_)
            go_simp
            go_wp2_with fail
            refine hK.out _ _ (show Gp _ _ _ from Gp.refl _) ?_
            clear hK K
            try simp only [Act.put, List.getElem_toArray, List.getElem_cons_succ, List.getElem_cons_zero, List.setIfInBounds_toArray, List.set_cons_zero, List.set_cons_succ]
            refine gp_step 7 (by kernel_rfl) rfl (fun K hK => ?_)
            go_simp
            go_wp2_with fail
            refine hK.out _ _ (show Gp _ _ _ from Gp.of_below bel) ?_
            clear hK K
            try simp only [Act.put, List.getElem_toArray, List.getElem_cons_succ, List.getElem_cons_zero, List.setIfInBounds_toArray, List.set_cons_zero, List.set_cons_succ]
            refine gp_step 8 (by kernel_rfl) rfl (fun K hK => ?_)
            refine step_app st_sg (.tmp 71) (.tmp 77) rfl rfl (v := .slice sa acc.length sc) rfl (show World.ownsRow _ _ _ _ _ _ _ from own_below HO5.out (show Below w5.heap.size w5 _ from bel) (Nat.le_refl _)) rfl (Blk.at_ _ _ _ rfl) rfl (by intro y hy; simp at hy; rcases hy with rfl | rfl <;> rfl) (by unfold maxLen; omega) (by omega) (by simp only [World.size_alloc]; have := HX5.out.gm.size; omega) ?_
            intro v' x2 hown hgr
            obtain ⟨a2, c2, rfl, _⟩ := own_slice hown
            have hoi := (show (w5.alloc (.cells #[.int .i64 n1, .int .i64 n2] SgT3)).ownsRow _ _ _ _ _ _ from own_below HO5.out (show Below w5.heap.size w5 (w5.alloc (.cells #[.int .i64 n1, .int .i64 n2] SgT3)) from bel) (Nat.le_refl _))
            have HXa := HX5.out.grow (show Below w5.heap.size w5 (w5.alloc (.cells #[.int .i64 n1, .int .i64 n2] SgT3)) from bel)
            have HX6 := Lib.hid (HXa.row hgr (fun k hk => (hoi.lt k hk).1) hBw (own_ne_ty hoi HXa.bk (by decide)) (own_ne_ty hoi HXa.rs (by decide)))
            have HO6 : Hid (OwnG w.heap.size x2 (.slice a2 (acc.length + 1) c2) (acc ++ [(n1, n2)])) := by
              show World.ownsRow _ _ _ _ _ _ _
              rw [List.length_append, List.flatMap_append]
              exact hown
            have f5 : x2.cell? ⟨bx, 5, none⟩ = some (.slice sa acc.length sc) := HX6.out.bk.cell 5
            have y5 : x2.frozen? ⟨bx, 5, none⟩ = false := HX6.out.bk.frozen 5
            have l5 := HX6.out.bk.lt
            refine hK.out _ _ (show Gp _ _ _ from gp3_grown hgr) ?_
            clear hK K
            clear hown hgr hoi HXa
            try simp only [Act.put, List.getElem_toArray, List.getElem_cons_succ, List.getElem_cons_zero, List.setIfInBounds_toArray, List.set_cons_zero, List.set_cons_succ]
            refine gp_step 9 (by kernel_rfl) rfl (fun K hK => ?_)
            go_simp
            go_wp2_with fail
            refine hK.out _ _ (show Gp _ _ _ from Gp.refl _) ?_
            clear hK K
            try simp only [Act.put, List.getElem_toArray, List.getElem_cons_succ, List.getElem_cons_zero, List.setIfInBounds_toArray, List.set_cons_zero, List.set_cons_succ]
            refine gp_step 10 (by kernel_rfl) rfl (fun K hK => ?_)
            go_simp
            go_wp2_with fail
            refine hK.out _ _ (show Gp _ _ _ from Gp.set _ (.inr (.inl rfl))) ?_
            clear hK K
            try simp only [Act.put, List.getElem_toArray, List.getElem_cons_succ, List.getElem_cons_zero, List.setIfInBounds_toArray, List.set_cons_zero, List.set_cons_succ]
            refine wpAnyH_done (by kernel_rfl) ?_ _
            go_wp2_with fail
            go_roundg q
            case measure => omega
            case rel => exact ⟨_, _, _, _, _, by have := HLQ.out; omega, by have := HLA.out; simp only [List.length_append, List.length_cons, List.length_nil]; omega, HLS2.out, by rw [List.length_append]; exact HX6.out.put5 a2 (acc.length + 1) c2, by rw [List.length_append]; exact own_far HO6.out HX6.out.bk (by decide), HF2⟩
          · go_simp
            go_wp2_with fail
            refine hK.out _ _ (show Gp _ _ _ from Gp.refl _) ?_
            clear hK K'
            try simp only [Act.put, List.getElem_toArray, List.getElem_cons_succ, List.getElem_cons_zero, List.setIfInBounds_toArray, List.set_cons_zero, List.set_cons_succ]
            refine gp_two 1 7 (by kernel_rfl) rfl rfl (fun K' hK => ?_) (fun K' hK => ?_)
            · go_simp
              go_wp2_with fail
              refine hK.out _ _ (show Gp _ _ _ from Gp.refl _) ?_
              clear hK K'
              try simp only [Act.put, List.getElem_toArray, List.getElem_cons_succ, List.getElem_cons_zero, List.setIfInBounds_toArray, List.set_cons_zero, List.set_cons_succ]
              refine gp_step 7 (by kernel_rfl) rfl (fun K hK => ?_)
              go_simp
              go_wp2_with fail
              refine hK.out _ _ (show Gp _ _ _ from Gp.of_below bel) ?_
              clear hK K
              try simp only [Act.put, List.getElem_toArray, List.getElem_cons_succ, List.getElem_cons_zero, List.setIfInBounds_toArray, List.set_cons_zero, List.set_cons_succ]
              refine gp_step 8 (by kernel_rfl) rfl (fun K hK => ?_)
              refine step_app st_sg (.tmp 71) (.tmp 77) rfl rfl (v := .slice sa acc.length sc) rfl (show World.ownsRow _ _ _ _ _ _ _ from own_below HO5.out (show Below w5.heap.size w5 _ from bel) (Nat.le_refl _)) rfl (Blk.at_ _ _ _ rfl) rfl (by intro y hy; simp at hy; rcases hy with rfl | rfl <;> rfl) (by unfold maxLen; omega) (by omega) (by simp only [World.size_alloc]; have := HX5.out.gm.size; omega) ?_
              intro v' x2 hown hgr
              obtain ⟨a2, c2, rfl, _⟩ := own_slice hown
              have hoi := (show (w5.alloc (.cells #[.int .i64 n1, .int .i64 n2] SgT3)).ownsRow _ _ _ _ _ _ from own_below HO5.out (show Below w5.heap.size w5 (w5.alloc (.cells #[.int .i64 n1, .int .i64 n2] SgT3)) from bel) (Nat.le_refl _))
              have HXa := HX5.out.grow (show Below w5.heap.size w5 (w5.alloc (.cells #[.int .i64 n1, .int .i64 n2] SgT3)) from bel)
              have HX6 := Lib.hid (HXa.row hgr (fun k hk => (hoi.lt k hk).1) hBw (own_ne_ty hoi HXa.bk (by decide)) (own_ne_ty hoi HXa.rs (by decide)))
              have HO6 : Hid (OwnG w.heap.size x2 (.slice a2 (acc.length + 1) c2) (acc ++ [(n1, n2)])) := by
                show World.ownsRow _ _ _ _ _ _ _
                rw [List.length_append, List.flatMap_append]
                exact hown
              have f5 : x2.cell? ⟨bx, 5, none⟩ = some (.slice sa acc.length sc) := HX6.out.bk.cell 5
              have y5 : x2.frozen? ⟨bx, 5, none⟩ = false := HX6.out.bk.frozen 5
              have l5 := HX6.out.bk.lt
              refine hK.out _ _ (show Gp _ _ _ from gp3_grown hgr) ?_
              clear hK K
              clear hown hgr hoi HXa
              try simp only [Act.put, List.getElem_toArray, List.getElem_cons_succ, List.getElem_cons_zero, List.setIfInBounds_toArray, List.set_cons_zero, List.set_cons_succ]
              refine gp_step 9 (by kernel_rfl) rfl (fun K hK => ?_)
              go_simp
              go_wp2_with fail
              refine hK.out _ _ (show Gp _ _ _ from Gp.refl _) ?_
              clear hK K
              try simp only [Act.put, List.getElem_toArray, List.getElem_cons_succ, List.getElem_cons_zero, List.setIfInBounds_toArray, List.set_cons_zero, List.set_cons_succ]
              refine gp_step 10 (by kernel_rfl) rfl (fun K hK => ?_)
              go_simp
              go_wp2_with fail
              refine hK.out _ _ (show Gp _ _ _ from Gp.set _ (.inr (.inl rfl))) ?_
              clear hK K
              try simp only [Act.put, List.getElem_toArray, List.getElem_cons_succ, List.getElem_cons_zero, List.setIfInBounds_toArray, List.set_cons_zero, List.set_cons_succ]
              refine wpAnyH_done (by kernel_rfl) ?_ _
              go_wp2_with fail
              go_roundg q
              case measure => omega
              case rel => exact ⟨_, _, _, _, _, by have := HLQ.out; omega, by have := HLA.out; simp only [List.length_append, List.length_cons, List.length_nil]; omega, HLS2.out, by rw [List.length_append]; exact HX6.out.put5 a2 (acc.length + 1) c2, by rw [List.length_append]; exact own_far HO6.out HX6.out.bk (by decide), HF2⟩
            · go_simp
              go_wp2_with fail
              refine hK.out _ _ (show Gp _ _ _ from Gp.of_below bel) ?_
              clear hK K'
              try simp only [Act.put, List.getElem_toArray, List.getElem_cons_succ, List.getElem_cons_zero, List.setIfInBounds_toArray, List.set_cons_zero, List.set_cons_succ]
              refine gp_step 1 (by kernel_rfl) rfl (fun K hK => ?_)
              go_simp
              go_wp2_with fail
              refine hK.out _ _ (show Gp _ _ _ from Gp.refl _) ?_
              clear hK K
              try simp only [Act.put, List.getElem_toArray, List.getElem_cons_succ, List.getElem_cons_zero, List.setIfInBounds_toArray, List.set_cons_zero, List.set_cons_succ]
              refine gp_step 8 (by kernel_rfl) rfl (fun K hK => ?_)
              refine step_app st_sg (.tmp 71) (.tmp 77) rfl rfl (v := .slice sa acc.length sc) rfl (show World.ownsRow _ _ _ _ _ _ _ from own_below HO5.out (show Below w5.heap.size w5 _ from bel) (Nat.le_refl _)) rfl (Blk.at_ _ _ _ rfl) rfl (by intro y hy; simp at hy; rcases hy with rfl | rfl <;> rfl) (by unfold maxLen; omega) (by omega) (by simp only [World.size_alloc]; have := HX5.out.gm.size; omega) ?_
              intro v' x2 hown hgr
              obtain ⟨a2, c2, rfl, _⟩ := own_slice hown
              have hoi := (show (w5.alloc (.cells #[.int .i64 n1, .int .i64 n2] SgT3)).ownsRow _ _ _ _ _ _ from own_below HO5.out (show Below w5.heap.size w5 (w5.alloc (.cells #[.int .i64 n1, .int .i64 n2] SgT3)) from bel) (Nat.le_refl _))
              have HXa := HX5.out.grow (show Below w5.heap.size w5 (w5.alloc (.cells #[.int .i64 n1, .int .i64 n2] SgT3)) from bel)
              have HX6 := Lib.hid (HXa.row hgr (fun k hk => (hoi.lt k hk).1) hBw (own_ne_ty hoi HXa.bk (by decide)) (own_ne_ty hoi HXa.rs (by decide)))
              have HO6 : Hid (OwnG w.heap.size x2 (.slice a2 (acc.length + 1) c2) (acc ++ [(n1, n2)])) := by
                show World.ownsRow _ _ _ _ _ _ _
                rw [List.length_append, List.flatMap_append]
                exact hown
              have f5 : x2.cell? ⟨bx, 5, none⟩ = some (.slice sa acc.length sc) := HX6.out.bk.cell 5
              have y5 : x2.frozen? ⟨bx, 5, none⟩ = false := HX6.out.bk.frozen 5
              have l5 := HX6.out.bk.lt
              refine hK.out _ _ (show Gp _ _ _ from gp3_grown hgr) ?_
              clear hK K
              clear hown hgr hoi HXa
              try simp only [Act.put, List.getElem_toArray, List.getElem_cons_succ, List.getElem_cons_zero, List.setIfInBounds_toArray, List.set_cons_zero, List.set_cons_succ]
              refine gp_step 9 (by kernel_rfl) rfl (fun K hK => ?_)
              go_simp
              go_wp2_with fail
              refine hK.out _ _ (show Gp _ _ _ from Gp.refl _) ?_
              clear hK K
              try simp only [Act.put, List.getElem_toArray, List.getElem_cons_succ, List.getElem_cons_zero, List.setIfInBounds_toArray, List.set_cons_zero, List.set_cons_succ]
              refine gp_step 10 (by kernel_rfl) rfl (fun K hK => ?_)
              go_simp
              go_wp2_with fail
              refine hK.out _ _ (show Gp _ _ _ from Gp.set _ (.inr (.inl rfl))) ?_
              clear hK K
              try simp only [Act.put, List.getElem_toArray, List.getElem_cons_succ, List.getElem_cons_zero, List.setIfInBounds_toArray, List.set_cons_zero, List.set_cons_succ]
              refine wpAnyH_done (by kernel_rfl) ?_ _
              go_wp2_with fail
              go_roundg q
              case measure => omega
              case rel => exact ⟨_, _, _, _, _, by have := HLQ.out; omega, by have := HLA.out; simp only [List.length_append, List.length_cons, List.length_nil]; omega, HLS2.out, by rw [List.length_append]; exact HX6.out.put5 a2 (acc.length + 1) c2, by rw [List.length_append]; exact own_far HO6.out HX6.out.bk (by decide), HF2⟩
    · have hF : manyP oneS gk L1 b1 = ([], L1, b1) := by
        cases gk with
        | zero => rfl
        | succ q => rw [manyP, if_neg hgo]
      rw [hF] at HF
      have hfe : ls = acc ∧ f2 = L1 ∧ f3 = b1 := by
        have := HF.out
        simp only [List.append_nil, Prod.mk.injEq] at this
        exact ⟨this.1, this.2.1, this.2.2⟩
      obtain ⟨rfl, rfl, rfl⟩ := hfe
      have HX9 := HX
      obtain ⟨⟨z0, z1, z2, z3, z4, z5⟩, ⟨y1, y2, y3, y4, y5⟩, zl⟩ := HX.out.fields
      obtain ⟨⟨r0, r1, r2, r3, r4, r5⟩, ⟨s0, s1, s2, s3, s4, s5⟩, rl⟩ := HX.out.results
      by_cases hn : f2 = []
      · subst hn
        simp only [List.length_nil] at u0
        go_wp2_with fail
        refine bodyPost_ret (res_cell rfl st_Pt rfl (putR_blk HX.out) rfl) rfl ?_
        exact ⟨_, _, _, _, rfl, World.ownsRow_nil _ _ _ _, putR_own HX.out HO.out (by decide), putR_rd HX.out⟩
      · have hpos : (0 : Int) < (f2.length : Int) := by have := List.length_pos_iff.2 hn; omega
        have hposn : 0 < f2.length := List.length_pos_iff.2 hn
        have hb : f3 = true := by cases f3 with
          | true => rfl
          | false => exact absurd ⟨hn, rfl⟩ hgo
        subst hb
        go_wp2_with fail
        refine bodyPost_ret (res_cell rfl st_Pt rfl (putR_blk HX.out) rfl) rfl ?_
        exact ⟨_, _, _, _, rfl, World.ownsRow_nil _ _ _ _, putR_own HX.out HO.out (by decide), putR_rd HX.out⟩
end Go.Proofs.YtfcgdfcekpbliaaGreatDoor
