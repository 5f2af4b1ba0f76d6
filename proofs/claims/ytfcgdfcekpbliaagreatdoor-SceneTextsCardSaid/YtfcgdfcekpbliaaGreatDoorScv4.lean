/-
  Scenarios: the program's reader of a step: headers.
-/
import Derived.Test.YtfcgdfcekpbliaaGreatDoorScv3
namespace Go.Proofs.YtfcgdfcekpbliaaGreatDoor
set_option linter.unusedSimpArgs false
set_option linter.unusedVariables false
set_option linter.unusedSectionVars false
open Go.ChangeShapes Go.WideShapes Go.ChangeAt Go.RowKit Go.Deep Go.Shelf

set_option maxHeartbeats 16000000 in
set_option maxRecDepth 100000 in
theorem rd_step_headers {B : Nat} (g : Nat) (L : List (List UInt8)) (b : Bool) (hL : L.length ≤ 100000) (hLl : ∀ x ∈ L, x.length ≤ 90000) (w0 w : World) (hb : Rb w0 g w) (hd : Hd w0) (hS : Rd B w g L b)
    (p1 : List UInt8) (p2 : List (List UInt8)) (p3 : Bool) (hp : rdW L b = (p1, p2, p3)) (hk : kindW p1 = 1) (n1 : Int) (q2 : List (List UInt8)) (q3 : Bool) (hn : rdN p2 (p3 || decide ((1 : Int) = 0)) = (n1, q2, q3)) (en : Bool) (m2 : List (List UInt8)) (m3 : Bool) (he : rdE [101, 110, 100] [111, 112, 101, 110] q2 q3 = (en, m2, m3)) (ls : List Fd) (f2 : List (List UInt8)) (f3 : Bool) (hf : manyP oneF m2.length m2 m3 = (ls, f2, f3)) :
    Calls Tryz.prog 31 #[.pointer (some ⟨g, 0, none⟩)] w (RsP B g ⟨1, n1, 0, en, ls, []⟩ f2 f3 w) := by
  have hgl := hS.lt
  have HS := Lib.hid hS
  have HP := Lib.hid hp
  have HKK := Lib.hid hk
  have HB := Lib.hid hb
  have HHD : Hid (∀ W, Gm g w W → Hd W) := fun W hW => hd.below (hb.bl.trans (hW.below hb.lo hb.bl.size))
  have hp2 : p2.length ≤ 100000 := by have := rdW_len L b; rw [hp] at this; simp only at this; omega
  have HLL : Hid (∀ x ∈ p2, x.length ≤ 90000) := fun x hx => hLl x (rdW_sub hp x hx)
  clear hb hd hS hp hk hLl
  have HN0 := Lib.hid hn
  have HE0 := Lib.hid he
  have HFF := Lib.hid hf
  have hq2 : q2.length ≤ 100000 := by have := (rdN_sub hn).1; omega
  have hm2 : m2.length ≤ 100000 := by have := (rdE_sub he).1; omega
  have HLM : Hid (∀ x ∈ m2, x.length ≤ 90000) := fun x hx => HLL.out x ((rdN_sub hn).2 x ((rdE_sub he).2 x hx))
  clear hn he hf
  go_enter Tryz.func31, Tryz.ntmps31
  go_wp2_with fail
  refine (rd_word g L b (by omega) _ (HS.out.grow bel)).mono ?_
  rintro e w1 ⟨rfl, hr1, hg1⟩
  rw [HP.out] at hr1 ⊢
  have hrs1 : Blk w1 w.heap.size PtT #[.int .i64 0, .int .i64 0, .int .i64 0, .bool false, .slice none 0 0, .slice none 0 0] := (Blk.new w PtT _).grown hg1 (by simp; omega)
  have HG1 : Hid (Gm g w w1) := (gm_below bel).trans hg1
  have HR1 := Lib.hid hr1
  have HT1 := Lib.hid hrs1
  clear hr1 hg1 hrs1
  go_wp2_with fail
  refine (rd_kind g p1 p2 p3 w1 (HHD.out _ HG1.out) HR1.out).mono ?_
  rintro e w2 ⟨rfl, hr2, hg2⟩
  rw [HKK.out] at hr2 ⊢
  have hrs2 : Blk w2 w.heap.size PtT #[.int .i64 0, .int .i64 0, .int .i64 0, .bool false, .slice none 0 0, .slice none 0 0] := HT1.out.grown hg2 (by simp; omega)
  have HG2 : Hid (Gm g w w2) := HG1.out.trans hg2
  have HT2 := Lib.hid hrs2
  have HR2 := Lib.hid hr2
  have hw2l := hrs2.lt
  clear hr2 hg2 hrs2 HG1 HR1 HT1
  have HX3 : Hid (RxS B w g w2.heap.size 1 0 0 false none 0 0 none 0 0 p2 (p3 || decide ((1 : Int) = 0)) (w2.alloc (.cells #[.int .i64 1, .int .i64 0, .int .i64 0, .bool false, .slice none 0 0, .slice none 0 0] PtT))) :=
    ⟨HR2.out.grow bel, Blk.new _ _ _, HT2.out.alloc _, HG2.out.trans (gm_below bel), hw2l, hgl⟩
  clear HG2 HT2 HR2
  go_wp2_with fail
  obtain ⟨w3, hw3⟩ : ∃ w3, w3 = w2.alloc (.cells #[.int .i64 1, .int .i64 0, .int .i64 0, .bool false, .slice none 0 0, .slice none 0 0] PtT) := ⟨_, rfl⟩
  rw [← hw3] at HX3 ⊢
  clear hw3
  obtain ⟨bx, hbx⟩ : ∃ bx, bx = w2.heap.size := ⟨_, rfl⟩
  rw [← hbx] at HX3 hw2l ⊢
  clear hbx
  have hne1 : ¬ bx = w.heap.size := by omega
  have hne2 : ¬ w.heap.size = bx := by omega
  refine (rd_number g p2 _ (by omega) HLL.out w0 _ (HX3.out.env HB.out) HX3.out.rd).mono ?_
  rintro e w4 ⟨rfl, hr4, hg4⟩
  rw [HN0.out] at hr4 ⊢
  have HX4 := Lib.hid (HX3.out.call hr4 hg4)
  clear hr4 hg4 HX3
  obtain ⟨⟨z0, z1, z2, z3, z4, z5⟩, ⟨y1, y2, y3, y4, y5⟩, zl⟩ := HX4.out.fields
  obtain ⟨⟨r0, r1, r2, r3, r4, r5⟩, ⟨s0, s1, s2, s3, s4, s5⟩, rl⟩ := HX4.out.results
  have HX5 := Lib.hid (HX4.out.put1 n1)
  clear HX4
  go_wp2_with fail
  refine (rd_either g [101, 110, 100] [111, 112, 101, 110] q2 q3 (by omega) _ HX5.out.rd).mono ?_
  rintro e w7 ⟨rfl, hr7, hg7⟩
  rw [HE0.out] at hr7 ⊢
  have HX7 := Lib.hid (HX5.out.call hr7 hg7)
  clear hr7 hg7 HX5
  clear z0 z1 z2 z3 z4 z5 y1 y2 y3 y4 y5 zl r0 r1 r2 r3 r4 r5 s0 s1 s2 s3 s4 s5 rl
  obtain ⟨⟨z0, z1, z2, z3, z4, z5⟩, ⟨y1, y2, y3, y4, y5⟩, zl⟩ := HX7.out.fields
  obtain ⟨⟨r0, r1, r2, r3, r4, r5⟩, ⟨s0, s1, s2, s3, s4, s5⟩, rl⟩ := HX7.out.results
  have HX8 := Lib.hid (HX7.out.put3 en)
  clear HX7
  go_wp2_with fail
  clear z0 z1 z2 z3 z4 z5 y1 y2 y3 y4 y5 zl r0 r1 r2 r3 r4 r5 s0 s1 s2 s3 s4 s5 rl
  have HBW : Hid (B ≤ w.heap.size) := HS.out.lz
  have hBw := HBW.out
  go_loopg [] m2.length (fun q wr => ∃ (L1 : List (List UInt8)) (b1 : Bool) (acc : List Fd) (sa : Option Addr) (sc : Nat), L1.length ≤ q ∧ acc.length + L1.length ≤ 100000 ∧ (∀ x ∈ L1, x.length ≤ 90000) ∧ RxS B w g bx 1 n1 0 en sa acc.length sc none 0 0 L1 b1 wr ∧ OwnF w.heap.size wr (.slice sa acc.length sc) acc ∧ Hid ((ls, f2, f3) = (acc ++ (manyP oneF q L1 b1).1, (manyP oneF q L1 b1).2)))
  case atStart => exact ⟨m2, m3, [], none, 0, Nat.le_refl _, by simp; omega, HLM.out, HX8.out, World.ownsRow_nil _ _ _ _, by show _ = _; rw [HFF.out]; rfl⟩
  case round =>
    obtain ⟨L1, b1, acc, sa, sc, hlq, hla, hls, hx, ho, HF⟩ := hrel
    have HLQ0 := Lib.hid hlq
    have HLA0 := Lib.hid hla
    have HLS := Lib.hid hls
    have HX := Lib.hid hx
    have HO := Lib.hid ho
    obtain ⟨ra, rc, hrb, _, _⟩ := hx.rd.st
    have u0 : wr.cell? ⟨g, 0, none⟩ = some (.slice ra L1.length rc) := hrb.cell 0
    have u1 : wr.cell? ⟨g, 1, none⟩ = some (.bool b1) := hrb.cell 1
    have ul := hrb.lt
    have hal : acc.length ≤ 100000 := by omega
    clear hlq hla hls hx ho hrb
    by_cases hgo : L1 ≠ [] ∧ b1 = false
    · obtain ⟨hne, rfl⟩ := hgo
      obtain ⟨q, rfl⟩ : ∃ q, gk = q + 1 := by
        cases gk with
        | zero => exact absurd (List.length_eq_zero_iff.1 (Nat.le_zero.1 HLQ0.out)) hne
        | succ q => exact ⟨q, rfl⟩
      have hpos : (0 : Int) < (L1.length : Int) := by have := List.length_pos_iff.2 hne; omega
      have hposn : 0 < L1.length := List.length_pos_iff.2 hne
      have hF : manyP oneF (q + 1) L1 false = ((oneF L1 false).1 :: (manyP oneF q (oneF L1 false).2.1 (oneF L1 false).2.2).1, (manyP oneF q (oneF L1 false).2.1 (oneF L1 false).2.2).2) := by
        rw [manyP, if_pos ⟨hne, rfl⟩]
      rw [hF] at HF
      have hol := oneF_len L1 false
      obtain ⟨nv, t2, t3, hn1⟩ : ∃ nv t2 t3, rdE [33] [43] L1 false = (nv, t2, t3) := ⟨_, _, _, rfl⟩
      obtain ⟨nm, v2, v3, hn2⟩ : ∃ nm v2 v3, rdT t2 t3 = (nm, v2, v3) := ⟨_, _, _, rfl⟩
      obtain ⟨vl, u2, u3, hn3⟩ : ∃ vl u2 u3, rdT v2 v3 = (vl, u2, u3) := ⟨_, _, _, rfl⟩
      have h1 : oneF L1 false = (⟨nm, vl, nv⟩, u2, u3) := by unfold oneF; simp only [hn1, hn2, hn3]
      rw [h1] at HF hol
      simp only at HF hol
      have HN := Lib.hid hn1
      have HM := Lib.hid hn2
      have HV := Lib.hid hn3
      have HLT : Hid (∀ x ∈ t2, x.length ≤ 90000) := fun x hx => HLS.out x ((rdE_sub hn1).2 x hx)
      have HLV : Hid (∀ x ∈ v2, x.length ≤ 90000) := fun x hx => HLT.out x ((rdT_sub hn2).2 x hx)
      have HLS2 : Hid (∀ x ∈ u2, x.length ≤ 90000) := fun x hx => HLV.out x ((rdT_sub hn3).2 x hx)
      have ht2 : t2.length ≤ 100000 := by have := (rdE_sub hn1).1; have := HLA0.out; omega
      have hv2 : v2.length ≤ 100000 := by have := (rdT_sub hn2).1; omega
      have hl1 : L1.length ≤ 100000 := by have := HLA0.out; omega
      have HLQ : Hid (u2.length ≤ q) := by show _ ≤ _; have := HLQ0.out; omega
      have HLA : Hid (acc.length + 1 + u2.length ≤ 100000) := by show _ ≤ _; have := HLA0.out; omega
      have HF2 : Hid ((ls, f2, f3) = ((acc ++ [(⟨nm, vl, nv⟩ : Fd)]) ++ (manyP oneF q u2 u3).1, (manyP oneF q u2 u3).2)) := by
        show _ = _
        rw [HF.out]
        simp
      clear HF hn1 hn2 hn3 h1
      clear hF hol hne
      go_wp2_with fail
      refine gp_start (P3 g bx (.slice sa acc.length sc)) (by kernel_rfl) ?_
      obtain ⟨wd, hwd⟩ : ∃ wd, wd = wr.drew := ⟨_, rfl⟩
      rw [← hwd]
      have HXd : Hid (RxS B w g bx 1 n1 0 en sa acc.length sc none 0 0 L1 false wd) := by show RxS _ _ _ _ _ _ _ _ _ _ _ _ _ _ _ _ _; rw [hwd]; exact ⟨⟨HX.out.rd.st, HX.out.rd.lz⟩, HX.out.bk, HX.out.rs, ⟨HX.out.gm.os, HX.out.gm.tape, HX.out.gm.output, HX.out.gm.size, HX.out.gm.block⟩, HX.out.lo, HX.out.gl⟩
      have HOd : Hid (OwnF w.heap.size wd (.slice sa acc.length sc) acc) := by show OwnF _ _ _ _; rw [hwd]; exact HO.out
      have kd5 : wd.cell? ⟨bx, 4, none⟩ = some (.slice sa acc.length sc) := HXd.out.bk.cell 4
      have bd5 := HXd.out.bk.lt
      clear hwd
      refine gp_take 0 (v := ?_) rfl (by kernel_rfl) (by kernel_rfl) (by kernel_rfl) (fun _ _ _ h => h) (Or.inl ⟨by first | kernel_rfl | rfl, ?_⟩) ?_
      rotate_left
      · intro wS hSw; clear hSw; go_simp; try with_reducible rfl
      try simp only [Act.put, List.getElem_toArray, List.getElem_cons_succ, List.getElem_cons_zero, List.setIfInBounds_toArray, List.set_cons_zero, List.set_cons_succ]
      refine gp_take 2 (v := ?_) rfl (by kernel_rfl) (by kernel_rfl) (by kernel_rfl) (fun _ _ _ h => h) (Or.inl ⟨by first | kernel_rfl | rfl, ?_⟩) ?_
      rotate_left
      · intro wS hSw; clear hSw; go_simp; try with_reducible rfl
      try simp only [Act.put, List.getElem_toArray, List.getElem_cons_succ, List.getElem_cons_zero, List.setIfInBounds_toArray, List.set_cons_zero, List.set_cons_succ]
      refine gp_take 4 (v := ?_) rfl (by kernel_rfl) (by kernel_rfl) (by kernel_rfl) (fun _ _ _ h => h) (Or.inl ⟨by first | kernel_rfl | rfl, ?_⟩) ?_
      rotate_left
      · intro wS hSw; clear hSw; go_simp; try with_reducible rfl
      try simp only [Act.put, List.getElem_toArray, List.getElem_cons_succ, List.getElem_cons_zero, List.setIfInBounds_toArray, List.set_cons_zero, List.set_cons_succ]
      refine gp_take 6 (v := ?_) rfl (by kernel_rfl) (by kernel_rfl) (by kernel_rfl) (fun _ _ _ h => h) (Or.inl ⟨by first | kernel_rfl | rfl, ?_⟩) ?_
      rotate_left
      · intro wS hSw; clear hSw; go_simp; try with_reducible rfl
      try simp only [Act.put, List.getElem_toArray, List.getElem_cons_succ, List.getElem_cons_zero, List.setIfInBounds_toArray, List.set_cons_zero, List.set_cons_succ]
      refine gp_two 1 3 (by kernel_rfl) rfl rfl (fun K' hK => ?_) (fun K' hK => ?_)
      · go_simp
        go_wp2_with fail
        refine hK.out _ _ (show Gp _ _ _ from Gp.refl _) ?_
        clear hK K'
        try simp only [Act.put, List.getElem_toArray, List.getElem_cons_succ, List.getElem_cons_zero, List.setIfInBounds_toArray, List.set_cons_zero, List.set_cons_succ]
        refine gp_step 3 (by kernel_rfl) rfl (fun K hK => ?_)
        go_simp
        go_wp2_with fail
        refine (rd_either g [33] [43] L1 false (by omega) _ HXd.out.rd).mono ?_
        rintro e w4 ⟨rfl, hr, hg⟩
        rw [HN.out] at hr ⊢
        have HX4 := Lib.hid (HXd.out.call hr hg)
        have HO4 : Hid (OwnF w.heap.size w4 (.slice sa acc.length sc) acc) := by
          obtain ⟨_, _, hgb, _⟩ := HXd.out.rd.st
          exact own_gm HOd.out hgb (by decide) hg
        have k45 : w4.cell? ⟨bx, 4, none⟩ = some (.slice sa acc.length sc) := HX4.out.bk.cell 4
        have b45 := HX4.out.bk.lt
        go_wp2_with fail
        refine hK.out _ _ (show Gp _ _ _ from Gp.of_gm hg (Or.inl rfl)) ?_
        clear hK K
        try simp only [Act.put, List.getElem_toArray, List.getElem_cons_succ, List.getElem_cons_zero, List.setIfInBounds_toArray, List.set_cons_zero, List.set_cons_succ]
        clear hr hg
        refine gp_step 5 (by kernel_rfl) rfl (fun K hK => ?_)
        go_simp
        go_wp2_with fail
        refine (rd_text g t2 t3 (by omega) HLT.out _ HX4.out.rd).mono ?_
        rintro e w5 ⟨rfl, hr, hg⟩
        rw [HM.out] at hr ⊢
        have HX5 := Lib.hid (HX4.out.call hr hg)
        have HO5 : Hid (OwnF w.heap.size w5 (.slice sa acc.length sc) acc) := by
          obtain ⟨_, _, hgb, _⟩ := HX4.out.rd.st
          exact own_gm HO4.out hgb (by decide) hg
        have k55 : w5.cell? ⟨bx, 4, none⟩ = some (.slice sa acc.length sc) := HX5.out.bk.cell 4
        have b55 := HX5.out.bk.lt
        go_wp2_with fail
        refine hK.out _ _ (show Gp _ _ _ from Gp.of_gm hg (Or.inl rfl)) ?_
        clear hK K
        try simp only [Act.put, List.getElem_toArray, List.getElem_cons_succ, List.getElem_cons_zero, List.setIfInBounds_toArray, List.set_cons_zero, List.set_cons_succ]
        clear hr hg
        refine gp_step 7 (by kernel_rfl) rfl (fun K hK => ?_)
        go_simp
        go_wp2_with fail
        refine (rd_text g v2 v3 (by omega) HLV.out _ HX5.out.rd).mono ?_
        rintro e w6 ⟨rfl, hr, hg⟩
        rw [HV.out] at hr ⊢
        have HX6 := Lib.hid (HX5.out.call hr hg)
        have HO6 : Hid (OwnF w.heap.size w6 (.slice sa acc.length sc) acc) := by
          obtain ⟨_, _, hgb, _⟩ := HX5.out.rd.st
          exact own_gm HO5.out hgb (by decide) hg
        have k65 : w6.cell? ⟨bx, 4, none⟩ = some (.slice sa acc.length sc) := HX6.out.bk.cell 4
        have b65 := HX6.out.bk.lt
        go_wp2_with fail
        refine hK.out _ _ (show Gp _ _ _ from Gp.of_gm hg (Or.inl rfl)) ?_
        clear hK K
        try simp only [Act.put, List.getElem_toArray, List.getElem_cons_succ, List.getElem_cons_zero, List.setIfInBounds_toArray, List.set_cons_zero, List.set_cons_succ]
        clear hr hg
        refine gp_step 8 (by kernel_rfl) rfl (fun K hK => ?_)
        go_simp
        go_wp2_with fail
        refine hK.out _ _ (show Gp _ _ _ from Gp.refl _) ?_
        clear hK K
        try simp only [Act.put, List.getElem_toArray, List.getElem_cons_succ, List.getElem_cons_zero, List.setIfInBounds_toArray, List.set_cons_zero, List.set_cons_succ]
        refine gp_step 9 (by kernel_rfl) rfl (fun K hK => ?_)
        go_simp
        go_wp2_with fail
        refine hK.out _ _ (show Gp _ _ _ from Gp.of_below bel) ?_
        clear hK K
        try simp only [Act.put, List.getElem_toArray, List.getElem_cons_succ, List.getElem_cons_zero, List.setIfInBounds_toArray, List.set_cons_zero, List.set_cons_succ]
        refine gp_step 10 (by kernel_rfl) rfl (fun K hK => ?_)
        refine step_app st_fl (.tmp 33) (.tmp 41) rfl rfl (v := .slice sa acc.length sc) rfl (show World.ownsRow _ _ _ _ _ _ _ from own_below HO6.out (show Below w6.heap.size w6 _ from bel) (Nat.le_refl _)) rfl (Blk.at_ _ _ _ rfl) rfl (by intro y hy; simp at hy; rcases hy with rfl | rfl | rfl <;> rfl) (by unfold maxLen; omega) (by omega) (by simp only [World.size_alloc]; have := HX6.out.gm.size; omega) ?_
        intro v' x2 hown hgr
        obtain ⟨a2, c2, rfl, _⟩ := own_slice hown
        have hoi := (show (w6.alloc (.cells #[bstr nm, bstr vl, .bool nv] FlT3)).ownsRow _ _ _ _ _ _ from own_below HO6.out (show Below w6.heap.size w6 (w6.alloc (.cells #[bstr nm, bstr vl, .bool nv] FlT3)) from bel) (Nat.le_refl _))
        have HXa := HX6.out.grow (show Below w6.heap.size w6 (w6.alloc (.cells #[bstr nm, bstr vl, .bool nv] FlT3)) from bel)
        have HX6 := Lib.hid (HXa.row hgr (fun k hk => (hoi.lt k hk).1) hBw (own_ne_ty hoi HXa.bk (by decide)) (own_ne_ty hoi HXa.rs (by decide)))
        have HO6 : Hid (OwnF w.heap.size x2 (.slice a2 (acc.length + 1) c2) (acc ++ [⟨nm, vl, nv⟩])) := by
          show World.ownsRow _ _ _ _ _ _ _
          rw [List.length_append, List.flatMap_append]
          exact hown
        have f5 : x2.cell? ⟨bx, 4, none⟩ = some (.slice sa acc.length sc) := HX6.out.bk.cell 4
        have y5 : x2.frozen? ⟨bx, 4, none⟩ = false := HX6.out.bk.frozen 4
        have l5 := HX6.out.bk.lt
        refine hK.out _ _ (show Gp _ _ _ from gp3_grown hgr) ?_
        clear hK K
        clear hown hgr hoi HXa
        try simp only [Act.put, List.getElem_toArray, List.getElem_cons_succ, List.getElem_cons_zero, List.setIfInBounds_toArray, List.set_cons_zero, List.set_cons_succ]
        refine gp_step 11 (by kernel_rfl) rfl (fun K hK => ?_)
        go_simp
        go_wp2_with fail
        refine hK.out _ _ (show Gp _ _ _ from Gp.refl _) ?_
        clear hK K
        try simp only [Act.put, List.getElem_toArray, List.getElem_cons_succ, List.getElem_cons_zero, List.setIfInBounds_toArray, List.set_cons_zero, List.set_cons_succ]
        refine gp_step 12 (by kernel_rfl) rfl (fun K hK => ?_)
        go_simp
        go_wp2_with fail
        refine hK.out _ _ (show Gp _ _ _ from Gp.set _ (.inr (.inl rfl))) ?_
        clear hK K
        try simp only [Act.put, List.getElem_toArray, List.getElem_cons_succ, List.getElem_cons_zero, List.setIfInBounds_toArray, List.set_cons_zero, List.set_cons_succ]
        refine wpAnyH_done (by kernel_rfl) ?_ _
        go_wp2_with fail
        go_roundg q
        case measure => omega
        case rel => exact ⟨_, _, _, _, _, by have := HLQ.out; omega, by have := HLA.out; simp only [List.length_append, List.length_cons, List.length_nil]; omega, HLS2.out, by rw [List.length_append]; exact HX6.out.put4 a2 (acc.length + 1) c2, by rw [List.length_append]; exact own_far HO6.out HX6.out.bk (by decide), HF2⟩
      · go_simp
        go_wp2_with fail
        refine (rd_either g [33] [43] L1 false (by omega) _ HXd.out.rd).mono ?_
        rintro e w4 ⟨rfl, hr, hg⟩
        rw [HN.out] at hr ⊢
        have HX4 := Lib.hid (HXd.out.call hr hg)
        have HO4 : Hid (OwnF w.heap.size w4 (.slice sa acc.length sc) acc) := by
          obtain ⟨_, _, hgb, _⟩ := HXd.out.rd.st
          exact own_gm HOd.out hgb (by decide) hg
        have k45 : w4.cell? ⟨bx, 4, none⟩ = some (.slice sa acc.length sc) := HX4.out.bk.cell 4
        have b45 := HX4.out.bk.lt
        go_wp2_with fail
        refine hK.out _ _ (show Gp _ _ _ from Gp.of_gm hg (Or.inl rfl)) ?_
        clear hK K'
        try simp only [Act.put, List.getElem_toArray, List.getElem_cons_succ, List.getElem_cons_zero, List.setIfInBounds_toArray, List.set_cons_zero, List.set_cons_succ]
        clear hr hg
        refine gp_two 1 5 (by kernel_rfl) rfl rfl (fun K' hK => ?_) (fun K' hK => ?_)
        · go_simp
          go_wp2_with fail
          refine hK.out _ _ (show Gp _ _ _ from Gp.refl _) ?_
          clear hK K'
          try simp only [Act.put, List.getElem_toArray, List.getElem_cons_succ, List.getElem_cons_zero, List.setIfInBounds_toArray, List.set_cons_zero, List.set_cons_succ]
          refine gp_step 5 (by kernel_rfl) rfl (fun K hK => ?_)
          go_simp
          go_wp2_with fail
          refine (rd_text g t2 t3 (by omega) HLT.out _ HX4.out.rd).mono ?_
          rintro e w5 ⟨rfl, hr, hg⟩
          rw [HM.out] at hr ⊢
          have HX5 := Lib.hid (HX4.out.call hr hg)
          have HO5 : Hid (OwnF w.heap.size w5 (.slice sa acc.length sc) acc) := by
            obtain ⟨_, _, hgb, _⟩ := HX4.out.rd.st
            exact own_gm HO4.out hgb (by decide) hg
          have k55 : w5.cell? ⟨bx, 4, none⟩ = some (.slice sa acc.length sc) := HX5.out.bk.cell 4
          have b55 := HX5.out.bk.lt
          go_wp2_with fail
          refine hK.out _ _ (show Gp _ _ _ from Gp.of_gm hg (Or.inl rfl)) ?_
          clear hK K
          try simp only [Act.put, List.getElem_toArray, List.getElem_cons_succ, List.getElem_cons_zero, List.setIfInBounds_toArray, List.set_cons_zero, List.set_cons_succ]
          clear hr hg
          refine gp_step 7 (by kernel_rfl) rfl (fun K hK => ?_)
          go_simp
          go_wp2_with fail
          refine (rd_text g v2 v3 (by omega) HLV.out _ HX5.out.rd).mono ?_
          rintro e w6 ⟨rfl, hr, hg⟩
          rw [HV.out] at hr ⊢
          have HX6 := Lib.hid (HX5.out.call hr hg)
          have HO6 : Hid (OwnF w.heap.size w6 (.slice sa acc.length sc) acc) := by
            obtain ⟨_, _, hgb, _⟩ := HX5.out.rd.st
            exact own_gm HO5.out hgb (by decide) hg
          have k65 : w6.cell? ⟨bx, 4, none⟩ = some (.slice sa acc.length sc) := HX6.out.bk.cell 4
          have b65 := HX6.out.bk.lt
          go_wp2_with fail
          refine hK.out _ _ (show Gp _ _ _ from Gp.of_gm hg (Or.inl rfl)) ?_
          clear hK K
          try simp only [Act.put, List.getElem_toArray, List.getElem_cons_succ, List.getElem_cons_zero, List.setIfInBounds_toArray, List.set_cons_zero, List.set_cons_succ]
          clear hr hg
          refine gp_step 8 (by kernel_rfl) rfl (fun K hK => ?_)
          go_simp
          go_wp2_with fail
          refine hK.out _ _ (show Gp _ _ _ from Gp.refl _) ?_
          clear hK K
          try simp only [Act.put, List.getElem_toArray, List.getElem_cons_succ, List.getElem_cons_zero, List.setIfInBounds_toArray, List.set_cons_zero, List.set_cons_succ]
          refine gp_step 9 (by kernel_rfl) rfl (fun K hK => ?_)
          go_simp
          go_wp2_with fail
          refine hK.out _ _ (show Gp _ _ _ from Gp.of_below bel) ?_
          clear hK K
          try simp only [Act.put, List.getElem_toArray, List.getElem_cons_succ, List.getElem_cons_zero, List.setIfInBounds_toArray, List.set_cons_zero, List.set_cons_succ]
          refine gp_step 10 (by kernel_rfl) rfl (fun K hK => ?_)
          refine step_app st_fl (.tmp 33) (.tmp 41) rfl rfl (v := .slice sa acc.length sc) rfl (show World.ownsRow _ _ _ _ _ _ _ from own_below HO6.out (show Below w6.heap.size w6 _ from bel) (Nat.le_refl _)) rfl (Blk.at_ _ _ _ rfl) rfl (by intro y hy; simp at hy; rcases hy with rfl | rfl | rfl <;> rfl) (by unfold maxLen; omega) (by omega) (by simp only [World.size_alloc]; have := HX6.out.gm.size; omega) ?_
          intro v' x2 hown hgr
          obtain ⟨a2, c2, rfl, _⟩ := own_slice hown
          have hoi := (show (w6.alloc (.cells #[bstr nm, bstr vl, .bool nv] FlT3)).ownsRow _ _ _ _ _ _ from own_below HO6.out (show Below w6.heap.size w6 (w6.alloc (.cells #[bstr nm, bstr vl, .bool nv] FlT3)) from bel) (Nat.le_refl _))
          have HXa := HX6.out.grow (show Below w6.heap.size w6 (w6.alloc (.cells #[bstr nm, bstr vl, .bool nv] FlT3)) from bel)
          have HX6 := Lib.hid (HXa.row hgr (fun k hk => (hoi.lt k hk).1) hBw (own_ne_ty hoi HXa.bk (by decide)) (own_ne_ty hoi HXa.rs (by decide)))
          have HO6 : Hid (OwnF w.heap.size x2 (.slice a2 (acc.length + 1) c2) (acc ++ [⟨nm, vl, nv⟩])) := by
            show World.ownsRow _ _ _ _ _ _ _
            rw [List.length_append, List.flatMap_append]
            exact hown
          have f5 : x2.cell? ⟨bx, 4, none⟩ = some (.slice sa acc.length sc) := HX6.out.bk.cell 4
          have y5 : x2.frozen? ⟨bx, 4, none⟩ = false := HX6.out.bk.frozen 4
          have l5 := HX6.out.bk.lt
          refine hK.out _ _ (show Gp _ _ _ from gp3_grown hgr) ?_
          clear hK K
          clear hown hgr hoi HXa
          try simp only [Act.put, List.getElem_toArray, List.getElem_cons_succ, List.getElem_cons_zero, List.setIfInBounds_toArray, List.set_cons_zero, List.set_cons_succ]
          refine gp_step 11 (by kernel_rfl) rfl (fun K hK => ?_)
          go_simp
          go_wp2_with fail
          refine hK.out _ _ (show Gp _ _ _ from Gp.refl _) ?_
          clear hK K
          try simp only [Act.put, List.getElem_toArray, List.getElem_cons_succ, List.getElem_cons_zero, List.setIfInBounds_toArray, List.set_cons_zero, List.set_cons_succ]
          refine gp_step 12 (by kernel_rfl) rfl (fun K hK => ?_)
          go_simp
          go_wp2_with fail
          refine hK.out _ _ (show Gp _ _ _ from Gp.set _ (.inr (.inl rfl))) ?_
          clear hK K
          try simp only [Act.put, List.getElem_toArray, List.getElem_cons_succ, List.getElem_cons_zero, List.setIfInBounds_toArray, List.set_cons_zero, List.set_cons_succ]
          refine wpAnyH_done (by kernel_rfl) ?_ _
          go_wp2_with fail
          go_roundg q
          case measure => omega
          case rel => exact ⟨_, _, _, _, _, by have := HLQ.out; omega, by have := HLA.out; simp only [List.length_append, List.length_cons, List.length_nil]; omega, HLS2.out, by rw [List.length_append]; exact HX6.out.put4 a2 (acc.length + 1) c2, by rw [List.length_append]; exact own_far HO6.out HX6.out.bk (by decide), HF2⟩
        · go_simp
          go_wp2_with fail
          refine (rd_text g t2 t3 (by omega) HLT.out _ HX4.out.rd).mono ?_
          rintro e w5 ⟨rfl, hr, hg⟩
          rw [HM.out] at hr ⊢
          have HX5 := Lib.hid (HX4.out.call hr hg)
          have HO5 : Hid (OwnF w.heap.size w5 (.slice sa acc.length sc) acc) := by
            obtain ⟨_, _, hgb, _⟩ := HX4.out.rd.st
            exact own_gm HO4.out hgb (by decide) hg
          have k55 : w5.cell? ⟨bx, 4, none⟩ = some (.slice sa acc.length sc) := HX5.out.bk.cell 4
          have b55 := HX5.out.bk.lt
          go_wp2_with fail
          refine hK.out _ _ (show Gp _ _ _ from Gp.of_gm hg (Or.inl rfl)) ?_
          clear hK K'
          try simp only [Act.put, List.getElem_toArray, List.getElem_cons_succ, List.getElem_cons_zero, List.setIfInBounds_toArray, List.set_cons_zero, List.set_cons_succ]
          clear hr hg
          refine gp_two 1 7 (by kernel_rfl) rfl rfl (fun K' hK => ?_) (fun K' hK => ?_)
          · go_simp
            go_wp2_with fail
            refine hK.out _ _ (show Gp _ _ _ from Gp.refl _) ?_
            clear hK K'
            try simp only [Act.put, List.getElem_toArray, List.getElem_cons_succ, List.getElem_cons_zero, List.setIfInBounds_toArray, List.set_cons_zero, List.set_cons_succ]
            refine gp_step 7 (by kernel_rfl) rfl (fun K hK => ?_)
            go_simp
            go_wp2_with fail
            refine (rd_text g v2 v3 (by omega) HLV.out _ HX5.out.rd).mono ?_
            rintro e w6 ⟨rfl, hr, hg⟩
            rw [HV.out] at hr ⊢
            have HX6 := Lib.hid (HX5.out.call hr hg)
            have HO6 : Hid (OwnF w.heap.size w6 (.slice sa acc.length sc) acc) := by
              obtain ⟨_, _, hgb, _⟩ := HX5.out.rd.st
              exact own_gm HO5.out hgb (by decide) hg
            have k65 : w6.cell? ⟨bx, 4, none⟩ = some (.slice sa acc.length sc) := HX6.out.bk.cell 4
            have b65 := HX6.out.bk.lt
            go_wp2_with fail
            refine hK.out _ _ (show Gp _ _ _ from Gp.of_gm hg (Or.inl rfl)) ?_
            clear hK K
            try simp only [Act.put, List.getElem_toArray, List.getElem_cons_succ, List.getElem_cons_zero, List.setIfInBounds_toArray, List.set_cons_zero, List.set_cons_succ]
            clear hr hg
            refine gp_step 8 (by kernel_rfl) rfl (fun K hK => ?_)
            go_simp
            go_wp2_with fail
            refine hK.out _ _ (show Gp _ _ _ from Gp.refl _) ?_
            clear hK K
            try simp only [Act.put, List.getElem_toArray, List.getElem_cons_succ, List.getElem_cons_zero, List.setIfInBounds_toArray, List.set_cons_zero, List.set_cons_succ]
            refine gp_step 9 (by kernel_rfl) rfl (fun K hK => ?_)
            go_simp
            go_wp2_with fail
            refine hK.out _ _ (show Gp _ _ _ from Gp.of_below bel) ?_
            clear hK K
            try simp only [Act.put, List.getElem_toArray, List.getElem_cons_succ, List.getElem_cons_zero, List.setIfInBounds_toArray, List.set_cons_zero, List.set_cons_succ]
            refine gp_step 10 (by kernel_rfl) rfl (fun K hK => ?_)
            refine step_app st_fl (.tmp 33) (.tmp 41) rfl rfl (v := .slice sa acc.length sc) rfl (show World.ownsRow _ _ _ _ _ _ _ from own_below HO6.out (show Below w6.heap.size w6 _ from bel) (Nat.le_refl _)) rfl (Blk.at_ _ _ _ rfl) rfl (by intro y hy; simp at hy; rcases hy with rfl | rfl | rfl <;> rfl) (by unfold maxLen; omega) (by omega) (by simp only [World.size_alloc]; have := HX6.out.gm.size; omega) ?_
            intro v' x2 hown hgr
            obtain ⟨a2, c2, rfl, _⟩ := own_slice hown
            have hoi := (show (w6.alloc (.cells #[bstr nm, bstr vl, .bool nv] FlT3)).ownsRow _ _ _ _ _ _ from own_below HO6.out (show Below w6.heap.size w6 (w6.alloc (.cells #[bstr nm, bstr vl, .bool nv] FlT3)) from bel) (Nat.le_refl _))
            have HXa := HX6.out.grow (show Below w6.heap.size w6 (w6.alloc (.cells #[bstr nm, bstr vl, .bool nv] FlT3)) from bel)
            have HX6 := Lib.hid (HXa.row hgr (fun k hk => (hoi.lt k hk).1) hBw (own_ne_ty hoi HXa.bk (by decide)) (own_ne_ty hoi HXa.rs (by decide)))
            have HO6 : Hid (OwnF w.heap.size x2 (.slice a2 (acc.length + 1) c2) (acc ++ [⟨nm, vl, nv⟩])) := by
              show World.ownsRow _ _ _ _ _ _ _
              rw [List.length_append, List.flatMap_append]
              exact hown
            have f5 : x2.cell? ⟨bx, 4, none⟩ = some (.slice sa acc.length sc) := HX6.out.bk.cell 4
            have y5 : x2.frozen? ⟨bx, 4, none⟩ = false := HX6.out.bk.frozen 4
            have l5 := HX6.out.bk.lt
            refine hK.out _ _ (show Gp _ _ _ from gp3_grown hgr) ?_
            clear hK K
            clear hown hgr hoi HXa
            try simp only [Act.put, List.getElem_toArray, List.getElem_cons_succ, List.getElem_cons_zero, List.setIfInBounds_toArray, List.set_cons_zero, List.set_cons_succ]
            refine gp_step 11 (by kernel_rfl) rfl (fun K hK => ?_)
            go_simp
            go_wp2_with fail
            refine hK.out _ _ (show Gp _ _ _ from Gp.refl _) ?_
            clear hK K
            try simp only [Act.put, List.getElem_toArray, List.getElem_cons_succ, List.getElem_cons_zero, List.setIfInBounds_toArray, List.set_cons_zero, List.set_cons_succ]
            refine gp_step 12 (by kernel_rfl) rfl (fun K hK => ?_)
            go_simp
            go_wp2_with fail
            refine hK.out _ _ (show Gp _ _ _ from Gp.set _ (.inr (.inl rfl))) ?_
            clear hK K
            try simp only [Act.put, List.getElem_toArray, List.getElem_cons_succ, List.getElem_cons_zero, List.setIfInBounds_toArray, List.set_cons_zero, List.set_cons_succ]
            refine wpAnyH_done (by kernel_rfl) ?_ _
            go_wp2_with fail
            go_roundg q
            case measure => omega
            case rel => exact ⟨_, _, _, _, _, by have := HLQ.out; omega, by have := HLA.out; simp only [List.length_append, List.length_cons, List.length_nil]; omega, HLS2.out, by rw [List.length_append]; exact HX6.out.put4 a2 (acc.length + 1) c2, by rw [List.length_append]; exact own_far HO6.out HX6.out.bk (by decide), HF2⟩
          · go_simp
            go_wp2_with fail
            refine (rd_text g v2 v3 (by omega) HLV.out _ HX5.out.rd).mono ?_
            rintro e w6 ⟨rfl, hr, hg⟩
            rw [HV.out] at hr ⊢
            have HX6 := Lib.hid (HX5.out.call hr hg)
            have HO6 : Hid (OwnF w.heap.size w6 (.slice sa acc.length sc) acc) := by
              obtain ⟨_, _, hgb, _⟩ := HX5.out.rd.st
              exact own_gm HO5.out hgb (by decide) hg
            have k65 : w6.cell? ⟨bx, 4, none⟩ = some (.slice sa acc.length sc) := HX6.out.bk.cell 4
            have b65 := HX6.out.bk.lt
            go_wp2_with fail
            refine hK.out _ _ (show Gp _ _ _ from Gp.of_gm hg (Or.inl rfl)) ?_
            clear hK K'
            try simp only [Act.put, List.getElem_toArray, List.getElem_cons_succ, List.getElem_cons_zero, List.setIfInBounds_toArray, List.set_cons_zero, List.set_cons_succ]
            clear hr hg
            refine gp_two 1 8 (by kernel_rfl) rfl rfl (fun K' hK => ?_) (fun K' hK => ?_)
            · go_simp
              go_wp2_with fail
              refine hK.out _ _ (show Gp _ _ _ from Gp.refl _) ?_
              clear hK K'
              try simp only [Act.put, List.getElem_toArray, List.getElem_cons_succ, List.getElem_cons_zero, List.setIfInBounds_toArray, List.set_cons_zero, List.set_cons_succ]
              refine gp_step 8 (by kernel_rfl) rfl (fun K hK => ?_)
              go_simp
              go_wp2_with fail
              refine hK.out _ _ (show Gp _ _ _ from Gp.refl _) ?_
              clear hK K
              try simp only [Act.put, List.getElem_toArray, List.getElem_cons_succ, List.getElem_cons_zero, List.setIfInBounds_toArray, List.set_cons_zero, List.set_cons_succ]
              refine gp_step 9 (by kernel_rfl) rfl (fun K hK => ?_)
              go_simp
              go_wp2_with fail
              refine hK.out _ _ (show Gp _ _ _ from Gp.of_below bel) ?_
              clear hK K
              try simp only [Act.put, List.getElem_toArray, List.getElem_cons_succ, List.getElem_cons_zero, List.setIfInBounds_toArray, List.set_cons_zero, List.set_cons_succ]
              refine gp_step 10 (by kernel_rfl) rfl (fun K hK => ?_)
              refine step_app st_fl (.tmp 33) (.tmp 41) rfl rfl (v := .slice sa acc.length sc) rfl (show World.ownsRow _ _ _ _ _ _ _ from own_below HO6.out (show Below w6.heap.size w6 _ from bel) (Nat.le_refl _)) rfl (Blk.at_ _ _ _ rfl) rfl (by intro y hy; simp at hy; rcases hy with rfl | rfl | rfl <;> rfl) (by unfold maxLen; omega) (by omega) (by simp only [World.size_alloc]; have := HX6.out.gm.size; omega) ?_
              intro v' x2 hown hgr
              obtain ⟨a2, c2, rfl, _⟩ := own_slice hown
              have hoi := (show (w6.alloc (.cells #[bstr nm, bstr vl, .bool nv] FlT3)).ownsRow _ _ _ _ _ _ from own_below HO6.out (show Below w6.heap.size w6 (w6.alloc (.cells #[bstr nm, bstr vl, .bool nv] FlT3)) from bel) (Nat.le_refl _))
              have HXa := HX6.out.grow (show Below w6.heap.size w6 (w6.alloc (.cells #[bstr nm, bstr vl, .bool nv] FlT3)) from bel)
              have HX6 := Lib.hid (HXa.row hgr (fun k hk => (hoi.lt k hk).1) hBw (own_ne_ty hoi HXa.bk (by decide)) (own_ne_ty hoi HXa.rs (by decide)))
              have HO6 : Hid (OwnF w.heap.size x2 (.slice a2 (acc.length + 1) c2) (acc ++ [⟨nm, vl, nv⟩])) := by
                show World.ownsRow _ _ _ _ _ _ _
                rw [List.length_append, List.flatMap_append]
                exact hown
              have f5 : x2.cell? ⟨bx, 4, none⟩ = some (.slice sa acc.length sc) := HX6.out.bk.cell 4
              have y5 : x2.frozen? ⟨bx, 4, none⟩ = false := HX6.out.bk.frozen 4
              have l5 := HX6.out.bk.lt
              refine hK.out _ _ (show Gp _ _ _ from gp3_grown hgr) ?_
              clear hK K
              clear hown hgr hoi HXa
              try simp only [Act.put, List.getElem_toArray, List.getElem_cons_succ, List.getElem_cons_zero, List.setIfInBounds_toArray, List.set_cons_zero, List.set_cons_succ]
              refine gp_step 11 (by kernel_rfl) rfl (fun K hK => ?_)
              go_simp
              go_wp2_with fail
              refine hK.out _ _ (show Gp _ _ _ from Gp.refl _) ?_
              clear hK K
              try simp only [Act.put, List.getElem_toArray, List.getElem_cons_succ, List.getElem_cons_zero, List.setIfInBounds_toArray, List.set_cons_zero, List.set_cons_succ]
              refine gp_step 12 (by kernel_rfl) rfl (fun K hK => ?_)
              go_simp
              go_wp2_with fail
              refine hK.out _ _ (show Gp _ _ _ from Gp.set _ (.inr (.inl rfl))) ?_
              clear hK K
              try simp only [Act.put, List.getElem_toArray, List.getElem_cons_succ, List.getElem_cons_zero, List.setIfInBounds_toArray, List.set_cons_zero, List.set_cons_succ]
              refine wpAnyH_done (by kernel_rfl) ?_ _
              go_wp2_with fail
              go_roundg q
              case measure => omega
              case rel => exact ⟨_, _, _, _, _, by have := HLQ.out; omega, by have := HLA.out; simp only [List.length_append, List.length_cons, List.length_nil]; omega, HLS2.out, by rw [List.length_append]; exact HX6.out.put4 a2 (acc.length + 1) c2, by rw [List.length_append]; exact own_far HO6.out HX6.out.bk (by decide), HF2⟩
            · go_simp
              go_wp2_with fail
              refine hK.out _ _ (show Gp _ _ _ from Gp.refl _) ?_
              clear hK K'
              try simp only [Act.put, List.getElem_toArray, List.getElem_cons_succ, List.getElem_cons_zero, List.setIfInBounds_toArray, List.set_cons_zero, List.set_cons_succ]
              refine gp_two 1 9 (by kernel_rfl) rfl rfl (fun K' hK => ?_) (fun K' hK => ?_)
              · go_simp
                go_wp2_with fail
                refine hK.out _ _ (show Gp _ _ _ from Gp.refl _) ?_
                clear hK K'
                try simp only [Act.put, List.getElem_toArray, List.getElem_cons_succ, List.getElem_cons_zero, List.setIfInBounds_toArray, List.set_cons_zero, List.set_cons_succ]
                refine gp_step 9 (by kernel_rfl) rfl (fun K hK => ?_)
                go_simp
                go_wp2_with fail
                refine hK.out _ _ (show Gp _ _ _ from Gp.of_below bel) ?_
                clear hK K
                try simp only [Act.put, List.getElem_toArray, List.getElem_cons_succ, List.getElem_cons_zero, List.setIfInBounds_toArray, List.set_cons_zero, List.set_cons_succ]
                refine gp_step 10 (by kernel_rfl) rfl (fun K hK => ?_)
                refine step_app st_fl (.tmp 33) (.tmp 41) rfl rfl (v := .slice sa acc.length sc) rfl (show World.ownsRow _ _ _ _ _ _ _ from own_below HO6.out (show Below w6.heap.size w6 _ from bel) (Nat.le_refl _)) rfl (Blk.at_ _ _ _ rfl) rfl (by intro y hy; simp at hy; rcases hy with rfl | rfl | rfl <;> rfl) (by unfold maxLen; omega) (by omega) (by simp only [World.size_alloc]; have := HX6.out.gm.size; omega) ?_
                intro v' x2 hown hgr
                obtain ⟨a2, c2, rfl, _⟩ := own_slice hown
                have hoi := (show (w6.alloc (.cells #[bstr nm, bstr vl, .bool nv] FlT3)).ownsRow _ _ _ _ _ _ from own_below HO6.out (show Below w6.heap.size w6 (w6.alloc (.cells #[bstr nm, bstr vl, .bool nv] FlT3)) from bel) (Nat.le_refl _))
                have HXa := HX6.out.grow (show Below w6.heap.size w6 (w6.alloc (.cells #[bstr nm, bstr vl, .bool nv] FlT3)) from bel)
                have HX6 := Lib.hid (HXa.row hgr (fun k hk => (hoi.lt k hk).1) hBw (own_ne_ty hoi HXa.bk (by decide)) (own_ne_ty hoi HXa.rs (by decide)))
                have HO6 : Hid (OwnF w.heap.size x2 (.slice a2 (acc.length + 1) c2) (acc ++ [⟨nm, vl, nv⟩])) := by
                  show World.ownsRow _ _ _ _ _ _ _
                  rw [List.length_append, List.flatMap_append]
                  exact hown
                have f5 : x2.cell? ⟨bx, 4, none⟩ = some (.slice sa acc.length sc) := HX6.out.bk.cell 4
                have y5 : x2.frozen? ⟨bx, 4, none⟩ = false := HX6.out.bk.frozen 4
                have l5 := HX6.out.bk.lt
                refine hK.out _ _ (show Gp _ _ _ from gp3_grown hgr) ?_
                clear hK K
                clear hown hgr hoi HXa
                try simp only [Act.put, List.getElem_toArray, List.getElem_cons_succ, List.getElem_cons_zero, List.setIfInBounds_toArray, List.set_cons_zero, List.set_cons_succ]
                refine gp_step 11 (by kernel_rfl) rfl (fun K hK => ?_)
                go_simp
                go_wp2_with fail
                refine hK.out _ _ (show Gp _ _ _ from Gp.refl _) ?_
                clear hK K
                try simp only [Act.put, List.getElem_toArray, List.getElem_cons_succ, List.getElem_cons_zero, List.setIfInBounds_toArray, List.set_cons_zero, List.set_cons_succ]
                refine gp_step 12 (by kernel_rfl) rfl (fun K hK => ?_)
                go_simp
                go_wp2_with fail
                refine hK.out _ _ (show Gp _ _ _ from Gp.set _ (.inr (.inl rfl))) ?_
                clear hK K
                try simp only [Act.put, List.getElem_toArray, List.getElem_cons_succ, List.getElem_cons_zero, List.setIfInBounds_toArray, List.set_cons_zero, List.set_cons_succ]
                refine wpAnyH_done (by kernel_rfl) ?_ _
                go_wp2_with fail
                go_roundg q
                case measure => omega
                case rel => exact ⟨_, _, _, _, _, by have := HLQ.out; omega, by have := HLA.out; simp only [List.length_append, List.length_cons, List.length_nil]; omega, HLS2.out, by rw [List.length_append]; exact HX6.out.put4 a2 (acc.length + 1) c2, by rw [List.length_append]; exact own_far HO6.out HX6.out.bk (by decide), HF2⟩
              · go_simp
                go_wp2_with fail
                refine hK.out _ _ (show Gp _ _ _ from Gp.of_below bel) ?_
                clear hK K'
                try simp only [Act.put, List.getElem_toArray, List.getElem_cons_succ, List.getElem_cons_zero, List.setIfInBounds_toArray, List.set_cons_zero, List.set_cons_succ]
                refine gp_step 1 (by kernel_rfl) rfl (fun K hK => ?_)
                go_simp
                go_wp2_with fail
                refine hK.out _ _ (show Gp _ _ _ from Gp.refl _) ?_
                clear hK K
                try simp only [Act.put, List.getElem_toArray, List.getElem_cons_succ, List.getElem_cons_zero, List.setIfInBounds_toArray, List.set_cons_zero, List.set_cons_succ]
                refine gp_step 10 (by kernel_rfl) rfl (fun K hK => ?_)
                refine step_app st_fl (.tmp 33) (.tmp 41) rfl rfl (v := .slice sa acc.length sc) rfl (show World.ownsRow _ _ _ _ _ _ _ from own_below HO6.out (show Below w6.heap.size w6 _ from bel) (Nat.le_refl _)) rfl (Blk.at_ _ _ _ rfl) rfl (by intro y hy; simp at hy; rcases hy with rfl | rfl | rfl <;> rfl) (by unfold maxLen; omega) (by omega) (by simp only [World.size_alloc]; have := HX6.out.gm.size; omega) ?_
                intro v' x2 hown hgr
                obtain ⟨a2, c2, rfl, _⟩ := own_slice hown
                have hoi := (show (w6.alloc (.cells #[bstr nm, bstr vl, .bool nv] FlT3)).ownsRow _ _ _ _ _ _ from own_below HO6.out (show Below w6.heap.size w6 (w6.alloc (.cells #[bstr nm, bstr vl, .bool nv] FlT3)) from bel) (Nat.le_refl _))
                have HXa := HX6.out.grow (show Below w6.heap.size w6 (w6.alloc (.cells #[bstr nm, bstr vl, .bool nv] FlT3)) from bel)
                have HX6 := Lib.hid (HXa.row hgr (fun k hk => (hoi.lt k hk).1) hBw (own_ne_ty hoi HXa.bk (by decide)) (own_ne_ty hoi HXa.rs (by decide)))
                have HO6 : Hid (OwnF w.heap.size x2 (.slice a2 (acc.length + 1) c2) (acc ++ [⟨nm, vl, nv⟩])) := by
                  show World.ownsRow _ _ _ _ _ _ _
                  rw [List.length_append, List.flatMap_append]
                  exact hown
                have f5 : x2.cell? ⟨bx, 4, none⟩ = some (.slice sa acc.length sc) := HX6.out.bk.cell 4
                have y5 : x2.frozen? ⟨bx, 4, none⟩ = false := HX6.out.bk.frozen 4
                have l5 := HX6.out.bk.lt
                refine hK.out _ _ (show Gp _ _ _ from gp3_grown hgr) ?_
                clear hK K
                clear hown hgr hoi HXa
                try simp only [Act.put, List.getElem_toArray, List.getElem_cons_succ, List.getElem_cons_zero, List.setIfInBounds_toArray, List.set_cons_zero, List.set_cons_succ]
                refine gp_step 11 (by kernel_rfl) rfl (fun K hK => ?_)
                go_simp
                go_wp2_with fail
                refine hK.out _ _ (show Gp _ _ _ from Gp.refl _) ?_
                clear hK K
                try simp only [Act.put, List.getElem_toArray, List.getElem_cons_succ, List.getElem_cons_zero, List.setIfInBounds_toArray, List.set_cons_zero, List.set_cons_succ]
                refine gp_step 12 (by kernel_rfl) rfl (fun K hK => ?_)
                go_simp
                go_wp2_with fail
                refine hK.out _ _ (show Gp _ _ _ from Gp.set _ (.inr (.inl rfl))) ?_
                clear hK K
                try simp only [Act.put, List.getElem_toArray, List.getElem_cons_succ, List.getElem_cons_zero, List.setIfInBounds_toArray, List.set_cons_zero, List.set_cons_succ]
                refine wpAnyH_done (by kernel_rfl) ?_ _
                go_wp2_with fail
                go_roundg q
                case measure => omega
                case rel => exact ⟨_, _, _, _, _, by have := HLQ.out; omega, by have := HLA.out; simp only [List.length_append, List.length_cons, List.length_nil]; omega, HLS2.out, by rw [List.length_append]; exact HX6.out.put4 a2 (acc.length + 1) c2, by rw [List.length_append]; exact own_far HO6.out HX6.out.bk (by decide), HF2⟩
    · have hF : manyP oneF gk L1 b1 = ([], L1, b1) := by
        cases gk with
        | zero => rfl
        | succ q => rw [manyP, if_neg hgo]
      rw [hF] at HF
      have hfe : ls = acc ∧ f2 = L1 ∧ f3 = b1 := by
        have := HF.out
        simp only [List.append_nil, Prod.mk.injEq] at this
        exact ⟨this.1, this.2.1, this.2.2⟩
      obtain ⟨rfl, rfl, rfl⟩ := hfe
      have HX9 := HX
      obtain ⟨⟨z0, z1, z2, z3, z4, z5⟩, ⟨y1, y2, y3, y4, y5⟩, zl⟩ := HX.out.fields
      obtain ⟨⟨r0, r1, r2, r3, r4, r5⟩, ⟨s0, s1, s2, s3, s4, s5⟩, rl⟩ := HX.out.results
      by_cases hn : f2 = []
      · subst hn
        simp only [List.length_nil] at u0
        go_wp2_with fail
        refine bodyPost_ret (res_cell rfl st_Pt rfl (putR_blk HX.out) rfl) rfl ?_
        exact ⟨_, _, _, _, rfl, putR_own HX.out HO.out (by decide), World.ownsRow_nil _ _ _ _, putR_rd HX.out⟩
      · have hpos : (0 : Int) < (f2.length : Int) := by have := List.length_pos_iff.2 hn; omega
        have hposn : 0 < f2.length := List.length_pos_iff.2 hn
        have hb : f3 = true := by cases f3 with
          | true => rfl
          | false => exact absurd ⟨hn, rfl⟩ hgo
        subst hb
        go_wp2_with fail
        refine bodyPost_ret (res_cell rfl st_Pt rfl (putR_blk HX.out) rfl) rfl ?_
        exact ⟨_, _, _, _, rfl, putR_own HX.out HO.out (by decide), World.ownsRow_nil _ _ _ _, putR_rd HX.out⟩
end Go.Proofs.YtfcgdfcekpbliaaGreatDoor
