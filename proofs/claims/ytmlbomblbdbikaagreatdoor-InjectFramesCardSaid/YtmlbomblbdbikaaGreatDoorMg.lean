/-
  Parts of the proof, one behind the other: contracts of the program and plain laws; no condition of their own.
-/
import Derived.Test.YtmlbomblbdbikaaGreatDoorMf
/-
  Field blocks, written outside of tables: the document's road, whole.
-/
namespace Go.Proofs.YtmlbomblbdbikaaGreatDoor
set_option linter.unusedSimpArgs false
set_option linter.unusedVariables false
set_option linter.unusedSectionVars false
open Go.ChangeShapes Go.WideShapes Go.ChangeAt Go.RowKit Go.Deep Go.Shelf

section
variable {P : Program} {ops : Array Oper} {Q : Exit → Act → World → Prop} {md : Region.Mode} {B : Nat}
theorem gb_three (i j k : Nat) {o p q : Oper} {fuel : Nat} {listed : Array Bool} {a : Act} {w : World} (hr : Region.ready md ops listed = [i, j, k]) (ho : ops[i]? = some o) (hp : ops[j]? = some p) (hq : ops[k]? = some q)
    (h : ∀ K' : Act → World → Prop, Shut (∀ a' w', Gb B w w' → wpAnyH P md ops Q (Gb B w') fuel (listed.setIfInBounds i true) a' w' → K' a' w') → if Region.wanted o (yielded ops a.tmps) = true then Oper.wp P o a w K' Q else K' (a.put o.dst undef) w)
    (h2 : ∀ K' : Act → World → Prop, Shut (∀ a' w', Gb B w w' → wpAnyH P md ops Q (Gb B w') fuel (listed.setIfInBounds j true) a' w' → K' a' w') → if Region.wanted p (yielded ops a.tmps) = true then Oper.wp P p a w K' Q else K' (a.put p.dst undef) w)
    (h3 : ∀ K' : Act → World → Prop, Shut (∀ a' w', Gb B w w' → wpAnyH P md ops Q (Gb B w') fuel (listed.setIfInBounds k true) a' w' → K' a' w') → if Region.wanted q (yielded ops a.tmps) = true then Oper.wp P q a w K' Q else K' (a.put q.dst undef) w) :
    wpAnyH P md ops Q (Gb B w) (fuel + 1) listed a w :=
  wpAnyH_ready hr (by simp) (gb_one ho h (gb_one hp h2 (gb_one hq h3 AllReadyH.nil)))
end
theorem cutE {S : World → Nat → Nat → Prop} {P : World → Nat → Nat → Prop} {A : Prop} (h1 : (∀ w x y, S w x y → P w x y) → A) (h2 : ∀ w x y, S w x y → P w x y) : A := h1 h2
theorem gen_we {f : World → Prop} {w : World} (h : ∀ W, W = w → f W) : f w := h w rfl
theorem ownB_row {B g : Nat} {w : World} {v : Value} {l : List UInt8} (h : OwnB B w v l) (hg : g < B) (cs : Array Value) : OwnB B (w.setRow g cs) v l := by
  refine ⟨h.1, ?_⟩
  rcases h.2 with h2 | ⟨k, cap, cur, h1, hb, hk, hr⟩
  · exact .inl h2
  · exact .inr ⟨k, cap, cur, h1, hb, by simp only [World.setRow, Array.getElem?_modify]; rw [if_neg (by omega)]; exact hk, hr⟩
abbrev RpDT : TypeId := 62
abbrev OpDT : TypeId := 88
abbrev tbc : Array Value := #[.slice none 0 0, .int .i64 0]
theorem own_ge {B : Nat} {w : World} {v : Value} {l : List UInt8} (h : OwnB B w v l) : ∀ q, w.heap.size ≤ q → some q ≠ v.ownBlock := by
  intro q hq e
  have := (World.ownsRow.lt h q e.symm).2
  omega
theorem own_set {B g : Nat} {w : World} {v : Value} {l : List UInt8} (h : OwnB B w v l) (hg : g < B) (o : Nat) (u : Value) : OwnB B (w.setCell ⟨g, o, none⟩ u) v l := by
  refine ⟨h.1, ?_⟩
  rcases h.2 with h2 | ⟨k, cap, cur, h1, hb, hk, hr⟩
  · exact .inl h2
  · exact .inr ⟨k, cap, cur, h1, hb, by rw [Below.heap_setCell w _ u k (by show k ≠ g; omega)]; exact hk, hr⟩
theorem blk_rowF {w : World} {g g' : Nat} {t : TypeId} {old : Array Value} (h : Blk w g t old) (hne : g ≠ g') (cs : Array Value) : Blk (w.setRow g' cs) g t old := by
  unfold Blk at h ⊢
  simp only [World.setRow, Array.getElem?_modify]
  rw [if_neg (fun e => hne e.symm)]
  exact h
/-- What is left by one field. -/
def EncS (wd : World) (i : Nat) (n v : List UInt8) (W : World) (x y : Nat) : Prop := Below wd.heap.size wd W ∧ Blk W x RpDT (reC (i : Int) n v) ∧ Blk W y TbDT tbc ∧ wd.heap.size ≤ x ∧ wd.heap.size ≤ y
/-- What a field block leaves. -/
def RowT (l : List UInt8) (w : World) (e : Ending) (w' : World) : Prop := ∃ v, e = .returned (.tuple #[v, tb0, .bool true]) ∧ OwnB w.heap.size w' v l ∧ Below w.heap.size w w'
theorem res_tct {P : Program} {fn : Func} {p q u : Tmp} {ty : TypeId} {n g : Nat} {t : TypeId} {cs : Array Value} {tmps : Array Value} {w : World} {v1 v2 : Value} (h : fn.results = #[.tmp p, .cell q ty, .tmp u]) (hv1 : tmps.getD p undef = v1) (hs : StructTy P ty n) (hq : tmps.getD q undef = .pointer (some ⟨g, 0, none⟩)) (hb : Blk w g t cs) (hn : cs.size = n)
    (hv2 : tmps.getD u undef = v2) : (results fn tmps).run P w = .ok (.tuple #[v1, .agg cs, v2]) w := by
  have hq' : tmps[q]?.getD undef = .pointer (some ⟨g, 0, none⟩) := by simpa using hq
  have hv1' : tmps[p]?.getD undef = v1 := by simpa using hv1
  have hv2' : tmps[u]?.getD undef = v2 := by simpa using hv2
  simp [results, h, hq', hv1', hv2', asAddr, hs.load hb hn]
theorem tb_one : (tbc : Array Value).all (·.oneCell') = true := by simp [Value.oneCell']
set_option maxHeartbeats 16000000 in
set_option maxRecDepth 100000 in
theorem ref24_Encode0 (ob : Nat) (fa : Option Addr) (fc : Nat) (l : List Fd) (hl : l.length ≤ 100) (hf : ∀ f ∈ l, FdEn f) (w : World) (ho : Blk w ob OpDT op2) (hS : SlF w w.heap.size fa l) :
    Calls Tryz.prog 45 #[tb0, .slice none 0 0, .slice fa l.length fc, .slice (some ⟨ob, 0, none⟩) 1 1] w (RowT (encL l) w) := by
  have HE : Hid (encL l = encL (l.drop 0)) := rfl
  obtain ⟨R, hR⟩ : ∃ R, R = encL l := ⟨_, rfl⟩
  rw [← hR] at HE ⊢
  have HOB := Lib.hid ho
  have HS := Lib.hid hS
  have HF := Lib.hid hf
  have HL := Lib.hid hl
  clear ho hS hf hR hl
  unfold RowT
  go_enter Tryz.func45, Tryz.ntmps45
  go_wp2_with fail
  refine wp_loop_rounds 1 ?_
  rw [rounds_succ]
  go_wp2_with fail
  go_loopg [11, 14] l.length (fun gk v i wr => ∃ (k : Nat) (out : List UInt8), k + gk = l.length ∧ i = .int .i64 (k : Int) ∧ OwnB (w.heap.size + 1 + 1 + 1) wr v out ∧ out.length ≤ 300 * k ∧ Hid (R = out ++ encL (l.drop k)) ∧ Blk wr (w.heap.size + 1 + 1) TbDT tbc ∧ Blk wr (w.heap.size + 1) TbDT tbc ∧ Below w.heap.size w wr)
  case atStart => exact ⟨0, [], by omega, rfl, OwnB.nil _ _, by simp, HE.out, blk, blk, bel⟩
  case round =>
    obtain ⟨k, out, hkg, rfl, hown, hlen, HX, hk2, hk1, hbel⟩ := hrel
    have HKG := Lib.hid hkg
    have HOW := Lib.hid hown
    have HNE := Lib.hid (own_ge hown)
    have HLEN := Lib.hid hlen
    have HB := Lib.hid hbel
    have HK2 := Lib.hid hk2
    have HK1 := Lib.hid hk1
    have hzr := hbel.size
    have hz2 := hk2.lt
    have n0 : wr.cell? ⟨w.heap.size + 1 + 1, 0, none⟩ = some (.slice none 0 0) := hk2.cell 0
    have n1 : wr.cell? ⟨w.heap.size + 1 + 1, 1, none⟩ = some (.int .i64 0) := hk2.cell 1
    have m0 : wr.cell? ⟨w.heap.size + 1, 0, none⟩ = some (.slice none 0 0) := hk1.cell 0
    have m1 : wr.cell? ⟨w.heap.size + 1, 1, none⟩ = some (.int .i64 0) := hk1.cell 1
    have mf0 := hk1.frozen 0
    have mf1 := hk1.frozen 1
    clear hown hlen hbel HE hk2 hk1
    by_cases hlt : k < l.length
    · have d1 : decide ((k : Int) < (l.length : Int)) = true := decide_eq_true (by omega)
      have w1 : IntKind.i64.wrap ((k : Int) + 1) = (k : Int) + 1 := IntWalk.i64_in _ (by have := HL.out; omega)
      obtain ⟨fb, off, rfl, hfb, q0, q1, q2, _, _⟩ := SlR.atF HS.out hlt
      have HFK := Lib.hid (HF.out _ (List.getElem_mem hlt))
      have HXX : Hid (R = out ++ (encF l[k] ++ encL (l.drop (k + 1)))) := by show _ = _; rw [HX.out, encL_drop hlt]
      generalize l[k] = f at q0 q1 q2 HFK HXX
      obtain ⟨fn, fv, fne⟩ := f
      obtain rfl : fne = false := HFK.out.never
      simp only at q0 q1 q2
      have r0 := (HB.out.cell (p := ⟨fb, off + k * 3, none⟩) hfb).trans q0
      have r1 := (HB.out.cell (p := ⟨fb, off + k * 3 + 1, none⟩) hfb).trans q1
      have r2 := (HB.out.cell (p := ⟨fb, off + k * 3 + 2, none⟩) hfb).trans q2
      have ro0 : wr.cell? ⟨ob, 0, none⟩ = some (.int .i64 2) := (HOB.out.below HB.out HOB.out.lt).cell 0
      have ro1 : wr.cell? ⟨ob, 1, none⟩ = some (.bool false) := (HOB.out.below HB.out HOB.out.lt).cell 1
      have ro2 : wr.cell? ⟨ob, 2, none⟩ = some (.bool false) := (HOB.out.below HB.out HOB.out.lt).cell 2
      have ro3 : wr.cell? ⟨ob, 3, none⟩ = some (.bool false) := (HOB.out.below HB.out HOB.out.lt).cell 3
      have hfbr : fb < wr.heap.size := by omega
      have hobr : ob < wr.heap.size := by have := HOB.out.lt; omega
      clear q0 q1 q2 hkg HX HS
      go_wp2_with fail
      have hi61 := idxF_le _ HFK.out
      have HONE : Hid (∀ W, Calls Tryz.prog 63 #[tb0, .agg #[bstr fn, bstr fv, .bool false], .agg op2] W fun e w' => e = .returned (.tuple #[.agg (reC ((idxF ⟨fn, fv, false⟩ : Nat) : Int) (if idxF ⟨fn, fv, false⟩ = 0 then fn else []) fv), tb0]) ∧ ∃ j, w' = W.more j) := fun W => by
        have := ref24_One0 fn fv HFK.out.ne W
        rw [show nmdF fn = ((idxF ⟨fn, fv, false⟩ : Nat) : Int) from HFK.out.dc] at this
        rwa [show (if ((idxF ⟨fn, fv, false⟩ : Nat) : Int) = 0 then fn else []) = (if idxF ⟨fn, fv, false⟩ = 0 then fn else []) from by split <;> split <;> first | rfl | omega] at this
      have HPUT : Hid (∀ W, Calls Tryz.prog 23 #[.agg (reC ((idxF ⟨fn, fv, false⟩ : Nat) : Int) (if idxF ⟨fn, fv, false⟩ = 0 then fn else []) fv)] W (RowQ (encF ⟨fn, fv, false⟩) W)) := fun W =>
        ref22_Put3 _ _ _ (by omega) (by have := HFK.out.ln; simp only at this; split <;> simp <;> omega) (by have := HFK.out.lv; simp only at this; omega) W
      have HEL := Lib.hid (encF_len HFK.out)
      generalize (if idxF ⟨fn, fv, false⟩ = 0 then fn else []) = nn at HONE HPUT
      generalize encF ⟨fn, fv, false⟩ = E at HPUT HXX HEL
      generalize idxF ⟨fn, fv, false⟩ = ii at HONE HPUT
      clear hi61
      refine wnm fun w1 hw1 => ?_
      have HB1 : Hid (Below wr.heap.size wr w1) := by show Below _ _ _; rw [hw1]; exact bel
      have HY1 : Hid (Blk w1 wr.heap.size OpDT op2) := by show Blk _ _ _ _; rw [hw1]; exact blk
      clear hw1
      refine gb_start w1.heap.size (by kernel_rfl) ?_
      obtain ⟨wd, hwd⟩ : ∃ wd, wd = w1.drew := ⟨_, rfl⟩
      rw [← hwd]
      have HBD : Hid (Below wr.heap.size wr wd) := by show Below _ _ _; rw [hwd]; exact Below.drew HB1.out
      have HYD : Hid (Blk wd wr.heap.size OpDT op2) := by show Blk _ _ _ _; rw [hwd]; exact HY1.out
      have HTD : Hid (Blk wd (w.heap.size + 1 + 1) TbDT tbc) := HK2.out.below HBD.out hz2
      have hs2 : wd.heap.size = w1.heap.size := by rw [hwd]; rfl
      rw [← hs2]
      have s0 : wd.cell? ⟨fb, off + k * 3, none⟩ = some (bstr fn) := (HBD.out.cell (p := ⟨fb, off + k * 3, none⟩) hfbr).trans r0
      have s1 : wd.cell? ⟨fb, off + k * 3 + 1, none⟩ = some (bstr fv) := (HBD.out.cell (p := ⟨fb, off + k * 3 + 1, none⟩) hfbr).trans r1
      have s2 : wd.cell? ⟨fb, off + k * 3 + 2, none⟩ = some (.bool false) := (HBD.out.cell (p := ⟨fb, off + k * 3 + 2, none⟩) hfbr).trans r2
      have zy : wr.heap.size < wd.heap.size := HYD.out.lt
      have zt : w.heap.size + 1 + 1 < wd.heap.size := HTD.out.lt
      have zf : fb < wd.heap.size := by omega
      clear hwd hs2 HY1 HB1 r0 r1 r2 ro0 ro1 ro2 ro3 n0 n1 m0 m1 mf0 mf1
      refine cutE (S := EncS wd ii nn fv) (P := ?PP) (fun key => ?_) ?_
      rotate_left
      · refine gb_load 0 rfl (by kernel_rfl) (by kernel_rfl) (by kernel_rfl) TbDT _ _ (fun _ _ _ h => h) (by first | kernel_rfl | rfl) rfl _ rfl HTD.out zt _ Tryz.underlying84 rfl (by kernel_rfl) ?_
        try simp only [Act.put, nfa, nfb, nfc, nfd, List.set_cons_zero, List.set_cons_succ]
        refine tk 1 ?_
        refine tk 2 ?_
        refine tk 3 ?_
        refine tk 4 ?_
        refine gb_load 5 rfl (by kernel_rfl) (by kernel_rfl) (by kernel_rfl) OpDT _ _ (fun _ _ _ h => h) (by first | kernel_rfl | rfl) rfl _ rfl HYD.out zy _ Tryz.underlying88 rfl (by kernel_rfl) ?_
        try simp only [Act.put, nfa, nfb, nfc, nfd, List.set_cons_zero, List.set_cons_succ]
        refine gb_three 6 10 11 (by kernel_rfl) rfl rfl rfl (fun K hK => ?_) (fun K hK => ?_) (fun K hK => ?_)
        · go_simp
          go_wp2_with fail
          refine (HONE.out _).mono ?_
          rintro e w' ⟨rfl, j, rfl⟩
          go_wp2_with fail
          refine hK.out _ _ (show Below _ _ _ from below_two (w := wd) (by first | exact Below.refl _ _ | exact bel) bel (by simp)) ?_
          clear hK K
          try simp only [Act.put, nfa, nfb, nfc, nfd, List.set_cons_zero, List.set_cons_succ]
          refine tk 7 ?_
          refine tk 8 ?_
          refine tk 9 ?_
          refine gb_two 10 11 (by kernel_rfl) rfl rfl (fun K hK => ?_) (fun K hK => ?_)
          · go_simp
            go_wp2_with fail
            refine hK.out _ _ (show Below _ _ _ from below_two (w := wd) (by first | exact Below.refl _ _ | exact bel) bel (by simp)) ?_
            clear hK K
            try simp only [Act.put, nfa, nfb, nfc, nfd, List.set_cons_zero, List.set_cons_succ]
            refine gb_step 11 (by kernel_rfl) rfl (fun K hK => ?_)
            go_simp
            go_wp2_with fail
            refine hK.out _ _ (show Below _ _ _ from below_two (w := wd) (by first | exact Below.refl _ _ | exact bel) bel (by simp)) ?_
            clear hK K
            try simp only [Act.put, nfa, nfb, nfc, nfd, List.set_cons_zero, List.set_cons_succ]
            refine gb_step 12 (by kernel_rfl) rfl (fun K hK => ?_)
            go_simp
            go_wp2_with fail
            refine hK.out _ _ (show Below _ _ _ from below_two (w := wd) (by first | exact Below.refl _ _ | exact bel) bel (by simp)) ?_
            clear hK K
            try simp only [Act.put, nfa, nfb, nfc, nfd, List.set_cons_zero, List.set_cons_succ]
            refine gb_step 13 (by kernel_rfl) rfl (fun K hK => ?_)
            go_simp
            go_wp2_with fail
            refine hK.out _ _ (show Below _ _ _ from below_two (w := wd) (by first | exact Below.refl _ _ | exact bel) bel (by simp)) ?_
            clear hK K
            try simp only [Act.put, nfa, nfb, nfc, nfd, List.set_cons_zero, List.set_cons_succ]
            refine wpAnyH_done (by kernel_rfl) ?_ _
            refine gen_we (f := Exit.then _ _ _ _) ?_
            intro W1 hW1
            have hS1 : EncS wd ii nn fv W1 (wd.heap.size + j.heap.size) (wd.heap.size + j.heap.size + 1) := by rw [hW1]; exact ⟨bel, blk (cs := reC (ii : Int) nn fv), blk, by omega, by omega⟩
            clear hW1
            generalize wd.heap.size + j.heap.size + 1 = y1 at hS1 ⊢
            generalize wd.heap.size + j.heap.size = x1 at hS1 ⊢
            exact key W1 x1 y1 hS1
          · go_simp
            go_wp2_with fail
            refine hK.out _ _ (show Below _ _ _ from below_two (w := wd) (by first | exact Below.refl _ _ | exact bel) bel (by simp)) ?_
            clear hK K
            try simp only [Act.put, nfa, nfb, nfc, nfd, List.set_cons_zero, List.set_cons_succ]
            refine gb_step 10 (by kernel_rfl) rfl (fun K hK => ?_)
            go_simp
            go_wp2_with fail
            refine hK.out _ _ (show Below _ _ _ from below_two (w := wd) (by first | exact Below.refl _ _ | exact bel) bel (by simp)) ?_
            clear hK K
            try simp only [Act.put, nfa, nfb, nfc, nfd, List.set_cons_zero, List.set_cons_succ]
            refine gb_step 12 (by kernel_rfl) rfl (fun K hK => ?_)
            go_simp
            go_wp2_with fail
            refine hK.out _ _ (show Below _ _ _ from below_two (w := wd) (by first | exact Below.refl _ _ | exact bel) bel (by simp)) ?_
            clear hK K
            try simp only [Act.put, nfa, nfb, nfc, nfd, List.set_cons_zero, List.set_cons_succ]
            refine gb_step 13 (by kernel_rfl) rfl (fun K hK => ?_)
            go_simp
            go_wp2_with fail
            refine hK.out _ _ (show Below _ _ _ from below_two (w := wd) (by first | exact Below.refl _ _ | exact bel) bel (by simp)) ?_
            clear hK K
            try simp only [Act.put, nfa, nfb, nfc, nfd, List.set_cons_zero, List.set_cons_succ]
            refine wpAnyH_done (by kernel_rfl) ?_ _
            refine gen_we (f := Exit.then _ _ _ _) ?_
            intro W1 hW1
            have hS1 : EncS wd ii nn fv W1 (wd.heap.size + j.heap.size + 1) (wd.heap.size + j.heap.size) := by rw [hW1]; exact ⟨bel, blk (cs := reC (ii : Int) nn fv), blk, by omega, by omega⟩
            clear hW1
            generalize wd.heap.size + j.heap.size + 1 = x1 at hS1 ⊢
            generalize wd.heap.size + j.heap.size = y1 at hS1 ⊢
            exact key W1 x1 y1 hS1
        · go_simp
          go_wp2_with fail
          refine hK.out _ _ (show Below _ _ _ from below_two (w := wd) (by first | exact Below.refl _ _ | exact bel) bel (by simp)) ?_
          clear hK K
          try simp only [Act.put, nfa, nfb, nfc, nfd, List.set_cons_zero, List.set_cons_succ]
          refine gb_two 6 11 (by kernel_rfl) rfl rfl (fun K hK => ?_) (fun K hK => ?_)
          · go_simp
            go_wp2_with fail
            refine (HONE.out _).mono ?_
            rintro e w' ⟨rfl, j, rfl⟩
            go_wp2_with fail
            refine hK.out _ _ (show Below _ _ _ from below_two (w := wd) (by first | exact Below.refl _ _ | exact bel) bel (by simp)) ?_
            clear hK K
            try simp only [Act.put, nfa, nfb, nfc, nfd, List.set_cons_zero, List.set_cons_succ]
            refine tk 7 ?_
            refine tk 8 ?_
            refine tk 9 ?_
            refine gb_step 11 (by kernel_rfl) rfl (fun K hK => ?_)
            go_simp
            go_wp2_with fail
            refine hK.out _ _ (show Below _ _ _ from below_two (w := wd) (by first | exact Below.refl _ _ | exact bel) bel (by simp)) ?_
            clear hK K
            try simp only [Act.put, nfa, nfb, nfc, nfd, List.set_cons_zero, List.set_cons_succ]
            refine gb_step 12 (by kernel_rfl) rfl (fun K hK => ?_)
            go_simp
            go_wp2_with fail
            refine hK.out _ _ (show Below _ _ _ from below_two (w := wd) (by first | exact Below.refl _ _ | exact bel) bel (by simp)) ?_
            clear hK K
            try simp only [Act.put, nfa, nfb, nfc, nfd, List.set_cons_zero, List.set_cons_succ]
            refine gb_step 13 (by kernel_rfl) rfl (fun K hK => ?_)
            go_simp
            go_wp2_with fail
            refine hK.out _ _ (show Below _ _ _ from below_two (w := wd) (by first | exact Below.refl _ _ | exact bel) bel (by simp)) ?_
            clear hK K
            try simp only [Act.put, nfa, nfb, nfc, nfd, List.set_cons_zero, List.set_cons_succ]
            refine wpAnyH_done (by kernel_rfl) ?_ _
            refine gen_we (f := Exit.then _ _ _ _) ?_
            intro W1 hW1
            have hS1 : EncS wd ii nn fv W1 (wd.heap.size) (wd.heap.size + 1 + j.heap.size) := by rw [hW1]; exact ⟨bel, blk (cs := reC (ii : Int) nn fv), blk, by omega, by omega⟩
            clear hW1
            generalize wd.heap.size + 1 + j.heap.size = y1 at hS1 ⊢
            generalize wd.heap.size = x1 at hS1 ⊢
            exact key W1 x1 y1 hS1
          · go_simp
            go_wp2_with fail
            refine hK.out _ _ (show Below _ _ _ from below_two (w := wd) (by first | exact Below.refl _ _ | exact bel) bel (by simp)) ?_
            clear hK K
            try simp only [Act.put, nfa, nfb, nfc, nfd, List.set_cons_zero, List.set_cons_succ]
            refine gb_step 6 (by kernel_rfl) rfl (fun K hK => ?_)
            go_simp
            go_wp2_with fail
            refine (HONE.out _).mono ?_
            rintro e w' ⟨rfl, j, rfl⟩
            go_wp2_with fail
            refine hK.out _ _ (show Below _ _ _ from below_two (w := wd) (by first | exact Below.refl _ _ | exact bel) bel (by simp)) ?_
            clear hK K
            try simp only [Act.put, nfa, nfb, nfc, nfd, List.set_cons_zero, List.set_cons_succ]
            refine tk 7 ?_
            refine tk 8 ?_
            refine tk 9 ?_
            refine gb_step 12 (by kernel_rfl) rfl (fun K hK => ?_)
            go_simp
            go_wp2_with fail
            refine hK.out _ _ (show Below _ _ _ from below_two (w := wd) (by first | exact Below.refl _ _ | exact bel) bel (by simp)) ?_
            clear hK K
            try simp only [Act.put, nfa, nfb, nfc, nfd, List.set_cons_zero, List.set_cons_succ]
            refine gb_step 13 (by kernel_rfl) rfl (fun K hK => ?_)
            go_simp
            go_wp2_with fail
            refine hK.out _ _ (show Below _ _ _ from below_two (w := wd) (by first | exact Below.refl _ _ | exact bel) bel (by simp)) ?_
            clear hK K
            try simp only [Act.put, nfa, nfb, nfc, nfd, List.set_cons_zero, List.set_cons_succ]
            refine wpAnyH_done (by kernel_rfl) ?_ _
            refine gen_we (f := Exit.then _ _ _ _) ?_
            intro W1 hW1
            have hS1 : EncS wd ii nn fv W1 (wd.heap.size) (wd.heap.size + 1) := by rw [hW1]; exact ⟨bel, blk (cs := reC (ii : Int) nn fv), blk, by omega, by omega⟩
            clear hW1
            generalize wd.heap.size + 1 = y1 at hS1 ⊢
            generalize wd.heap.size = x1 at hS1 ⊢
            exact key W1 x1 y1 hS1
        · go_simp
          go_wp2_with fail
          refine hK.out _ _ (show Below _ _ _ from below_two (w := wd) (by first | exact Below.refl _ _ | exact bel) bel (by simp)) ?_
          clear hK K
          try simp only [Act.put, nfa, nfb, nfc, nfd, List.set_cons_zero, List.set_cons_succ]
          refine gb_two 6 10 (by kernel_rfl) rfl rfl (fun K hK => ?_) (fun K hK => ?_)
          · go_simp
            go_wp2_with fail
            refine (HONE.out _).mono ?_
            rintro e w' ⟨rfl, j, rfl⟩
            go_wp2_with fail
            refine hK.out _ _ (show Below _ _ _ from below_two (w := wd) (by first | exact Below.refl _ _ | exact bel) bel (by simp)) ?_
            clear hK K
            try simp only [Act.put, nfa, nfb, nfc, nfd, List.set_cons_zero, List.set_cons_succ]
            refine tk 7 ?_
            refine tk 8 ?_
            refine tk 9 ?_
            refine gb_step 10 (by kernel_rfl) rfl (fun K hK => ?_)
            go_simp
            go_wp2_with fail
            refine hK.out _ _ (show Below _ _ _ from below_two (w := wd) (by first | exact Below.refl _ _ | exact bel) bel (by simp)) ?_
            clear hK K
            try simp only [Act.put, nfa, nfb, nfc, nfd, List.set_cons_zero, List.set_cons_succ]
            refine gb_step 12 (by kernel_rfl) rfl (fun K hK => ?_)
            go_simp
            go_wp2_with fail
            refine hK.out _ _ (show Below _ _ _ from below_two (w := wd) (by first | exact Below.refl _ _ | exact bel) bel (by simp)) ?_
            clear hK K
            try simp only [Act.put, nfa, nfb, nfc, nfd, List.set_cons_zero, List.set_cons_succ]
            refine gb_step 13 (by kernel_rfl) rfl (fun K hK => ?_)
            go_simp
            go_wp2_with fail
            refine hK.out _ _ (show Below _ _ _ from below_two (w := wd) (by first | exact Below.refl _ _ | exact bel) bel (by simp)) ?_
            clear hK K
            try simp only [Act.put, nfa, nfb, nfc, nfd, List.set_cons_zero, List.set_cons_succ]
            refine wpAnyH_done (by kernel_rfl) ?_ _
            refine gen_we (f := Exit.then _ _ _ _) ?_
            intro W1 hW1
            have hS1 : EncS wd ii nn fv W1 (wd.heap.size + 1 + j.heap.size) (wd.heap.size) := by rw [hW1]; exact ⟨bel, blk (cs := reC (ii : Int) nn fv), blk, by omega, by omega⟩
            clear hW1
            generalize wd.heap.size + 1 + j.heap.size = x1 at hS1 ⊢
            generalize wd.heap.size = y1 at hS1 ⊢
            exact key W1 x1 y1 hS1
          · go_simp
            go_wp2_with fail
            refine hK.out _ _ (show Below _ _ _ from below_two (w := wd) (by first | exact Below.refl _ _ | exact bel) bel (by simp)) ?_
            clear hK K
            try simp only [Act.put, nfa, nfb, nfc, nfd, List.set_cons_zero, List.set_cons_succ]
            refine gb_step 6 (by kernel_rfl) rfl (fun K hK => ?_)
            go_simp
            go_wp2_with fail
            refine (HONE.out _).mono ?_
            rintro e w' ⟨rfl, j, rfl⟩
            go_wp2_with fail
            refine hK.out _ _ (show Below _ _ _ from below_two (w := wd) (by first | exact Below.refl _ _ | exact bel) bel (by simp)) ?_
            clear hK K
            try simp only [Act.put, nfa, nfb, nfc, nfd, List.set_cons_zero, List.set_cons_succ]
            refine tk 7 ?_
            refine tk 8 ?_
            refine tk 9 ?_
            refine gb_step 12 (by kernel_rfl) rfl (fun K hK => ?_)
            go_simp
            go_wp2_with fail
            refine hK.out _ _ (show Below _ _ _ from below_two (w := wd) (by first | exact Below.refl _ _ | exact bel) bel (by simp)) ?_
            clear hK K
            try simp only [Act.put, nfa, nfb, nfc, nfd, List.set_cons_zero, List.set_cons_succ]
            refine gb_step 13 (by kernel_rfl) rfl (fun K hK => ?_)
            go_simp
            go_wp2_with fail
            refine hK.out _ _ (show Below _ _ _ from below_two (w := wd) (by first | exact Below.refl _ _ | exact bel) bel (by simp)) ?_
            clear hK K
            try simp only [Act.put, nfa, nfb, nfc, nfd, List.set_cons_zero, List.set_cons_succ]
            refine wpAnyH_done (by kernel_rfl) ?_ _
            refine gen_we (f := Exit.then _ _ _ _) ?_
            intro W1 hW1
            have hS1 : EncS wd ii nn fv W1 (wd.heap.size + 1) (wd.heap.size) := by rw [hW1]; exact ⟨bel, blk (cs := reC (ii : Int) nn fv), blk, by omega, by omega⟩
            clear hW1
            generalize wd.heap.size + 1 = x1 at hS1 ⊢
            generalize wd.heap.size = y1 at hS1 ⊢
            exact key W1 x1 y1 hS1
      intro w3 x3 y3 hS3
      have HB3 := Lib.hid hS3.1
      have HX3 := Lib.hid hS3.2.1
      have HY3 := Lib.hid hS3.2.2.1
      have hx3 := hS3.2.2.2.1
      have hy3 := hS3.2.2.2.2
      have hz3 := HB3.out.size
      have hlx := HX3.out.lt
      have hly := HY3.out.lt
      clear hS3 s0 s1 s2
      go_wp2_with (first | (refine wpList_load_row rfl RpDT (.tmp 16) rfl x3 rfl RpDT (reC (ii : Int) nn fv) (0, 0) _ HX3.out Tryz.underlying62 rfl (by kernel_rfl) ?_) | (go_at_call 23; (with_reducible refine (HPUT.out _).mono ?_); rintro e w5 ⟨v5, rfl, ho5, hb5⟩; obtain ⟨a5, c5, rfl, hs5⟩ := ho5.read; have HS5 := Lib.hid hs5; have HB5 := Lib.hid hb5; have hz5 := hb5.size; clear hb5 ho5 hs5) | (at_builtin; refine app_bytes (.tmp 73) (.tmp 75) rfl rfl rfl (((HOW.out.below HBD.out (Nat.le_refl _)).below HB3.out (Nat.le_refl _)).below HB5.out (Nat.le_refl _)) rfl rfl HS5.out (by have := HEL.out; have := HLEN.out; have := HL.out; omega) (by omega) ?_; intro v6 w6 hown6 hbw6 hgw6; have HO6 := Lib.hid hown6; have HB6 := Lib.hid hbw6; have hz6 := hbw6.size; have HG6 := Lib.hid hgw6; clear hown6 hbw6 hgw6) | (refine wpList_load_row rfl TbDT (.tmp 17) rfl y3 rfl TbDT tbc (0, 0) _ ((HY3.out.below HB5.out hly).grown HG6.out (HNE.out _ (by omega))) Tryz.underlying84 rfl (by kernel_rfl) ?_) | (refine wpList_store_row rfl TbDT _ _ rfl (w.heap.size + 1 + 1) tbc rfl rfl TbDT _ ((((HK2.out.below HBD.out hz2).below HB3.out zt).below HB5.out (by omega)).below HB6.out (by omega)) (by kernel_rfl) rfl tb_one ?_))
      have HBW : Hid (Below w.heap.size w w6) := HB.out.trans ((Below.mono HBD.out (by omega)).trans ((Below.mono HB3.out (by omega)).trans ((Below.mono HB5.out (by omega)).trans (Below.mono HB6.out (by omega)))))
      go_roundg (l.length - (k + 1))
      case measure => have := HKG.out; omega
      case rel => exact ⟨k + 1, out ++ E, by have := HKG.out; omega, by go_num, ownB_row HO6.out (by omega) _, by have := HEL.out; have := HLEN.out; simp only [List.length_append]; omega, by show _ = _; rw [HXX.out, List.append_assoc], blk_rowE ((((HK2.out.below HBD.out hz2).below HB3.out zt).below HB5.out (by omega)).below HB6.out (by omega)) _, blk_rowF ((((HK1.out.below HBD.out (by omega)).below HB3.out (by omega)).below HB5.out (by omega)).below HB6.out (by omega)) (by omega) _, below_rowE HBW.out (by omega) _⟩
    · obtain rfl : k = l.length := by omega
      have d1 : decide ((l.length : Int) < (l.length : Int)) = false := decide_eq_false (by omega)
      have HY : Hid (R = out) := by show _ = _; rw [HX.out]; simp [encL]
      clear HX hkg
      go_wp2_with fail
      go_region
      all_goals
        go_wp2_with fail
        refine bodyPost_ret (res_tct rfl rfl st_Tb2 rfl (((HK1.out.set_ 0 (.slice none 0 0)).set_ 1 (.int .i64 0)).drew) rfl rfl) rfl ⟨_, rfl, ?_, ?_⟩
        · rw [HY.out]
          refine ownB_low (B := w.heap.size + 1 + 1 + 1) ?_ (by omega)
          have h := own_set HOW.out (g := w.heap.size + 1) (by omega) 0 (.slice none 0 0)
          exact (own_set h (g := w.heap.size + 1) (by omega) 1 (.int .i64 0)).drew
        · exact (((HB.out.setCell (p := ⟨w.heap.size + 1, 0, none⟩) (by simp) _).setCell (p := ⟨w.heap.size + 1, 1, none⟩) (by simp) _)).drew
end Go.Proofs.YtmlbomblbdbikaaGreatDoor
/-
  Frames of settings and of field blocks: the program's road.
-/
namespace Go.Proofs.YtmlbomblbdbikaaGreatDoor
set_option linter.unusedSimpArgs false
set_option linter.unusedVariables false
set_option linter.unusedSectionVars false
open Go.ChangeShapes Go.WideShapes Go.ChangeAt Go.RowKit Go.Deep Go.Shelf

set_option maxHeartbeats 4000000 in
set_option maxRecDepth 100000 in
theorem inject_sets (i v : Int) (hi : 0 ≤ i ∧ i ≤ 65535) (hv : 0 ≤ v ∧ v ≤ 4294967295) (w : World) : Calls Tryz.prog 39 #[.int .i64 i, .int .i64 v] w (RawsP [⟨4, 0, 0, beL 2 i ++ beL 4 v⟩] w) := by
  have HP : Hid (∀ g c W, Blk W g 93 #[.int .i64 i, .int .i64 v] → Calls Tryz.prog 50 #[.slice (some ⟨g, 0, none⟩) 1 c] W (RowP (beL 2 i ++ beL 4 v) W)) := fun g c W hW => setting_Put1 g c i v hi hv W hW
  generalize beL 2 i ++ beL 4 v = L at HP ⊢
  clear hi hv
  unfold RawsP
  go_enter Tryz.func39, Tryz.ntmps39
  go_wp2_with (first | (go_at_call 50; (with_reducible refine (HP.out _ _ _ blk).mono ?_); rintro e w3 ⟨v3, rfl, ho3, hb3⟩; obtain ⟨a3, c3, rfl, hs3⟩ := ho3.read; have HS3 := Lib.hid hs3; have HB3 : Hid (Below w.heap.size w w3) := (show Below w.heap.size w _ from bel).trans (Below.mono hb3 (by simp)); clear hb3 ho3 hs3) | (go_at_call 18; (with_reducible refine (inject_frame _ _ _ _ _ _ L rfl _ HS3.out).mono ?_); rintro e w4 ⟨g4, cap4, rfl, hq4⟩; have HQ4 := Lib.hid hq4; clear hq4))
  go_ret
  exact ⟨_, _, rfl, HQ4.out.low HB3.out⟩
set_option maxHeartbeats 4000000 in
set_option maxRecDepth 100000 in
theorem inject_block (s : Int) (a : Option Addr) (n c : Nat) (b : List UInt8) (hn : b.length = n) (w : World) (hS : SlB w w.heap.size a b) :
    Calls Tryz.prog 51 #[.int .i64 s, .slice a n c] w (RawsP [⟨1, 5, s, b⟩] w) := by
  have HF := Lib.hid (inject_frame 1 5 s a n c b hn w hS)
  clear hS hn
  unfold RawsP at HF ⊢
  go_enter Tryz.func51, Tryz.ntmps51
  go_wp2_with (go_at_call 18; (with_reducible refine HF.out.mono ?_); rintro e w4 ⟨g4, cap4, rfl, hq4⟩; have HQ4 := Lib.hid hq4; clear hq4)
  go_ret
  exact ⟨_, _, rfl, HQ4.out⟩
theorem st_fdl : SliceTy Tryz.prog 66 65 (.agg #[bstr [], bstr [], .bool false]) 3 40 := SliceTy.mk' Tryz.underlying66 (by kernel_rfl) rfl (by decide)
/-- A field's cells. -/
def fdq (f : Fd) : List Value := [bstr f.name, bstr f.value, .bool f.never]
def OwnQ (B : Nat) (w : World) (v : Value) (l : List Fd) : Prop := w.ownsRow B 65 3 v l.length (l.flatMap fdq)
/-- Names and values, one behind the other. -/
def flatN (l : List Fd) : List Value := l.flatMap fun f => [bstr f.name, bstr f.value]
theorem flatN_at : ∀ (l : List Fd) (k : Nat) (h : k < l.length), (flatN l)[2 * k]? = some (bstr l[k].name) ∧ (flatN l)[2 * k + 1]? = some (bstr l[k].value)
  | f :: r, 0, _ => ⟨rfl, rfl⟩
  | f :: r, k + 1, h => by
    have := flatN_at r k (by simpa using h)
    have e : flatN (f :: r) = bstr f.name :: bstr f.value :: flatN r := rfl
    rw [e]
    simp only [List.getElem_cons_succ]
    rw [show 2 * (k + 1) = 2 * k + 1 + 1 by omega]
    simpa using this
theorem ownQ_drew {B : Nat} {w : World} {v : Value} {l : List Fd} (h : OwnQ B w v l) : OwnQ B w.drew v l := h
theorem OwnQ.read {B : Nat} {w : World} {v : Value} {l : List Fd} (h : OwnQ B w v l) (hl : ∀ f ∈ l, f.name.length ≤ 9223372036854775807 ∧ f.value.length ≤ 9223372036854775807) : ∃ a c, v = .slice a l.length c ∧ SlF w w.heap.size a l := by
  obtain ⟨a2, c2, e, hs⟩ := own_slr (c := fdq) h (fun _ _ => rfl)
  exact ⟨a2, c2, e, hs.mono (Nat.le_refl _) (fun x hx cs hc => ⟨hc, hl x hx⟩)⟩
set_option maxHeartbeats 8000000 in
set_option maxRecDepth 100000 in
theorem inject_fields (s : Int) (g c m : Nat) (fs : List Fd) (hm : m = 2 * fs.length) (hl : fs.length ≤ 100) (hf : ∀ f ∈ fs, FdEn f) (w : World) (hG : GF w) (t : TypeId) (cs : Array Value) (hb : Blk w g t cs) (hcs : cs.toList = flatN fs) :
    Calls Tryz.prog 54 #[.int .i64 s, .slice (some ⟨g, 0, none⟩) m c] w (RawsP [⟨1, 5, s, encL fs⟩] w) := by
  have HG := Lib.hid hG
  have HBB := Lib.hid hb
  have HCS := Lib.hid hcs
  have HF := Lib.hid hf
  have HL := Lib.hid hl
  have HM := Lib.hid hm
  have hg := hb.lt
  have HENC : Hid (∀ fa fc g b ob W, GF W → Blk W g EncT #[.pointer (some ⟨b, 0, none⟩)] → Blk W b TbPT #[.slice none 0 0, .int .i64 0, .int .i64 0] → Blk W ob OpnT op2 → SlF W W.heap.size fa fs → Calls Tryz.prog 73 #[.pointer (some ⟨g, 0, none⟩), .slice none 0 0, .slice fa fs.length fc, .slice (some ⟨ob, 0, none⟩) 1 1] W (RowP (encL fs) W)) := fun fa fc g b ob W h1 h2 h3 h4 h5 => encoder_Encode0 g b ob fa fc fs hl hf W h1 h2 h3 h4 h5
  generalize encL fs = E at HENC ⊢
  clear hG hb hcs hf hl hm
  unfold RawsP
  go_enter Tryz.func54, Tryz.ntmps54
  go_wp2_with fail
  go_loopg [5, 6] fs.length (fun gk v i wr => ∃ k : Nat, k + gk = fs.length ∧ i = .int .i64 (2 * (k : Int)) ∧ OwnQ w.heap.size wr v (fs.take k) ∧ Below w.heap.size w wr)
  case atStart => exact ⟨0, by omega, rfl, World.ownsRow_nil _ _ _ _, Below.refl _ _⟩
  case round =>
    obtain ⟨k, hkg, rfl, hown, hbel⟩ := hrel
    have HOW := Lib.hid hown
    have HB := Lib.hid hbel
    have HKG := Lib.hid hkg
    have hzr := hbel.size
    clear hown hbel hkg
    by_cases hlt : k < fs.length
    · have d1 : decide (2 * (k : Int) + 1 < (m : Int)) = true := decide_eq_true (by have := HM.out; omega)
      have w1 : IntKind.i64.wrap (2 * (k : Int) + 1) = 2 * (k : Int) + 1 := IntWalk.i64_in _ (by have := HL.out; omega)
      have w2 : IntKind.i64.wrap (2 * (k : Int) + 2) = 2 * (k : Int) + 2 := IntWalk.i64_in _ (by have := HL.out; omega)
      go_wp2_with fail
      refine gb_start w.heap.size (by kernel_rfl) ?_
      obtain ⟨w2', hw2⟩ : ∃ w2, w2 = wr.drew := ⟨_, rfl⟩
      rw [← hw2]
      have HB2 : Hid (Below w.heap.size w w2') := by show Below _ _ _; rw [hw2]; exact Below.drew HB.out
      have ho2 := ownQ_drew HOW.out
      rw [← hw2] at ho2
      have HO2 := Lib.hid ho2
      clear ho2
      have hs2 : w2'.heap.size = wr.heap.size := by rw [hw2]; rfl
      have zr : w.heap.size ≤ w2'.heap.size := HB2.out.size
      have n0 : w2'.cell? ⟨g, (2 * (k : Int)).toNat, none⟩ = some (bstr fs[k].name) := by
        rw [show (2 * (k : Int)).toNat = 2 * k by omega, (HBB.out.below HB2.out hg).cell (2 * k), ← Array.getElem?_toList, HCS.out]
        exact (flatN_at fs k hlt).1
      have n1 : w2'.cell? ⟨g, (2 * (k : Int) + 1).toNat, none⟩ = some (bstr fs[k].value) := by
        rw [show (2 * (k : Int) + 1).toNat = 2 * k + 1 by omega, (HBB.out.below HB2.out hg).cell (2 * k + 1), ← Array.getElem?_toList, HCS.out]
        exact (flatN_at fs k hlt).2
      have zg : g < w.heap.size := hg
      have i1 : 2 * (k : Int) < (m : Int) := by have := HM.out; omega
      have i2 : 2 * (k : Int) + 1 < (m : Int) := by have := HM.out; omega
      have i3 : (0 : Int) ≤ 2 * (k : Int) := by omega
      have i4 : (0 : Int) ≤ 2 * (k : Int) + 1 := by omega
      have HTK : Hid (fs.take (k + 1) = fs.take k ++ [fs[k]]) := List.take_succ_eq_append_getElem hlt
      have HNV := Lib.hid (HF.out _ (List.getElem_mem hlt)).never
      generalize fs[k] = f at n0 n1 HTK HNV
      clear hw2 hs2 hzr
      refine tk 0 ?_
      refine tk 1 ?_
      refine tk 2 ?_
      refine tk 3 ?_
      refine tk 4 ?_
      refine tk 5 ?_
      refine tk 6 ?_
      refine tk 7 ?_
      refine tk 8 ?_
      refine tk 9 ?_
      refine tk 10 ?_
      refine gb_step 11 (by kernel_rfl) rfl (fun K hK => ?_)
      go_simp
      go_wp2_with fail
      refine hK.out _ _ (show Below _ _ _ from Below.mono (B := w2'.heap.size) bel zr) ?_
      clear hK K
      try simp only [Act.put, nfa, nfb, nfc, nfd, List.set_cons_zero, List.set_cons_succ]
      refine gb_step 12 (by kernel_rfl) rfl (fun K hK => ?_)
      refine step_app st_fdl (.tmp 18) (.tmp 29) rfl rfl rfl (show World.ownsRow _ _ _ _ _ _ _ from own_below HO2.out (show Below w2'.heap.size w2' _ from bel) (Nat.le_refl _)) rfl (Blk.at_ _ _ _ rfl) rfl (by intro y hy; simp at hy; rcases hy with rfl | rfl | rfl <;> rfl) (by have := HL.out; simp only [List.length_take]; unfold maxLen; omega) (by have := HL.out; simp only [List.length_take]; omega) (by simp only [World.size_alloc]; omega) ?_
      intro v4 w4 hown4 hgr4
      have hb4 : Below w.heap.size (w2'.alloc (.cells #[bstr f.name, bstr f.value, .bool false] 65)) w4 := own_grown (Below.refl _ _) (show World.ownsRow _ _ _ _ _ _ _ from own_below HO2.out (show Below w2'.heap.size w2' (w2'.alloc (.cells #[bstr f.name, bstr f.value, .bool false] 65)) from bel) (Nat.le_refl _)) hgr4 (Nat.le_refl _) (by simp only [World.size_alloc]; omega)
      have HO4 : Hid (OwnQ w.heap.size w4 v4 (fs.take (k + 1))) := by
        show World.ownsRow _ _ _ _ _ _ _
        rw [HTK.out]
        obtain ⟨fn, fv, fne⟩ := f
        obtain rfl : fne = false := HNV.out
        simpa [OwnQ, fdq] using hown4
      have HB4 : Hid (Below w.heap.size w w4) := HB2.out.trans ((Below.mono (B := w2'.heap.size) bel zr).trans hb4)
      refine hK.out _ _ (show Below _ _ _ from hb4) ?_
      clear hK K hown4 hgr4 hb4
      try simp only [Act.put, nfa, nfb, nfc, nfd, List.set_cons_zero, List.set_cons_succ]
      refine tk 13 ?_
      refine wpAnyH_done (by kernel_rfl) ?_ _
      clear n0 n1
      go_wp2_with fail
      go_roundg (fs.length - (k + 1))
      case measure => have := HKG.out; omega
      case rel => exact ⟨k + 1, by have := HKG.out; omega, by first | rfl | (have := HL.out; go_num), HO4.out, HB4.out⟩
    · obtain rfl : k = fs.length := by have := HKG.out; omega
      have d1 : decide (2 * (fs.length : Int) + 1 < (m : Int)) = false := decide_eq_false (by have := HM.out; omega)
      have w1 : IntKind.i64.wrap (2 * (fs.length : Int) + 1) = 2 * (fs.length : Int) + 1 := IntWalk.i64_in _ (by have := HL.out; omega)
      obtain ⟨fa, fc, rfl, hsf⟩ := OwnQ.read (by have h := HOW.out; rw [List.take_length] at h; exact h) (fun f hf => by have := (HF.out f hf).ln; have := (HF.out f hf).lv; omega)
      have HSF := Lib.hid hsf
      clear hsf hzr
      go_wp2_with (first | (go_at_call 72; (with_reducible refine (encoder_New0 _).mono ?_); rintro e w3 ⟨g3, b3, rfl, hg3, hb3, hx3, ht3, hbel3⟩; have HX3 := Lib.hid hx3; have HT3 := Lib.hid ht3; have HB3 := Lib.hid hbel3; have hz3 := hbel3.size; have hlx3 := hx3.lt; have hlt3 := ht3.lt; clear hx3 ht3 hbel3) | (go_at_call 73; (with_reducible refine (HENC.out _ _ _ b3 _ _ (((HG.out.below HB.out).below HB3.out).below bel) (HX3.out.below bel hlx3) (HT3.out.below bel hlt3) blk (((SlR.below HSF.out HB3.out (Nat.le_refl _)).mono hz3 (fun _ _ _ h => h) |>.below (show Below w3.heap.size w3 _ from bel) (Nat.le_refl _)).mono (by simp) (fun _ _ _ h => h))).mono ?_); rintro e w5 ⟨v5, rfl, ho5, hb5⟩; obtain ⟨a5, c5, rfl, hs5⟩ := ho5.read; have HS5 := Lib.hid hs5; have HB5 : Hid (Below w3.heap.size w3 w5) := (show Below w3.heap.size w3 _ from bel).trans (Below.mono hb5 (by simp)); clear hb5 ho5 hs5) | (go_at_call 51; (with_reducible refine (inject_block _ _ _ _ E rfl _ HS5.out).mono ?_); rintro e w6 ⟨g6, cap6, rfl, hq6⟩; have HQ6 := Lib.hid hq6; clear hq6))
      go_ret
      exact ⟨_, _, rfl, HQ6.out.low (HB.out.trans ((Below.mono HB3.out HB.out.size).trans (Below.mono HB5.out (Nat.le_trans HB.out.size hz3))))⟩
end Go.Proofs.YtmlbomblbdbikaaGreatDoor
/-
  Bytes of settings and of field blocks: the document's road, and requests.
-/
namespace Go.Proofs.YtmlbomblbdbikaaGreatDoor
set_option linter.unusedSimpArgs false
set_option linter.unusedVariables false
set_option linter.unusedSectionVars false
open Go.ChangeShapes Go.WideShapes Go.ChangeAt Go.RowKit Go.Deep Go.Shelf

def rq3 : List Fd := [⟨[58, 109, 101, 116, 104, 111, 100], [71, 69, 84], false⟩, ⟨[58, 115, 99, 104, 101, 109, 101], [104, 116, 116, 112], false⟩, ⟨[58, 112, 97, 116, 104], [47], false⟩]
def fdA : Fd := ⟨[65], [98], false⟩
def fdB : Fd := ⟨[99, 111, 110, 110, 101, 99, 116, 105, 111, 110], [99, 108, 111, 115, 101], false⟩
theorem en_of (f : Fd) (h1 : f.never = false) (h2 : (decide ((fndS f.name []).1 = ((fndS f.name []).1.toNat : Int)) && (decide ((fndS f.name []).1.toNat = 0) || (decide (2 ≤ (fndS f.name []).1.toNat) && decide ((fndS f.name []).1.toNat ≤ 61) && !(nmF (((fndS f.name []).1.toNat : Int) - 1) == f.name)))) = true) (h3 : decide (nmdF f.name = ((fndS f.name []).1.toNat : Int)) = true) (h4 : f.name ≠ []) (h5 : f.name.length ≤ 100 ∧ f.value.length ≤ 100) : FdEn f := by
  simp only [Bool.and_eq_true, Bool.or_eq_true, decide_eq_true_eq, Bool.not_eq_true', beq_eq_false_iff_ne, ne_eq] at h2 h3
  refine ⟨h1, ⟨h2.1, ?_⟩, h3, h4, h5.1, h5.2⟩
  unfold idxF
  rcases h2.2 with h | h
  · exact .inl (by omega)
  · exact .inr ⟨by omega, by omega, h.2⟩
theorem en_rq : ∀ f ∈ rq3, FdEn f := by
  intro f hf
  simp only [rq3, List.mem_cons, List.not_mem_nil, or_false] at hf
  rcases hf with rfl | rfl | rfl
  all_goals exact en_of _ rfl (by decide +kernel) (by decide +kernel) (by decide) (by decide)
theorem en_A : FdEn fdA := en_of _ rfl (by decide +kernel) (by decide +kernel) (by decide) (by decide)
theorem en_B : FdEn fdB := en_of _ rfl (by decide +kernel) (by decide +kernel) (by decide) (by decide)
set_option maxHeartbeats 4000000 in
set_option maxRecDepth 100000 in
theorem inject_request (s : Int) (f : Fd) (hf : FdEn f) (w : World) (hG : GF w) : Calls Tryz.prog 53 #[.int .i64 s, bstr f.name, bstr f.value] w (RawsP [⟨1, 5, s, encL (rq3 ++ [f])⟩] w) := by
  have HF : Hid (∀ g c W t cs, GF W → Blk W g t cs → cs.toList = flatN (rq3 ++ [f]) → Calls Tryz.prog 54 #[.int .i64 s, .slice (some ⟨g, 0, none⟩) 8 c] W (RawsP [⟨1, 5, s, encL (rq3 ++ [f])⟩] W)) := fun g c W t cs h1 h2 h3 =>
    inject_fields s g c 8 (rq3 ++ [f]) rfl (by simp [rq3]) (fun x hx => by rcases List.mem_append.1 hx with h | h; exact en_rq x h; simp at h; subst h; exact hf) W h1 t cs h2 h3
  generalize encL (rq3 ++ [f]) = E at HF ⊢
  have HG := Lib.hid hG
  obtain ⟨fn, fv, fne⟩ := f
  clear hf hG
  unfold RawsP at HF ⊢
  go_enter Tryz.func53, Tryz.ntmps53
  go_wp2_with (go_at_call 54; (with_reducible refine (HF.out _ _ _ _ _ (HG.out.below bel) blk ?hcs).mono ?_); (case hcs => rfl); rintro e w6 ⟨g6, cap6, rfl, hq6⟩; have HQ6 := Lib.hid hq6; clear hq6)
  go_ret
  exact ⟨_, _, rfl, HQ6.out.low bel⟩
set_option maxHeartbeats 4000000 in
set_option maxRecDepth 100000 in
theorem ref46_sets (i v : Int) (hi : 0 ≤ i ∧ i ≤ 65535) (hv : 0 ≤ v ∧ v ≤ 4294967295) (w : World) : Calls Tryz.prog 26 #[.int .i64 i, .int .i64 v] w (RowQ (beL 2 i ++ beL 4 v) w) := by
  have HP : Hid (∀ g c W, Blk W g 93 #[.int .i64 i, .int .i64 v] → Calls Tryz.prog 46 #[.slice (some ⟨g, 0, none⟩) 1 c] W (RowB (beL 2 i ++ beL 4 v) W)) := fun g c W hW => ref13_Put1 g c i v hi hv W hW
  generalize beL 2 i ++ beL 4 v = L at HP ⊢
  clear hi hv
  unfold RowQ
  go_enter Tryz.func26, Tryz.ntmps26
  go_wp2_with (go_at_call 46; (with_reducible refine (HP.out _ _ _ blk).mono ?_); rintro e w3 ⟨v3, rfl, ho3, hb3⟩; have HO3 := Lib.hid ho3; have HB3 := Lib.hid hb3; clear hb3 ho3)
  go_ret
  exact ⟨_, rfl, ownB_low HO3.out (by simp), (show Below w.heap.size w _ from bel).trans (Below.mono HB3.out (by simp))⟩
set_option maxHeartbeats 4000000 in
set_option maxRecDepth 100000 in
theorem ref46_written (a : Option Addr) (n c : Nat) (l : List Fd) (hn : l.length = n) (hl : l.length ≤ 100) (hf : ∀ f ∈ l, FdEn f) (w : World) (hS : SlF w w.heap.size a l) : Calls Tryz.prog 25 #[.slice a n c] w (RowQ (encL l) w) := by
  subst hn
  have HE : Hid (∀ ob W, Below w.heap.size w W → Blk W ob OpDT op2 → Calls Tryz.prog 45 #[tb0, .slice none 0 0, .slice a l.length c, .slice (some ⟨ob, 0, none⟩) 1 1] W (RowT (encL l) W)) := fun ob W hW h2 => ref24_Encode0 ob a c l hl hf W h2 ((SlR.below hS hW (Nat.le_refl _)).mono hW.size (fun _ _ _ h => h))
  generalize encL l = E at HE ⊢
  clear hS hl hf
  unfold RowQ
  go_enter Tryz.func25, Tryz.ntmps25
  go_wp2_with (go_at_call 45; (with_reducible refine (HE.out _ _ bel blk).mono ?_); rintro e w3 ⟨v3, rfl, ho3, hb3⟩; have HO3 := Lib.hid ho3; have HB3 := Lib.hid hb3; have hz3 := hb3.size; clear hb3 ho3)
  go_ret
  exact ⟨_, rfl, ownB_low (HO3.out.alloc _) (by simp), ((show Below w.heap.size w _ from bel).trans (Below.mono HB3.out (by simp))).trans (Below.mono (B := w3.heap.size) bel (by simp at hz3; omega))⟩
end Go.Proofs.YtmlbomblbdbikaaGreatDoor
/-
  The frames of each kind, by the kinds' names: the program's road.
-/
namespace Go.Proofs.YtmlbomblbdbikaaGreatDoor
set_option linter.unusedSimpArgs false
set_option linter.unusedVariables false
set_option linter.unusedSectionVars false
open Go.ChangeShapes Go.WideShapes Go.ChangeAt Go.RowKit Go.Deep Go.Shelf

/-- The frames of each kind. -/
def wrL (k : Nat) (s : Int) : List Frw :=
  match k with
  | 1 => [⟨0, 8, s, [5, 0]⟩]
  | 2 => [⟨6, 0, 0, nul 7⟩]
  | 3 => [⟨6, 0, s, nul 8⟩]
  | 4 => [⟨4, 0, s, []⟩]
  | 5 => [⟨4, 1, 0, nul 6⟩]
  | 6 => [⟨4, 0, 0, nul 5⟩]
  | 7 => [⟨8, 0, 0, nul 4⟩]
  | 8 => [⟨8, 0, 0, [127, 255, 255, 255]⟩]
  | 9 => [⟨0, 0, s, [0]⟩]
  | 10 => [⟨3, 0, s, [0, 0, 0, 8]⟩]
  | 11 => [⟨9, 4, s, []⟩]
  | 12 => [⟨2, 0, s, nul 4⟩]
  | 13 => [⟨7, 0, 0, nul 7⟩]
  | 14 => [⟨5, 4, s, [0, 0, 0, 2]⟩]
  | 15 => [⟨200, 0, 0, nul 16385⟩]
  | 16 => [⟨1, 5, s, [128]⟩]
  | 17 => [⟨1, 5, s, putL 32 5 2147483647⟩]
  | 18 => [⟨1, 5, s, encL (rq3 ++ [fdA])⟩]
  | 19 => [⟨1, 5, s, encL (rq3 ++ [fdB])⟩]
  | 20 => [⟨1, 5, s, encL (rq3.take 2)⟩]
  | 21 => [⟨1, 0, s, []⟩, ⟨6, 0, 0, nul 8⟩]
  | 22 => [⟨4, 0, 0, beL 2 2 ++ beL 4 2⟩]
  | 23 => [⟨4, 0, 0, beL 2 5 ++ beL 4 0⟩]
  | 24 => [⟨4, 0, 0, beL 2 4 ++ beL 4 2147483648⟩]
  | 25 => [⟨3, 0, 0, [0, 0, 0, 8]⟩]
  | 26 => [⟨4, 1, 0, []⟩]
  | _ => []
end Go.Proofs.YtmlbomblbdbikaaGreatDoor
/-
  Two frames at once: the program's road.
-/
namespace Go.Proofs.YtmlbomblbdbikaaGreatDoor
set_option linter.unusedSimpArgs false
set_option linter.unusedVariables false
set_option linter.unusedSectionVars false
open Go.ChangeShapes Go.WideShapes Go.ChangeAt Go.RowKit Go.Deep Go.Shelf

abbrev rawC (t fl s : Int) (v : Value) : Array Value := #[.int .i64 0, .int .i64 t, .int .i64 fl, .int .i64 s, .bool false, v]
set_option maxHeartbeats 400000 in
set_option maxRecDepth 100000 in
theorem inject_frameX (t fl s : Int) (a : Option Addr) (n c : Nat) (w : World) :
    Calls Tryz.prog 18 #[.int .i64 t, .int .i64 fl, .int .i64 s, .slice a n c] w fun e w' => e = .returned (.slice (some ⟨w.heap.size, 0, none⟩) 1 1) ∧ w' = w.alloc (.cells (rawC t fl s (.slice a n c)) RawT) := by
  go_enter Tryz.func18, Tryz.ntmps18
  go_wp2_with fail
  go_ret
  exact ⟨rfl, rfl⟩
set_option maxHeartbeats 400000 in
set_option maxRecDepth 100000 in
theorem ref46_oneX (t fl s : Int) (a : Option Addr) (n c : Nat) (w : World) :
    Calls Tryz.prog 22 #[.int .i64 t, .int .i64 fl, .int .i64 s, .slice a n c] w fun e w' => e = .returned (.slice (some ⟨w.heap.size, 0, none⟩) 1 1) ∧ w' = w.alloc (.cells (rawC t fl s (.slice a n c)) RawT) := by
  go_enter Tryz.func22, Tryz.ntmps22
  go_wp2_with fail
  go_ret
  exact ⟨rfl, rfl⟩
abbrev z8 : Array Value := #[.int .u8 0, .int .u8 0, .int .u8 0, .int .u8 0, .int .u8 0, .int .u8 0, .int .u8 0, .int .u8 0]
set_option maxHeartbeats 400000 in
set_option maxRecDepth 100000 in
theorem inject_nulls8 (w : World) : Calls Tryz.prog 19 #[.int .i64 8] w fun e w' => e = .returned (.slice (some ⟨w.heap.size, 0, none⟩) 8 8) ∧ w' = w.alloc (.cells z8 5) := by
  have hmk : ∀ W, (Instr.makeSlice 38 (.int .i64 8) (.int .i64 8)).run Tryz.prog W = .ok (.slice (some ⟨W.heap.size, 0, none⟩) 8 8) (W.alloc (.cells z8 5)) := fun W => run_nul 8 (by omega) W
  go_enter Tryz.func19, Tryz.ntmps19
  go_wp2_with fail
  go_ret
  exact ⟨rfl, rfl⟩
theorem st_raw : SliceTy Tryz.prog 24 RawT (.agg #[.int .i64 0, .int .i64 0, .int .i64 0, .int .i64 0, .bool false, .slice none 0 0]) 6 64 := SliceTy.mk' Tryz.underlying24 (by kernel_rfl) rfl (by decide)
theorem raws_two {w w' : World} {v : Value} {s : Int} {gb cb : Nat} (ho : w'.ownsRow w.heap.size RawT 6 v 2 ((rawC 1 0 s (.slice none 0 0)).toList ++ (rawC 6 0 0 (.slice (some ⟨gb, 0, none⟩) 8 cb)).toList)) (hb : Blk w' gb 5 z8) (hbel : Below w.heap.size w w') :
    ∃ g cap, v = .slice (some ⟨g, 0, none⟩) 2 cap ∧ RawsQ 0 [⟨1, 0, s, []⟩, ⟨6, 0, 0, nul 8⟩] w w' g := by
  obtain ⟨hlen, h2⟩ := ho
  rcases h2 with ⟨_, h⟩ | ⟨g, cap, cur, rfl, hg, hh, hc, hm, hs, ht⟩
  · exact absurd h (by decide)
  · refine ⟨g, cap, rfl, hg, ⟨cur, hh, by rw [hs]; show 2 * 6 ≤ cap * 6; omega, ?_⟩, hbel⟩
    have key : ∀ i, i < 12 → cur[i]? = ((rawC 1 0 s (.slice none 0 0)).toList ++ (rawC 6 0 0 (.slice (some ⟨gb, 0, none⟩) 8 cb)).toList)[i]? := by
      intro i hi
      rw [← ht, List.getElem?_take, if_pos (by omega), Array.getElem?_toList]
    have hne : gb ≠ g := by
      rintro rfl
      have h1 : w'.heap[gb]? = some (.cells z8 5 (0, 0)) := hb
      rw [h1] at hh
      injection hh with hh
      injection hh with _ h2 _
      exact absurd h2 (by decide)
    intro k hk
    obtain rfl | rfl : k = 0 ∨ k = 1 := by simp at hk; omega
    · exact ⟨none, 0, key 0 (by omega), key 1 (by omega), key 2 (by omega), key 3 (by omega), key 4 (by omega), key 5 (by omega), fun k h => absurd h (by simp)⟩
    · refine ⟨_, cb, key 6 (by omega), key 7 (by omega), key 8 (by omega), key 9 (by omega), key 10 (by omega), key 11 (by omega), ?_⟩
      intro q hq
      refine ⟨gb, 0, rfl, hb.lt, hne, ?_⟩
      have hq8 : q < 8 := by simpa using hq
      rw [Nat.zero_add, hb.cell q]
      match q, hq8 with
      | 0, _ => rfl
      | 1, _ => rfl
      | 2, _ => rfl
      | 3, _ => rfl
      | 4, _ => rfl
      | 5, _ => rfl
      | 6, _ => rfl
      | 7, _ => rfl
theorem raw_one (t fl s : Int) (a : Option Addr) (n c : Nat) : ∀ u ∈ (rawC t fl s (.slice a n c)).toList, u.oneCell' = true := by
  intro u hu
  simp at hu
  rcases hu with rfl | rfl | rfl | rfl | rfl | rfl <;> rfl
set_option maxHeartbeats 800000 in
set_option maxRecDepth 100000 in
theorem is_21 (s : Int) (w : World) : Calls Tryz.prog 20 #[bstr [119, 105, 116, 104, 105, 110], .int .i64 s] w (RawsP [⟨1, 0, s, []⟩, ⟨6, 0, 0, nul 8⟩] w) := by
  unfold RawsP
  go_enter Tryz.func20, Tryz.ntmps20
  go_wp2_with (first | (go_at_call 18; (with_reducible refine (inject_frameX _ _ _ _ _ _ _).mono ?_); rintro e w6 ⟨rfl, rfl⟩) | (go_at_call 19; (with_reducible refine (inject_nulls8 _).mono ?_); rintro e w6 ⟨rfl, rfl⟩) | (at_builtin; refine wpList_app st_raw (.tmp 36) (.tmp 38) rfl rfl (base := w.heap.size) (n := 1) (xs := (rawC 1 0 s (.slice none 0 0)).toList) rfl (own_below (World.ownsRow_lit (base := w.heap.size) (size := 6) (e := RawT) w (rawC 1 0 s (.slice none 0 0)) 1 (Nat.le_refl _) (by decide) rfl) (show Below (w.alloc (.cells (rawC 1 0 s (.slice none 0 0)) RawT)).heap.size _ _ from bel) (Nat.le_refl _)) rfl (Blk.at_ _ _ _ (by simp)) rfl (raw_one _ _ _ _ _ _) (by decide) (by decide) (by simp only [World.size_alloc]; omega) ?_; intro v' w' hown hgr; have HOWN := Lib.hid hown; have HGR := Lib.hid hgr; clear hown hgr))
  go_ret
  have hb8 : Blk (((w.alloc (.cells (rawC 1 0 s (.slice none 0 0)) RawT)).alloc (.cells z8 5)).alloc (.cells (rawC 6 0 0 (.slice (some ⟨w.heap.size + 1, 0, none⟩) 8 8)) RawT)) (w.heap.size + 1) 5 z8 := blk
  have hbel : Below w.heap.size (((w.alloc (.cells (rawC 1 0 s (.slice none 0 0)) RawT)).alloc (.cells z8 5)).alloc (.cells (rawC 6 0 0 (.slice (some ⟨w.heap.size + 1, 0, none⟩) 8 8)) RawT)) w' :=
    own_grown (Below.refl _ _) (own_below (World.ownsRow_lit (base := w.heap.size) (size := 6) (e := RawT) w (rawC 1 0 s (.slice none 0 0)) 1 (Nat.le_refl _) (by decide) rfl) (show Below (w.alloc (.cells (rawC 1 0 s (.slice none 0 0)) RawT)).heap.size _ (((w.alloc (.cells (rawC 1 0 s (.slice none 0 0)) RawT)).alloc (.cells z8 5)).alloc (.cells (rawC 6 0 0 (.slice (some ⟨w.heap.size + 1, 0, none⟩) 8 8)) RawT)) from bel) (Nat.le_refl _)) HGR.out (Nat.le_refl _) (by simp only [World.size_alloc]; omega)
  obtain ⟨g, cap, rfl, hq⟩ := raws_two (s := s) (gb := w.heap.size + 1) (cb := 8) HOWN.out (hb8.grown HGR.out (fun e => by
    have : w.heap.size + 1 = w.heap.size := by injection e
    omega)) ((show Below w.heap.size w _ from bel).trans hbel)
  exact ⟨g, ⟨cap, rfl⟩, hq⟩
end Go.Proofs.YtmlbomblbdbikaaGreatDoor
/-
  Requests: the document's road.
-/
namespace Go.Proofs.YtmlbomblbdbikaaGreatDoor
set_option linter.unusedSimpArgs false
set_option linter.unusedVariables false
set_option linter.unusedSectionVars false
open Go.ChangeShapes Go.WideShapes Go.ChangeAt Go.RowKit Go.Deep Go.Shelf

theorem slF_blk {w : World} {g : Nat} {t : TypeId} {cs : Array Value} (l : List Fd) (h : Blk w g t cs) (hl : cs.toList = l.flatMap fdq) (hs : ∀ f ∈ l, f.name.length ≤ 9223372036854775807 ∧ f.value.length ≤ 9223372036854775807) : SlF w w.heap.size (some ⟨g, 0, none⟩) l := by
  have := SlR.of_blk (size := 3) (R := Fd.Is) h hl (fun _ _ => rfl) (fun x hx => ⟨rfl, hs x hx⟩)
  exact this.mono h.lt (fun _ _ _ h => h)
abbrev rqc : Array Value := #[bstr [58, 109, 101, 116, 104, 111, 100], bstr [71, 69, 84], .bool false, bstr [58, 115, 99, 104, 101, 109, 101], bstr [104, 116, 116, 112], .bool false, bstr [58, 112, 97, 116, 104], bstr [47], .bool false]
set_option maxHeartbeats 800000 in
set_option maxRecDepth 100000 in
theorem ref46_request (a : Option Addr) (c : Nat) (f : Fd) (hf : FdEn f) (w : World) (hS : SlF w w.heap.size a [f]) : Calls Tryz.prog 24 #[.slice a 1 c] w (RowQ (encL (rq3 ++ [f])) w) := by
  have HW : Hid (∀ a c W, SlF W W.heap.size a (rq3 ++ [f]) → Calls Tryz.prog 25 #[.slice a (rq3 ++ [f]).length c] W (RowQ (encL (rq3 ++ [f])) W)) := fun a c W hW =>
    ref46_written a _ c (rq3 ++ [f]) rfl (by simp [rq3]) (fun x hx => by rcases List.mem_append.1 hx with h | h; exact en_rq x h; simp at h; subst h; exact hf) W hW
  have HBN : Hid (∀ x ∈ rq3 ++ [f], x.name.length ≤ 9223372036854775807 ∧ x.value.length ≤ 9223372036854775807) := fun x hx => by
    have : FdEn x := by rcases List.mem_append.1 hx with h | h; exact en_rq x h; simp at h; subst h; exact hf
    have := this.ln
    have := (show FdEn x by assumption).lv
    omega
  generalize encL (rq3 ++ [f]) = E at HW ⊢
  have HS := Lib.hid hS
  have HO : Hid (OwnQ w.heap.size (w.alloc (.cells rqc 65)) (.slice (some ⟨w.heap.size, 0, none⟩) 3 3) rq3) := World.ownsRow_lit (base := w.heap.size) (size := 3) (e := 65) w rqc 3 (Nat.le_refl _) (by decide) rfl
  clear hS hf
  unfold RowQ
  go_enter Tryz.func24, Tryz.ntmps24
  go_wp2_with (at_builtin; refine wpList_app_sl st_fdl (.tmp 7) (.tmp 8) rfl rfl rfl HO.out (ms := [f]) (cf := fdq) (R := Fd.Is) rfl rfl (HS.out.below (bel (w := w.alloc (.cells rqc 65))) (Nat.le_refl _)) (fun _ _ _ h => h.1) (fun _ _ => rfl) (fun y _ u hu => by simp [fdq] at hu; rcases hu with rfl | rfl | rfl <;> rfl) (by decide) (by decide) (by simp only [World.size_alloc]; omega) ?_; intro v3 w3 hown3 hgr3; have HB3 : Hid (Below w.heap.size w w3) := (show Below w.heap.size w (w.alloc (.cells rqc 65)) from bel).trans (own_grown (Below.refl _ _) HO.out hgr3 (Nat.le_refl _) (by simp only [World.size_alloc]; omega)); obtain ⟨a3, c3, rfl, hs3⟩ := OwnQ.read (l := rq3 ++ [f]) (B := w.heap.size) (by simpa [OwnQ, rq3] using hown3) HBN.out; have HS3 := Lib.hid hs3; clear hown3 hgr3 hs3)
  go_wp2_with (go_at_call 25; (refine (HW.out _ _ _ HS3.out).mono ?_); rintro e w4 ⟨v4, rfl, ho4, hb4⟩; have HO4 := Lib.hid ho4; have HB4 := Lib.hid hb4; clear ho4 hb4)
  go_ret
  exact ⟨_, rfl, ownB_low HO4.out HB3.out.size, HB3.out.trans (Below.mono HB4.out HB3.out.size)⟩
end Go.Proofs.YtmlbomblbdbikaaGreatDoor
