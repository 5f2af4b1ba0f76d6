/-
  Reports: the records' lines are read.
-/
import Derived.Test.YtbdmepidabnfkaaGreatDoorRepC
import Derived.Test.YtbdmepidabnfkaaGreatDoorRcs
import Derived.Test.YtbdmepidabnfkaaGreatDoorMg
import Derived.Test.YtbdmepidabnfkaaGreatDoorRepN
namespace Go.Proofs.YtbdmepidabnfkaaGreatDoor
set_option linter.unusedSimpArgs false
set_option linter.unusedVariables false
set_option linter.unusedSectionVars false
open Go.ChangeShapes Go.WideShapes Go.ChangeAt Go.RowKit Go.Deep Go.Shelf

/-- What reading the records leaves. -/
def RecsP (g : Nat) (r : List Rec × List (List UInt8) × Bool) (w : World) (e : Ending) (w' : World) : Prop :=
  ∃ a c, e = .returned (.slice a r.1.length c) ∧ SlRc w' w'.heap.size a r.1 ∧ (∀ p, a = some p → w.heap.size ≤ p.block) ∧ r.1.length ≤ c ∧ RdS w' g r.2.1 r.2.2 ∧ Gm g w w'
theorem own_set {α : Type} {e : TypeId} {size : Nat} {c : α → List Value} {B : Nat} {w : World} {v : Value} {l : List α} (h : OwnC e size c B w v l) {p : Addr} (hp : p.block < B) (u : Value) : OwnC e size c B (w.setCell p u) v l := by
  have h0 : w.ownsRow B e size v l.length (l.flatMap c) := h
  refine World.ownsRow.kept (row := some p.block) h0 ⟨rfl, rfl, rfl, by simp, fun k _ hne => Below.heap_setCell w p u k (fun e => hne (by rw [e]))⟩ ?_
  rcases h0.2 with ⟨rfl, _⟩ | ⟨b, cap, cur, rfl, hb, _⟩
  · exact .inl rfl
  · refine .inr ?_
    simp only [Value.ownBlock]
    intro e
    injection e with e
    omega
theorem slX_gmB {w w' : World} {g B : Nat} {b : Bool} {a0 : Option Addr} {n c : Nat} {a : Option Addr} {l : List (List UInt8)} (hg : Blk w g RdT #[.slice a0 n c, .bool b]) (hs : SlX w B a l) (hB : B ≤ w.heap.size) (h : Gm g w w') : SlX w' B a l := by
  intro k hk
  have hoff := off_rd (x := .bool b) hg hs hk
  obtain ⟨b1, off, cs, ha, hb, hR, hc⟩ := hs k hk
  have hne : b1 ≠ g := hoff _ ha
  exact ⟨b1, off, cs, ha, hb, hR, fun j v hj => (h.cell b1 _ (Nat.lt_of_lt_of_le hb hB) hne).trans (hc j v hj)⟩
theorem recsD_step {n : Nat} {x : List UInt8} {r : List (List UInt8)} {b : Bool} (out : List Rec) : (out ++ (recsD (n + 1) (x :: r) b).1, (recsD (n + 1) (x :: r) b).2) = ((out ++ [(readRecF x).1]) ++ (recsD n r (b || !(readRecF x).2)).1, (recsD n r (b || !(readRecF x).2)).2) := by
  rw [recsD]
  simp
theorem gm_allocR {a w : World} {g : Nat} (h : Gm g a w) (o : Obj) : Gm g a (w.alloc o) := h.trans (gm_below (Below.allocS (Below.refl _ _) _))
theorem gm_moreR {a w : World} {g : Nat} (h : Gm g a w) (j : Junk) : Gm g a (w.more j) := h.trans (gm_below (Below.moreS (Below.refl _ _) _))
theorem gm_setR {a w : World} {g o : Nat} (h : Gm g a w) (v : Value) : Gm g a (w.setCell ⟨g, o, none⟩ v) := h.trans (gm_set _)
theorem gm_then {w2 W w3 : World} {g : Nat} (h : Gm g w2 W) (hb : Below w2.heap.size W w3) : Gm g w2 w3 := ⟨hb.os.trans h.os, hb.tape.trans h.tape, hb.output.trans h.output, Nat.le_trans h.size hb.size, fun k hk hn => (hb.block k hk).trans (h.block k hk hn)⟩
theorem recL_len (x : Rec) : (recL x).length = 6 := rfl
set_option maxHeartbeats 16000000 in
set_option maxRecDepth 100000 in
theorem reader_records (g : Nat) (L : List (List UInt8)) (b : Bool) (hL : L.length ≤ 100000) (hLl : ∀ x ∈ L, x.length ≤ 90000) (w0 w : World) (hk : EnvK w0) (hb : Rb w0 g w) (hS : RdS w g L b) :
    Calls Tryz.prog 41 #[.pointer (some ⟨g, 0, none⟩)] w (RecsP g (recordsD L b) w) := by
  have hgl := hS.lt
  have HNX : Hid (Calls Tryz.prog 39 #[.pointer (some ⟨g, 0, none⟩), .int .i64 1, bstr [102, 114, 97, 109, 101, 115]] w (NxtP g 1 (nextD 1 [102, 114, 97, 109, 101, 115] L b).1 (nextD 1 [102, 114, 97, 109, 101, 115] L b).2.1 (nextD 1 [102, 114, 97, 109, 101, 115] L b).2.2 w)) := by
    obtain ⟨m, hM⟩ := hb.e.max
    exact reader_next g 1 [102, 114, 97, 109, 101, 115] L b (by omega) hL hLl m w hM hS
  have hwl : ∀ x ∈ (nextD 1 [102, 114, 97, 109, 101, 115] L b).1, x.length ≤ 90000 := next_words hLl
  have hnl : (nextD 1 [102, 114, 97, 109, 101, 115] L b).1.length = 1 := next_len _ _ _ _
  obtain ⟨hll1, hll2⟩ := next_lines (many := 1) (first := [102, 114, 97, 109, 101, 115]) (L := L) (b := b)
  unfold recordsD
  simp only
  generalize nextD 1 [102, 114, 97, 109, 101, 115] L b = N at HNX hwl hnl hll1 hll2 ⊢
  obtain ⟨ws, L1, b1⟩ := N
  simp only at HNX hwl hnl hll1 hll2 ⊢
  have HN : Hid (∀ W, Rb w0 g W → RdS W g L1 b1 → Calls Tryz.prog 45 #[.pointer (some ⟨g, 0, none⟩), bstr (atD ws 0)] W fun e w' => e = .returned (.int .i64 (numD (atD ws 0) b1).1) ∧ RdS w' g L1 (numD (atD ws 0) b1).2 ∧ Gm g W w') := fun W hW hR => reader_number g L1 b1 _ (by have := atD_le (k := 0) hwl; omega) W hW.e hR
  generalize numD (atD ws 0) b1 = p0 at HN ⊢
  obtain ⟨n, q⟩ := p0
  simp only at HN ⊢
  have HL1 : Hid (∀ x ∈ L1, x.length ≤ 90000) := fun x hx => hLl x (hll1 x hx)
  have hL1 : L1.length ≤ 100000 := by omega
  have HB := Lib.hid hb
  have HK := Lib.hid hk
  clear hL hLl hb hS hwl hll1 hll2 hk
  obtain ⟨R, hR⟩ : ∃ R, R = (if q = true ∨ n ≠ (L1.length : Int) - 4 then (([] : List Rec), L1, true) else recsD n.toNat L1 false) := ⟨_, rfl⟩
  rw [← hR]
  have HR := Lib.hid hR
  clear hR
  go_enter Tryz.func41, Tryz.ntmps41
  go_wp2_with fail
  refine HNX.out.mono ?_
  rintro e w1 ⟨aw, cw, rfl, hsw, hrd, hgm⟩
  obtain ⟨bw, off, haw, hbw, hwg, hcl⟩ := words_cells hrd hsw hnl (by omega)
  subst haw
  have d0 := hcl 0 (by omega)
  simp only [Nat.add_zero] at d0
  have HG1 := Lib.hid hgm
  have HR1 := Lib.hid hrd
  have HB1 : Hid (Rb w0 g w1) := HB.out.gm hgm
  clear hrd hgm hsw hcl HNX hnl
  generalize atD ws 0 = s0 at d0 HN
  go_wp2_with fail
  refine (HN.out w1 HB1.out HR1.out).mono ?_
  rintro e w2 ⟨rfl, hrd, hgm⟩
  have HG2 : Hid (Gm g w w2) := HG1.out.trans hgm
  have HB2 : Hid (Rb w0 g w2) := HB1.out.gm hgm
  obtain ⟨a2, c2, hg2, hs2, hc2⟩ := hrd.st
  have k0 : w2.cell? ⟨g, 0, none⟩ = some (.slice a2 L1.length c2) := hg2.cell 0
  have k1 : w2.cell? ⟨g, 1, none⟩ = some (.bool q) := hg2.cell 1
  have f0 : w2.frozen? ⟨g, 0, none⟩ = false := hg2.frozen 0
  have f1 : w2.frozen? ⟨g, 1, none⟩ = false := hg2.frozen 1
  have hgl2 := hg2.lt
  have HGB := Lib.hid hg2
  have HSB := Lib.hid hs2
  have HCB := Lib.hid hc2
  have hwr : IntKind.i64.wrap ((L1.length : Int) - 4) = (L1.length : Int) - 4 := IntWalk.i64_in _ (by omega)
  have BAD : Hid (RecsP g ([], L1, true) w (.returned (.slice none 0 0)) (w2.setCell ⟨g, 1, none⟩ (.bool true))) :=
    ⟨none, 0, rfl, .nil, none_new, Nat.le_refl _, ⟨_, _, HGB.out.set_ 1 _, slX_gm HGB.out HSB.out (gm_set _), HCB.out⟩, HG2.out.trans (gm_set _)⟩
  clear hrd hgm hg2 hs2 hc2 HN HR1 HG1 d0 hbw hwg
  cases q
  case true =>
    obtain rfl : R = ([], L1, true) := by rw [HR.out, if_pos (.inl rfl)]
    clear HR
    go_wp2_with fail
    go_ret
    exact BAD.out
  by_cases hn : n = (L1.length : Int) - 4
  rotate_left
  · obtain rfl : R = ([], L1, true) := by rw [HR.out, if_pos (.inr hn)]
    have q1 : (n != (L1.length : Int) - 4) = true := by rw [bne_iff_ne]; exact hn
    clear HR
    go_wp2_with fail
    go_ret
    exact BAD.out
  have q1 : (n != (L1.length : Int) - 4) = false := by rw [bne_eq_false_iff_eq]; exact hn
  have HRR : Hid (R = recsD n.toNat L1 false) := by show _ = _; rw [HR.out, if_neg (by simp [hn])]
  clear HR BAD
  go_wp2_with fail
  go_loopg [4, 31] (n.toNat) (fun gg v i wr => ∃ (k : Nat) (out : List Rec) (L' : List (List UInt8)) (b' : Bool) (a' : Option Addr) (c' : Nat), k + gg = n.toNat ∧ i = .int .i64 k ∧ OwnRc w2.heap.size wr v out ∧ out.length = k ∧ Blk wr g RdT #[.slice a' L'.length c', .bool b'] ∧ SlX wr w2.heap.size a' L' ∧ L'.length ≤ c' ∧ Gm g w2 wr ∧ (∀ x ∈ L', x.length ≤ 90000) ∧ n.toNat - k ≤ L'.length ∧ Hid (R = (out ++ (recsD (n.toNat - k) L' b').1, (recsD (n.toNat - k) L' b').2)))
  case atStart => exact ⟨0, [], L1, false, a2, c2, by omega, rfl, OwnC.nil _ _, rfl, HGB.out, HSB.out, HCB.out, Gm.refl _, HL1.out, by omega, by show _ = _; rw [HRR.out]; simp⟩
  case round =>
    obtain ⟨k, out, L', b', a', c', hkg, rfl, ho, hok, hgb, hsb, hcb, hgm, hl', hnk, HU⟩ := hrel
    have HKK := Lib.hid hkg
    by_cases hlt : k < n.toNat
    · have hltn : (k : Int) < n := by omega
      obtain ⟨x, r, rfl⟩ : ∃ x r, L' = x :: r := by
        match L', hnk with
        | x :: r, _ => exact ⟨x, r, rfl⟩
        | [], h => simp at h; omega
      obtain ⟨b1', off1, ha1, hb1', c0, _⟩ := SlR.atX hsb (k := 0) (by simp)
      subst ha1
      rw [Nat.add_zero, List.getElem_cons_zero] at c0
      have hx := hl' x (by simp)
      have hne1 : b1' ≠ g := off_rd (x := .bool b') hgb hsb (k := 0) (by simp) _ rfl
      have hbr : b1' < wr.heap.size := Nat.lt_of_lt_of_le hb1' hgm.size
      have HRD : Hid (∀ W, EnvK W → Calls Tryz.prog 81 #[bstr x] W fun e w' => e = .returned (.tuple #[.agg (recC (readRecF x).1), .bool (readRecF x).2]) ∧ ∃ j, w' = W.more j) := fun W hW => record_Read x hx W hW
      have hsub : n.toNat - k = (n.toNat - (k + 1)) + 1 := by omega
      have HU2 : Hid (R = ((out ++ [(readRecF x).1]) ++ (recsD (n.toNat - (k + 1)) r (b' || !(readRecF x).2)).1, (recsD (n.toNat - (k + 1)) r (b' || !(readRecF x).2)).2)) := by
        show _ = _
        rw [HU.out, hsub, recsD_step]
      have HEK : Hid (EnvK wr) := HK.out.below (HB2.out.gm hgm).bl
      have HO := Lib.hid ho
      have HGr := Lib.hid hgm
      have HGb := Lib.hid hgb
      have HST := Lib.hid (slX_tail hsb)
      have HCb := Lib.hid hcb
      have HLr : Hid (∀ y ∈ r, y.length ≤ 90000) := fun y hy => hl' y (by simp [hy])
      have HOK := Lib.hid hok
      have hrl : n.toNat - (k + 1) ≤ r.length := by simp at hnk; omega
      have HRL := Lib.hid hrl
      have j0 : wr.cell? ⟨g, 0, none⟩ = some (.slice (some ⟨b1', off1, none⟩) (r.length + 1) c') := hgb.cell 0
      have j1 : wr.cell? ⟨g, 1, none⟩ = some (.bool b') := hgb.cell 1
      have z0 : wr.frozen? ⟨g, 0, none⟩ = false := hgb.frozen 0
      have z1 : wr.frozen? ⟨g, 1, none⟩ = false := hgb.frozen 1
      have hgr := hgb.lt
      have hgB : g < w2.heap.size := hgl2
      have hnt : n.toNat ≤ 100000 := by omega
      have HSN : Hid (c' = 1 → SlX wr w2.heap.size (some ⟨b1', off1, none⟩) r) := fun h => by
        have h0 : r = [] := List.length_eq_zero_iff.1 (by have := HCb.out; simp at this; omega)
        rw [h0]; exact .nil
      have HSI : Hid (SlX wr w2.heap.size (if c' = 1 then some ⟨b1', off1, none⟩ else some ⟨b1', off1 + 1, none⟩) r) := by
        show SlX _ _ _ _
        split
        · rename_i h; exact HSN.out h
        · exact HST.out
      generalize readRecF x = V at HRD HU2
      obtain ⟨⟨x0, x1, x2, x3, x4, x5⟩, is⟩ := V
      simp only [recC] at HRD HU2
      clear HU hkg ho hgb hsb hcb hgm hl' hnk hok k0 k1 f0 f1 hrl hx
      cases b' <;> cases is
      all_goals
        go_wp2_with (first
          | (go_at_call 81; refine (HRD.out wr HEK.out).mono ?_; rintro e w' ⟨rfl, j, rfl⟩)
          | (at_builtin; refine app_c (B := w2.heap.size) (l := out) (y := ⟨x0, x1, x2, x3, x4, x5⟩) st_rec recL_len recL_one (by omega) (.tmp 62) (.tmp 64) rfl rfl rfl (by repeat (first | exact HO.out | (with_reducible refine OwnC.alloc ?_ _) | (with_reducible refine OwnC.more ?_ _) | (refine own_set ?_ (show g < w2.heap.size from hgB) _))) rfl (Blk.at_ _ _ _ (by simp)) rfl (by have := HOK.out; omega) (by have := HGr.out.size; simp; omega) ?_; intro v' w3 hown hbw))
        all_goals
          have HOW := Lib.hid hown
          have HBW := Lib.hid hbw
          clear hown hbw
          go_wp2_with fail
          go_roundg (n.toNat - (k + 1))
          case measure => have := HKK.out; omega
          case rel =>
            refine ⟨k + 1, out ++ [⟨x0, x1, x2, x3, x4, x5⟩], r, _, _, _, by have := HKK.out; omega, by go_num, HOW.out, by have := HOK.out; simp; omega, Blk.below (((((HGb.out.set_ 0 _).set_ 1 _).more j).alloc _).alloc _) HBW.out hgB, (slX_gmB HGb.out HSI.out HGr.out.size (w' := _) (gm_allocR (gm_allocR (gm_moreR (gm_setR (gm_setR (Gm.refl _) _) _) _) _) _)).below HBW.out (Nat.le_refl _), ?_, ?_, HLr.out, HRL.out, HU2⟩
            · have := HCb.out; simp at this; omega
            · exact gm_then (HGr.out.trans (gm_allocR (gm_allocR (gm_moreR (gm_setR (gm_setR (Gm.refl _) _) _) _) _) _)) HBW.out
    · have hk2 : n.toNat - k = 0 := by omega
      have hz : recsD 0 L' b' = ([], L', b') := by cases L' <;> rfl
      obtain rfl : R = (out, L', b') := by rw [HU.out, hk2, hz]; simp
      have hltn : ¬ (k : Int) < n := by omega
      obtain ⟨av, cv, rfl, hsv⟩ := ho.read recL_len
      obtain ⟨_, _, hv, hcap⟩ := ho.cap
      injection hv with e1 e2 e3
      subst e3
      have HSV := Lib.hid hsv
      have HNW := Lib.hid (own_new ho HG2.out.size)
      have HST : Hid (RdS wr g L' b') := ⟨⟨a', c', hgb, hsb.mono hgm.size (fun _ _ _ h => h), hcb⟩⟩
      have HGF : Hid (Gm g w wr) := HG2.out.trans hgm
      have HCAP := Lib.hid hcap
      clear HU ho hgb hsb hcb hgm hl' hnk hsv hkg hcap e1 e2 hok
      go_wp2_with fail
      go_ret
      exact ⟨av, cv, rfl, HSV.out, HNW.out, HCAP.out, HST.out, HGF.out⟩
end Go.Proofs.YtbdmepidabnfkaaGreatDoor
