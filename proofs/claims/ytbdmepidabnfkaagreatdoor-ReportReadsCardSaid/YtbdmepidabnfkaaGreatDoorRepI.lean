/-
  Reports: a text is read: the document's.
-/
import Derived.Test.YtbdmepidabnfkaaGreatDoorRepM
import Derived.Test.YtbdmepidabnfkaaGreatDoorRepT
import Derived.Test.YtbdmepidabnfkaaGreatDoorRepR
import Derived.Test.YtbdmepidabnfkaaGreatDoorRepK
import Derived.Test.YtbdmepidabnfkaaGreatDoorRec8
import Derived.Test.YtbdmepidabnfkaaGreatDoorRecT
import Derived.Test.YtbdmepidabnfkaaGreatDoorRep6
namespace Go.Proofs.YtbdmepidabnfkaaGreatDoor
set_option linter.unusedSimpArgs false
set_option linter.unusedVariables false
set_option linter.unusedSectionVars false
open Go.ChangeShapes Go.WideShapes Go.ChangeAt Go.RowKit Go.Deep Go.Shelf

/-- The state in which the document reads a report: its lines stay, the report so far. -/
structure RzS (w1 : World) (cs : Array Value) (W : World) : Prop where
  bl : Below w1.heap.size w1 W
  bx : Blk W w1.heap.size RpT cs
  nt : ∀ (j : Nat) (s : ByteArray), cs[j]? ≠ some (Value.string s)
theorem RzS.below {w1 : World} {cs : Array Value} {W W' : World} (h : RzS w1 cs W) (hb : Below W.heap.size W W') : RzS w1 cs W' :=
  ⟨h.bl.trans (hb.mono h.bl.size), h.bx.below hb h.bx.lt, h.nt⟩
theorem RzS.belowB {w1 : World} {cs : Array Value} {W W' : World} (h : RzS w1 cs W) (hb : Below (w1.heap.size + 1) W W') : RzS w1 cs W' :=
  ⟨h.bl.trans (hb.mono (Nat.le_succ _)), h.bx.below hb (Nat.lt_succ_self _), h.nt⟩
theorem RzS.set {w1 : World} {cs : Array Value} {W : World} (h : RzS w1 cs W) (i : Nat) {v : Value} (hv : ∀ s : ByteArray, v ≠ .string s) : RzS w1 (cs.setIfInBounds i v) (W.setCell ⟨w1.heap.size, i, none⟩ v) := by
  refine ⟨h.bl.setCell (p := ⟨w1.heap.size, i, none⟩) (Nat.le_refl _) v, h.bx.set_ i v, fun j s => ?_⟩
  rw [Array.getElem?_setIfInBounds]
  split
  · split
    · intro e; injection e with e; exact hv s e
    · simp
  · exact h.nt j s
theorem slR_off {α : Type} {w w' : World} {gx size : Nat} {R : α → List Value → Prop} {a : Option Addr} {l : List α} (h : SlR w w.heap.size size R a l) (hn : ∀ q, a = some q → q.block ≠ gx) (hg : Gm gx w w') : SlR w' w'.heap.size size R a l := by
  intro k hk
  obtain ⟨b, off, cs, ha, hb, hR, hc⟩ := h k hk
  exact ⟨b, off, cs, ha, Nat.lt_of_lt_of_le hb hg.size, hR, fun j u hu => (hg.cell b _ hb (hn _ ha)).trans (hc j u hu)⟩
theorem new_off {a : Option Addr} {n gx : Nat} (h : ∀ p, a = some p → n ≤ p.block) (hg : gx < n) : ∀ q, a = some q → q.block ≠ gx := fun q hq => by have := h q hq; omega
theorem line_cells {w : World} {B : Nat} {a : Option Addr} {L : List (List UInt8)} (hs : SlX w B a L) (hp : 0 < L.length) :
    ∃ b off, a = some ⟨b, off, none⟩ ∧ b < B ∧ ∀ k, k < L.length → w.cell? ⟨b, off + k, none⟩ = some (bstr (atD L k)) := by
  obtain ⟨b1, off, ha, hb, _⟩ := hs.atX (k := 0) hp
  refine ⟨b1, off, ha, hb, fun k hk => ?_⟩
  obtain ⟨b2, off2, ha2, _, hc, _⟩ := hs.atX (k := k) hk
  rw [ha] at ha2
  injection ha2 with ha2
  injection ha2 with e1 e2
  subst e1 e2
  rw [hc]
  unfold atD
  rw [List.getD_eq_getElem?_getD, List.getElem?_eq_getElem hk]
  rfl
theorem split_small {s : List UInt8} {n : Nat} (hs : s.length ≤ n) : (splitF s).1.length ≤ n + 1 ∧ ∀ x ∈ (splitF s).1, x.length ≤ n := by
  unfold splitF
  split
  · simp
  · split
    · refine ⟨by have := cut_len 32 s; show (cutF 32 s).length ≤ n + 1; omega, fun x hx => by have := cut_short 32 s x hx; omega⟩
    · simp
theorem recsR_step {x : List UInt8} {r : List (List UInt8)} {y : Rec} (h : readRecR x = (y, true)) (out : List Rec) : (recsR (x :: r)).map (out ++ ·) = (recsR r).map ((out ++ [y]) ++ ·) := by
  rw [recsR, readRec_eq, h, if_pos rfl]
  cases recsR r <;> simp
theorem recsR_stop {x : List UInt8} {r : List (List UInt8)} (h : (readRecR x).2 = false) : recsR (x :: r) = none := by
  rw [recsR, readRec_eq, if_neg (by rw [h]; simp)]
theorem take_drop_at {L : List (List UInt8)} {k n : Nat} (h : k < n) (hl : 3 + n ≤ L.length) : (L.drop (3 + k)).take (n - k) = atD L (3 + k) :: (L.drop (3 + (k + 1))).take (n - (k + 1)) := by
  have hlt : 3 + k < L.length := by omega
  have e : L.drop (3 + k) = L[3 + k] :: L.drop (3 + k + 1) := List.drop_eq_getElem_cons hlt
  have e2 : n - k = (n - (k + 1)) + 1 := by omega
  have e3 : atD L (3 + k) = L[3 + k] := by
    unfold atD
    rw [List.getD_eq_getElem?_getD, List.getElem?_eq_getElem hlt]
    rfl
  rw [e, e2, List.take_succ_cons, e3]
  rfl
/-- What reading a report leaves: the document's. -/
def RqP (R : Rpt × Bool) (w : World) (e : Ending) (w' : World) : Prop :=
  ∃ (a : Option Addr) (c : Nat) (fa : Option Addr) (fc : Nat) (ua : Option Addr) (uc : Nat), e = .returned (.tuple #[.agg #[.int .i64 R.1.c0, .int .i64 R.1.c1, .int .i64 R.1.c2, .int .i64 R.1.c3, .int .i64 R.1.c4, .int .i64 R.1.c5, .slice a R.1.l.length c, .int .i64 R.1.v, .int .i64 R.1.t, .slice fa R.1.fs.length fc, .slice ua R.1.us.length uc, .int .i64 R.1.f0, .int .i64 R.1.f1], .bool R.2]) ∧
    SlRc w' w'.heap.size a R.1.l ∧ SlFl w' w'.heap.size fa R.1.fs ∧ SlI w' w'.heap.size ua R.1.us ∧ Below w.heap.size w w'
set_option maxHeartbeats 32000000 in
set_option maxRecDepth 100000 in
theorem ref43_Read (s : List UInt8) (hs : s.length ≤ 3000) (w : World) :
    Calls Tryz.prog 15 #[bstr s] w (RqP (refRp s) w) := by
  have HLN : Hid (∀ W, Calls Tryz.prog 51 #[bstr s] W fun e w' => ∃ a cap, e = .returned (.tuple #[.slice a (linesF s).1.length cap, .bool (linesF s).2]) ∧ SlX w' w'.heap.size a (linesF s).1 ∧ Below W.heap.size W w') := fun W => ref04_Lines s W (by omega)
  have HSP : Hid (∀ (x : List UInt8) W, x.length ≤ 3000 → Calls Tryz.prog 52 #[bstr x] W fun e w' => ∃ a cap, e = .returned (.tuple #[.slice a (splitF x).1.length cap, .bool (splitF x).2]) ∧ SlX w' w'.heap.size a (splitF x).1 ∧ Below W.heap.size W w') := fun x W hx => ref04_Split x W (by omega)
  have hll := linesF_le s
  have hlx : ∀ x ∈ (linesF s).1, x.length ≤ 3000 := fun x hx => by have := lines_short s x hx; omega
  obtain ⟨R, hR⟩ : ∃ R, R = refRp s := ⟨_, rfl⟩
  rw [← hR]
  unfold refRp at hR
  generalize linesF s = P at HLN hll hlx hR
  obtain ⟨L, is⟩ := P
  simp only at HLN hll hlx hR
  have HR := Lib.hid hR
  have HLX : Hid (∀ k, (atD L k).length ≤ 3000) := fun k => atD_le hlx
  clear hR hlx
  go_enter Tryz.func15, Tryz.ntmps15
  go_wp2_with fail
  refine (HLN.out _).mono ?_
  rintro e w1 ⟨al, cl, rfl, hsl, hb1⟩
  have HZ1 : Hid (Blk w1 w.heap.size RpT rpZ) := (Blk.new w RpT rpZ).below hb1 (by simp)
  have HB1 : Hid (Below w.heap.size w w1) := Below.trans (by repeat (first | (with_reducible exact Below.refl _ _) | (with_reducible refine Below.allocS ?_ _) | (with_reducible refine Below.moreS ?_ _) | (with_reducible refine Below.drew ?_) | (with_reducible refine below_drewN ?_ _))) (hb1.mono (by simp))
  have hz1 : w.heap.size < w1.heap.size := HZ1.out.lt
  have HBAD : Hid (∀ W, Below w1.heap.size w1 W → Blk W w.heap.size RpT rpZ ∧ Below w.heap.size w W) := fun W hW => ⟨HZ1.out.below hW hz1, HB1.out.trans (hW.mono (by omega))⟩
  have HSL := Lib.hid hsl
  clear hb1 hsl HLN
  cases is
  case false =>
    obtain rfl : R = (zRpt, false) := by rw [HR.out, if_pos (Or.inl rfl)]
    have hzb := HBAD.out w1 (Below.refl _ _)
    have hzl := hzb.1.lt
    have r0 : w1.cell? ⟨w.heap.size, 0, none⟩ = some (.int .i64 0) := hzb.1.cell 0
    have e0 := hzb.1.frozen 0
    have r1 : w1.cell? ⟨w.heap.size, 1, none⟩ = some (.int .i64 0) := hzb.1.cell 1
    have e1 := hzb.1.frozen 1
    have r2 : w1.cell? ⟨w.heap.size, 2, none⟩ = some (.int .i64 0) := hzb.1.cell 2
    have e2 := hzb.1.frozen 2
    have r3 : w1.cell? ⟨w.heap.size, 3, none⟩ = some (.int .i64 0) := hzb.1.cell 3
    have e3 := hzb.1.frozen 3
    have r4 : w1.cell? ⟨w.heap.size, 4, none⟩ = some (.int .i64 0) := hzb.1.cell 4
    have e4 := hzb.1.frozen 4
    have r5 : w1.cell? ⟨w.heap.size, 5, none⟩ = some (.int .i64 0) := hzb.1.cell 5
    have e5 := hzb.1.frozen 5
    have r6 : w1.cell? ⟨w.heap.size, 6, none⟩ = some (.slice none 0 0) := hzb.1.cell 6
    have e6 := hzb.1.frozen 6
    have r7 : w1.cell? ⟨w.heap.size, 7, none⟩ = some (.int .i64 0) := hzb.1.cell 7
    have e7 := hzb.1.frozen 7
    have r8 : w1.cell? ⟨w.heap.size, 8, none⟩ = some (.int .i64 0) := hzb.1.cell 8
    have e8 := hzb.1.frozen 8
    have r9 : w1.cell? ⟨w.heap.size, 9, none⟩ = some (.slice none 0 0) := hzb.1.cell 9
    have e9 := hzb.1.frozen 9
    have r10 : w1.cell? ⟨w.heap.size, 10, none⟩ = some (.slice none 0 0) := hzb.1.cell 10
    have e10 := hzb.1.frozen 10
    have r11 : w1.cell? ⟨w.heap.size, 11, none⟩ = some (.int .i64 0) := hzb.1.cell 11
    have e11 := hzb.1.frozen 11
    have r12 : w1.cell? ⟨w.heap.size, 12, none⟩ = some (.int .i64 0) := hzb.1.cell 12
    have e12 := hzb.1.frozen 12
    go_wp2_with fail
    refine bodyPost_ret (res_cell_tmp (cs := #[.int .i64 0, .int .i64 0, .int .i64 0, .int .i64 0, .int .i64 0, .int .i64 0, .slice none 0 0, .int .i64 0, .int .i64 0, .slice none 0 0, .slice none 0 0, .int .i64 0, .int .i64 0]) rfl st_Rp rfl ((blk_put13 hzb.1)) rfl rfl) rfl ?_
    exact ⟨none, 0, none, 0, none, 0, rfl, .nil, .nil, .nil, (below_put13 hzb.2 (Nat.le_refl _))⟩
  by_cases h7 : L.length < 7
  · have h7i : (L.length : Int) < 7 := by omega
    obtain rfl : R = (zRpt, false) := by rw [HR.out, if_pos (Or.inr h7)]
    have hzb := HBAD.out w1 (Below.refl _ _)
    have hzl := hzb.1.lt
    have r0 : w1.cell? ⟨w.heap.size, 0, none⟩ = some (.int .i64 0) := hzb.1.cell 0
    have e0 := hzb.1.frozen 0
    have r1 : w1.cell? ⟨w.heap.size, 1, none⟩ = some (.int .i64 0) := hzb.1.cell 1
    have e1 := hzb.1.frozen 1
    have r2 : w1.cell? ⟨w.heap.size, 2, none⟩ = some (.int .i64 0) := hzb.1.cell 2
    have e2 := hzb.1.frozen 2
    have r3 : w1.cell? ⟨w.heap.size, 3, none⟩ = some (.int .i64 0) := hzb.1.cell 3
    have e3 := hzb.1.frozen 3
    have r4 : w1.cell? ⟨w.heap.size, 4, none⟩ = some (.int .i64 0) := hzb.1.cell 4
    have e4 := hzb.1.frozen 4
    have r5 : w1.cell? ⟨w.heap.size, 5, none⟩ = some (.int .i64 0) := hzb.1.cell 5
    have e5 := hzb.1.frozen 5
    have r6 : w1.cell? ⟨w.heap.size, 6, none⟩ = some (.slice none 0 0) := hzb.1.cell 6
    have e6 := hzb.1.frozen 6
    have r7 : w1.cell? ⟨w.heap.size, 7, none⟩ = some (.int .i64 0) := hzb.1.cell 7
    have e7 := hzb.1.frozen 7
    have r8 : w1.cell? ⟨w.heap.size, 8, none⟩ = some (.int .i64 0) := hzb.1.cell 8
    have e8 := hzb.1.frozen 8
    have r9 : w1.cell? ⟨w.heap.size, 9, none⟩ = some (.slice none 0 0) := hzb.1.cell 9
    have e9 := hzb.1.frozen 9
    have r10 : w1.cell? ⟨w.heap.size, 10, none⟩ = some (.slice none 0 0) := hzb.1.cell 10
    have e10 := hzb.1.frozen 10
    have r11 : w1.cell? ⟨w.heap.size, 11, none⟩ = some (.int .i64 0) := hzb.1.cell 11
    have e11 := hzb.1.frozen 11
    have r12 : w1.cell? ⟨w.heap.size, 12, none⟩ = some (.int .i64 0) := hzb.1.cell 12
    have e12 := hzb.1.frozen 12
    go_wp2_with fail
    refine bodyPost_ret (res_cell_tmp (cs := #[.int .i64 0, .int .i64 0, .int .i64 0, .int .i64 0, .int .i64 0, .int .i64 0, .slice none 0 0, .int .i64 0, .int .i64 0, .slice none 0 0, .slice none 0 0, .int .i64 0, .int .i64 0]) rfl st_Rp rfl ((blk_put13 hzb.1)) rfl rfl) rfl ?_
    exact ⟨none, 0, none, 0, none, 0, rfl, .nil, .nil, .nil, (below_put13 hzb.2 (Nat.le_refl _))⟩
  have h7i : ¬ (L.length : Int) < 7 := by omega
  obtain ⟨n, hn⟩ : ∃ n, L.length = n + 7 := ⟨L.length - 7, by omega⟩
  have HR2 : Hid (R = bodyR s L n (recsR ((L.drop 3).take n))) := by
    show _ = _
    rw [HR.out, if_neg (by rw [hn]; simp), hn, Nat.add_sub_cancel]
  obtain ⟨bL, oL, hal, hbL, hcl⟩ := line_cells HSL.out (by omega)
  subst hal
  have HCL := Lib.hid hcl
  have c1 : w1.cell? ⟨bL, oL + 1, none⟩ = some (bstr (atD L 1)) := hcl 1 (by omega)
  obtain ⟨gx, hgx⟩ : ∃ gx, gx = w1.heap.size := ⟨_, rfl⟩
  have HT1 : Hid (RzS w1 rpZ (w1.alloc (.cells rpZ RpT))) := ⟨(by repeat (first | (with_reducible exact Below.refl _ _) | (with_reducible refine Below.allocS ?_ _) | (with_reducible refine Below.moreS ?_ _) | (with_reducible refine Below.drew ?_) | (with_reducible refine below_drewN ?_ _))), Blk.new _ _ _, rpZ_nt⟩
  clear hcl HR HSL h7
  go_wp2_with fail
  rw [← hgx]
  have HGX := Lib.hid hgx
  clear hgx
  have hl1 := HLX.out 1
  refine (HSP.out _ _ hl1).mono ?_
  rintro e w2 ⟨ac, cc, rfl, hsc, hb2⟩
  have HT2 := Lib.hid (HT1.out.below hb2)
  obtain ⟨hC1, hC2⟩ := split_small hl1
  have HN1 : Hid (∀ W, Below w2.heap.size w2 W → Calls Tryz.prog 53 #[.slice ac (splitF (atD L 1)).1.length cc, .int .i64 1] W fun e w' => e = .returned (.int .i64 (nmR (spR L 1) 1)) ∧ ∃ j, w' = W.more j) := fun W hW => ref43_number ac cc (splitF (atD L 1)).1 1 (by omega) (fun x hx => by have := hC2 x hx; omega) (by omega) W ((hsc.below hW (Nat.le_refl _)).mono hW.size (fun _ _ _ h => h))
  obtain ⟨k0, hk0⟩ : ∃ k, k = nmR (spR L 1) 1 := ⟨_, rfl⟩
  rw [← hk0] at HN1
  have HN2 : Hid (∀ W, Below w2.heap.size w2 W → Calls Tryz.prog 53 #[.slice ac (splitF (atD L 1)).1.length cc, .int .i64 2] W fun e w' => e = .returned (.int .i64 (nmR (spR L 1) 2)) ∧ ∃ j, w' = W.more j) := fun W hW => ref43_number ac cc (splitF (atD L 1)).1 2 (by omega) (fun x hx => by have := hC2 x hx; omega) (by omega) W ((hsc.below hW (Nat.le_refl _)).mono hW.size (fun _ _ _ h => h))
  obtain ⟨k1, hk1⟩ : ∃ k, k = nmR (spR L 1) 2 := ⟨_, rfl⟩
  rw [← hk1] at HN2
  have HN3 : Hid (∀ W, Below w2.heap.size w2 W → Calls Tryz.prog 53 #[.slice ac (splitF (atD L 1)).1.length cc, .int .i64 3] W fun e w' => e = .returned (.int .i64 (nmR (spR L 1) 3)) ∧ ∃ j, w' = W.more j) := fun W hW => ref43_number ac cc (splitF (atD L 1)).1 3 (by omega) (fun x hx => by have := hC2 x hx; omega) (by omega) W ((hsc.below hW (Nat.le_refl _)).mono hW.size (fun _ _ _ h => h))
  obtain ⟨k2, hk2⟩ : ∃ k, k = nmR (spR L 1) 3 := ⟨_, rfl⟩
  rw [← hk2] at HN3
  have HN4 : Hid (∀ W, Below w2.heap.size w2 W → Calls Tryz.prog 53 #[.slice ac (splitF (atD L 1)).1.length cc, .int .i64 4] W fun e w' => e = .returned (.int .i64 (nmR (spR L 1) 4)) ∧ ∃ j, w' = W.more j) := fun W hW => ref43_number ac cc (splitF (atD L 1)).1 4 (by omega) (fun x hx => by have := hC2 x hx; omega) (by omega) W ((hsc.below hW (Nat.le_refl _)).mono hW.size (fun _ _ _ h => h))
  obtain ⟨k3, hk3⟩ : ∃ k, k = nmR (spR L 1) 4 := ⟨_, rfl⟩
  rw [← hk3] at HN4
  have HN5 : Hid (∀ W, Below w2.heap.size w2 W → Calls Tryz.prog 53 #[.slice ac (splitF (atD L 1)).1.length cc, .int .i64 5] W fun e w' => e = .returned (.int .i64 (nmR (spR L 1) 5)) ∧ ∃ j, w' = W.more j) := fun W hW => ref43_number ac cc (splitF (atD L 1)).1 5 (by omega) (fun x hx => by have := hC2 x hx; omega) (by omega) W ((hsc.below hW (Nat.le_refl _)).mono hW.size (fun _ _ _ h => h))
  obtain ⟨k4, hk4⟩ : ∃ k, k = nmR (spR L 1) 5 := ⟨_, rfl⟩
  rw [← hk4] at HN5
  have HN6 : Hid (∀ W, Below w2.heap.size w2 W → Calls Tryz.prog 53 #[.slice ac (splitF (atD L 1)).1.length cc, .int .i64 6] W fun e w' => e = .returned (.int .i64 (nmR (spR L 1) 6)) ∧ ∃ j, w' = W.more j) := fun W hW => ref43_number ac cc (splitF (atD L 1)).1 6 (by omega) (fun x hx => by have := hC2 x hx; omega) (by omega) W ((hsc.below hW (Nat.le_refl _)).mono hW.size (fun _ _ _ h => h))
  obtain ⟨k5, hk5⟩ : ∃ k, k = nmR (spR L 1) 6 := ⟨_, rfl⟩
  rw [← hk5] at HN6
  have HK := Lib.hid (And.intro hk0 (And.intro hk1 (And.intro hk2 (And.intro hk3 (And.intro hk4 hk5)))))
  generalize (splitF (atD L 1)).1.length = nc at HN1 HN2 HN3 HN4 HN5 HN6 ⊢
  have z0 : w2.cell? ⟨gx, 0, none⟩ = some (.int .i64 0) := by rw [HGX.out]; exact HT2.out.bx.cell 0
  have y0 : w2.frozen? ⟨gx, 0, none⟩ = false := by rw [HGX.out]; exact HT2.out.bx.frozen 0
  have z1 : w2.cell? ⟨gx, 1, none⟩ = some (.int .i64 0) := by rw [HGX.out]; exact HT2.out.bx.cell 1
  have y1 : w2.frozen? ⟨gx, 1, none⟩ = false := by rw [HGX.out]; exact HT2.out.bx.frozen 1
  have z2 : w2.cell? ⟨gx, 2, none⟩ = some (.int .i64 0) := by rw [HGX.out]; exact HT2.out.bx.cell 2
  have y2 : w2.frozen? ⟨gx, 2, none⟩ = false := by rw [HGX.out]; exact HT2.out.bx.frozen 2
  have z3 : w2.cell? ⟨gx, 3, none⟩ = some (.int .i64 0) := by rw [HGX.out]; exact HT2.out.bx.cell 3
  have y3 : w2.frozen? ⟨gx, 3, none⟩ = false := by rw [HGX.out]; exact HT2.out.bx.frozen 3
  have z4 : w2.cell? ⟨gx, 4, none⟩ = some (.int .i64 0) := by rw [HGX.out]; exact HT2.out.bx.cell 4
  have y4 : w2.frozen? ⟨gx, 4, none⟩ = false := by rw [HGX.out]; exact HT2.out.bx.frozen 4
  have z5 : w2.cell? ⟨gx, 5, none⟩ = some (.int .i64 0) := by rw [HGX.out]; exact HT2.out.bx.cell 5
  have y5 : w2.frozen? ⟨gx, 5, none⟩ = false := by rw [HGX.out]; exact HT2.out.bx.frozen 5
  have hxl : gx < w2.heap.size := by rw [HGX.out]; exact HT2.out.bx.lt
  clear hsc hb2 hC1 hC2 hl1 hk0 hk1 hk2 hk3 hk4 hk5 HT1 c1
  simp only
  go_wp2_with (first | (go_at_call 53; (with_reducible refine (HN1.out _ (by repeat (first | (with_reducible exact Below.refl _ _) | (with_reducible refine Below.allocS ?_ _) | (with_reducible refine Below.moreS ?_ _) | (with_reducible refine Below.drew ?_) | (with_reducible refine below_drewN ?_ _)))).mono ?_); rintro e w' ⟨rfl, j, rfl⟩) | (go_at_call 53; (with_reducible refine (HN2.out _ (by repeat (first | (with_reducible exact Below.refl _ _) | (with_reducible refine Below.allocS ?_ _) | (with_reducible refine Below.moreS ?_ _) | (with_reducible refine Below.drew ?_) | (with_reducible refine below_drewN ?_ _)))).mono ?_); rintro e w' ⟨rfl, j, rfl⟩) | (go_at_call 53; (with_reducible refine (HN3.out _ (by repeat (first | (with_reducible exact Below.refl _ _) | (with_reducible refine Below.allocS ?_ _) | (with_reducible refine Below.moreS ?_ _) | (with_reducible refine Below.drew ?_) | (with_reducible refine below_drewN ?_ _)))).mono ?_); rintro e w' ⟨rfl, j, rfl⟩) | (go_at_call 53; (with_reducible refine (HN4.out _ (by repeat (first | (with_reducible exact Below.refl _ _) | (with_reducible refine Below.allocS ?_ _) | (with_reducible refine Below.moreS ?_ _) | (with_reducible refine Below.drew ?_) | (with_reducible refine below_drewN ?_ _)))).mono ?_); rintro e w' ⟨rfl, j, rfl⟩) | (go_at_call 53; (with_reducible refine (HN5.out _ (by repeat (first | (with_reducible exact Below.refl _ _) | (with_reducible refine Below.allocS ?_ _) | (with_reducible refine Below.moreS ?_ _) | (with_reducible refine Below.drew ?_) | (with_reducible refine below_drewN ?_ _)))).mono ?_); rintro e w' ⟨rfl, j, rfl⟩) | (go_at_call 53; (with_reducible refine (HN6.out _ (by repeat (first | (with_reducible exact Below.refl _ _) | (with_reducible refine Below.allocS ?_ _) | (with_reducible refine Below.moreS ?_ _) | (with_reducible refine Below.drew ?_) | (with_reducible refine below_drewN ?_ _)))).mono ?_); rintro e w' ⟨rfl, j, rfl⟩))
  have HT6 : Hid (∀ J, RzS w1 #[.int .i64 k0, .int .i64 k1, .int .i64 k2, .int .i64 k3, .int .i64 k4, .int .i64 k5, .slice none 0 0, .int .i64 0, .int .i64 0, .slice none 0 0, .slice none 0 0, .int .i64 0, .int .i64 0] ((((((((w2.setCell ⟨gx, 0, none⟩ (.int .i64 k0)).setCell ⟨gx, 1, none⟩ (.int .i64 k1)).setCell ⟨gx, 2, none⟩ (.int .i64 k2)).setCell ⟨gx, 3, none⟩ (.int .i64 k3)).setCell ⟨gx, 4, none⟩ (.int .i64 k4)).setCell ⟨gx, 5, none⟩ (.int .i64 k5))).more J)) := fun J => by
    rw [HGX.out]
    exact ((((((HT2.out.set 0 (v := .int .i64 k0) nofun).set 1 (v := .int .i64 k1) nofun).set 2 (v := .int .i64 k2) nofun).set 3 (v := .int .i64 k3) nofun).set 4 (v := .int .i64 k4) nofun).set 5 (v := .int .i64 k5) nofun).below (by repeat (first | (with_reducible exact Below.refl _ _) | (with_reducible refine Below.allocS ?_ _) | (with_reducible refine Below.moreS ?_ _) | (with_reducible refine Below.drew ?_) | (with_reducible refine below_drewN ?_ _)))
  clear z0 z1 z2 z3 z4 z5 y0 y1 y2 y3 y4 y5 hxl HN1 HN2 HN3 HN4 HN5 HN6 HT2
  go_loopg [10] n (fun g i wr => ∃ (k : Nat) (out : List Rec) (a7 : Option Addr) (c7 : Nat), k + g = n ∧ i = .int .i64 k ∧ OwnRc (w1.heap.size + 1) wr (.slice a7 k c7) out ∧ out.length = k ∧ RzS w1 #[.int .i64 k0, .int .i64 k1, .int .i64 k2, .int .i64 k3, .int .i64 k4, .int .i64 k5, .slice a7 k c7, .int .i64 0, .int .i64 0, .slice none 0 0, .slice none 0 0, .int .i64 0, .int .i64 0] wr ∧ Hid (recsR ((L.drop 3).take n) = (recsR ((L.drop (3 + k)).take (n - k))).map (out ++ ·)))
  case atStart => exact ⟨0, [], none, 0, by omega, rfl, OwnC.nil _ _, rfl, HT6.out _, by show _ = _; simp⟩
  case round =>
    obtain ⟨k, out, a7, c7, hkg, rfl, ho, hok, hT, HU⟩ := hrel
    have HO := Lib.hid ho
    have HT := Lib.hid hT
    have HOK := Lib.hid hok
    have HKG := Lib.hid hkg
    clear HT6
    by_cases hlt : k < n
    · have hltn : (k : Int) < n := by omega
      have c3 : wr.cell? ⟨bL, oL + (3 + k), none⟩ = some (bstr (atD L (3 + k))) := (hT.bl.cell (p := ⟨bL, _, none⟩) hbL).trans (HCL.out _ (by omega))
      have hbr : bL < wr.heap.size := Nat.lt_of_lt_of_le hbL hT.bl.size
      have w3k : IntKind.i64.wrap (3 + (k : Int)) = 3 + k := IntWalk.i64_in _ (by omega)
      have t3k : (3 + (k : Int)).toNat = 3 + k := by omega
      have l3k : (3 + (k : Int)) < (n : Int) + 7 := by omega
      have p3k : ¬ (3 + (k : Int)) < 0 := by omega
      have HRD : Hid (∀ W, Calls Tryz.prog 54 #[bstr (atD L (3 + k))] W fun e w' => e = .returned (.tuple #[.agg (recC (readRecR (atD L (3 + k))).1), .bool (readRecR (atD L (3 + k))).2]) ∧ ∃ j, w' = W.more j) := fun W => ref41_Read _ (by have := HLX.out (3 + k); omega) W
      have HYES : Hid (∀ y, readRecR (atD L (3 + k)) = (y, true) → recsR ((L.drop 3).take n) = (recsR ((L.drop (3 + (k + 1))).take (n - (k + 1)))).map ((out ++ [y]) ++ ·)) := fun y hy => by rw [HU.out, take_drop_at hlt (by omega), recsR_step hy]
      have HNO : Hid ((readRecR (atD L (3 + k))).2 = false → R = (zRpt, false)) := fun hy => by rw [HR2.out, HU.out, take_drop_at hlt (by omega), recsR_stop hy]; rfl
      generalize readRecR (atD L (3 + k)) = V at HRD HYES HNO
      generalize atD L (3 + k) = x at c3 HRD
      obtain ⟨⟨x0, x1, x2, x3, x4, x5⟩, was⟩ := V
      simp only [recC] at HRD HYES HNO
      have j6 : wr.cell? ⟨gx, 6, none⟩ = some (.slice a7 k c7) := by rw [HGX.out]; exact hT.bx.cell 6
      have f6 : wr.frozen? ⟨gx, 6, none⟩ = false := by rw [HGX.out]; exact hT.bx.frozen 6
      have hxl : gx < wr.heap.size := by rw [HGX.out]; exact hT.bx.lt
      clear ho hT hok hkg HU
      go_wp2_with fail
      refine (HRD.out _).mono ?_
      rintro e w' ⟨rfl, j, rfl⟩
      obtain ⟨wq, hwq⟩ : ∃ wq, wq = wr.more j := ⟨_, rfl⟩
      rw [← hwq]
      have HTq : Hid (RzS w1 #[.int .i64 k0, .int .i64 k1, .int .i64 k2, .int .i64 k3, .int .i64 k4, .int .i64 k5, .slice a7 k c7, .int .i64 0, .int .i64 0, .slice none 0 0, .slice none 0 0, .int .i64 0, .int .i64 0] wq) := by rw [hwq]; exact HT.out.below (by repeat (first | (with_reducible exact Below.refl _ _) | (with_reducible refine Below.allocS ?_ _) | (with_reducible refine Below.moreS ?_ _) | (with_reducible refine Below.drew ?_) | (with_reducible refine below_drewN ?_ _)))
      have HOq : Hid (OwnRc (w1.heap.size + 1) wq (.slice a7 k c7) out) := by rw [hwq]; exact OwnC.more HO.out _
      clear hwq c3 j6 f6 hbr hxl HO HT
      have j6 : wq.cell? ⟨gx, 6, none⟩ = some (.slice a7 k c7) := by rw [HGX.out]; exact HTq.out.bx.cell 6
      have hxl : gx < wq.heap.size := by rw [HGX.out]; exact HTq.out.bx.lt
      cases was
      case false =>
        obtain rfl : R = (zRpt, false) := HNO.out (by simp)
        have hzb := HBAD.out wq HTq.out.bl
        have hzl := hzb.1.lt
        have r0 : wq.cell? ⟨w.heap.size, 0, none⟩ = some (.int .i64 0) := hzb.1.cell 0
        have e0 := hzb.1.frozen 0
        have r1 : wq.cell? ⟨w.heap.size, 1, none⟩ = some (.int .i64 0) := hzb.1.cell 1
        have e1 := hzb.1.frozen 1
        have r2 : wq.cell? ⟨w.heap.size, 2, none⟩ = some (.int .i64 0) := hzb.1.cell 2
        have e2 := hzb.1.frozen 2
        have r3 : wq.cell? ⟨w.heap.size, 3, none⟩ = some (.int .i64 0) := hzb.1.cell 3
        have e3 := hzb.1.frozen 3
        have r4 : wq.cell? ⟨w.heap.size, 4, none⟩ = some (.int .i64 0) := hzb.1.cell 4
        have e4 := hzb.1.frozen 4
        have r5 : wq.cell? ⟨w.heap.size, 5, none⟩ = some (.int .i64 0) := hzb.1.cell 5
        have e5 := hzb.1.frozen 5
        have r6 : wq.cell? ⟨w.heap.size, 6, none⟩ = some (.slice none 0 0) := hzb.1.cell 6
        have e6 := hzb.1.frozen 6
        have r7 : wq.cell? ⟨w.heap.size, 7, none⟩ = some (.int .i64 0) := hzb.1.cell 7
        have e7 := hzb.1.frozen 7
        have r8 : wq.cell? ⟨w.heap.size, 8, none⟩ = some (.int .i64 0) := hzb.1.cell 8
        have e8 := hzb.1.frozen 8
        have r9 : wq.cell? ⟨w.heap.size, 9, none⟩ = some (.slice none 0 0) := hzb.1.cell 9
        have e9 := hzb.1.frozen 9
        have r10 : wq.cell? ⟨w.heap.size, 10, none⟩ = some (.slice none 0 0) := hzb.1.cell 10
        have e10 := hzb.1.frozen 10
        have r11 : wq.cell? ⟨w.heap.size, 11, none⟩ = some (.int .i64 0) := hzb.1.cell 11
        have e11 := hzb.1.frozen 11
        have r12 : wq.cell? ⟨w.heap.size, 12, none⟩ = some (.int .i64 0) := hzb.1.cell 12
        have e12 := hzb.1.frozen 12
        go_wp2_with fail
        refine bodyPost_ret (res_cell_tmp (cs := #[.int .i64 0, .int .i64 0, .int .i64 0, .int .i64 0, .int .i64 0, .int .i64 0, .slice none 0 0, .int .i64 0, .int .i64 0, .slice none 0 0, .slice none 0 0, .int .i64 0, .int .i64 0]) rfl st_Rp rfl (((blk_put13 hzb.1)).alloc _) rfl rfl) rfl ?_
        exact ⟨none, 0, none, 0, none, 0, rfl, .nil, .nil, .nil, Below.allocS ((below_put13 hzb.2 (Nat.le_refl _))) _⟩
      have HLEN : Hid ((out ++ [(⟨x0, x1, x2, x3, x4, x5⟩ : Rec)]).length = k + 1) := by show _ = _; rw [List.length_append, HOK.out]; rfl
      go_wp2_with (at_builtin; refine app_c (B := w1.heap.size + 1) (l := out) (y := ⟨x0, x1, x2, x3, x4, x5⟩) st_rec recL_len recL_one (by omega) (.tmp 81) (.tmp 83) rfl rfl rfl (by repeat (first | exact HOq.out | (with_reducible refine OwnC.alloc ?_ _))) rfl (Blk.at_ _ _ _ (by simp)) rfl (by have := HOK.out; omega) (by have := HGX.out; simp only [World.size_alloc]; omega) ?_; go_loud (intro v' w3 hown hbw; obtain ⟨av, cv, hv, hcap⟩ := hown.cap; rw [HLEN.out] at hv hcap; subst hv; have HT3 := Lib.hid (RzS.belowB (RzS.below HTq.out (by repeat (first | (with_reducible exact Below.refl _ _) | (with_reducible refine Below.allocS ?_ _) | (with_reducible refine Below.moreS ?_ _) | (with_reducible refine Below.drew ?_) | (with_reducible refine below_drewN ?_ _)))) hbw); have HO3 := Lib.hid hown; have HC3 := Lib.hid hcap; clear hown hbw hcap j6 hxl; have i6 : w3.cell? ⟨gx, 6, none⟩ = some (.slice a7 k c7) := (by rw [HGX.out]; exact HT3.out.bx.cell 6); have f6 : w3.frozen? ⟨gx, 6, none⟩ = false := (by rw [HGX.out]; exact HT3.out.bx.frozen 6); have hxl : gx < w3.heap.size := (by rw [HGX.out]; exact HT3.out.bx.lt)))
      go_roundg (n - (k + 1))
      case measure => have := HKG.out; omega
      case rel =>
        refine ⟨k + 1, out ++ [⟨x0, x1, x2, x3, x4, x5⟩], av, cv, by have := HKG.out; omega, by go_num, own_set HO3.out (by have := HGX.out; show gx < _; omega) _, HLEN.out, ?_, HYES.out _ rfl⟩
        have h3 := HT3.out.set 6 (v := .slice av (k + 1) cv) nofun
        rw [← HGX.out] at h3
        exact h3
    · obtain rfl : n = k := by have := HKG.out; omega
      have hltn : ¬ (n : Int) < n := by omega
      have HRE : Hid (R = endR s (mkR L n out)) := by
        show _ = _
        rw [HR2.out, HU.out, Nat.sub_self, List.take_zero]
        show bodyR s L n (some (out ++ [])) = _
        rw [List.append_nil]
        rfl
      have HSR : Hid (SlRc wr wr.heap.size a7 out) := by
        obtain ⟨av, cv, hv, hsv⟩ := ho.read recL_len
        injection hv with e1 _ _
        rw [e1]; exact hsv
      have HNR : Hid (∀ q : Addr, a7 = some q → gx < q.block) := fun q hq => by
        have h1 := own_new ho (Nat.le_refl _) q hq
        have h2 := HGX.out
        omega
      clear ho hT hok hkg HU HR2 HO
      have cq4 : wr.cell? ⟨bL, oL + (3 + n), none⟩ = some (bstr (atD L (3 + n))) := (Below.cell (p := ⟨bL, _, none⟩) HT.out.bl hbL).trans (HCL.out _ (by omega))
      have hbq4 : bL < wr.heap.size := Nat.lt_of_lt_of_le hbL (Below.size HT.out.bl)
      have wq4 : IntKind.i64.wrap (3 + (n : Int)) = 3 + n := IntWalk.i64_in _ (by omega)
      have tq4 : (3 + (n : Int)).toNat = 3 + n := by omega
      have lq4 : (3 + (n : Int)) < (n : Int) + 7 := by omega
      have pq4 : ¬ (3 + (n : Int)) < 0 := by omega
      have hlq4 := HLX.out (3 + n)
      clear hlt
      go_wp2_with fail
      refine (HSP.out _ _ hlq4).mono ?_
      rintro e w4 ⟨av4, cv4, rfl, hsv, hb4w⟩
      have HT4 := Lib.hid (HT.out.below hb4w)
      have HS4 : Hid (SlRc w4 w4.heap.size a7 out) := SlRc.keep HSR.out hb4w
      have HV4 := Lib.hid hsv
      obtain ⟨hV1, hV2⟩ := split_small hlq4
      have HWD : Hid (∀ W, SlX W W.heap.size av4 (splitF (atD L (3 + n))).1 → Calls Tryz.prog 55 #[.slice av4 (splitF (atD L (3 + n))).1.length cv4, .int .i64 1] W fun e w' => e = .returned (bstr (atD (spR L (3 + n)) 1)) ∧ W = w') := fun W hW => ref43_word av4 cv4 (splitF (atD L (3 + n))).1 1 (by omega) (by omega) W hW
      have HNT8 : Hid (∀ W, SlX W W.heap.size av4 (splitF (atD L (3 + n))).1 → Calls Tryz.prog 53 #[.slice av4 (splitF (atD L (3 + n))).1.length cv4, .int .i64 2] W fun e w' => e = .returned (.int .i64 (nmR (spR L (3 + n)) 2)) ∧ ∃ j, w' = W.more j) := fun W hW => ref43_number av4 cv4 (splitF (atD L (3 + n))).1 2 (by omega) (fun x hx => by have := hV2 x hx; omega) (by omega) W hW
      obtain ⟨t8, ht8⟩ : ∃ k, k = nmR (spR L (3 + n)) 2 := ⟨_, rfl⟩
      rw [← ht8] at HNT8
      have HT8 := Lib.hid ht8
      obtain ⟨kB, hkB⟩ : ∃ k, k = (kindB (atD (spR L (3 + n)) 1)).1 := ⟨_, rfl⟩
      have hkb := kindB_at (atD (spR L (3 + n)) 1)
      have HKE : Hid (∀ k : Int, 1 ≤ k → k ≤ 4 → (kindF k == atD (spR L (3 + n)) 1) = decide (kB = k)) := fun k h1 h2 => by rw [hkB]; exact kindB_eq _ k h1 h2
      rw [← hkB] at hkb
      have HKB := Lib.hid hkB
      have HVV : Hid (∀ W, Gm gx w4 W → SlX W W.heap.size av4 (splitF (atD L (3 + n))).1) := fun W hW => by
        have hW := hW
        rw [HGX.out] at hW
        exact slX_far HT4.out.bx HT4.out.nt HV4.out hW
      generalize atD (spR L (3 + n)) 1 = sv at HWD HKE
      generalize (splitF (atD L (3 + n))).1.length = nv at HWD HNT8 ⊢
      clear hsv hb4w hV1 hV2 ht8 hkB cq4 hbq4 wq4 tq4 lq4 pq4 hlq4
      simp only
      go_wp2_with fail
      go_loopg [15] 4 (fun g i wr => ∃ (p : Nat) (vq : Int), p + g = 4 ∧ i = .int .i64 ((p : Int) + 1) ∧ vq = (if kB < (p : Int) + 1 then kB else 0) ∧ RzS w1 #[.int .i64 k0, .int .i64 k1, .int .i64 k2, .int .i64 k3, .int .i64 k4, .int .i64 k5, .slice a7 n c7, .int .i64 vq, .int .i64 0, .slice none 0 0, .slice none 0 0, .int .i64 0, .int .i64 0] wr ∧ Gm gx w4 wr)
      case atStart => exact ⟨0, 0, by omega, rfl, by split <;> omega, HT4.out, Gm.refl _⟩
      case round =>
        obtain ⟨p, vq, hpg, rfl, hvq, hTv, hGv⟩ := hrel
        have HTV := Lib.hid hTv
        have HGV := Lib.hid hGv
        have HPG := Lib.hid hpg
        have hxv : gx < wr.heap.size := by rw [HGX.out]; exact hTv.bx.lt
        by_cases hlt : p < 4
        · have hlt2 : (p : Int) + 1 ≤ 4 := by omega
          have HKD := Lib.hid (kinds_at p hlt)
          have hke := HKE.out ((p : Int) + 1) (by omega) hlt2
          generalize kindF ((p : Int) + 1) = T at HKD hke
          have x7 : wr.cell? ⟨gx, 7, none⟩ = some (.int .i64 vq) := by rw [HGX.out]; exact hTv.bx.cell 7
          have y7 : wr.frozen? ⟨gx, 7, none⟩ = false := by rw [HGX.out]; exact hTv.bx.frozen 7
          have sp : IntKind.i64.wrap (p : Int) = p := IntWalk.i64_in _ (by omega)
          have lp : (p : Int) < 4 := by omega
          clear hpg hTv hGv
          by_cases hkk : kB = (p : Int) + 1
          case pos =>
            have e1 : (T == sv) = true := by rw [hke]; simpa using hkk
            clear hke
            go_wp2_with fail
            refine grown_start (by kernel_rfl) ?_
            obtain ⟨wd, hwd⟩ : ∃ wd, wd = wr.drew := ⟨_, rfl⟩
            rw [← hwd]
            have HGD : Hid (Gm gx w4 wd) := by show Gm _ _ _; rw [hwd]; exact HGV.out.trans (gm_below (Below.drew (Below.refl _ _)))
            have HWDE := Lib.hid hwd
            clear hwd
            refine grown_take 1 (v := ?_) rfl (by kernel_rfl) (by kernel_rfl) (by kernel_rfl) (fun _ _ _ h => h) (Or.inl ⟨by first | kernel_rfl | rfl, ?_⟩) ?_
            rotate_left
            · intro wS hSw; have hSc := hSw.cell; clear hSw; go_simp; try with_reducible rfl
            try simp only [Act.put, List.getElem_toArray, List.getElem_cons_succ, List.getElem_cons_zero, List.setIfInBounds_toArray, List.set_cons_zero, List.set_cons_succ]
            refine grown_take 2 (v := ?_) rfl (by kernel_rfl) (by kernel_rfl) (by kernel_rfl) (fun _ _ _ h => h) (Or.inl ⟨by first | kernel_rfl | rfl, ?_⟩) ?_
            rotate_left
            · intro wS hSw; have hSc := hSw.cell; clear hSw; go_simp; try with_reducible rfl
            try simp only [Act.put, List.getElem_toArray, List.getElem_cons_succ, List.getElem_cons_zero, List.setIfInBounds_toArray, List.set_cons_zero, List.set_cons_succ]
            refine grown_take 5 (v := ?_) rfl (by kernel_rfl) (by kernel_rfl) (by kernel_rfl) (fun _ _ _ h => h) (Or.inl ⟨by first | kernel_rfl | rfl, ?_⟩) ?_
            rotate_left
            · intro wS hSw; have hSc := hSw.cell; clear hSw; go_simp; try with_reducible rfl
            try simp only [Act.put, List.getElem_toArray, List.getElem_cons_succ, List.getElem_cons_zero, List.setIfInBounds_toArray, List.set_cons_zero, List.set_cons_succ]
            refine grown_step 0 (by kernel_rfl) rfl (fun K hK => ?_)
            go_simp
            go_wp2_with fail
            refine (HKD.out _).mono ?_
            rintro e w' ⟨rfl, hcell, hlt3, j1, rfl⟩
            simp only [World.size_more] at hlt3
            have hj1 : 0 < j1.heap.size := by omega
            go_wp2_with fail
            refine hK.out _ _ (show Below _ _ _ from (by (try (with_reducible refine grown_undrew ?_)); repeat (first | (with_reducible exact Below.refl _ _) | (with_reducible exact grown_merge _ _ _ _) | (with_reducible exact grown_merge2 _ _ _ _ _ _) | (with_reducible exact grown_merge3 _ _ _ _ _ _ _) | (with_reducible refine Below.allocS ?_ _) | (with_reducible refine Below.moreS ?_ _) | (with_reducible refine Below.drew ?_)))) ?_
            clear hK K
            try simp only [Act.put, List.getElem_toArray, List.getElem_cons_succ, List.getElem_cons_zero, List.setIfInBounds_toArray, List.set_cons_zero, List.set_cons_succ]
            refine grown_take 3 (v := ?_) rfl (by kernel_rfl) (by kernel_rfl) (by kernel_rfl) (fun _ _ _ h => h) (Or.inl ⟨by first | kernel_rfl | rfl, ?_⟩) ?_
            rotate_left
            · intro wS hSw; have hSc := hSw.cell; clear hSw; go_simp; try with_reducible rfl
            try simp only [Act.put, List.getElem_toArray, List.getElem_cons_succ, List.getElem_cons_zero, List.setIfInBounds_toArray, List.set_cons_zero, List.set_cons_succ]
            refine grown_take 4 (v := ?_) rfl (by kernel_rfl) (by kernel_rfl) (by kernel_rfl) (fun _ _ _ h => h) (Or.inl ⟨by first | kernel_rfl | rfl, ?_⟩) ?_
            rotate_left
            · intro wS hSw; have hSc := hSw.cell; clear hSw; go_simp; try with_reducible rfl
            try simp only [Act.put, List.getElem_toArray, List.getElem_cons_succ, List.getElem_cons_zero, List.setIfInBounds_toArray, List.set_cons_zero, List.set_cons_succ]
            refine grown_step 6 (by kernel_rfl) rfl (fun K hK => ?_)
            go_simp
            go_wp2_with fail
            refine (HWD.out _ (HVV.out _ (HGD.out.trans (gm_below (by repeat (first | (with_reducible exact Below.refl _ _) | (with_reducible refine Below.allocS ?_ _) | (with_reducible refine Below.moreS ?_ _) | (with_reducible refine Below.drew ?_) | (with_reducible refine below_drewN ?_ _))))))).mono ?_
            rintro e w' ⟨rfl, rfl⟩
            go_wp2_with fail
            refine hK.out _ _ (show Below _ _ _ from (by (try (with_reducible refine grown_undrew ?_)); repeat (first | (with_reducible exact Below.refl _ _) | (with_reducible exact grown_merge _ _ _ _) | (with_reducible exact grown_merge2 _ _ _ _ _ _) | (with_reducible exact grown_merge3 _ _ _ _ _ _ _) | (with_reducible refine Below.allocS ?_ _) | (with_reducible refine Below.moreS ?_ _) | (with_reducible refine Below.drew ?_)))) ?_
            clear hK K
            try simp only [Act.put, List.getElem_toArray, List.getElem_cons_succ, List.getElem_cons_zero, List.setIfInBounds_toArray, List.set_cons_zero, List.set_cons_succ]
            refine grown_take 7 (v := ?_) rfl (by kernel_rfl) (by kernel_rfl) (by kernel_rfl) (fun _ _ _ h => h) (Or.inl ⟨by first | kernel_rfl | rfl, ?_⟩) ?_
            rotate_left
            · intro wS hSw; have hSc := hSw.cell; clear hSw; go_simp; try with_reducible rfl
            try simp only [Act.put, List.getElem_toArray, List.getElem_cons_succ, List.getElem_cons_zero, List.setIfInBounds_toArray, List.set_cons_zero, List.set_cons_succ]
            refine wpAnyH_done (by kernel_rfl) ?_ _
            rw [HWDE.out]
            go_wp2_with fail
            go_roundg (4 - (p + 1))
            case measure => have := HPG.out; omega
            case rel =>
              refine ⟨p + 1, kB, by have := HPG.out; omega, by go_num, by rw [if_pos (by omega)], ?_, ?_⟩
              · have h3 := (HTV.out.set 7 (v := .int .i64 ((p : Int) + 1)) nofun).below (W' := _) (Below.moreS (Below.refl _ _) j1)
                rw [← HGX.out] at h3
                rw [hkk]
                exact h3
              · exact HGV.out.trans ((gm_set _).trans (gm_below (Below.moreS (Below.refl _ _) _)))
          case neg =>
            have e1 : (T == sv) = false := by rw [hke]; simpa using hkk
            clear hke
            go_wp2_with fail
            refine grown_start (by kernel_rfl) ?_
            obtain ⟨wd, hwd⟩ : ∃ wd, wd = wr.drew := ⟨_, rfl⟩
            rw [← hwd]
            have HGD : Hid (Gm gx w4 wd) := by show Gm _ _ _; rw [hwd]; exact HGV.out.trans (gm_below (Below.drew (Below.refl _ _)))
            have HWDE := Lib.hid hwd
            clear hwd
            refine grown_take 1 (v := ?_) rfl (by kernel_rfl) (by kernel_rfl) (by kernel_rfl) (fun _ _ _ h => h) (Or.inl ⟨by first | kernel_rfl | rfl, ?_⟩) ?_
            rotate_left
            · intro wS hSw; have hSc := hSw.cell; clear hSw; go_simp; try with_reducible rfl
            try simp only [Act.put, List.getElem_toArray, List.getElem_cons_succ, List.getElem_cons_zero, List.setIfInBounds_toArray, List.set_cons_zero, List.set_cons_succ]
            refine grown_take 2 (v := ?_) rfl (by kernel_rfl) (by kernel_rfl) (by kernel_rfl) (fun _ _ _ h => h) (Or.inl ⟨by first | kernel_rfl | rfl, ?_⟩) ?_
            rotate_left
            · intro wS hSw; have hSc := hSw.cell; clear hSw; go_simp; try with_reducible rfl
            try simp only [Act.put, List.getElem_toArray, List.getElem_cons_succ, List.getElem_cons_zero, List.setIfInBounds_toArray, List.set_cons_zero, List.set_cons_succ]
            refine grown_take 5 (v := ?_) rfl (by kernel_rfl) (by kernel_rfl) (by kernel_rfl) (fun _ _ _ h => h) (Or.inl ⟨by first | kernel_rfl | rfl, ?_⟩) ?_
            rotate_left
            · intro wS hSw; have hSc := hSw.cell; clear hSw; go_simp; try with_reducible rfl
            try simp only [Act.put, List.getElem_toArray, List.getElem_cons_succ, List.getElem_cons_zero, List.setIfInBounds_toArray, List.set_cons_zero, List.set_cons_succ]
            refine grown_step 0 (by kernel_rfl) rfl (fun K hK => ?_)
            go_simp
            go_wp2_with fail
            refine (HKD.out _).mono ?_
            rintro e w' ⟨rfl, hcell, hlt3, j1, rfl⟩
            simp only [World.size_more] at hlt3
            have hj1 : 0 < j1.heap.size := by omega
            go_wp2_with fail
            refine hK.out _ _ (show Below _ _ _ from (by (try (with_reducible refine grown_undrew ?_)); repeat (first | (with_reducible exact Below.refl _ _) | (with_reducible exact grown_merge _ _ _ _) | (with_reducible exact grown_merge2 _ _ _ _ _ _) | (with_reducible exact grown_merge3 _ _ _ _ _ _ _) | (with_reducible refine Below.allocS ?_ _) | (with_reducible refine Below.moreS ?_ _) | (with_reducible refine Below.drew ?_)))) ?_
            clear hK K
            try simp only [Act.put, List.getElem_toArray, List.getElem_cons_succ, List.getElem_cons_zero, List.setIfInBounds_toArray, List.set_cons_zero, List.set_cons_succ]
            refine grown_take 3 (v := ?_) rfl (by kernel_rfl) (by kernel_rfl) (by kernel_rfl) (fun _ _ _ h => h) (Or.inl ⟨by first | kernel_rfl | rfl, ?_⟩) ?_
            rotate_left
            · intro wS hSw; have hSc := hSw.cell; clear hSw; go_simp; try with_reducible rfl
            try simp only [Act.put, List.getElem_toArray, List.getElem_cons_succ, List.getElem_cons_zero, List.setIfInBounds_toArray, List.set_cons_zero, List.set_cons_succ]
            refine grown_take 4 (v := ?_) rfl (by kernel_rfl) (by kernel_rfl) (by kernel_rfl) (fun _ _ _ h => h) (Or.inl ⟨by first | kernel_rfl | rfl, ?_⟩) ?_
            rotate_left
            · intro wS hSw; have hSc := hSw.cell; clear hSw; go_simp; try with_reducible rfl
            try simp only [Act.put, List.getElem_toArray, List.getElem_cons_succ, List.getElem_cons_zero, List.setIfInBounds_toArray, List.set_cons_zero, List.set_cons_succ]
            refine grown_step 6 (by kernel_rfl) rfl (fun K hK => ?_)
            go_simp
            go_wp2_with fail
            refine (HWD.out _ (HVV.out _ (HGD.out.trans (gm_below (by repeat (first | (with_reducible exact Below.refl _ _) | (with_reducible refine Below.allocS ?_ _) | (with_reducible refine Below.moreS ?_ _) | (with_reducible refine Below.drew ?_) | (with_reducible refine below_drewN ?_ _))))))).mono ?_
            rintro e w' ⟨rfl, rfl⟩
            go_wp2_with fail
            refine hK.out _ _ (show Below _ _ _ from (by (try (with_reducible refine grown_undrew ?_)); repeat (first | (with_reducible exact Below.refl _ _) | (with_reducible exact grown_merge _ _ _ _) | (with_reducible exact grown_merge2 _ _ _ _ _ _) | (with_reducible exact grown_merge3 _ _ _ _ _ _ _) | (with_reducible refine Below.allocS ?_ _) | (with_reducible refine Below.moreS ?_ _) | (with_reducible refine Below.drew ?_)))) ?_
            clear hK K
            try simp only [Act.put, List.getElem_toArray, List.getElem_cons_succ, List.getElem_cons_zero, List.setIfInBounds_toArray, List.set_cons_zero, List.set_cons_succ]
            refine grown_take 7 (v := ?_) rfl (by kernel_rfl) (by kernel_rfl) (by kernel_rfl) (fun _ _ _ h => h) (Or.inl ⟨by first | kernel_rfl | rfl, ?_⟩) ?_
            rotate_left
            · intro wS hSw; have hSc := hSw.cell; clear hSw; go_simp; try with_reducible rfl
            try simp only [Act.put, List.getElem_toArray, List.getElem_cons_succ, List.getElem_cons_zero, List.setIfInBounds_toArray, List.set_cons_zero, List.set_cons_succ]
            refine wpAnyH_done (by kernel_rfl) ?_ _
            rw [HWDE.out]
            go_wp2_with fail
            go_roundg (4 - (p + 1))
            case measure => have := HPG.out; omega
            case rel =>
              exact ⟨p + 1, vq, by have := HPG.out; omega, by go_num, by rw [hvq]; split <;> split <;> omega, HTV.out.below (by repeat (first | (with_reducible exact Below.refl _ _) | (with_reducible refine Below.allocS ?_ _) | (with_reducible refine Below.moreS ?_ _) | (with_reducible refine Below.drew ?_) | (with_reducible refine below_drewN ?_ _))), HGV.out.trans (gm_below (by repeat (first | (with_reducible exact Below.refl _ _) | (with_reducible refine Below.allocS ?_ _) | (with_reducible refine Below.moreS ?_ _) | (with_reducible refine Below.drew ?_) | (with_reducible refine below_drewN ?_ _))))⟩
        · have hv : vq = kB := by rw [hvq, if_pos (by omega)]
          have HTV2 : Hid (RzS w1 #[.int .i64 k0, .int .i64 k1, .int .i64 k2, .int .i64 k3, .int .i64 k4, .int .i64 k5, .slice a7 n c7, .int .i64 kB, .int .i64 0, .slice none 0 0, .slice none 0 0, .int .i64 0, .int .i64 0] wr) := by show RzS _ _ _; rw [← hv]; exact HTV.out
          have hp5 : ¬ (p : Int) + 1 ≤ 4 := by omega
          clear hv hvq hTv hGv hpg HTV
          have z8 : wr.cell? ⟨gx, 8, none⟩ = some (.int .i64 0) := by rw [HGX.out]; exact HTV2.out.bx.cell 8
          have y8 : wr.frozen? ⟨gx, 8, none⟩ = false := by rw [HGX.out]; exact HTV2.out.bx.frozen 8
          have hbg : ¬ bL = gx := by have := HGX.out; omega
          have hbg2 : ¬ gx = bL := by have := HGX.out; omega
          have cq5 : wr.cell? ⟨bL, oL + (4 + n), none⟩ = some (bstr (atD L (4 + n))) := (Below.cell (p := ⟨bL, _, none⟩) HTV2.out.bl hbL).trans (HCL.out _ (by omega))
          have hbq5 : bL < wr.heap.size := Nat.lt_of_lt_of_le hbL (Below.size HTV2.out.bl)
          have wq5 : IntKind.i64.wrap (4 + (n : Int)) = 4 + n := IntWalk.i64_in _ (by omega)
          have tq5 : (4 + (n : Int)).toNat = 4 + n := by omega
          have lq5 : (4 + (n : Int)) < (n : Int) + 7 := by omega
          have pq5 : ¬ (4 + (n : Int)) < 0 := by omega
          have hlq5 := HLX.out (4 + n)
          have HT5 : Hid (∀ J, RzS w1 #[.int .i64 k0, .int .i64 k1, .int .i64 k2, .int .i64 k3, .int .i64 k4, .int .i64 k5, .slice a7 n c7, .int .i64 kB, .int .i64 t8, .slice none 0 0, .slice none 0 0, .int .i64 0, .int .i64 0] ((wr.setCell ⟨gx, 8, none⟩ (.int .i64 t8)).more J)) := fun J => by
            have h3 := (HTV2.out.set 8 (v := .int .i64 t8) nofun).below (W' := _) (Below.moreS (Below.refl _ _) J)
            rw [← HGX.out] at h3
            exact h3
          go_wp2_with (go_at_call 53; (with_reducible refine (HNT8.out _ (HVV.out _ HGV.out)).mono ?_); rintro e w' ⟨rfl, j, rfl⟩)
          refine (HSP.out _ _ hlq5).mono ?_
          rintro e w5 ⟨af, cf, rfl, hsf, hb5⟩
          have HT5w := Lib.hid (RzS.below (HT5.out _) hb5)
          have HG5 : Hid (Gm gx w4 w5) := HGV.out.trans ((gm_set _).trans ((gm_below (Below.moreS (Below.refl _ _) _)).trans (gm_below hb5)))
          obtain ⟨hF1, hF2⟩ := split_small hlq5
          have HWF : Hid (Calls Tryz.prog 55 #[.slice af (splitF (atD L (4 + n))).1.length cf, .int .i64 1] w5 fun e w' => e = .returned (bstr (atD (spR L (4 + n)) 1)) ∧ w5 = w') := ref43_word af cf (splitF (atD L (4 + n))).1 1 (by omega) (by omega) w5 hsf
          have hFl : (atD (spR L (4 + n)) 1).length ≤ 3000 := atD_le hF2
          have HRF : Hid (Calls Tryz.prog 56 #[bstr (atD (spR L (4 + n)) 1)] w5 fun e w' => ∃ a cap, e = .returned (.tuple #[.slice a (setW (atD (spR L (4 + n)) 1)).1.length cap, .bool (setW (atD (spR L (4 + n)) 1)).2]) ∧ SlFl w' w'.heap.size a (setW (atD (spR L (4 + n)) 1)).1 ∧ (∀ p, a = some p → w5.heap.size ≤ p.block) ∧ Below w5.heap.size w5 w') := ref09_ReadSetN _ (by omega) w5
          have hfl := Nat.le_trans (setW_le (atD (spR L (4 + n)) 1)) (Nat.succ_le_succ hFl)
          obtain ⟨FS, hFS⟩ : ∃ F, F = setW (atD (spR L (4 + n)) 1) := ⟨_, rfl⟩
          rw [← hFS] at HRF hfl
          have HFS := Lib.hid hFS
          obtain ⟨fl, fb⟩ := FS
          simp only at HRF hfl
          generalize atD (spR L (4 + n)) 1 = sf at HWF HRF
          generalize (splitF (atD L (4 + n))).1.length = nf0 at HWF ⊢
          have hx5 : gx < w5.heap.size := by rw [HGX.out]; exact HT5w.out.bx.lt
          clear hsf hb5 hF1 hF2 hFl hFS cq5 hbq5 wq5 tq5 lq5 pq5 hlq5 z8 y8 HT5 HTV2 HNT8 HWD HVV
          simp only
          go_wp2_with (go_at_call 55; (with_reducible refine (HWF.out).mono ?_); rintro e w' ⟨rfl, rfl⟩)
          refine HRF.out.mono ?_
          rintro e w6 ⟨fa, fc, rfl, hfr, hnf, hb6⟩
          have HT6w := Lib.hid (HT5w.out.below hb6)
          have HG6 : Hid (Gm gx w4 w6) := HG5.out.trans (gm_below hb6)
          have HNF : Hid (∀ q : Addr, fa = some q → gx < q.block) := fun q hq => by have := hnf q hq; omega
          have HFR := Lib.hid hfr
          have z9 : w6.cell? ⟨gx, 9, none⟩ = some (.slice none 0 0) := by rw [HGX.out]; exact HT6w.out.bx.cell 9
          have y9 : w6.frozen? ⟨gx, 9, none⟩ = false := by rw [HGX.out]; exact HT6w.out.bx.frozen 9
          have hx6 : gx < w6.heap.size := by rw [HGX.out]; exact HT6w.out.bx.lt
          clear hfr hnf hb6 HWF HRF hx5 HT5w HG5 hxv
          have cq6 : w6.cell? ⟨bL, oL + (5 + n), none⟩ = some (bstr (atD L (5 + n))) := (Below.cell (p := ⟨bL, _, none⟩) HT6w.out.bl hbL).trans (HCL.out _ (by omega))
          have hbq6 : bL < w6.heap.size := Nat.lt_of_lt_of_le hbL (Below.size HT6w.out.bl)
          have wq6 : IntKind.i64.wrap (5 + (n : Int)) = 5 + n := IntWalk.i64_in _ (by omega)
          have tq6 : (5 + (n : Int)).toNat = 5 + n := by omega
          have lq6 : (5 + (n : Int)) < (n : Int) + 7 := by omega
          have pq6 : ¬ (5 + (n : Int)) < 0 := by omega
          have hlq6 := HLX.out (5 + n)
          simp only
          go_wp2_with fail
          have HT6s : Hid (RzS w1 #[.int .i64 k0, .int .i64 k1, .int .i64 k2, .int .i64 k3, .int .i64 k4, .int .i64 k5, .slice a7 n c7, .int .i64 kB, .int .i64 t8, .slice fa fl.length fc, .slice none 0 0, .int .i64 0, .int .i64 0] (w6.setCell ⟨gx, 9, none⟩ (.slice fa fl.length fc))) := by
            have h3 := HT6w.out.set 9 (v := .slice fa fl.length fc) nofun
            rw [← HGX.out] at h3
            exact h3
          refine (HSP.out _ _ hlq6).mono ?_
          rintro e w7 ⟨ar, cr, rfl, hsr, hb7⟩
          have HT7w := Lib.hid (RzS.below HT6s.out hb7)
          have HF7 : Hid (Gm gx w6 w7) := (gm_set _).trans (gm_below hb7)
          have HG7 : Hid (Gm gx w4 w7) := HG6.out.trans HF7.out
          obtain ⟨hR1, hR2⟩ := split_small hlq6
          have HWR : Hid (Calls Tryz.prog 55 #[.slice ar (splitF (atD L (5 + n))).1.length cr, .int .i64 1] w7 fun e w' => e = .returned (bstr (atD (spR L (5 + n)) 1)) ∧ w7 = w') := ref43_word ar cr (splitF (atD L (5 + n))).1 1 (by omega) (by omega) w7 hsr
          have hRl : (atD (spR L (5 + n)) 1).length ≤ 3000 := atD_le hR2
          have HRR : Hid (Calls Tryz.prog 57 #[bstr (atD (spR L (5 + n)) 1)] w7 fun e w' => ∃ a cap, e = .returned (.tuple #[.slice a (setRD (atD (spR L (5 + n)) 1)).1.length cap, .bool (setRD (atD (spR L (5 + n)) 1)).2]) ∧ SlI w' w'.heap.size a (setRD (atD (spR L (5 + n)) 1)).1 ∧ (∀ p, a = some p → w7.heap.size ≤ p.block) ∧ Below w7.heap.size w7 w') := ref38_ReadSetN _ (by omega) w7
          have hul := Nat.le_trans (setRD_len (atD (spR L (5 + n)) 1)) (Nat.succ_le_succ hRl)
          obtain ⟨US, hUS⟩ : ∃ F, F = setRD (atD (spR L (5 + n)) 1) := ⟨_, rfl⟩
          rw [← hUS] at HRR hul
          have HUS := Lib.hid hUS
          obtain ⟨ul, ub⟩ := US
          simp only at HRR hul
          generalize atD (spR L (5 + n)) 1 = su at HWR HRR
          generalize (splitF (atD L (5 + n))).1.length = nu0 at HWR ⊢
          have hx7 : gx < w7.heap.size := by rw [HGX.out]; exact HT7w.out.bx.lt
          clear hsr hb7 hR1 hR2 hRl hUS cq6 hbq6 wq6 tq6 lq6 pq6 hlq6 z9 y9 HT6w HT6s HG6 hx6
          simp only
          go_wp2_with (go_at_call 55; (with_reducible refine (HWR.out).mono ?_); rintro e w' ⟨rfl, rfl⟩)
          refine HRR.out.mono ?_
          rintro e w8 ⟨ua, uc, rfl, hur, hnu, hb8⟩
          have HT8w := Lib.hid (HT7w.out.below hb8)
          have HF8 : Hid (Gm gx w6 w8) := HF7.out.trans (gm_below hb8)
          have HG8 : Hid (Gm gx w4 w8) := HG7.out.trans (gm_below hb8)
          have HNU : Hid (∀ q : Addr, ua = some q → gx < q.block) := fun q hq => by have := hnu q hq; omega
          have HUR := Lib.hid hur
          have z10 : w8.cell? ⟨gx, 10, none⟩ = some (.slice none 0 0) := by rw [HGX.out]; exact HT8w.out.bx.cell 10
          have y10 : w8.frozen? ⟨gx, 10, none⟩ = false := by rw [HGX.out]; exact HT8w.out.bx.frozen 10
          have hx8 : gx < w8.heap.size := by rw [HGX.out]; exact HT8w.out.bx.lt
          clear hur hnu hb8 HWR HRR hx7 HT7w HG7 HF7
          have cq7 : w8.cell? ⟨bL, oL + (6 + n), none⟩ = some (bstr (atD L (6 + n))) := (Below.cell (p := ⟨bL, _, none⟩) HT8w.out.bl hbL).trans (HCL.out _ (by omega))
          have hbq7 : bL < w8.heap.size := Nat.lt_of_lt_of_le hbL (Below.size HT8w.out.bl)
          have wq7 : IntKind.i64.wrap (6 + (n : Int)) = 6 + n := IntWalk.i64_in _ (by omega)
          have tq7 : (6 + (n : Int)).toNat = 6 + n := by omega
          have lq7 : (6 + (n : Int)) < (n : Int) + 7 := by omega
          have pq7 : ¬ (6 + (n : Int)) < 0 := by omega
          have hlq7 := HLX.out (6 + n)
          simp only
          go_wp2_with fail
          have HT8s : Hid (RzS w1 #[.int .i64 k0, .int .i64 k1, .int .i64 k2, .int .i64 k3, .int .i64 k4, .int .i64 k5, .slice a7 n c7, .int .i64 kB, .int .i64 t8, .slice fa fl.length fc, .slice ua ul.length uc, .int .i64 0, .int .i64 0] (w8.setCell ⟨gx, 10, none⟩ (.slice ua ul.length uc))) := by
            have h3 := HT8w.out.set 10 (v := .slice ua ul.length uc) nofun
            rw [← HGX.out] at h3
            exact h3
          refine (HSP.out _ _ hlq7).mono ?_
          rintro e w9 ⟨aj, cj, rfl, hsj, hb9⟩
          have HT9w := Lib.hid (RzS.below HT8s.out hb9)
          have HH9 : Hid (Gm gx w8 w9) := (gm_set _).trans (gm_below hb9)
          have HF9 : Hid (Gm gx w6 w9) := HF8.out.trans HH9.out
          have HG9 : Hid (Gm gx w4 w9) := HG8.out.trans HH9.out
          obtain ⟨hJ1, hJ2⟩ := split_small hlq7
          have HM1 : Hid (∀ W, Below w9.heap.size w9 W → Calls Tryz.prog 53 #[.slice aj (splitF (atD L (6 + n))).1.length cj, .int .i64 1] W fun e w' => e = .returned (.int .i64 (nmR (spR L (6 + n)) 1)) ∧ ∃ j, w' = W.more j) := fun W hW => ref43_number aj cj (splitF (atD L (6 + n))).1 1 (by omega) (fun x hx => by have := hJ2 x hx; omega) (by omega) W ((hsj.below hW (Nat.le_refl _)).mono hW.size (fun _ _ _ h => h))
          have HM2 : Hid (∀ W, Below w9.heap.size w9 W → Calls Tryz.prog 53 #[.slice aj (splitF (atD L (6 + n))).1.length cj, .int .i64 2] W fun e w' => e = .returned (.int .i64 (nmR (spR L (6 + n)) 2)) ∧ ∃ j, w' = W.more j) := fun W hW => ref43_number aj cj (splitF (atD L (6 + n))).1 2 (by omega) (fun x hx => by have := hJ2 x hx; omega) (by omega) W ((hsj.below hW (Nat.le_refl _)).mono hW.size (fun _ _ _ h => h))
          obtain ⟨m0, hm0⟩ : ∃ k, k = nmR (spR L (6 + n)) 1 := ⟨_, rfl⟩
          obtain ⟨m1, hm1⟩ : ∃ k, k = nmR (spR L (6 + n)) 2 := ⟨_, rfl⟩
          rw [← hm0] at HM1
          rw [← hm1] at HM2
          have HME := Lib.hid (And.intro hm0 hm1)
          have hmg : goodI t8 ∧ goodI m0 ∧ goodI m1 := ⟨by rw [HT8.out]; exact nm_good _ _, by rw [hm0]; exact nm_good _ _, by rw [hm1]; exact nm_good _ _⟩
          have HMG := Lib.hid hmg
          have HXX : Hid (mkR L n out = ⟨k0, k1, k2, k3, k4, k5, out, kB, t8, fl, ul, m0, m1⟩) := by
            show _ = _
            obtain ⟨e0, e1, e2, e3, e4, e5⟩ := HK.out
            unfold mkR
            rw [← e0, ← e1, ← e2, ← e3, ← e4, ← e5, ← HKB.out, ← HT8.out, ← HFS.out, ← HUS.out, ← hm0, ← hm1]
          generalize (splitF (atD L (6 + n))).1.length = nj at HM1 HM2 ⊢
          clear hsj hb9 hJ1 hJ2 hm0 hm1 hmg cq7 hbq7 wq7 tq7 lq7 pq7 hlq7 z10 y10 HT8w HT8s HG8 HF8 hx8
          have z0 : w9.cell? ⟨gx, 0, none⟩ = some (.int .i64 k0) := by rw [HGX.out]; exact HT9w.out.bx.cell 0
          have z1 : w9.cell? ⟨gx, 1, none⟩ = some (.int .i64 k1) := by rw [HGX.out]; exact HT9w.out.bx.cell 1
          have z2 : w9.cell? ⟨gx, 2, none⟩ = some (.int .i64 k2) := by rw [HGX.out]; exact HT9w.out.bx.cell 2
          have z3 : w9.cell? ⟨gx, 3, none⟩ = some (.int .i64 k3) := by rw [HGX.out]; exact HT9w.out.bx.cell 3
          have z4 : w9.cell? ⟨gx, 4, none⟩ = some (.int .i64 k4) := by rw [HGX.out]; exact HT9w.out.bx.cell 4
          have z5 : w9.cell? ⟨gx, 5, none⟩ = some (.int .i64 k5) := by rw [HGX.out]; exact HT9w.out.bx.cell 5
          have z6 : w9.cell? ⟨gx, 6, none⟩ = some (.slice a7 n c7) := by rw [HGX.out]; exact HT9w.out.bx.cell 6
          have z7 : w9.cell? ⟨gx, 7, none⟩ = some (.int .i64 kB) := by rw [HGX.out]; exact HT9w.out.bx.cell 7
          have z8 : w9.cell? ⟨gx, 8, none⟩ = some (.int .i64 t8) := by rw [HGX.out]; exact HT9w.out.bx.cell 8
          have z9 : w9.cell? ⟨gx, 9, none⟩ = some (.slice fa fl.length fc) := by rw [HGX.out]; exact HT9w.out.bx.cell 9
          have z10 : w9.cell? ⟨gx, 10, none⟩ = some (.slice ua ul.length uc) := by rw [HGX.out]; exact HT9w.out.bx.cell 10
          have z11 : w9.cell? ⟨gx, 11, none⟩ = some (.int .i64 0) := by rw [HGX.out]; exact HT9w.out.bx.cell 11
          have y11 : w9.frozen? ⟨gx, 11, none⟩ = false := by rw [HGX.out]; exact HT9w.out.bx.frozen 11
          have z12 : w9.cell? ⟨gx, 12, none⟩ = some (.int .i64 0) := by rw [HGX.out]; exact HT9w.out.bx.cell 12
          have y12 : w9.frozen? ⟨gx, 12, none⟩ = false := by rw [HGX.out]; exact HT9w.out.bx.frozen 12
          have hx9 : gx < w9.heap.size := by rw [HGX.out]; exact HT9w.out.bx.lt
          simp only
          go_wp2_with (first | (go_at_call 53; (with_reducible refine (HM1.out _ (by repeat (first | (with_reducible exact Below.refl _ _) | (with_reducible refine Below.allocS ?_ _) | (with_reducible refine Below.moreS ?_ _) | (with_reducible refine Below.drew ?_) | (with_reducible refine below_drewN ?_ _)))).mono ?_); rintro e w' ⟨rfl, j1, rfl⟩) | (go_at_call 53; (with_reducible refine (HM2.out _ (by repeat (first | (with_reducible exact Below.refl _ _) | (with_reducible refine Below.allocS ?_ _) | (with_reducible refine Below.moreS ?_ _) | (with_reducible refine Below.drew ?_) | (with_reducible refine below_drewN ?_ _)))).mono ?_); rintro e w' ⟨rfl, j2, rfl⟩))
          obtain ⟨w10, hw10⟩ : ∃ w10, w10 = ((w9.setCell ⟨gx, 11, none⟩ (.int .i64 m0)).setCell ⟨gx, 12, none⟩ (.int .i64 m1)).more ⟨j1.heap ++ j2.heap, j2.drawn⟩ := ⟨_, rfl⟩
          rw [← hw10]
          have HTA : Hid (RzS w1 #[.int .i64 k0, .int .i64 k1, .int .i64 k2, .int .i64 k3, .int .i64 k4, .int .i64 k5, .slice a7 n c7, .int .i64 kB, .int .i64 t8, .slice fa fl.length fc, .slice ua ul.length uc, .int .i64 m0, .int .i64 m1] w10) := by
            show RzS _ _ _
            have h3 := ((HT9w.out.set 11 (v := .int .i64 m0) nofun).set 12 (v := .int .i64 m1) nofun).below (W' := _) (Below.moreS (Below.refl _ _) ⟨j1.heap ++ j2.heap, j2.drawn⟩)
            rw [← HGX.out] at h3
            rw [hw10]
            exact h3
          have HHA : Hid (Gm gx w9 w10) := by show Gm _ _ _; rw [hw10]; exact (gm_set _).trans ((gm_set _).trans (gm_below (Below.moreS (Below.refl _ _) _)))
          have HSA : Hid (SlRc w10 w10.heap.size a7 out) := slR_off HS4.out (fun q hq => by have := HNR.out q hq; omega) (HG9.out.trans HHA.out)
          have HFA : Hid (SlFl w10 w10.heap.size fa fl) := slR_off HFR.out (fun q hq => by have := HNF.out q hq; omega) (HF9.out.trans HHA.out)
          have HUA : Hid (SlI w10 w10.heap.size ua ul) := slR_off HUR.out (fun q hq => by have := HNU.out q hq; omega) (HH9.out.trans HHA.out)
          clear hw10 HM1 HM2 z0 z1 z2 z3 z4 z5 z6 z7 z8 z9 z10 z11 z12 y11 y12 hx9 HT9w HHA HG9 HF9 HH9
          have HRT : Hid (Calls Tryz.prog 12 #[.agg #[.int .i64 k0, .int .i64 k1, .int .i64 k2, .int .i64 k3, .int .i64 k4, .int .i64 k5, .slice a7 n c7, .int .i64 kB, .int .i64 t8, .slice fa fl.length fc, .slice ua ul.length uc, .int .i64 m0, .int .i64 m1]] w10 fun e w' => e = .returned (.bool (rightD ⟨k0, k1, k2, k3, k4, k5, out, kB, t8, fl, ul, m0, m1⟩)) ∧ ∃ j, w' = w10.more j) := by
            have := ref43_Right k0 k1 k2 k3 k4 k5 a7 out c7 kB t8 fa fl fc ua ul uc m0 m1 (by have := HOK.out; omega) (by omega) (by omega) w10 HSA.out HFA.out HUA.out
            rw [HOK.out] at this
            exact this
          have HTT : Hid (rightD ⟨k0, k1, k2, k3, k4, k5, out, kB, t8, fl, ul, m0, m1⟩ = true → ∀ W, Below w10.heap.size w10 W → Calls Tryz.prog 14 #[.agg #[.int .i64 k0, .int .i64 k1, .int .i64 k2, .int .i64 k3, .int .i64 k4, .int .i64 k5, .slice a7 n c7, .int .i64 kB, .int .i64 t8, .slice fa fl.length fc, .slice ua ul.length uc, .int .i64 m0, .int .i64 m1]] W fun e w' => e = .returned (bstr (textD ⟨k0, k1, k2, k3, k4, k5, out, kB, t8, fl, ul, m0, m1⟩)) ∧ ∃ j, w' = W.more j) := fun hR W hW => by
            have := ref43_Text k0 k1 k2 k3 k4 k5 a7 out c7 kB t8 fa fl fc ua ul uc m0 m1 (by have := HOK.out; omega) (by omega) (by omega) HMG.out.1 HMG.out.2.1 HMG.out.2.2 W (SlRc.keep HSA.out hW) (SlFl.keep HFA.out hW) ((HUA.out.below hW (Nat.le_refl _)).mono hW.size (fun _ _ _ h => h)) hR
            rw [HOK.out] at this
            exact this
          refine HRT.out.mono ?_
          rintro e w' ⟨rfl, j3, rfl⟩
          obtain ⟨wx, hwx⟩ : ∃ wx, wx = w10.more j3 := ⟨_, rfl⟩
          rw [← hwx]
          have HBX : Hid (Below w10.heap.size w10 wx) := by show Below _ _ _; rw [hwx]; exact (by repeat (first | (with_reducible exact Below.refl _ _) | (with_reducible refine Below.allocS ?_ _) | (with_reducible refine Below.moreS ?_ _) | (with_reducible refine Below.drew ?_) | (with_reducible refine below_drewN ?_ _)))
          have HTX := Lib.hid (HTA.out.below HBX.out)
          clear hwx HRT HTA
          have z0 : wx.cell? ⟨gx, 0, none⟩ = some (.int .i64 k0) := by rw [HGX.out]; exact HTX.out.bx.cell 0
          have z1 : wx.cell? ⟨gx, 1, none⟩ = some (.int .i64 k1) := by rw [HGX.out]; exact HTX.out.bx.cell 1
          have z2 : wx.cell? ⟨gx, 2, none⟩ = some (.int .i64 k2) := by rw [HGX.out]; exact HTX.out.bx.cell 2
          have z3 : wx.cell? ⟨gx, 3, none⟩ = some (.int .i64 k3) := by rw [HGX.out]; exact HTX.out.bx.cell 3
          have z4 : wx.cell? ⟨gx, 4, none⟩ = some (.int .i64 k4) := by rw [HGX.out]; exact HTX.out.bx.cell 4
          have z5 : wx.cell? ⟨gx, 5, none⟩ = some (.int .i64 k5) := by rw [HGX.out]; exact HTX.out.bx.cell 5
          have z6 : wx.cell? ⟨gx, 6, none⟩ = some (.slice a7 n c7) := by rw [HGX.out]; exact HTX.out.bx.cell 6
          have z7 : wx.cell? ⟨gx, 7, none⟩ = some (.int .i64 kB) := by rw [HGX.out]; exact HTX.out.bx.cell 7
          have z8 : wx.cell? ⟨gx, 8, none⟩ = some (.int .i64 t8) := by rw [HGX.out]; exact HTX.out.bx.cell 8
          have z9 : wx.cell? ⟨gx, 9, none⟩ = some (.slice fa fl.length fc) := by rw [HGX.out]; exact HTX.out.bx.cell 9
          have z10 : wx.cell? ⟨gx, 10, none⟩ = some (.slice ua ul.length uc) := by rw [HGX.out]; exact HTX.out.bx.cell 10
          have z11 : wx.cell? ⟨gx, 11, none⟩ = some (.int .i64 m0) := by rw [HGX.out]; exact HTX.out.bx.cell 11
          have z12 : wx.cell? ⟨gx, 12, none⟩ = some (.int .i64 m1) := by rw [HGX.out]; exact HTX.out.bx.cell 12
          have hx9 : gx < wx.heap.size := by rw [HGX.out]; exact HTX.out.bx.lt
          have HRE2 : Hid (R = if rightD ⟨k0, k1, k2, k3, k4, k5, out, kB, t8, fl, ul, m0, m1⟩ = true ∧ textD ⟨k0, k1, k2, k3, k4, k5, out, kB, t8, fl, ul, m0, m1⟩ = s then (⟨k0, k1, k2, k3, k4, k5, out, kB, t8, fl, ul, m0, m1⟩, true) else (zRpt, false)) := by show _ = _; rw [HRE.out, HXX.out]; rfl
          obtain ⟨rr, hrr⟩ : ∃ b, b = rightD ⟨k0, k1, k2, k3, k4, k5, out, kB, t8, fl, ul, m0, m1⟩ := ⟨_, rfl⟩
          rw [← hrr] at HTT HRE2 ⊢
          clear HRE HXX hrr
          generalize textD ⟨k0, k1, k2, k3, k4, k5, out, kB, t8, fl, ul, m0, m1⟩ = T at HTT HRE2
          cases rr
          case false =>
            clear HTT
            obtain rfl : R = (zRpt, false) := by rw [HRE2.out, if_neg (by simp)]
            have hzb := HBAD.out wx HTX.out.bl
            have hzl := hzb.1.lt
            have r0 : wx.cell? ⟨w.heap.size, 0, none⟩ = some (.int .i64 0) := hzb.1.cell 0
            have e0 := hzb.1.frozen 0
            have r1 : wx.cell? ⟨w.heap.size, 1, none⟩ = some (.int .i64 0) := hzb.1.cell 1
            have e1 := hzb.1.frozen 1
            have r2 : wx.cell? ⟨w.heap.size, 2, none⟩ = some (.int .i64 0) := hzb.1.cell 2
            have e2 := hzb.1.frozen 2
            have r3 : wx.cell? ⟨w.heap.size, 3, none⟩ = some (.int .i64 0) := hzb.1.cell 3
            have e3 := hzb.1.frozen 3
            have r4 : wx.cell? ⟨w.heap.size, 4, none⟩ = some (.int .i64 0) := hzb.1.cell 4
            have e4 := hzb.1.frozen 4
            have r5 : wx.cell? ⟨w.heap.size, 5, none⟩ = some (.int .i64 0) := hzb.1.cell 5
            have e5 := hzb.1.frozen 5
            have r6 : wx.cell? ⟨w.heap.size, 6, none⟩ = some (.slice none 0 0) := hzb.1.cell 6
            have e6 := hzb.1.frozen 6
            have r7 : wx.cell? ⟨w.heap.size, 7, none⟩ = some (.int .i64 0) := hzb.1.cell 7
            have e7 := hzb.1.frozen 7
            have r8 : wx.cell? ⟨w.heap.size, 8, none⟩ = some (.int .i64 0) := hzb.1.cell 8
            have e8 := hzb.1.frozen 8
            have r9 : wx.cell? ⟨w.heap.size, 9, none⟩ = some (.slice none 0 0) := hzb.1.cell 9
            have e9 := hzb.1.frozen 9
            have r10 : wx.cell? ⟨w.heap.size, 10, none⟩ = some (.slice none 0 0) := hzb.1.cell 10
            have e10 := hzb.1.frozen 10
            have r11 : wx.cell? ⟨w.heap.size, 11, none⟩ = some (.int .i64 0) := hzb.1.cell 11
            have e11 := hzb.1.frozen 11
            have r12 : wx.cell? ⟨w.heap.size, 12, none⟩ = some (.int .i64 0) := hzb.1.cell 12
            have e12 := hzb.1.frozen 12
            go_wp2_with fail
            refine bodyPost_ret (res_cell_tmp (cs := #[.int .i64 0, .int .i64 0, .int .i64 0, .int .i64 0, .int .i64 0, .int .i64 0, .slice none 0 0, .int .i64 0, .int .i64 0, .slice none 0 0, .slice none 0 0, .int .i64 0, .int .i64 0]) rfl st_Rp rfl ((blk_put13 hzb.1)) rfl rfl) rfl ?_
            exact ⟨none, 0, none, 0, none, 0, rfl, .nil, .nil, .nil, (below_put13 hzb.2 (Nat.le_refl _))⟩
          have HTY := Lib.hid (fun W (hW : Below wx.heap.size wx W) => HTT.out rfl W (HBX.out.trans (hW.mono HBX.out.size)))
          clear HTT
          by_cases hts : T = s
          · have hq1 : (T == s) = true := by simpa using hts
            have hq2 : (T != s) = false := by simpa using hts
            obtain rfl : R = (⟨k0, k1, k2, k3, k4, k5, out, kB, t8, fl, ul, m0, m1⟩, true) := by rw [HRE2.out, if_pos ⟨rfl, hts⟩]
            clear hts HRE2
            have hzb := HBAD.out wx HTX.out.bl
            have hzl := hzb.1.lt
            have r0 : wx.cell? ⟨w.heap.size, 0, none⟩ = some (.int .i64 0) := hzb.1.cell 0
            have e0 := hzb.1.frozen 0
            have r1 : wx.cell? ⟨w.heap.size, 1, none⟩ = some (.int .i64 0) := hzb.1.cell 1
            have e1 := hzb.1.frozen 1
            have r2 : wx.cell? ⟨w.heap.size, 2, none⟩ = some (.int .i64 0) := hzb.1.cell 2
            have e2 := hzb.1.frozen 2
            have r3 : wx.cell? ⟨w.heap.size, 3, none⟩ = some (.int .i64 0) := hzb.1.cell 3
            have e3 := hzb.1.frozen 3
            have r4 : wx.cell? ⟨w.heap.size, 4, none⟩ = some (.int .i64 0) := hzb.1.cell 4
            have e4 := hzb.1.frozen 4
            have r5 : wx.cell? ⟨w.heap.size, 5, none⟩ = some (.int .i64 0) := hzb.1.cell 5
            have e5 := hzb.1.frozen 5
            have r6 : wx.cell? ⟨w.heap.size, 6, none⟩ = some (.slice none 0 0) := hzb.1.cell 6
            have e6 := hzb.1.frozen 6
            have r7 : wx.cell? ⟨w.heap.size, 7, none⟩ = some (.int .i64 0) := hzb.1.cell 7
            have e7 := hzb.1.frozen 7
            have r8 : wx.cell? ⟨w.heap.size, 8, none⟩ = some (.int .i64 0) := hzb.1.cell 8
            have e8 := hzb.1.frozen 8
            have r9 : wx.cell? ⟨w.heap.size, 9, none⟩ = some (.slice none 0 0) := hzb.1.cell 9
            have e9 := hzb.1.frozen 9
            have r10 : wx.cell? ⟨w.heap.size, 10, none⟩ = some (.slice none 0 0) := hzb.1.cell 10
            have e10 := hzb.1.frozen 10
            have r11 : wx.cell? ⟨w.heap.size, 11, none⟩ = some (.int .i64 0) := hzb.1.cell 11
            have e11 := hzb.1.frozen 11
            have r12 : wx.cell? ⟨w.heap.size, 12, none⟩ = some (.int .i64 0) := hzb.1.cell 12
            have e12 := hzb.1.frozen 12
            go_wp2_with (go_at_call 14; (with_reducible refine (HTY.out _ (by repeat (first | (with_reducible exact Below.refl _ _) | (with_reducible refine Below.allocS ?_ _) | (with_reducible refine Below.moreS ?_ _) | (with_reducible refine Below.drew ?_) | (with_reducible refine below_drewN ?_ _)))).mono ?_); rintro e w' ⟨rfl, j4, rfl⟩)
            have HG := gp_put13 (W := wx) (g := w.heap.size) (v0 := .int .i64 k0) (v1 := .int .i64 k1) (v2 := .int .i64 k2) (v3 := .int .i64 k3) (v4 := .int .i64 k4) (v5 := .int .i64 k5) (v6 := .slice a7 n c7) (v7 := .int .i64 kB) (v8 := .int .i64 t8) (v9 := .slice fa fl.length fc) (v10 := .slice ua ul.length uc) (v11 := .int .i64 m0) (v12 := .int .i64 m1)
            refine bodyPost_ret (res_cell_tmp (cs := #[.int .i64 k0, .int .i64 k1, .int .i64 k2, .int .i64 k3, .int .i64 k4, .int .i64 k5, .slice a7 n c7, .int .i64 kB, .int .i64 t8, .slice fa fl.length fc, .slice ua ul.length uc, .int .i64 m0, .int .i64 m1]) rfl st_Rp rfl ((blk_put13 hzb.1).more j4) rfl rfl) rfl ?_
            have g1 := slR_stayQ (SlRc.keep HSA.out HBX.out) (Nat.le_refl _) (fun q hq _ e => by have := HNR.out q hq; have e : q.block = w.heap.size := e; have := HGX.out; omega) HG
            have g2 := slR_stayQ (SlFl.keep HFA.out HBX.out) (Nat.le_refl _) (fun q hq _ e => by have := HNF.out q hq; have e : q.block = w.heap.size := e; have := HGX.out; omega) HG
            have g3 := slR_stayQ ((HUA.out.below HBX.out (Nat.le_refl _)).mono HBX.out.size (fun _ _ _ h => h)) (Nat.le_refl _) (fun q hq _ e => by have := HNU.out q hq; have e : q.block = w.heap.size := e; have := HGX.out; omega) HG
            refine ⟨a7, c7, fa, fc, ua, uc, by have ho := HOK.out; simp [ho], SlRc.keep (g1.mono HG.size (fun _ _ _ h => h)) (by repeat (first | (with_reducible exact Below.refl _ _) | (with_reducible refine Below.allocS ?_ _) | (with_reducible refine Below.moreS ?_ _) | (with_reducible refine Below.drew ?_) | (with_reducible refine below_drewN ?_ _))), SlFl.keep (g2.mono HG.size (fun _ _ _ h => h)) (by repeat (first | (with_reducible exact Below.refl _ _) | (with_reducible refine Below.allocS ?_ _) | (with_reducible refine Below.moreS ?_ _) | (with_reducible refine Below.drew ?_) | (with_reducible refine below_drewN ?_ _))), ((g3.mono HG.size (fun _ _ _ h => h)).below (by repeat (first | (with_reducible exact Below.refl _ _) | (with_reducible refine Below.allocS ?_ _) | (with_reducible refine Below.moreS ?_ _) | (with_reducible refine Below.drew ?_) | (with_reducible refine below_drewN ?_ _))) (Nat.le_refl _)).mono (by simp) (fun _ _ _ h => h), Below.moreS (below_put13 hzb.2 (Nat.le_refl _)) j4⟩
          · have hq1 : (T == s) = false := by simpa using hts
            have hq2 : (T != s) = true := by simpa using hts
            obtain rfl : R = (zRpt, false) := by rw [HRE2.out, if_neg (by simp [hts])]
            have hzb := HBAD.out wx HTX.out.bl
            have hzl := hzb.1.lt
            have r0 : wx.cell? ⟨w.heap.size, 0, none⟩ = some (.int .i64 0) := hzb.1.cell 0
            have e0 := hzb.1.frozen 0
            have r1 : wx.cell? ⟨w.heap.size, 1, none⟩ = some (.int .i64 0) := hzb.1.cell 1
            have e1 := hzb.1.frozen 1
            have r2 : wx.cell? ⟨w.heap.size, 2, none⟩ = some (.int .i64 0) := hzb.1.cell 2
            have e2 := hzb.1.frozen 2
            have r3 : wx.cell? ⟨w.heap.size, 3, none⟩ = some (.int .i64 0) := hzb.1.cell 3
            have e3 := hzb.1.frozen 3
            have r4 : wx.cell? ⟨w.heap.size, 4, none⟩ = some (.int .i64 0) := hzb.1.cell 4
            have e4 := hzb.1.frozen 4
            have r5 : wx.cell? ⟨w.heap.size, 5, none⟩ = some (.int .i64 0) := hzb.1.cell 5
            have e5 := hzb.1.frozen 5
            have r6 : wx.cell? ⟨w.heap.size, 6, none⟩ = some (.slice none 0 0) := hzb.1.cell 6
            have e6 := hzb.1.frozen 6
            have r7 : wx.cell? ⟨w.heap.size, 7, none⟩ = some (.int .i64 0) := hzb.1.cell 7
            have e7 := hzb.1.frozen 7
            have r8 : wx.cell? ⟨w.heap.size, 8, none⟩ = some (.int .i64 0) := hzb.1.cell 8
            have e8 := hzb.1.frozen 8
            have r9 : wx.cell? ⟨w.heap.size, 9, none⟩ = some (.slice none 0 0) := hzb.1.cell 9
            have e9 := hzb.1.frozen 9
            have r10 : wx.cell? ⟨w.heap.size, 10, none⟩ = some (.slice none 0 0) := hzb.1.cell 10
            have e10 := hzb.1.frozen 10
            have r11 : wx.cell? ⟨w.heap.size, 11, none⟩ = some (.int .i64 0) := hzb.1.cell 11
            have e11 := hzb.1.frozen 11
            have r12 : wx.cell? ⟨w.heap.size, 12, none⟩ = some (.int .i64 0) := hzb.1.cell 12
            have e12 := hzb.1.frozen 12
            go_wp2_with (go_at_call 14; (with_reducible refine (HTY.out _ (by repeat (first | (with_reducible exact Below.refl _ _) | (with_reducible refine Below.allocS ?_ _) | (with_reducible refine Below.moreS ?_ _) | (with_reducible refine Below.drew ?_) | (with_reducible refine below_drewN ?_ _)))).mono ?_); rintro e w' ⟨rfl, j, rfl⟩)
            refine bodyPost_ret (res_cell_tmp (cs := #[.int .i64 0, .int .i64 0, .int .i64 0, .int .i64 0, .int .i64 0, .int .i64 0, .slice none 0 0, .int .i64 0, .int .i64 0, .slice none 0 0, .slice none 0 0, .int .i64 0, .int .i64 0]) rfl st_Rp rfl (((blk_put13 hzb.1)).more j) rfl rfl) rfl ?_
            exact ⟨none, 0, none, 0, none, 0, rfl, .nil, .nil, .nil, Below.moreS ((below_put13 hzb.2 (Nat.le_refl _))) j⟩
end Go.Proofs.YtbdmepidabnfkaaGreatDoor
