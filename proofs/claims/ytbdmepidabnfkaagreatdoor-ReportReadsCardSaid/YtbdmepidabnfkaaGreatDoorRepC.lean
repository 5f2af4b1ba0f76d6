/-
  Reports: the config's line is read.
-/
import Derived.Test.YtbdmepidabnfkaaGreatDoorRepB
import Derived.Test.YtbdmepidabnfkaaGreatDoorMb
namespace Go.Proofs.YtbdmepidabnfkaaGreatDoor
set_option linter.unusedSimpArgs false
set_option linter.unusedVariables false
set_option linter.unusedSectionVars false
open Go.ChangeShapes Go.WideShapes Go.ChangeAt Go.RowKit Go.Deep Go.Shelf

abbrev CfT2 : TypeId := 23
theorem st_Cf : StructTy Tryz.prog CfT2 6 := ⟨_, Tryz.underlying23, rfl, by kernel_rfl⟩
theorem RdS.grow {w w' : World} {g : Nat} {L : List (List UInt8)} {b : Bool} (h : RdS w g L b) (hb : Below w.heap.size w w') : RdS w' g L b := by
  obtain ⟨a, c, h1, h2, h3⟩ := h.st
  exact ⟨a, c, h1.below hb h1.lt, (h2.below hb (Nat.le_refl _)).mono hb.size (fun _ _ _ h => h), h3⟩
theorem RdS.lt {w : World} {g : Nat} {L : List (List UInt8)} {b : Bool} (h : RdS w g L b) : g < w.heap.size := by
  obtain ⟨a, c, h1, _⟩ := h.st
  exact h1.lt
/-- Words in a row: its cells, and that it is not the reader's block. -/
theorem words_cells {w : World} {g : Nat} {L ws : List (List UInt8)} {b : Bool} {a : Option Addr} {n : Nat} (hr : RdS w g L b) (hs : SlX w w.heap.size a ws) (hn : ws.length = n) (hp : 0 < n) :
    ∃ bw off, a = some ⟨bw, off, none⟩ ∧ bw < w.heap.size ∧ bw ≠ g ∧ ∀ k, k < n → w.cell? ⟨bw, off + k, none⟩ = some (bstr (atD ws k)) := by
  obtain ⟨b1, off, ha, hb, _⟩ := hs.atX (k := 0) (by omega)
  obtain ⟨a0, c0, hg, _⟩ := hr.st
  refine ⟨b1, off, ha, hb, off_rd (x := .bool b) hg hs (k := 0) (by omega) _ ha, fun k hk => ?_⟩
  obtain ⟨b2, off2, ha2, _, hc, _⟩ := hs.atX (k := k) (by omega)
  rw [ha] at ha2
  injection ha2 with ha2
  injection ha2 with e1 e2
  subst e1 e2
  rw [hc]
  unfold atD
  rw [List.getD_eq_getElem?_getD, List.getElem?_eq_getElem (by omega)]
  rfl
theorem next_words {many : Nat} {first : List UInt8} {L : List (List UInt8)} {b : Bool} (h : ∀ x ∈ L, x.length ≤ 90000) : ∀ x ∈ (nextD many first L b).1, x.length ≤ 90000 := by
  unfold nextD
  split
  · intro x hx; rw [List.eq_of_mem_replicate hx]; simp
  · rename_i y r
    split
    · intro x hx
      have hx := List.mem_of_mem_drop hx
      have hy := h y (by simp)
      unfold splitF at hx
      split at hx
      · simp at hx
      · split at hx
        · have := cut_short 32 y x hx; omega
        · simp at hx
    · intro x hx; rw [List.eq_of_mem_replicate hx]; simp
theorem next_lines {many : Nat} {first : List UInt8} {L : List (List UInt8)} {b : Bool} : (∀ x ∈ (nextD many first L b).2.1, x ∈ L) ∧ (nextD many first L b).2.1.length ≤ L.length := by
  unfold nextD
  split
  · simp
  · split <;> exact ⟨fun x hx => by simp; exact .inr hx, by simp⟩
theorem atD_le {l : List (List UInt8)} {k n : Nat} (h : ∀ x ∈ l, x.length ≤ n) : (atD l k).length ≤ n := by
  unfold atD
  rw [List.getD_eq_getElem?_getD]
  cases hk : l[k]? with
  | none => simp
  | some x => exact h x (List.mem_of_getElem? hk)
/-- What the walks of the reader's parts ask of the world in which all began. -/
structure Rb (w0 : World) (g : Nat) (w : World) : Prop where
  env : Env w0
  bl : Below w0.heap.size w0 w
  lo : w0.heap.size ≤ g
theorem Rb.gp {w0 w w' : World} {g : Nat} {p : Nat → Prop} (h : Rb w0 g w) (hp : ∀ k, p k → w0.heap.size ≤ k) (hg : Gp p w w') : Rb w0 g w' := ⟨h.env, h.bl.trans (hg.below hp h.bl.size), h.lo⟩
theorem Rb.gm {w0 w w' : World} {g : Nat} (h : Rb w0 g w) (hg : Gm g w w') : Rb w0 g w' := ⟨h.env, h.bl.trans (hg.below h.lo h.bl.size), h.lo⟩
theorem Rb.e {w0 w : World} {g : Nat} (h : Rb w0 g w) : Env w := h.env.below h.bl
theorem slX_far {w w' : World} {gc : Nat} {t : TypeId} {cs : Array Value} {a : Option Addr} {l : List (List UInt8)} (hb : Blk w gc t cs) (hc : ∀ (j : Nat) (s : ByteArray), cs[j]? ≠ some (Value.string s)) (hs : SlX w w.heap.size a l) (h : Gm gc w w') : SlX w' w'.heap.size a l := by
  intro k hk
  obtain ⟨b1, off, ha1, hb1, hcell, _⟩ := hs.atX hk
  have hne : b1 ≠ gc := fun e => by
    subst e
    rw [hb.cell] at hcell
    exact hc _ _ hcell
  obtain ⟨b2, off2, cs2, ha2, hb2, hR, hcs⟩ := hs k hk
  rw [ha1] at ha2
  injection ha2 with ha2
  injection ha2 with e1 e2
  subst e1 e2
  exact ⟨b1, off, cs2, ha1, Nat.lt_of_lt_of_le hb1 h.size, hR, fun j v hj => (h.cell b1 _ hb1 hne).trans (hcs j v hj)⟩
theorem RdS.far {w w' : World} {g gc : Nat} {L : List (List UInt8)} {b : Bool} {t : TypeId} {cs : Array Value} (h : RdS w g L b) (hb : Blk w gc t cs) (hc : ∀ (j : Nat) (s : ByteArray), cs[j]? ≠ some (Value.string s)) (hg : Gm gc w w') (hne : g ≠ gc) : RdS w' g L b := by
  obtain ⟨a, c, h1, h2, h3⟩ := h.st
  exact ⟨a, c, h1.grown hg (by simpa using hne), slX_far hb hc h2 hg, h3⟩
theorem Gm.over {w w1 w' : World} {g gc : Nat} (h : Gm g w w1) (h2 : Gm gc w1 w') (hge : w.heap.size ≤ gc) : Gm g w w' :=
  ⟨h2.os.trans h.os, h2.tape.trans h.tape, h2.output.trans h.output, Nat.le_trans h.size h2.size, fun k hk hn => (h2.block k (Nat.lt_of_lt_of_le hk h.size) (by simp; omega)).trans (h.block k hk hn)⟩
/-- What reading the config leaves. -/
def CfgP (g : Nat) (r : CfD × List (List UInt8) × Bool) (w : World) (e : Ending) (w' : World) : Prop :=
  e = .returned (.agg #[.int .i64 r.1.c0, .int .i64 r.1.c1, .int .i64 r.1.c2, .int .i64 r.1.c3, .int .i64 r.1.c4, .int .i64 r.1.c5]) ∧ RdS w' g r.2.1 r.2.2 ∧ Gm g w w'
set_option maxHeartbeats 16000000 in
set_option maxRecDepth 100000 in
theorem reader_config (g : Nat) (L : List (List UInt8)) (b : Bool) (hL : L.length ≤ 100000) (hLl : ∀ x ∈ L, x.length ≤ 90000) (w0 w : World) (hb : Rb w0 g w) (hS : RdS w g L b) :
    Calls Tryz.prog 40 #[.pointer (some ⟨g, 0, none⟩)] w (CfgP g (configD L b) w) := by
  have hgl := hS.lt
  have HNX : Hid (∀ W, Below w.heap.size w W → Calls Tryz.prog 39 #[.pointer (some ⟨g, 0, none⟩), .int .i64 6, bstr [99, 111, 110, 102, 105, 103]] W (NxtP g 6 (nextD 6 [99, 111, 110, 102, 105, 103] L b).1 (nextD 6 [99, 111, 110, 102, 105, 103] L b).2.1 (nextD 6 [99, 111, 110, 102, 105, 103] L b).2.2 W)) := fun W hW => by
    obtain ⟨m, hM⟩ := (hb.gm (gm_below hW)).e.max
    exact reader_next g 6 [99, 111, 110, 102, 105, 103] L b (by omega) hL hLl m W hM (hS.grow hW)
  have hwl : ∀ x ∈ (nextD 6 [99, 111, 110, 102, 105, 103] L b).1, x.length ≤ 90000 := next_words hLl
  have hnl : (nextD 6 [99, 111, 110, 102, 105, 103] L b).1.length = 6 := next_len _ _ _ _
  have hcd : configD L b = (⟨(numD (atD (nextD 6 [99, 111, 110, 102, 105, 103] L b).1 0) (nextD 6 [99, 111, 110, 102, 105, 103] L b).2.2).1, (configD L b).1.c1, (configD L b).1.c2, (configD L b).1.c3, (configD L b).1.c4, (configD L b).1.c5⟩, (configD L b).2) := rfl
  unfold configD
  simp only
  generalize nextD 6 [99, 111, 110, 102, 105, 103] L b = N at HNX hwl hnl ⊢
  obtain ⟨ws, L1, b1⟩ := N
  simp only at HNX hwl hnl ⊢
  have HN : ∀ s q W, s.length ≤ 90000 → Rb w0 g W → RdS W g L1 q → Calls Tryz.prog 45 #[.pointer (some ⟨g, 0, none⟩), bstr s] W fun e w' => e = .returned (.int .i64 (numD s q).1) ∧ RdS w' g L1 (numD s q).2 ∧ Gm g W w' := fun s q W hs hW hR => reader_number g L1 q s (by omega) W hW.e hR
  have HN0 := HN (atD ws 0) b1
  have h0 := atD_le (k := 0) hwl
  generalize numD (atD ws 0) b1 = p0 at HN0 ⊢
  have HN1 := HN (atD ws 1) p0.2
  have h1 := atD_le (k := 1) hwl
  generalize numD (atD ws 1) p0.2 = p1 at HN1 ⊢
  have HN2 := HN (atD ws 2) p1.2
  have h2 := atD_le (k := 2) hwl
  generalize numD (atD ws 2) p1.2 = p2 at HN2 ⊢
  have HN3 := HN (atD ws 3) p2.2
  have h3 := atD_le (k := 3) hwl
  generalize numD (atD ws 3) p2.2 = p3 at HN3 ⊢
  have HN4 := HN (atD ws 4) p3.2
  have h4 := atD_le (k := 4) hwl
  generalize numD (atD ws 4) p3.2 = p4 at HN4 ⊢
  have HN5 := HN (atD ws 5) p4.2
  have h5 := atD_le (k := 5) hwl
  generalize numD (atD ws 5) p4.2 = p5 at HN5 ⊢
  obtain ⟨n0, q0⟩ := p0
  obtain ⟨n1, q1⟩ := p1
  obtain ⟨n2, q2⟩ := p2
  obtain ⟨n3, q3⟩ := p3
  obtain ⟨n4, q4⟩ := p4
  obtain ⟨n5, q5⟩ := p5
  simp only at HN0 HN1 HN2 HN3 HN4 HN5 ⊢
  replace HN0 := Lib.hid (fun W => HN0 W h0)
  replace HN1 := Lib.hid (fun W => HN1 W h1)
  replace HN2 := Lib.hid (fun W => HN2 W h2)
  replace HN3 := Lib.hid (fun W => HN3 W h3)
  replace HN4 := Lib.hid (fun W => HN4 W h4)
  replace HN5 := Lib.hid (fun W => HN5 W h5)
  have HB := Lib.hid hb
  clear hcd HN h0 h1 h2 h3 h4 h5 hwl hLl hL hb hS
  go_enter Tryz.func40, Tryz.ntmps40
  go_wp2_with fail
  refine (HNX.out _ (by repeat (first | (with_reducible exact Below.refl _ _) | (with_reducible refine Below.allocS ?_ _) | (with_reducible refine Below.moreS ?_ _) | (with_reducible refine Below.drew ?_) | (with_reducible refine below_drewN ?_ _)))).mono ?_
  rintro e w1 ⟨aw, cw, rfl, hsw, hrd, hgm⟩
  obtain ⟨bw, off, haw, hbw, hwg, hcl⟩ := words_cells hrd hsw hnl (by omega)
  subst haw
  have d0 := hcl 0 (by omega)
  have d1 := hcl 1 (by omega)
  have d2 := hcl 2 (by omega)
  have d3 := hcl 3 (by omega)
  have d4 := hcl 4 (by omega)
  have d5 := hcl 5 (by omega)
  have hcf : Blk w1 w.heap.size CfT2 #[.int .i64 0, .int .i64 0, .int .i64 0, .int .i64 0, .int .i64 0, .int .i64 0] := (Blk.new w _ _).grown hgm (by simp; omega)
  have hwc : bw ≠ w.heap.size := by
    intro e
    subst e
    rw [hcf.cell (off + 0)] at d0
    generalize off + 0 = j at d0
    match j, d0 with
    | 0, hc => simp at hc
    | 1, hc => simp at hc
    | 2, hc => simp at hc
    | 3, hc => simp at hc
    | 4, hc => simp at hc
    | 5, hc => simp at hc
    | j + 6, hc => simp at hc
  have HG1 : Hid (Gm g w w1) := (gm_below (Below.allocS (Below.refl _ _) _)).trans hgm
  have HR1 := Lib.hid hrd
  have HCF := Lib.hid hcf
  have hgc : ¬ g = w.heap.size := by omega
  obtain ⟨gc, hgce⟩ : ∃ gc, gc = w.heap.size := ⟨_, rfl⟩
  rw [← hgce] at hwc HCF hgc ⊢
  have HGC := Lib.hid hgce
  clear hgce hrd hcf hgm hsw hcl HNX
  simp only [Nat.add_zero] at d0
  generalize atD ws 0 = s0 at d0 HN0
  generalize atD ws 1 = s1 at d1 HN1
  generalize atD ws 2 = s2 at d2 HN2
  generalize atD ws 3 = s3 at d3 HN3
  generalize atD ws 4 = s4 at d4 HN4
  generalize atD ws 5 = s5 at d5 HN5
  go_wp2_with fail
  have HX1 : Hid (Rb w0 g w1) := HB.out.gm HG1.out
  refine gp_start (P2 g gc) (by kernel_rfl) ?_
  refine gp_take 0 (v := ?_) rfl (by kernel_rfl) (by kernel_rfl) (by kernel_rfl) (fun _ _ _ h => h) (Or.inl ⟨by first | kernel_rfl | rfl, ?_⟩) ?_
  rotate_left
  · intro wS hSw; have hSc := fun o => hSw.cell2 bw o (by first | exact hbw | (simpa using hbw)) hwg hwc; clear hSw; go_simp; try with_reducible rfl
  try simp only [Act.put, List.getElem_toArray, List.getElem_cons_succ, List.getElem_cons_zero, List.setIfInBounds_toArray, List.set_cons_zero, List.set_cons_succ]
  refine gp_take 1 (v := ?_) rfl (by kernel_rfl) (by kernel_rfl) (by kernel_rfl) (fun _ _ _ h => h) (Or.inl ⟨by first | kernel_rfl | rfl, ?_⟩) ?_
  rotate_left
  · intro wS hSw; have hSc := fun o => hSw.cell2 bw o (by first | exact hbw | (simpa using hbw)) hwg hwc; clear hSw; go_simp; try with_reducible rfl
  try simp only [Act.put, List.getElem_toArray, List.getElem_cons_succ, List.getElem_cons_zero, List.setIfInBounds_toArray, List.set_cons_zero, List.set_cons_succ]
  refine gp_take 2 (v := ?_) rfl (by kernel_rfl) (by kernel_rfl) (by kernel_rfl) (fun _ _ _ h => h) (Or.inl ⟨by first | kernel_rfl | rfl, ?_⟩) ?_
  rotate_left
  · intro wS hSw; have hSc := fun o => hSw.cell2 bw o (by first | exact hbw | (simpa using hbw)) hwg hwc; clear hSw; go_simp; try with_reducible rfl
  try simp only [Act.put, List.getElem_toArray, List.getElem_cons_succ, List.getElem_cons_zero, List.setIfInBounds_toArray, List.set_cons_zero, List.set_cons_succ]
  refine gp_take 3 (v := ?_) rfl (by kernel_rfl) (by kernel_rfl) (by kernel_rfl) (fun _ _ _ h => h) (Or.inl ⟨by first | kernel_rfl | rfl, ?_⟩) ?_
  rotate_left
  · intro wS hSw; have hSc := fun o => hSw.cell2 bw o (by first | exact hbw | (simpa using hbw)) hwg hwc; clear hSw; go_simp; try with_reducible rfl
  try simp only [Act.put, List.getElem_toArray, List.getElem_cons_succ, List.getElem_cons_zero, List.setIfInBounds_toArray, List.set_cons_zero, List.set_cons_succ]
  refine gp_take 5 (v := ?_) rfl (by kernel_rfl) (by kernel_rfl) (by kernel_rfl) (fun _ _ _ h => h) (Or.inl ⟨by first | kernel_rfl | rfl, ?_⟩) ?_
  rotate_left
  · intro wS hSw; have hSc := fun o => hSw.cell2 bw o (by first | exact hbw | (simpa using hbw)) hwg hwc; clear hSw; go_simp; try with_reducible rfl
  try simp only [Act.put, List.getElem_toArray, List.getElem_cons_succ, List.getElem_cons_zero, List.setIfInBounds_toArray, List.set_cons_zero, List.set_cons_succ]
  refine gp_take 6 (v := ?_) rfl (by kernel_rfl) (by kernel_rfl) (by kernel_rfl) (fun _ _ _ h => h) (Or.inl ⟨by first | kernel_rfl | rfl, ?_⟩) ?_
  rotate_left
  · intro wS hSw; have hSc := fun o => hSw.cell2 bw o (by first | exact hbw | (simpa using hbw)) hwg hwc; clear hSw; go_simp; try with_reducible rfl
  try simp only [Act.put, List.getElem_toArray, List.getElem_cons_succ, List.getElem_cons_zero, List.setIfInBounds_toArray, List.set_cons_zero, List.set_cons_succ]
  refine gp_take 7 (v := ?_) rfl (by kernel_rfl) (by kernel_rfl) (by kernel_rfl) (fun _ _ _ h => h) (Or.inl ⟨by first | kernel_rfl | rfl, ?_⟩) ?_
  rotate_left
  · intro wS hSw; have hSc := fun o => hSw.cell2 bw o (by first | exact hbw | (simpa using hbw)) hwg hwc; clear hSw; go_simp; try with_reducible rfl
  try simp only [Act.put, List.getElem_toArray, List.getElem_cons_succ, List.getElem_cons_zero, List.setIfInBounds_toArray, List.set_cons_zero, List.set_cons_succ]
  refine gp_take 8 (v := ?_) rfl (by kernel_rfl) (by kernel_rfl) (by kernel_rfl) (fun _ _ _ h => h) (Or.inl ⟨by first | kernel_rfl | rfl, ?_⟩) ?_
  rotate_left
  · intro wS hSw; have hSc := fun o => hSw.cell2 bw o (by first | exact hbw | (simpa using hbw)) hwg hwc; clear hSw; go_simp; try with_reducible rfl
  try simp only [Act.put, List.getElem_toArray, List.getElem_cons_succ, List.getElem_cons_zero, List.setIfInBounds_toArray, List.set_cons_zero, List.set_cons_succ]
  refine gp_take 10 (v := ?_) rfl (by kernel_rfl) (by kernel_rfl) (by kernel_rfl) (fun _ _ _ h => h) (Or.inl ⟨by first | kernel_rfl | rfl, ?_⟩) ?_
  rotate_left
  · intro wS hSw; have hSc := fun o => hSw.cell2 bw o (by first | exact hbw | (simpa using hbw)) hwg hwc; clear hSw; go_simp; try with_reducible rfl
  try simp only [Act.put, List.getElem_toArray, List.getElem_cons_succ, List.getElem_cons_zero, List.setIfInBounds_toArray, List.set_cons_zero, List.set_cons_succ]
  refine gp_take 11 (v := ?_) rfl (by kernel_rfl) (by kernel_rfl) (by kernel_rfl) (fun _ _ _ h => h) (Or.inl ⟨by first | kernel_rfl | rfl, ?_⟩) ?_
  rotate_left
  · intro wS hSw; have hSc := fun o => hSw.cell2 bw o (by first | exact hbw | (simpa using hbw)) hwg hwc; clear hSw; go_simp; try with_reducible rfl
  try simp only [Act.put, List.getElem_toArray, List.getElem_cons_succ, List.getElem_cons_zero, List.setIfInBounds_toArray, List.set_cons_zero, List.set_cons_succ]
  refine gp_take 12 (v := ?_) rfl (by kernel_rfl) (by kernel_rfl) (by kernel_rfl) (fun _ _ _ h => h) (Or.inl ⟨by first | kernel_rfl | rfl, ?_⟩) ?_
  rotate_left
  · intro wS hSw; have hSc := fun o => hSw.cell2 bw o (by first | exact hbw | (simpa using hbw)) hwg hwc; clear hSw; go_simp; try with_reducible rfl
  try simp only [Act.put, List.getElem_toArray, List.getElem_cons_succ, List.getElem_cons_zero, List.setIfInBounds_toArray, List.set_cons_zero, List.set_cons_succ]
  refine gp_take 13 (v := ?_) rfl (by kernel_rfl) (by kernel_rfl) (by kernel_rfl) (fun _ _ _ h => h) (Or.inl ⟨by first | kernel_rfl | rfl, ?_⟩) ?_
  rotate_left
  · intro wS hSw; have hSc := fun o => hSw.cell2 bw o (by first | exact hbw | (simpa using hbw)) hwg hwc; clear hSw; go_simp; try with_reducible rfl
  try simp only [Act.put, List.getElem_toArray, List.getElem_cons_succ, List.getElem_cons_zero, List.setIfInBounds_toArray, List.set_cons_zero, List.set_cons_succ]
  refine gp_take 15 (v := ?_) rfl (by kernel_rfl) (by kernel_rfl) (by kernel_rfl) (fun _ _ _ h => h) (Or.inl ⟨by first | kernel_rfl | rfl, ?_⟩) ?_
  rotate_left
  · intro wS hSw; have hSc := fun o => hSw.cell2 bw o (by first | exact hbw | (simpa using hbw)) hwg hwc; clear hSw; go_simp; try with_reducible rfl
  try simp only [Act.put, List.getElem_toArray, List.getElem_cons_succ, List.getElem_cons_zero, List.setIfInBounds_toArray, List.set_cons_zero, List.set_cons_succ]
  refine gp_take 16 (v := ?_) rfl (by kernel_rfl) (by kernel_rfl) (by kernel_rfl) (fun _ _ _ h => h) (Or.inl ⟨by first | kernel_rfl | rfl, ?_⟩) ?_
  rotate_left
  · intro wS hSw; have hSc := fun o => hSw.cell2 bw o (by first | exact hbw | (simpa using hbw)) hwg hwc; clear hSw; go_simp; try with_reducible rfl
  try simp only [Act.put, List.getElem_toArray, List.getElem_cons_succ, List.getElem_cons_zero, List.setIfInBounds_toArray, List.set_cons_zero, List.set_cons_succ]
  refine gp_take 17 (v := ?_) rfl (by kernel_rfl) (by kernel_rfl) (by kernel_rfl) (fun _ _ _ h => h) (Or.inl ⟨by first | kernel_rfl | rfl, ?_⟩) ?_
  rotate_left
  · intro wS hSw; have hSc := fun o => hSw.cell2 bw o (by first | exact hbw | (simpa using hbw)) hwg hwc; clear hSw; go_simp; try with_reducible rfl
  try simp only [Act.put, List.getElem_toArray, List.getElem_cons_succ, List.getElem_cons_zero, List.setIfInBounds_toArray, List.set_cons_zero, List.set_cons_succ]
  refine gp_take 18 (v := ?_) rfl (by kernel_rfl) (by kernel_rfl) (by kernel_rfl) (fun _ _ _ h => h) (Or.inl ⟨by first | kernel_rfl | rfl, ?_⟩) ?_
  rotate_left
  · intro wS hSw; have hSc := fun o => hSw.cell2 bw o (by first | exact hbw | (simpa using hbw)) hwg hwc; clear hSw; go_simp; try with_reducible rfl
  try simp only [Act.put, List.getElem_toArray, List.getElem_cons_succ, List.getElem_cons_zero, List.setIfInBounds_toArray, List.set_cons_zero, List.set_cons_succ]
  refine gp_take 20 (v := ?_) rfl (by kernel_rfl) (by kernel_rfl) (by kernel_rfl) (fun _ _ _ h => h) (Or.inl ⟨by first | kernel_rfl | rfl, ?_⟩) ?_
  rotate_left
  · intro wS hSw; have hSc := fun o => hSw.cell2 bw o (by first | exact hbw | (simpa using hbw)) hwg hwc; clear hSw; go_simp; try with_reducible rfl
  try simp only [Act.put, List.getElem_toArray, List.getElem_cons_succ, List.getElem_cons_zero, List.setIfInBounds_toArray, List.set_cons_zero, List.set_cons_succ]
  refine gp_take 21 (v := ?_) rfl (by kernel_rfl) (by kernel_rfl) (by kernel_rfl) (fun _ _ _ h => h) (Or.inl ⟨by first | kernel_rfl | rfl, ?_⟩) ?_
  rotate_left
  · intro wS hSw; have hSc := fun o => hSw.cell2 bw o (by first | exact hbw | (simpa using hbw)) hwg hwc; clear hSw; go_simp; try with_reducible rfl
  try simp only [Act.put, List.getElem_toArray, List.getElem_cons_succ, List.getElem_cons_zero, List.setIfInBounds_toArray, List.set_cons_zero, List.set_cons_succ]
  refine gp_take 22 (v := ?_) rfl (by kernel_rfl) (by kernel_rfl) (by kernel_rfl) (fun _ _ _ h => h) (Or.inl ⟨by first | kernel_rfl | rfl, ?_⟩) ?_
  rotate_left
  · intro wS hSw; have hSc := fun o => hSw.cell2 bw o (by first | exact hbw | (simpa using hbw)) hwg hwc; clear hSw; go_simp; try with_reducible rfl
  try simp only [Act.put, List.getElem_toArray, List.getElem_cons_succ, List.getElem_cons_zero, List.setIfInBounds_toArray, List.set_cons_zero, List.set_cons_succ]
  refine gp_take 23 (v := ?_) rfl (by kernel_rfl) (by kernel_rfl) (by kernel_rfl) (fun _ _ _ h => h) (Or.inl ⟨by first | kernel_rfl | rfl, ?_⟩) ?_
  rotate_left
  · intro wS hSw; have hSc := fun o => hSw.cell2 bw o (by first | exact hbw | (simpa using hbw)) hwg hwc; clear hSw; go_simp; try with_reducible rfl
  try simp only [Act.put, List.getElem_toArray, List.getElem_cons_succ, List.getElem_cons_zero, List.setIfInBounds_toArray, List.set_cons_zero, List.set_cons_succ]
  refine gp_take 25 (v := ?_) rfl (by kernel_rfl) (by kernel_rfl) (by kernel_rfl) (fun _ _ _ h => h) (Or.inl ⟨by first | kernel_rfl | rfl, ?_⟩) ?_
  rotate_left
  · intro wS hSw; have hSc := fun o => hSw.cell2 bw o (by first | exact hbw | (simpa using hbw)) hwg hwc; clear hSw; go_simp; try with_reducible rfl
  try simp only [Act.put, List.getElem_toArray, List.getElem_cons_succ, List.getElem_cons_zero, List.setIfInBounds_toArray, List.set_cons_zero, List.set_cons_succ]
  refine gp_take 26 (v := ?_) rfl (by kernel_rfl) (by kernel_rfl) (by kernel_rfl) (fun _ _ _ h => h) (Or.inl ⟨by first | kernel_rfl | rfl, ?_⟩) ?_
  rotate_left
  · intro wS hSw; have hSc := fun o => hSw.cell2 bw o (by first | exact hbw | (simpa using hbw)) hwg hwc; clear hSw; go_simp; try with_reducible rfl
  try simp only [Act.put, List.getElem_toArray, List.getElem_cons_succ, List.getElem_cons_zero, List.setIfInBounds_toArray, List.set_cons_zero, List.set_cons_succ]
  refine gp_take 27 (v := ?_) rfl (by kernel_rfl) (by kernel_rfl) (by kernel_rfl) (fun _ _ _ h => h) (Or.inl ⟨by first | kernel_rfl | rfl, ?_⟩) ?_
  rotate_left
  · intro wS hSw; have hSc := fun o => hSw.cell2 bw o (by first | exact hbw | (simpa using hbw)) hwg hwc; clear hSw; go_simp; try with_reducible rfl
  try simp only [Act.put, List.getElem_toArray, List.getElem_cons_succ, List.getElem_cons_zero, List.setIfInBounds_toArray, List.set_cons_zero, List.set_cons_succ]
  refine gp_take 28 (v := ?_) rfl (by kernel_rfl) (by kernel_rfl) (by kernel_rfl) (fun _ _ _ h => h) (Or.inl ⟨by first | kernel_rfl | rfl, ?_⟩) ?_
  rotate_left
  · intro wS hSw; have hSc := fun o => hSw.cell2 bw o (by first | exact hbw | (simpa using hbw)) hwg hwc; clear hSw; go_simp; try with_reducible rfl
  try simp only [Act.put, List.getElem_toArray, List.getElem_cons_succ, List.getElem_cons_zero, List.setIfInBounds_toArray, List.set_cons_zero, List.set_cons_succ]
  refine gp_step 4 (by kernel_rfl) rfl (fun K hK => ?_)
  go_simp
  go_wp2_with fail
  refine (HN0.out _ (HX1.out.gm (gm_below (by repeat (first | (with_reducible exact Below.refl _ _) | (with_reducible refine Below.allocS ?_ _) | (with_reducible refine Below.moreS ?_ _) | (with_reducible refine Below.drew ?_) | (with_reducible refine below_drewN ?_ _))))) (HR1.out.grow (by repeat (first | (with_reducible exact Below.refl _ _) | (with_reducible refine Below.allocS ?_ _) | (with_reducible refine Below.moreS ?_ _) | (with_reducible refine Below.drew ?_) | (with_reducible refine below_drewN ?_ _))))).mono ?_
  rintro e w2 ⟨rfl, hr, hg⟩
  have hg : Gm g w1 w2 := (gm_below (by repeat (first | (with_reducible exact Below.refl _ _) | (with_reducible refine Below.allocS ?_ _) | (with_reducible refine Below.moreS ?_ _) | (with_reducible refine Below.drew ?_) | (with_reducible refine below_drewN ?_ _)))).trans hg
  have HR2 := Lib.hid hr
  have HX2 : Hid (Rb w0 g w2) := HX1.out.gm hg
  have HG2 : Hid (Gm g w w2) := HG1.out.trans hg
  have HC2 : Hid (Gm g w1 w2) := hg
  go_wp2_with fail
  refine hK.out _ _ (show Gp _ _ _ from (gp_undrew (Gp.of_gm hg (Or.inl rfl)))) ?_
  clear hK K
  try simp only [Act.put, List.getElem_toArray, List.getElem_cons_succ, List.getElem_cons_zero, List.setIfInBounds_toArray, List.set_cons_zero, List.set_cons_succ]
  clear hr hg
  refine gp_step 9 (by kernel_rfl) rfl (fun K hK => ?_)
  go_simp
  go_wp2_with fail
  refine (HN1.out _ HX2.out HR2.out).mono ?_
  rintro e w3 ⟨rfl, hr, hg⟩
  have HR3 := Lib.hid hr
  have HX3 : Hid (Rb w0 g w3) := HX2.out.gm hg
  have HG3 : Hid (Gm g w w3) := HG2.out.trans hg
  have HC3 : Hid (Gm g w1 w3) := HC2.out.trans hg
  go_wp2_with fail
  refine hK.out _ _ (show Gp _ _ _ from (Gp.of_gm hg (Or.inl rfl))) ?_
  clear hK K
  try simp only [Act.put, List.getElem_toArray, List.getElem_cons_succ, List.getElem_cons_zero, List.setIfInBounds_toArray, List.set_cons_zero, List.set_cons_succ]
  clear hr hg
  refine gp_step 14 (by kernel_rfl) rfl (fun K hK => ?_)
  go_simp
  go_wp2_with fail
  refine (HN2.out _ HX3.out HR3.out).mono ?_
  rintro e w4 ⟨rfl, hr, hg⟩
  have HR4 := Lib.hid hr
  have HX4 : Hid (Rb w0 g w4) := HX3.out.gm hg
  have HG4 : Hid (Gm g w w4) := HG3.out.trans hg
  have HC4 : Hid (Gm g w1 w4) := HC3.out.trans hg
  go_wp2_with fail
  refine hK.out _ _ (show Gp _ _ _ from (Gp.of_gm hg (Or.inl rfl))) ?_
  clear hK K
  try simp only [Act.put, List.getElem_toArray, List.getElem_cons_succ, List.getElem_cons_zero, List.setIfInBounds_toArray, List.set_cons_zero, List.set_cons_succ]
  clear hr hg
  refine gp_step 19 (by kernel_rfl) rfl (fun K hK => ?_)
  go_simp
  go_wp2_with fail
  refine (HN3.out _ HX4.out HR4.out).mono ?_
  rintro e w5 ⟨rfl, hr, hg⟩
  have HR5 := Lib.hid hr
  have HX5 : Hid (Rb w0 g w5) := HX4.out.gm hg
  have HG5 : Hid (Gm g w w5) := HG4.out.trans hg
  have HC5 : Hid (Gm g w1 w5) := HC4.out.trans hg
  go_wp2_with fail
  refine hK.out _ _ (show Gp _ _ _ from (Gp.of_gm hg (Or.inl rfl))) ?_
  clear hK K
  try simp only [Act.put, List.getElem_toArray, List.getElem_cons_succ, List.getElem_cons_zero, List.setIfInBounds_toArray, List.set_cons_zero, List.set_cons_succ]
  clear hr hg
  refine gp_step 24 (by kernel_rfl) rfl (fun K hK => ?_)
  go_simp
  go_wp2_with fail
  refine (HN4.out _ HX5.out HR5.out).mono ?_
  rintro e w6 ⟨rfl, hr, hg⟩
  have HR6 := Lib.hid hr
  have HX6 : Hid (Rb w0 g w6) := HX5.out.gm hg
  have HG6 : Hid (Gm g w w6) := HG5.out.trans hg
  have HC6 : Hid (Gm g w1 w6) := HC5.out.trans hg
  go_wp2_with fail
  refine hK.out _ _ (show Gp _ _ _ from (Gp.of_gm hg (Or.inl rfl))) ?_
  clear hK K
  try simp only [Act.put, List.getElem_toArray, List.getElem_cons_succ, List.getElem_cons_zero, List.setIfInBounds_toArray, List.set_cons_zero, List.set_cons_succ]
  clear hr hg
  refine gp_step 29 (by kernel_rfl) rfl (fun K hK => ?_)
  go_simp
  go_wp2_with fail
  refine (HN5.out _ HX6.out HR6.out).mono ?_
  rintro e w7 ⟨rfl, hr, hg⟩
  have HR7 := Lib.hid hr
  have HX7 : Hid (Rb w0 g w7) := HX6.out.gm hg
  have HG7 : Hid (Gm g w w7) := HG6.out.trans hg
  have HC7 : Hid (Gm g w1 w7) := HC6.out.trans hg
  go_wp2_with fail
  refine hK.out _ _ (show Gp _ _ _ from (Gp.of_gm hg (Or.inl rfl))) ?_
  clear hK K
  try simp only [Act.put, List.getElem_toArray, List.getElem_cons_succ, List.getElem_cons_zero, List.setIfInBounds_toArray, List.set_cons_zero, List.set_cons_succ]
  clear hr hg
  have hbw := Nat.lt_of_lt_of_le hbw HC7.out.size
  refine gp_take 30 (v := ?_) rfl (by kernel_rfl) (by kernel_rfl) (by kernel_rfl) (fun _ _ _ h => h) (Or.inl ⟨by first | kernel_rfl | rfl, ?_⟩) ?_
  rotate_left
  · intro wS hSw; have hSc := fun o => hSw.cell2 bw o (by first | exact hbw | (simpa using hbw)) hwg hwc; clear hSw; go_simp; try with_reducible rfl
  try simp only [Act.put, List.getElem_toArray, List.getElem_cons_succ, List.getElem_cons_zero, List.setIfInBounds_toArray, List.set_cons_zero, List.set_cons_succ]
  have hcf := HCF.out.grown HC7.out (by simp; omega)
  have z0 : w7.cell? ⟨gc, 0, none⟩ = some (.int .i64 0) := hcf.cell 0
  have z1 : w7.cell? ⟨gc, 1, none⟩ = some (.int .i64 0) := hcf.cell 1
  have z2 : w7.cell? ⟨gc, 2, none⟩ = some (.int .i64 0) := hcf.cell 2
  have z3 : w7.cell? ⟨gc, 3, none⟩ = some (.int .i64 0) := hcf.cell 3
  have z4 : w7.cell? ⟨gc, 4, none⟩ = some (.int .i64 0) := hcf.cell 4
  have z5 : w7.cell? ⟨gc, 5, none⟩ = some (.int .i64 0) := hcf.cell 5
  have y0 := hcf.frozen 0
  have y1 := hcf.frozen 1
  have y2 := hcf.frozen 2
  have y3 := hcf.frozen 3
  have y4 := hcf.frozen 4
  have y5 := hcf.frozen 5
  have hzl := hcf.lt
  have HCF7 := Lib.hid hcf
  clear hcf
  refine gp_step 31 (by kernel_rfl) rfl (fun K hK => ?_)
  go_simp
  go_wp2_with fail
  refine hK.out _ _ (show Gp _ _ _ from ((Gp.set _ (Or.inr rfl)).trans ((Gp.set _ (Or.inr rfl)).trans ((Gp.set _ (Or.inr rfl)).trans ((Gp.set _ (Or.inr rfl)).trans ((Gp.set _ (Or.inr rfl)).trans (Gp.set _ (Or.inr rfl)))))))) ?_
  clear hK K
  try simp only [Act.put, List.getElem_toArray, List.getElem_cons_succ, List.getElem_cons_zero, List.setIfInBounds_toArray, List.set_cons_zero, List.set_cons_succ]
  refine wpAnyH_done (by kernel_rfl) ?_ _
  have hB := ((((((HCF7.out.set_ 0 (.int .i64 n0)).set_ 1 (.int .i64 n1)).set_ 2 (.int .i64 n2)).set_ 3 (.int .i64 n3)).set_ 4 (.int .i64 n4)).set_ 5 (.int .i64 n5))
  have hfar : Gm gc w7 ((((((w7.setCell ⟨gc, 0, none⟩ (.int .i64 n0)).setCell ⟨gc, 1, none⟩ (.int .i64 n1)).setCell ⟨gc, 2, none⟩ (.int .i64 n2)).setCell ⟨gc, 3, none⟩ (.int .i64 n3)).setCell ⟨gc, 4, none⟩ (.int .i64 n4)).setCell ⟨gc, 5, none⟩ (.int .i64 n5)) := (gm_set _).trans ((gm_set _).trans ((gm_set _).trans ((gm_set _).trans ((gm_set _).trans (gm_set _)))))
  have hR := HR7.out.far HCF7.out (by
    intro j s
    match j with
    | 0 => simp
    | 1 => simp
    | 2 => simp
    | 3 => simp
    | 4 => simp
    | 5 => simp
    | j + 6 => simp) hfar hgc
  have hG := HG7.out.over hfar (by have := HGC.out; omega)
  generalize (((((w7.setCell ⟨gc, 0, none⟩ (.int .i64 n0)).setCell ⟨gc, 1, none⟩ (.int .i64 n1)).setCell ⟨gc, 2, none⟩ (.int .i64 n2)).setCell ⟨gc, 3, none⟩ (.int .i64 n3)).setCell ⟨gc, 4, none⟩ (.int .i64 n4)).setCell ⟨gc, 5, none⟩ (.int .i64 n5) = wF at hB hR hG ⊢
  have HBF := Lib.hid hB
  have HRF := Lib.hid hR
  have HGF := Lib.hid hG
  clear z0 z1 z2 z3 z4 z5 y0 y1 y2 y3 y4 y5 hfar hB hR hG
  go_wp2_with fail
  refine bodyPost_ret (res_cell (cs := #[.int .i64 n0, .int .i64 n1, .int .i64 n2, .int .i64 n3, .int .i64 n4, .int .i64 n5]) rfl st_Cf rfl HBF.out rfl) rfl ?_
  exact ⟨rfl, HRF.out, HGF.out⟩
end Go.Proofs.YtbdmepidabnfkaaGreatDoor
