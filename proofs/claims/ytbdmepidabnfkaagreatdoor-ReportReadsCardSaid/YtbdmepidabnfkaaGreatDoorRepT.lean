/-
  Reports: the document's text.
-/
import Derived.Test.YtbdmepidabnfkaaGreatDoorRepD
import Derived.Test.YtbdmepidabnfkaaGreatDoorRepV
import Derived.Test.YtbdmepidabnfkaaGreatDoorMb
import Derived.Test.YtbdmepidabnfkaaGreatDoorRecT
import Derived.Test.YtbdmepidabnfkaaGreatDoorMi
import Derived.Test.YtbdmepidabnfkaaGreatDoorMj
namespace Go.Proofs.YtbdmepidabnfkaaGreatDoor
set_option linter.unusedSimpArgs false
set_option linter.unusedVariables false
set_option linter.unusedSectionVars false
open Go.ChangeShapes Go.WideShapes Go.ChangeAt Go.RowKit Go.Deep Go.Shelf

section
variable {P : Program} {ops : Array Oper} {Q : Exit → Act → World → Prop} {md : Region.Mode}
theorem grown_one {i : Nat} {o : Oper} {fuel : Nat} {listed : Array Bool} {a : Act} {w : World} (ho : ops[i]? = some o)
    (h : ∀ K' : Act → World → Prop, Shut (∀ a' w', Grown w w' → wpAnyH P md ops Q (Grown w') fuel (listed.setIfInBounds i true) a' w' → K' a' w') → if Region.wanted o (yielded ops a.tmps) = true then Oper.wp P o a w K' Q else K' (a.put o.dst undef) w)
    {rs : List Nat} (hrs : AllReadyH P md ops Q (Grown w) fuel listed a w rs) : AllReadyH P md ops Q (Grown w) fuel listed a w (i :: rs) :=
  AllReadyH.cons ho (fun K' hK => h K' (fun a' w' hg hw => hK.out a' w' hg (fun _ => wpAnyH_mono (fun w2 h2 => hg.trans (h2.mono (Below.size hg))) _ _ _ _ hw))) hrs
theorem grown_two (i j : Nat) {o p : Oper} {fuel : Nat} {listed : Array Bool} {a : Act} {w : World} (hr : Region.ready md ops listed = [i, j]) (ho : ops[i]? = some o) (hp : ops[j]? = some p)
    (h : ∀ K' : Act → World → Prop, Shut (∀ a' w', Grown w w' → wpAnyH P md ops Q (Grown w') fuel (listed.setIfInBounds i true) a' w' → K' a' w') → if Region.wanted o (yielded ops a.tmps) = true then Oper.wp P o a w K' Q else K' (a.put o.dst undef) w)
    (h2 : ∀ K' : Act → World → Prop, Shut (∀ a' w', Grown w w' → wpAnyH P md ops Q (Grown w') fuel (listed.setIfInBounds j true) a' w' → K' a' w') → if Region.wanted p (yielded ops a.tmps) = true then Oper.wp P p a w K' Q else K' (a.put p.dst undef) w) :
    wpAnyH P md ops Q (Grown w) (fuel + 1) listed a w :=
  wpAnyH_ready hr (by simp) (grown_one ho h (grown_one hp h2 AllReadyH.nil))
end
theorem slI_of {W : World} {g : Nat} {t : TypeId} {cs : Array Value} {ns : List Int} (h : Blk W g t cs) (hl : cs.toList = ns.map (Value.int .i64)) : SlI W W.heap.size (some ⟨g, 0, none⟩) ns := by
  intro k hk
  refine ⟨g, 0, [.int .i64 ns[k]], rfl, h.lt, rfl, fun j v hj => ?_⟩
  match j, hj with
  | 0, hj =>
    simp only [List.getElem?_cons_zero, Option.some.injEq] at hj
    subst hj
    rw [show 0 + k * 1 + 0 = k by omega]
    refine (h.cell k).trans ?_
    rw [← Array.getElem?_toList, hl, List.getElem?_map, List.getElem?_eq_getElem hk]; rfl
  | j + 1, hj => simp at hj
theorem slI_two {W : World} {g o : Nat} {x y : Int} (hg : g < W.heap.size) (h0 : W.cell? ⟨g, o, none⟩ = some (.int .i64 x)) (h1 : W.cell? ⟨g, o + 1, none⟩ = some (.int .i64 y)) : SlI W W.heap.size (some ⟨g, o, none⟩) [x, y] := by
  intro k hk
  match k, hk with
  | 0, _ =>
    refine ⟨g, o, [.int .i64 x], rfl, hg, rfl, fun j v hj => ?_⟩
    match j, hj with
    | 0, hj =>
      simp only [List.getElem?_cons_zero, Option.some.injEq] at hj
      subst hj
      exact h0
    | j + 1, hj => simp at hj
  | 1, _ =>
    refine ⟨g, o, [.int .i64 y], rfl, hg, rfl, fun j v hj => ?_⟩
    match j, hj with
    | 0, hj =>
      simp only [List.getElem?_cons_zero, Option.some.injEq] at hj
      subst hj
      exact h1
    | j + 1, hj => simp at hj
theorem st_line : lnW [115, 116, 105, 99, 107, 108, 101, 114] [1] = [115, 116, 105, 99, 107, 108, 101, 114, 32, 49, 10] := by
  unfold lnW
  simp only [List.flatMap_cons, List.flatMap_nil, blN, itoa_one]
  decide
theorem six_good {x0 x1 x2 x3 x4 x5 : Int} (h : goodI x0 ∧ goodI x1 ∧ goodI x2 ∧ goodI x3 ∧ goodI x4 ∧ goodI x5) : ∀ n ∈ [x0, x1, x2, x3, x4, x5], goodI n := by
  intro n hn
  simp only [List.mem_cons, List.not_mem_nil, or_false] at hn
  obtain ⟨g0, g1, g2, g3, g4, g5⟩ := h
  rcases hn with rfl | rfl | rfl | rfl | rfl | rfl <;> assumption
theorem cutW2 {S : World → Prop} {P : World → Nat → Nat → Prop} {A : Prop} (h1 : (∀ w x y, S w → P w x y) → A) (h2 : ∀ w x y, S w → P w x y) : A := h1 h2
theorem gen_w {f : World → Prop} {w : World} (h : ∀ W, W = w → f W) : f w := h w rfl
/-- The names of kinds, called for one of them. -/
theorem kinds_at (q : Nat) (hq : q < 4) (W : World) : Calls Tryz.prog 48 #[] W fun e w' => e = .returned (.slice (some ⟨W.heap.size, 0, none⟩) 4 4) ∧ w'.cell? ⟨W.heap.size, q, none⟩ = some (bstr (kindF ((q : Int) + 1))) ∧ W.heap.size < w'.heap.size ∧ ∃ j, w' = W.more j := by
  refine (kinds_exact W).mono ?_
  rintro e w' ⟨rfl, rfl⟩
  have hB := Blk.new W 9 #[bstr [97, 108, 108, 111, 119, 101, 100], bstr [105, 103, 110, 111, 114, 101, 100], bstr [114, 101, 106, 101, 99, 116, 101, 100], bstr [108, 105, 109, 105, 116, 101, 100]]
  refine ⟨rfl, (hB.cell q).trans ?_, by simp, Below.junk (by repeat (first | (with_reducible exact Below.refl _ _) | (with_reducible refine Below.allocS ?_ _) | (with_reducible refine Below.moreS ?_ _) | (with_reducible refine Below.drew ?_) | (with_reducible refine below_drewN ?_ _)))⟩
  match q, hq with
  | 0, _ => rfl
  | 1, _ => rfl
  | 2, _ => rfl
  | 3, _ => rfl
abbrev CfT3 : TypeId := 23
set_option maxHeartbeats 16000000 in
set_option maxRecDepth 100000 in
theorem ref43_Text (c0 c1 c2 c3 c4 c5 : Int) (a : Option Addr) (l : List Rec) (c : Nat) (v t : Int) (fa : Option Addr) (fs : List Fl) (fc : Nat) (ua : Option Addr) (us : List Int) (uc : Nat) (f0 f1 : Int) (hll : l.length ≤ 1000000) (hfl : fs.length ≤ 5000) (hul : us.length ≤ 5000) (hgt : goodI t) (hgf : goodI f0) (hgg : goodI f1) (w : World) (hS : SlRc w w.heap.size a l) (hF : SlFl w w.heap.size fa fs) (hU : SlI w w.heap.size ua us) (hR : rightD ⟨c0, c1, c2, c3, c4, c5, l, v, t, fs, us, f0, f1⟩ = true) :
    Calls Tryz.prog 14 #[.agg #[.int .i64 c0, .int .i64 c1, .int .i64 c2, .int .i64 c3, .int .i64 c4, .int .i64 c5, .slice a l.length c, .int .i64 v, .int .i64 t, .slice fa fs.length fc, .slice ua us.length uc, .int .i64 f0, .int .i64 f1]] w fun e w' => e = .returned (bstr (textD ⟨c0, c1, c2, c3, c4, c5, l, v, t, fs, us, f0, f1⟩)) ∧ ∃ j, w' = w.more j := by
  have hrl := right_l hR
  have hcg := cfg_good (right_cfg hR)
  have hv := right_v hR
  simp only at hrl hcg hv
  obtain ⟨q, hq, rfl⟩ : ∃ q : Nat, q < 4 ∧ v = (q : Int) + 1 := ⟨(v - 1).toNat, by omega, by omega⟩
  have HRL : Hid (∀ r ∈ l, recR r = true) := List.all_eq_true.1 hrl
  have HN1 : Hid (∀ W x, SlI W W.heap.size x [c0, c1, c2, c3, c4, c5] → Calls Tryz.prog 46 #[bstr [99, 111, 110, 102, 105, 103], .slice x 6 6] W fun e w' => e = .returned (bstr (lnW [99, 111, 110, 102, 105, 103] [c0, c1, c2, c3, c4, c5])) ∧ ∃ j, w' = W.more j) := fun W x hx => ref43_numbers [99, 111, 110, 102, 105, 103] x 6 [c0, c1, c2, c3, c4, c5] (six_good hcg) (by simp) (by simp) W hx
  have HN2 : Hid (∀ W x, SlI W W.heap.size x [(l.length : Int)] → Calls Tryz.prog 46 #[bstr [102, 114, 97, 109, 101, 115], .slice x 1 1] W fun e w' => e = .returned (bstr (lnW [102, 114, 97, 109, 101, 115] [(l.length : Int)])) ∧ ∃ j, w' = W.more j) := fun W x hx => ref43_numbers [102, 114, 97, 109, 101, 115] x 1 [(l.length : Int)] (good_one (by unfold goodI; omega)) (by simp) (by simp) W hx
  have HN4 : Hid (∀ W x, SlI W W.heap.size x [t] → Calls Tryz.prog 46 #[bstr (118 :: 101 :: 114 :: 100 :: 105 :: 99 :: 116 :: 32 :: kindF ((q : Int) + 1)), .slice x 1 1] W fun e w' => e = .returned (bstr (lnW ([118, 101, 114, 100, 105, 99, 116] ++ (32 :: kindF ((q : Int) + 1))) [t])) ∧ ∃ j, w' = W.more j) := fun W x hx => ref43_numbers ([118, 101, 114, 100, 105, 99, 116] ++ (32 :: kindF ((q : Int) + 1))) x 1 [t] (good_one hgt) (by simp) (by have := kindF_len ((q : Int) + 1); simp; omega) W hx
  have HN7 : Hid (∀ W x, SlI W W.heap.size x [f0, f1] → Calls Tryz.prog 46 #[bstr [108, 101, 102, 116], .slice x 2 2] W fun e w' => e = .returned (bstr (lnW [108, 101, 102, 116] [f0, f1])) ∧ ∃ j, w' = W.more j) := fun W x hx => ref43_numbers [108, 101, 102, 116] x 2 [f0, f1] (good_two hgf hgg) (by simp) (by simp) W hx
  have HFS : Hid (∀ W, Below w.heap.size w W → Calls Tryz.prog 49 #[.slice fa fs.length fc] W fun e w' => e = .returned (bstr (showW fs)) ∧ ∃ j, w' = W.more j) := fun W hW => ref09_Show fa fs fc (by omega) W (SlFl.keep hF hW)
  have HUS : Hid (∀ W, Below w.heap.size w W → Calls Tryz.prog 50 #[.slice ua us.length uc] W fun e w' => e = .returned (bstr (showR us)) ∧ ∃ j, w' = W.more j) := fun W hW => ref38_Show ua us uc (by omega) W ((hU.below hW (Nat.le_refl _)).mono hW.size (fun _ _ _ h => h))
  have HKD := Lib.hid (kinds_at q hq)
  have htx := text_parts c0 c1 c2 c3 c4 c5 a l c ((q : Int) + 1) t fa fs fc ua us uc f0 f1
  unfold head3 at htx
  rw [st_line] at htx
  have HTX := Lib.hid htx
  have h1 := lnW_len (head := [99, 111, 110, 102, 105, 103]) (ns := [c0, c1, c2, c3, c4, c5]) (six_good hcg)
  have h2 := lnW_len (head := [102, 114, 97, 109, 101, 115]) (ns := [(l.length : Int)]) (good_one (by unfold goodI; omega))
  have h4 := lnW_len (head := [118, 101, 114, 100, 105, 99, 116] ++ (32 :: kindF ((q : Int) + 1))) (good_one hgt)
  have h7 := lnW_len (head := [108, 101, 102, 116]) (good_two hgf hgg)
  have h8 := kindF_len ((q : Int) + 1)
  have h5 := showW_fine fs
  have h6 := showR_fine us
  have HLT : Hid (∀ k, (recsT (l.take k)).length ≤ 301000000) := fun k => by
    have := recsT_len (l.take k) (fun r hr => List.all_eq_true.1 hrl r (List.mem_of_mem_take hr))
    simp only [List.length_take] at this
    omega
  simp only [List.length_append, List.length_cons, List.length_nil] at h1 h2 h4 h7
  have HS := Lib.hid hS
  clear htx hS hF hU hR hgt hgf hgg hrl hcg hv
  generalize textD _ = T at HTX ⊢
  generalize lnW [99, 111, 110, 102, 105, 103] [c0, c1, c2, c3, c4, c5] = T1 at HN1 HTX h1
  generalize lnW [102, 114, 97, 109, 101, 115] [(l.length : Int)] = T2 at HN2 HTX h2
  generalize lnW ([118, 101, 114, 100, 105, 99, 116] ++ (32 :: kindF ((q : Int) + 1))) [t] = T4 at HN4 HTX h4
  generalize lnW [108, 101, 102, 116] [f0, f1] = T7 at HN7 HTX h7
  have h5' : (showW fs).length ≤ 200000 := by omega
  have h6' : (showR us).length ≤ 60000 := by omega
  generalize showW fs = F at HFS HTX h5'
  generalize showR us = R at HUS HTX h6'
  generalize kindF ((q : Int) + 1) = KD at HN4 HKD h4 h8 HTX
  clear h5 h6
  generalize fs.length = nf at HFS ⊢
  generalize us.length = nu at HUS ⊢
  have sq : IntKind.i64.wrap (q : Int) = q := IntWalk.i64_in _ (by omega)
  have i2 : (q : Int) < 4 := by omega
  go_enter Tryz.func14, Tryz.ntmps14
  go_wp2_with fail
  obtain ⟨wk, hwk⟩ : ∃ wk, wk = (w.alloc (.cells #[.int .i64 c0, .int .i64 c1, .int .i64 c2, .int .i64 c3, .int .i64 c4, .int .i64 c5, .slice a l.length c, .int .i64 ((q : Int) + 1), .int .i64 t, .slice fa nf fc, .slice ua nu uc, .int .i64 f0, .int .i64 f1] RpT)).alloc (.cells #[.int .i64 c0, .int .i64 c1, .int .i64 c2, .int .i64 c3, .int .i64 c4, .int .i64 c5] CfT3) := ⟨_, rfl⟩
  rw [← hwk]
  have hbx : Blk wk w.heap.size RpT #[.int .i64 c0, .int .i64 c1, .int .i64 c2, .int .i64 c3, .int .i64 c4, .int .i64 c5, .slice a l.length c, .int .i64 ((q : Int) + 1), .int .i64 t, .slice fa nf fc, .slice ua nu uc, .int .i64 f0, .int .i64 f1] := by rw [hwk]; exact (Blk.new _ _ _).alloc _
  have hcf : Blk wk (w.heap.size + 1) CfT3 #[.int .i64 c0, .int .i64 c1, .int .i64 c2, .int .i64 c3, .int .i64 c4, .int .i64 c5] := by rw [hwk]; exact Blk.at_ _ _ _ (by simp)
  have HBW : Hid (Below w.heap.size w wk) := by show Below _ _ _; rw [hwk]; exact (by repeat (first | (with_reducible exact Below.refl _ _) | (with_reducible refine Below.allocS ?_ _) | (with_reducible refine Below.moreS ?_ _) | (with_reducible refine Below.drew ?_) | (with_reducible refine below_drewN ?_ _)))
  clear hwk
  refine grown_start (by kernel_rfl) ?_
  obtain ⟨wd, hwd⟩ : ∃ wd, wd = wk.drew := ⟨_, rfl⟩
  rw [← hwd]
  replace hbx : Blk wd w.heap.size RpT #[.int .i64 c0, .int .i64 c1, .int .i64 c2, .int .i64 c3, .int .i64 c4, .int .i64 c5, .slice a l.length c, .int .i64 ((q : Int) + 1), .int .i64 t, .slice fa nf fc, .slice ua nu uc, .int .i64 f0, .int .i64 f1] := by rw [hwd]; exact hbx.drew
  replace hcf : Blk wd (w.heap.size + 1) CfT3 #[.int .i64 c0, .int .i64 c1, .int .i64 c2, .int .i64 c3, .int .i64 c4, .int .i64 c5] := by rw [hwd]; exact hcf.drew
  replace HBW : Hid (Below w.heap.size w wd) := by show Below _ _ _; rw [hwd]; exact Below.drew HBW.out
  have HBX := Lib.hid hbx
  have hg1 := hbx.lt
  have hg2 := hcf.lt
  have p0 : wd.cell? ⟨w.heap.size + 1, 0, none⟩ = some (.int .i64 c0) := hcf.cell 0
  have p1 : wd.cell? ⟨w.heap.size + 1, 1, none⟩ = some (.int .i64 c1) := hcf.cell 1
  have p2 : wd.cell? ⟨w.heap.size + 1, 2, none⟩ = some (.int .i64 c2) := hcf.cell 2
  have p3 : wd.cell? ⟨w.heap.size + 1, 3, none⟩ = some (.int .i64 c3) := hcf.cell 3
  have p4 : wd.cell? ⟨w.heap.size + 1, 4, none⟩ = some (.int .i64 c4) := hcf.cell 4
  have p5 : wd.cell? ⟨w.heap.size + 1, 5, none⟩ = some (.int .i64 c5) := hcf.cell 5
  have a6 : wd.cell? ⟨w.heap.size, 6, none⟩ = some (.slice a l.length c) := hbx.cell 6
  clear hwd hbx hcf
  refine cutW2 (S := fun W => Below wd.heap.size wd W) (P := ?PP) (fun key => ?_) ?_
  rotate_left
  · skip
    refine grown_take 0 (v := ?_) rfl (by kernel_rfl) (by kernel_rfl) (by kernel_rfl) (fun _ _ _ h => h) (Or.inl ⟨by first | kernel_rfl | rfl, ?_⟩) ?_
    rotate_left
    · intro wS hSw; have hSc := hSw.cell; clear hSw; go_simp; try with_reducible rfl
    try simp only [Act.put, List.getElem_toArray, List.getElem_cons_succ, List.getElem_cons_zero, List.setIfInBounds_toArray, List.set_cons_zero, List.set_cons_succ]
    refine grown_take 1 (v := ?_) rfl (by kernel_rfl) (by kernel_rfl) (by kernel_rfl) (fun _ _ _ h => h) (Or.inl ⟨by first | kernel_rfl | rfl, ?_⟩) ?_
    rotate_left
    · intro wS hSw; have hSc := hSw.cell; clear hSw; go_simp; try with_reducible rfl
    try simp only [Act.put, List.getElem_toArray, List.getElem_cons_succ, List.getElem_cons_zero, List.setIfInBounds_toArray, List.set_cons_zero, List.set_cons_succ]
    refine grown_take 2 (v := ?_) rfl (by kernel_rfl) (by kernel_rfl) (by kernel_rfl) (fun _ _ _ h => h) (Or.inl ⟨by first | kernel_rfl | rfl, ?_⟩) ?_
    rotate_left
    · intro wS hSw; have hSc := hSw.cell; clear hSw; go_simp; try with_reducible rfl
    try simp only [Act.put, List.getElem_toArray, List.getElem_cons_succ, List.getElem_cons_zero, List.setIfInBounds_toArray, List.set_cons_zero, List.set_cons_succ]
    refine grown_take 3 (v := ?_) rfl (by kernel_rfl) (by kernel_rfl) (by kernel_rfl) (fun _ _ _ h => h) (Or.inl ⟨by first | kernel_rfl | rfl, ?_⟩) ?_
    rotate_left
    · intro wS hSw; have hSc := hSw.cell; clear hSw; go_simp; try with_reducible rfl
    try simp only [Act.put, List.getElem_toArray, List.getElem_cons_succ, List.getElem_cons_zero, List.setIfInBounds_toArray, List.set_cons_zero, List.set_cons_succ]
    refine grown_take 4 (v := ?_) rfl (by kernel_rfl) (by kernel_rfl) (by kernel_rfl) (fun _ _ _ h => h) (Or.inl ⟨by first | kernel_rfl | rfl, ?_⟩) ?_
    rotate_left
    · intro wS hSw; have hSc := hSw.cell; clear hSw; go_simp; try with_reducible rfl
    try simp only [Act.put, List.getElem_toArray, List.getElem_cons_succ, List.getElem_cons_zero, List.setIfInBounds_toArray, List.set_cons_zero, List.set_cons_succ]
    refine grown_take 5 (v := ?_) rfl (by kernel_rfl) (by kernel_rfl) (by kernel_rfl) (fun _ _ _ h => h) (Or.inl ⟨by first | kernel_rfl | rfl, ?_⟩) ?_
    rotate_left
    · intro wS hSw; have hSc := hSw.cell; clear hSw; go_simp; try with_reducible rfl
    try simp only [Act.put, List.getElem_toArray, List.getElem_cons_succ, List.getElem_cons_zero, List.setIfInBounds_toArray, List.set_cons_zero, List.set_cons_succ]
    refine grown_take 6 (v := ?_) rfl (by kernel_rfl) (by kernel_rfl) (by kernel_rfl) (fun _ _ _ h => h) (Or.inl ⟨by first | kernel_rfl | rfl, ?_⟩) ?_
    rotate_left
    · intro wS hSw; have hSc := hSw.cell; clear hSw; go_simp; try with_reducible rfl
    try simp only [Act.put, List.getElem_toArray, List.getElem_cons_succ, List.getElem_cons_zero, List.setIfInBounds_toArray, List.set_cons_zero, List.set_cons_succ]
    refine grown_take 7 (v := ?_) rfl (by kernel_rfl) (by kernel_rfl) (by kernel_rfl) (fun _ _ _ h => h) (Or.inl ⟨by first | kernel_rfl | rfl, ?_⟩) ?_
    rotate_left
    · intro wS hSw; have hSc := hSw.cell; clear hSw; go_simp; try with_reducible rfl
    try simp only [Act.put, List.getElem_toArray, List.getElem_cons_succ, List.getElem_cons_zero, List.setIfInBounds_toArray, List.set_cons_zero, List.set_cons_succ]
    refine grown_take 8 (v := ?_) rfl (by kernel_rfl) (by kernel_rfl) (by kernel_rfl) (fun _ _ _ h => h) (Or.inl ⟨by first | kernel_rfl | rfl, ?_⟩) ?_
    rotate_left
    · intro wS hSw; have hSc := hSw.cell; clear hSw; go_simp; try with_reducible rfl
    try simp only [Act.put, List.getElem_toArray, List.getElem_cons_succ, List.getElem_cons_zero, List.setIfInBounds_toArray, List.set_cons_zero, List.set_cons_succ]
    refine grown_take 9 (v := ?_) rfl (by kernel_rfl) (by kernel_rfl) (by kernel_rfl) (fun _ _ _ h => h) (Or.inl ⟨by first | kernel_rfl | rfl, ?_⟩) ?_
    rotate_left
    · intro wS hSw; have hSc := hSw.cell; clear hSw; go_simp; try with_reducible rfl
    try simp only [Act.put, List.getElem_toArray, List.getElem_cons_succ, List.getElem_cons_zero, List.setIfInBounds_toArray, List.set_cons_zero, List.set_cons_succ]
    refine grown_take 10 (v := ?_) rfl (by kernel_rfl) (by kernel_rfl) (by kernel_rfl) (fun _ _ _ h => h) (Or.inl ⟨by first | kernel_rfl | rfl, ?_⟩) ?_
    rotate_left
    · intro wS hSw; have hSc := hSw.cell; clear hSw; go_simp; try with_reducible rfl
    try simp only [Act.put, List.getElem_toArray, List.getElem_cons_succ, List.getElem_cons_zero, List.setIfInBounds_toArray, List.set_cons_zero, List.set_cons_succ]
    refine grown_take 11 (v := ?_) rfl (by kernel_rfl) (by kernel_rfl) (by kernel_rfl) (fun _ _ _ h => h) (Or.inl ⟨by first | kernel_rfl | rfl, ?_⟩) ?_
    rotate_left
    · intro wS hSw; have hSc := hSw.cell; clear hSw; go_simp; try with_reducible rfl
    try simp only [Act.put, List.getElem_toArray, List.getElem_cons_succ, List.getElem_cons_zero, List.setIfInBounds_toArray, List.set_cons_zero, List.set_cons_succ]
    refine grown_take 15 (v := ?_) rfl (by kernel_rfl) (by kernel_rfl) (by kernel_rfl) (fun _ _ _ h => h) (Or.inl ⟨by first | kernel_rfl | rfl, ?_⟩) ?_
    rotate_left
    · intro wS hSw; have hSc := hSw.cell; clear hSw; go_simp; try with_reducible rfl
    try simp only [Act.put, List.getElem_toArray, List.getElem_cons_succ, List.getElem_cons_zero, List.setIfInBounds_toArray, List.set_cons_zero, List.set_cons_succ]
    refine grown_take 16 (v := ?_) rfl (by kernel_rfl) (by kernel_rfl) (by kernel_rfl) (fun _ _ _ h => h) (Or.inl ⟨by first | kernel_rfl | rfl, ?_⟩) ?_
    rotate_left
    · intro wS hSw; have hSc := hSw.cell; clear hSw; go_simp; try with_reducible rfl
    try simp only [Act.put, List.getElem_toArray, List.getElem_cons_succ, List.getElem_cons_zero, List.setIfInBounds_toArray, List.set_cons_zero, List.set_cons_succ]
    refine grown_take 17 (v := ?_) rfl (by kernel_rfl) (by kernel_rfl) (by kernel_rfl) (fun _ _ _ h => h) (Or.inl ⟨by first | kernel_rfl | rfl, ?_⟩) ?_
    rotate_left
    · intro wS hSw; have hSc := hSw.cell; clear hSw; go_simp; try with_reducible rfl
    try simp only [Act.put, List.getElem_toArray, List.getElem_cons_succ, List.getElem_cons_zero, List.setIfInBounds_toArray, List.set_cons_zero, List.set_cons_succ]
    refine grown_two 12 18 (by kernel_rfl) rfl rfl (fun K hK => ?_) (fun K hK => ?_)
    · go_simp
      go_wp2_with fail
      refine hK.out _ _ (show Below _ _ _ from (by (try (with_reducible refine grown_undrew ?_)); repeat (first | (with_reducible exact Below.refl _ _) | (with_reducible exact grown_merge _ _ _ _) | (with_reducible exact grown_merge2 _ _ _ _ _ _) | (with_reducible exact grown_merge3 _ _ _ _ _ _ _) | (with_reducible refine Below.allocS ?_ _) | (with_reducible refine Below.moreS ?_ _) | (with_reducible refine Below.drew ?_)))) ?_
      clear hK K
      try simp only [Act.put, List.getElem_toArray, List.getElem_cons_succ, List.getElem_cons_zero, List.setIfInBounds_toArray, List.set_cons_zero, List.set_cons_succ]
      refine grown_two 13 18 (by kernel_rfl) rfl rfl (fun K hK => ?_) (fun K hK => ?_)
      · go_simp
        go_wp2_with (go_at_call 46; (refine (HN1.out _ _ (slI_of (t := 3) (cs := #[.int .i64 c0, .int .i64 c1, .int .i64 c2, .int .i64 c3, .int .i64 c4, .int .i64 c5]) (by repeat (first | ((with_reducible apply Blk.at_); (simp; done)) | (with_reducible apply Blk.alloc) | (with_reducible apply Blk.more) | (with_reducible apply Blk.drew))) rfl)).mono ?_); rintro e w' ⟨rfl, j1, rfl⟩)
        refine hK.out _ _ (show Below _ _ _ from (by (try (with_reducible refine grown_undrew ?_)); repeat (first | (with_reducible exact Below.refl _ _) | (with_reducible exact grown_merge _ _ _ _) | (with_reducible exact grown_merge2 _ _ _ _ _ _) | (with_reducible exact grown_merge3 _ _ _ _ _ _ _) | (with_reducible refine Below.allocS ?_ _) | (with_reducible refine Below.moreS ?_ _) | (with_reducible refine Below.drew ?_)))) ?_
        clear hK K
        try simp only [Act.put, List.getElem_toArray, List.getElem_cons_succ, List.getElem_cons_zero, List.setIfInBounds_toArray, List.set_cons_zero, List.set_cons_succ]
        refine grown_take 14 (v := ?_) rfl (by kernel_rfl) (by kernel_rfl) (by kernel_rfl) (fun _ _ _ h => h) (Or.inl ⟨by first | kernel_rfl | rfl, ?_⟩) ?_
        rotate_left
        · intro wS hSw; have hSc := hSw.cell; clear hSw; go_simp; first | (with_reducible rfl) | (rw [if_neg (by first | omega | (simp only [List.length_append, List.length_cons, List.length_nil]; omega))])
        try simp only [Act.put, List.getElem_toArray, List.getElem_cons_succ, List.getElem_cons_zero, List.setIfInBounds_toArray, List.set_cons_zero, List.set_cons_succ]
        refine grown_step 18 (by kernel_rfl) rfl (fun K hK => ?_)
        go_simp
        go_wp2_with fail
        refine hK.out _ _ (show Below _ _ _ from (by (try (with_reducible refine grown_undrew ?_)); repeat (first | (with_reducible exact Below.refl _ _) | (with_reducible exact grown_merge _ _ _ _) | (with_reducible exact grown_merge2 _ _ _ _ _ _) | (with_reducible exact grown_merge3 _ _ _ _ _ _ _) | (with_reducible refine Below.allocS ?_ _) | (with_reducible refine Below.moreS ?_ _) | (with_reducible refine Below.drew ?_)))) ?_
        clear hK K
        try simp only [Act.put, List.getElem_toArray, List.getElem_cons_succ, List.getElem_cons_zero, List.setIfInBounds_toArray, List.set_cons_zero, List.set_cons_succ]
        refine grown_step 19 (by kernel_rfl) rfl (fun K hK => ?_)
        go_simp
        go_wp2_with (go_at_call 46; (refine (HN2.out _ _ (slI_of (t := 3) (cs := #[.int .i64 (l.length : Int)]) (by repeat (first | ((with_reducible apply Blk.at_); (simp; done)) | (with_reducible apply Blk.alloc) | (with_reducible apply Blk.more) | (with_reducible apply Blk.drew))) rfl)).mono ?_); rintro e w' ⟨rfl, j2, rfl⟩)
        refine hK.out _ _ (show Below _ _ _ from (by (try (with_reducible refine grown_undrew ?_)); repeat (first | (with_reducible exact Below.refl _ _) | (with_reducible exact grown_merge _ _ _ _) | (with_reducible exact grown_merge2 _ _ _ _ _ _) | (with_reducible exact grown_merge3 _ _ _ _ _ _ _) | (with_reducible refine Below.allocS ?_ _) | (with_reducible refine Below.moreS ?_ _) | (with_reducible refine Below.drew ?_)))) ?_
        clear hK K
        try simp only [Act.put, List.getElem_toArray, List.getElem_cons_succ, List.getElem_cons_zero, List.setIfInBounds_toArray, List.set_cons_zero, List.set_cons_succ]
        refine grown_take 20 (v := ?_) rfl (by kernel_rfl) (by kernel_rfl) (by kernel_rfl) (fun _ _ _ h => h) (Or.inl ⟨by first | kernel_rfl | rfl, ?_⟩) ?_
        rotate_left
        · intro wS hSw; have hSc := hSw.cell; clear hSw; go_simp; first | (with_reducible rfl) | (rw [if_neg (by first | omega | (simp only [List.length_append, List.length_cons, List.length_nil]; omega))])
        try simp only [Act.put, List.getElem_toArray, List.getElem_cons_succ, List.getElem_cons_zero, List.setIfInBounds_toArray, List.set_cons_zero, List.set_cons_succ]
        refine grown_take 21 (v := ?_) rfl (by kernel_rfl) (by kernel_rfl) (by kernel_rfl) (fun _ _ _ h => h) (Or.inl ⟨by first | kernel_rfl | rfl, ?_⟩) ?_
        rotate_left
        · intro wS hSw; have hSc := hSw.cell; clear hSw; go_simp; try with_reducible rfl
        try simp only [Act.put, List.getElem_toArray, List.getElem_cons_succ, List.getElem_cons_zero, List.setIfInBounds_toArray, List.set_cons_zero, List.set_cons_succ]
        refine wpAnyH_done (by kernel_rfl) ?_ _
        refine gen_w (f := Exit.then _ _ _ _) ?_
        intro W1 hW1
        have hS1 : Below wd.heap.size wd W1 := by rw [hW1]; exact (by repeat (first | (with_reducible exact Below.refl _ _) | (with_reducible refine Below.allocS ?_ _) | (with_reducible refine Below.moreS ?_ _) | (with_reducible refine Below.drew ?_) | (with_reducible refine below_drewN ?_ _)))
        clear hW1
        generalize wd.heap.size + 1 + j1.heap.size = y1
        generalize wd.heap.size = x1
        exact key W1 x1 y1 hS1
      · go_simp
        go_wp2_with fail
        refine hK.out _ _ (show Below _ _ _ from (by (try (with_reducible refine grown_undrew ?_)); repeat (first | (with_reducible exact Below.refl _ _) | (with_reducible exact grown_merge _ _ _ _) | (with_reducible exact grown_merge2 _ _ _ _ _ _) | (with_reducible exact grown_merge3 _ _ _ _ _ _ _) | (with_reducible refine Below.allocS ?_ _) | (with_reducible refine Below.moreS ?_ _) | (with_reducible refine Below.drew ?_)))) ?_
        clear hK K
        try simp only [Act.put, List.getElem_toArray, List.getElem_cons_succ, List.getElem_cons_zero, List.setIfInBounds_toArray, List.set_cons_zero, List.set_cons_succ]
        refine grown_step 13 (by kernel_rfl) rfl (fun K hK => ?_)
        go_simp
        go_wp2_with (go_at_call 46; (refine (HN1.out _ _ (slI_of (t := 3) (cs := #[.int .i64 c0, .int .i64 c1, .int .i64 c2, .int .i64 c3, .int .i64 c4, .int .i64 c5]) (by repeat (first | ((with_reducible apply Blk.at_); (simp; done)) | (with_reducible apply Blk.alloc) | (with_reducible apply Blk.more) | (with_reducible apply Blk.drew))) rfl)).mono ?_); rintro e w' ⟨rfl, j1, rfl⟩)
        refine hK.out _ _ (show Below _ _ _ from (by (try (with_reducible refine grown_undrew ?_)); repeat (first | (with_reducible exact Below.refl _ _) | (with_reducible exact grown_merge _ _ _ _) | (with_reducible exact grown_merge2 _ _ _ _ _ _) | (with_reducible exact grown_merge3 _ _ _ _ _ _ _) | (with_reducible refine Below.allocS ?_ _) | (with_reducible refine Below.moreS ?_ _) | (with_reducible refine Below.drew ?_)))) ?_
        clear hK K
        try simp only [Act.put, List.getElem_toArray, List.getElem_cons_succ, List.getElem_cons_zero, List.setIfInBounds_toArray, List.set_cons_zero, List.set_cons_succ]
        refine grown_take 14 (v := ?_) rfl (by kernel_rfl) (by kernel_rfl) (by kernel_rfl) (fun _ _ _ h => h) (Or.inl ⟨by first | kernel_rfl | rfl, ?_⟩) ?_
        rotate_left
        · intro wS hSw; have hSc := hSw.cell; clear hSw; go_simp; first | (with_reducible rfl) | (rw [if_neg (by first | omega | (simp only [List.length_append, List.length_cons, List.length_nil]; omega))])
        try simp only [Act.put, List.getElem_toArray, List.getElem_cons_succ, List.getElem_cons_zero, List.setIfInBounds_toArray, List.set_cons_zero, List.set_cons_succ]
        refine grown_step 19 (by kernel_rfl) rfl (fun K hK => ?_)
        go_simp
        go_wp2_with (go_at_call 46; (refine (HN2.out _ _ (slI_of (t := 3) (cs := #[.int .i64 (l.length : Int)]) (by repeat (first | ((with_reducible apply Blk.at_); (simp; done)) | (with_reducible apply Blk.alloc) | (with_reducible apply Blk.more) | (with_reducible apply Blk.drew))) rfl)).mono ?_); rintro e w' ⟨rfl, j2, rfl⟩)
        refine hK.out _ _ (show Below _ _ _ from (by (try (with_reducible refine grown_undrew ?_)); repeat (first | (with_reducible exact Below.refl _ _) | (with_reducible exact grown_merge _ _ _ _) | (with_reducible exact grown_merge2 _ _ _ _ _ _) | (with_reducible exact grown_merge3 _ _ _ _ _ _ _) | (with_reducible refine Below.allocS ?_ _) | (with_reducible refine Below.moreS ?_ _) | (with_reducible refine Below.drew ?_)))) ?_
        clear hK K
        try simp only [Act.put, List.getElem_toArray, List.getElem_cons_succ, List.getElem_cons_zero, List.setIfInBounds_toArray, List.set_cons_zero, List.set_cons_succ]
        refine grown_take 20 (v := ?_) rfl (by kernel_rfl) (by kernel_rfl) (by kernel_rfl) (fun _ _ _ h => h) (Or.inl ⟨by first | kernel_rfl | rfl, ?_⟩) ?_
        rotate_left
        · intro wS hSw; have hSc := hSw.cell; clear hSw; go_simp; first | (with_reducible rfl) | (rw [if_neg (by first | omega | (simp only [List.length_append, List.length_cons, List.length_nil]; omega))])
        try simp only [Act.put, List.getElem_toArray, List.getElem_cons_succ, List.getElem_cons_zero, List.setIfInBounds_toArray, List.set_cons_zero, List.set_cons_succ]
        refine grown_take 21 (v := ?_) rfl (by kernel_rfl) (by kernel_rfl) (by kernel_rfl) (fun _ _ _ h => h) (Or.inl ⟨by first | kernel_rfl | rfl, ?_⟩) ?_
        rotate_left
        · intro wS hSw; have hSc := hSw.cell; clear hSw; go_simp; try with_reducible rfl
        try simp only [Act.put, List.getElem_toArray, List.getElem_cons_succ, List.getElem_cons_zero, List.setIfInBounds_toArray, List.set_cons_zero, List.set_cons_succ]
        refine wpAnyH_done (by kernel_rfl) ?_ _
        refine gen_w (f := Exit.then _ _ _ _) ?_
        intro W1 hW1
        have hS1 : Below wd.heap.size wd W1 := by rw [hW1]; exact (by repeat (first | (with_reducible exact Below.refl _ _) | (with_reducible refine Below.allocS ?_ _) | (with_reducible refine Below.moreS ?_ _) | (with_reducible refine Below.drew ?_) | (with_reducible refine below_drewN ?_ _)))
        clear hW1
        generalize wd.heap.size + 1 = y1
        generalize wd.heap.size = x1
        exact key W1 x1 y1 hS1
    · go_simp
      go_wp2_with fail
      refine hK.out _ _ (show Below _ _ _ from (by (try (with_reducible refine grown_undrew ?_)); repeat (first | (with_reducible exact Below.refl _ _) | (with_reducible exact grown_merge _ _ _ _) | (with_reducible exact grown_merge2 _ _ _ _ _ _) | (with_reducible exact grown_merge3 _ _ _ _ _ _ _) | (with_reducible refine Below.allocS ?_ _) | (with_reducible refine Below.moreS ?_ _) | (with_reducible refine Below.drew ?_)))) ?_
      clear hK K
      try simp only [Act.put, List.getElem_toArray, List.getElem_cons_succ, List.getElem_cons_zero, List.setIfInBounds_toArray, List.set_cons_zero, List.set_cons_succ]
      refine grown_step 12 (by kernel_rfl) rfl (fun K hK => ?_)
      go_simp
      go_wp2_with fail
      refine hK.out _ _ (show Below _ _ _ from (by (try (with_reducible refine grown_undrew ?_)); repeat (first | (with_reducible exact Below.refl _ _) | (with_reducible exact grown_merge _ _ _ _) | (with_reducible exact grown_merge2 _ _ _ _ _ _) | (with_reducible exact grown_merge3 _ _ _ _ _ _ _) | (with_reducible refine Below.allocS ?_ _) | (with_reducible refine Below.moreS ?_ _) | (with_reducible refine Below.drew ?_)))) ?_
      clear hK K
      try simp only [Act.put, List.getElem_toArray, List.getElem_cons_succ, List.getElem_cons_zero, List.setIfInBounds_toArray, List.set_cons_zero, List.set_cons_succ]
      refine grown_step 13 (by kernel_rfl) rfl (fun K hK => ?_)
      go_simp
      go_wp2_with (go_at_call 46; (refine (HN1.out _ _ (slI_of (t := 3) (cs := #[.int .i64 c0, .int .i64 c1, .int .i64 c2, .int .i64 c3, .int .i64 c4, .int .i64 c5]) (by repeat (first | ((with_reducible apply Blk.at_); (simp; done)) | (with_reducible apply Blk.alloc) | (with_reducible apply Blk.more) | (with_reducible apply Blk.drew))) rfl)).mono ?_); rintro e w' ⟨rfl, j1, rfl⟩)
      refine hK.out _ _ (show Below _ _ _ from (by (try (with_reducible refine grown_undrew ?_)); repeat (first | (with_reducible exact Below.refl _ _) | (with_reducible exact grown_merge _ _ _ _) | (with_reducible exact grown_merge2 _ _ _ _ _ _) | (with_reducible exact grown_merge3 _ _ _ _ _ _ _) | (with_reducible refine Below.allocS ?_ _) | (with_reducible refine Below.moreS ?_ _) | (with_reducible refine Below.drew ?_)))) ?_
      clear hK K
      try simp only [Act.put, List.getElem_toArray, List.getElem_cons_succ, List.getElem_cons_zero, List.setIfInBounds_toArray, List.set_cons_zero, List.set_cons_succ]
      refine grown_take 14 (v := ?_) rfl (by kernel_rfl) (by kernel_rfl) (by kernel_rfl) (fun _ _ _ h => h) (Or.inl ⟨by first | kernel_rfl | rfl, ?_⟩) ?_
      rotate_left
      · intro wS hSw; have hSc := hSw.cell; clear hSw; go_simp; first | (with_reducible rfl) | (rw [if_neg (by first | omega | (simp only [List.length_append, List.length_cons, List.length_nil]; omega))])
      try simp only [Act.put, List.getElem_toArray, List.getElem_cons_succ, List.getElem_cons_zero, List.setIfInBounds_toArray, List.set_cons_zero, List.set_cons_succ]
      refine grown_step 19 (by kernel_rfl) rfl (fun K hK => ?_)
      go_simp
      go_wp2_with (go_at_call 46; (refine (HN2.out _ _ (slI_of (t := 3) (cs := #[.int .i64 (l.length : Int)]) (by repeat (first | ((with_reducible apply Blk.at_); (simp; done)) | (with_reducible apply Blk.alloc) | (with_reducible apply Blk.more) | (with_reducible apply Blk.drew))) rfl)).mono ?_); rintro e w' ⟨rfl, j2, rfl⟩)
      refine hK.out _ _ (show Below _ _ _ from (by (try (with_reducible refine grown_undrew ?_)); repeat (first | (with_reducible exact Below.refl _ _) | (with_reducible exact grown_merge _ _ _ _) | (with_reducible exact grown_merge2 _ _ _ _ _ _) | (with_reducible exact grown_merge3 _ _ _ _ _ _ _) | (with_reducible refine Below.allocS ?_ _) | (with_reducible refine Below.moreS ?_ _) | (with_reducible refine Below.drew ?_)))) ?_
      clear hK K
      try simp only [Act.put, List.getElem_toArray, List.getElem_cons_succ, List.getElem_cons_zero, List.setIfInBounds_toArray, List.set_cons_zero, List.set_cons_succ]
      refine grown_take 20 (v := ?_) rfl (by kernel_rfl) (by kernel_rfl) (by kernel_rfl) (fun _ _ _ h => h) (Or.inl ⟨by first | kernel_rfl | rfl, ?_⟩) ?_
      rotate_left
      · intro wS hSw; have hSc := hSw.cell; clear hSw; go_simp; first | (with_reducible rfl) | (rw [if_neg (by first | omega | (simp only [List.length_append, List.length_cons, List.length_nil]; omega))])
      try simp only [Act.put, List.getElem_toArray, List.getElem_cons_succ, List.getElem_cons_zero, List.setIfInBounds_toArray, List.set_cons_zero, List.set_cons_succ]
      refine grown_take 21 (v := ?_) rfl (by kernel_rfl) (by kernel_rfl) (by kernel_rfl) (fun _ _ _ h => h) (Or.inl ⟨by first | kernel_rfl | rfl, ?_⟩) ?_
      rotate_left
      · intro wS hSw; have hSc := hSw.cell; clear hSw; go_simp; try with_reducible rfl
      try simp only [Act.put, List.getElem_toArray, List.getElem_cons_succ, List.getElem_cons_zero, List.setIfInBounds_toArray, List.set_cons_zero, List.set_cons_succ]
      refine wpAnyH_done (by kernel_rfl) ?_ _
      refine gen_w (f := Exit.then _ _ _ _) ?_
      intro W1 hW1
      have hS1 : Below wd.heap.size wd W1 := by rw [hW1]; exact (by repeat (first | (with_reducible exact Below.refl _ _) | (with_reducible refine Below.allocS ?_ _) | (with_reducible refine Below.moreS ?_ _) | (with_reducible refine Below.drew ?_) | (with_reducible refine below_drewN ?_ _)))
      clear hW1
      generalize wd.heap.size + 1 = x1
      generalize wd.heap.size = y1
      exact key W1 x1 y1 hS1
  intro w3 x3 y3 hb3
  have HB3 : Hid (Below w.heap.size w w3) := HBW.out.trans (hb3.mono HBW.out.size)
  have hbx3 : Blk w3 w.heap.size RpT #[.int .i64 c0, .int .i64 c1, .int .i64 c2, .int .i64 c3, .int .i64 c4, .int .i64 c5, .slice a l.length c, .int .i64 ((q : Int) + 1), .int .i64 t, .slice fa nf fc, .slice ua nu uc, .int .i64 f0, .int .i64 f1] := HBX.out.below hb3 hg1
  have HBX3 := Lib.hid hbx3
  have hg3 := hbx3.lt
  have a6 : w3.cell? ⟨w.heap.size, 6, none⟩ = some (.slice a l.length c) := hbx3.cell 6
  have HTX2 : Hid (T = (115 :: 116 :: 105 :: 99 :: 107 :: 108 :: 101 :: 114 :: 32 :: 49 :: 10 :: (T1 ++ T2)) ++ recsT l ++ T4 ++ lnW ([102, 97, 117, 108, 116, 115] ++ (32 :: F)) [] ++ lnW ([114, 117, 108, 101, 115] ++ (32 :: R)) [] ++ T7) := by show _ = _; rw [HTX.out]; simp
  have hH : (115 :: 116 :: 105 :: 99 :: 107 :: 108 :: 101 :: 114 :: 32 :: 49 :: 10 :: (T1 ++ T2)).length ≤ 1000 := by simp only [List.length_cons, List.length_append]; omega
  clear hbx3 hb3 HN1 HN2 HTX p0 p1 p2 p3 p4 p5 hg1 hg2 HBX HBW
  go_wp2_with fail
  generalize (115 :: 116 :: 105 :: 99 :: 107 :: 108 :: 101 :: 114 :: 32 :: 49 :: 10 :: (T1 ++ T2)) = H at HTX2 hH ⊢
  go_loopw [4, 5] (fun s i wr => ∃ k : Nat, k ≤ l.length ∧ i = .int .i64 k ∧ s = bstr (H ++ recsT (l.take k)) ∧ ∃ j, wr = w3.more j) (fun _ i _ => l.length - (intOf i).toNat)
  case atStart => exact ⟨0, Nat.zero_le _, rfl, by rw [List.take_zero, show recsT [] = [] from rfl, List.append_nil], Below.junk (by repeat (first | (with_reducible exact Below.refl _ _) | (with_reducible refine Below.allocS ?_ _) | (with_reducible refine Below.moreS ?_ _) | (with_reducible refine Below.drew ?_) | (with_reducible refine below_drewN ?_ _)))⟩
  case round =>
    obtain ⟨k, hk, rfl, rfl, j, rfl⟩ := hrel
    have hlk := HLT.out k
    by_cases hlt : k < l.length
    · obtain ⟨b, off, ha, hbb, d0, d1, d2, d3, d4, d5⟩ := SlR.atRc HS.out hlt
      subst ha
      have q0 := (HB3.out.cell (p := ⟨b, off + k * 6, none⟩) hbb).trans d0
      have q1 := (HB3.out.cell (p := ⟨b, off + k * 6 + 1, none⟩) hbb).trans d1
      have q2 := (HB3.out.cell (p := ⟨b, off + k * 6 + 2, none⟩) hbb).trans d2
      have q3 := (HB3.out.cell (p := ⟨b, off + k * 6 + 3, none⟩) hbb).trans d3
      have q4 := (HB3.out.cell (p := ⟨b, off + k * 6 + 4, none⟩) hbb).trans d4
      have q5 := (HB3.out.cell (p := ⟨b, off + k * 6 + 5, none⟩) hbb).trans d5
      have hbz : b < w3.heap.size := Nat.lt_of_lt_of_le hbb HB3.out.size
      have hrr := HRL.out _ (List.getElem_mem hlt)
      have hrl := recLine_le (recR_ok hrr)
      have HU : Hid (H ++ recsT (l.take (k + 1)) = H ++ recsT (l.take k) ++ recLine l[k] ++ [10]) := by
        show _ = _
        rw [List.take_succ_eq_append_getElem hlt]
        unfold recsT
        rw [List.flatMap_append]
        simp only [List.flatMap_cons, List.flatMap_nil, List.append_nil, List.append_assoc]
      generalize l[k] = x at q0 q1 q2 q3 q4 q5 hrr hrl HU
      obtain ⟨x0, x1, x2, x3, x4, x5⟩ := x
      simp only at q0 q1 q2 q3 q4 q5
      have HXT : Hid (∀ W, Calls Tryz.prog 47 #[.agg #[.int .i64 x0, .int .i64 x1, .int .i64 x2, .int .i64 x3, .int .i64 x4, .int .i64 x5]] W fun e w' => e = .returned (bstr (recLine ⟨x0, x1, x2, x3, x4, x5⟩)) ∧ ∃ j, w' = W.more j) := fun W => ref41_Text x0 x1 x2 x3 x4 x5 hrr W
      have hac : (H ++ recsT (l.take k)).length ≤ 400000000 := by simp only [List.length_append]; omega
      generalize H ++ recsT (l.take k) = ac at HU hac ⊢
      generalize recLine ⟨x0, x1, x2, x3, x4, x5⟩ = L at HXT HU hrl
      clear d0 d1 d2 d3 d4 d5 hrr hlk
      go_wp2_with (go_at_call 47; (with_reducible refine (HXT.out _).mono ?_); rintro e w' ⟨rfl, j, rfl⟩)
      go_round
      case rel => exact ⟨k + 1, hlt, by go_num, by rw [HU.out]; simp, _, rfl⟩
      case measure => simp [intOf]; omega
    · obtain rfl : k = l.length := by omega
      rw [List.take_length] at hlk ⊢
      have hac : (H ++ recsT l).length ≤ 400000000 := by simp only [List.length_append]; omega
      have HTX3 : Hid (T = (H ++ recsT l) ++ T4 ++ lnW ([102, 97, 117, 108, 116, 115] ++ (32 :: F)) [] ++ lnW ([114, 117, 108, 101, 115] ++ (32 :: R)) [] ++ T7) := HTX2
      clear hlk hlt hk HTX2 hH HLT HRL HS
      generalize H ++ recsT l = ac at HTX3 hac ⊢
      generalize l.length = n at HBX3 a6 ⊢
      go_wp2_with fail
      refine grown_start (by kernel_rfl) ?_
      obtain ⟨wd, hwd⟩ : ∃ wd, wd = (w3.more j).drew := ⟨_, rfl⟩
      rw [← hwd]
      have hbx : Blk wd w.heap.size RpT #[.int .i64 c0, .int .i64 c1, .int .i64 c2, .int .i64 c3, .int .i64 c4, .int .i64 c5, .slice a n c, .int .i64 ((q : Int) + 1), .int .i64 t, .slice fa nf fc, .slice ua nu uc, .int .i64 f0, .int .i64 f1] := by rw [hwd]; exact (HBX3.out.more j).drew
      have HBW : Hid (Below w.heap.size w wd) := by show Below _ _ _; rw [hwd]; exact (by repeat (first | exact HB3.out | (with_reducible refine Below.allocS ?_ _) | (with_reducible refine Below.moreS ?_ _) | (with_reducible refine Below.drew ?_)))
      have HBX := Lib.hid hbx
      have hg1 := hbx.lt
      have a7 : wd.cell? ⟨w.heap.size, 7, none⟩ = some (.int .i64 ((q : Int) + 1)) := hbx.cell 7
      have a8 : wd.cell? ⟨w.heap.size, 8, none⟩ = some (.int .i64 t) := hbx.cell 8
      clear hwd hbx HB3 HBX3 hg3
      refine cutW2 (S := fun W => Below wd.heap.size wd W) (P := ?PQ) (fun key => ?_) ?_
      rotate_left
      · skip
        refine grown_take 0 (v := ?_) rfl (by kernel_rfl) (by kernel_rfl) (by kernel_rfl) (fun _ _ _ h => h) (Or.inl ⟨by first | kernel_rfl | rfl, ?_⟩) ?_
        rotate_left
        · intro wS hSw; have hSc := hSw.cell; clear hSw; go_simp; try with_reducible rfl
        try simp only [Act.put, List.getElem_toArray, List.getElem_cons_succ, List.getElem_cons_zero, List.setIfInBounds_toArray, List.set_cons_zero, List.set_cons_succ]
        refine grown_take 2 (v := ?_) rfl (by kernel_rfl) (by kernel_rfl) (by kernel_rfl) (fun _ _ _ h => h) (Or.inl ⟨by first | kernel_rfl | rfl, ?_⟩) ?_
        rotate_left
        · intro wS hSw; have hSc := hSw.cell; clear hSw; go_simp; try with_reducible rfl
        try simp only [Act.put, List.getElem_toArray, List.getElem_cons_succ, List.getElem_cons_zero, List.setIfInBounds_toArray, List.set_cons_zero, List.set_cons_succ]
        refine grown_take 3 (v := ?_) rfl (by kernel_rfl) (by kernel_rfl) (by kernel_rfl) (fun _ _ _ h => h) (Or.inl ⟨by first | kernel_rfl | rfl, ?_⟩) ?_
        rotate_left
        · intro wS hSw; have hSc := hSw.cell; clear hSw; go_simp; try with_reducible rfl
        try simp only [Act.put, List.getElem_toArray, List.getElem_cons_succ, List.getElem_cons_zero, List.setIfInBounds_toArray, List.set_cons_zero, List.set_cons_succ]
        refine grown_take 4 (v := ?_) rfl (by kernel_rfl) (by kernel_rfl) (by kernel_rfl) (fun _ _ _ h => h) (Or.inl ⟨by first | kernel_rfl | rfl, ?_⟩) ?_
        rotate_left
        · intro wS hSw; have hSc := hSw.cell; clear hSw; go_simp; try with_reducible rfl
        try simp only [Act.put, List.getElem_toArray, List.getElem_cons_succ, List.getElem_cons_zero, List.setIfInBounds_toArray, List.set_cons_zero, List.set_cons_succ]
        refine grown_take 8 (v := ?_) rfl (by kernel_rfl) (by kernel_rfl) (by kernel_rfl) (fun _ _ _ h => h) (Or.inl ⟨by first | kernel_rfl | rfl, ?_⟩) ?_
        rotate_left
        · intro wS hSw; have hSc := hSw.cell; clear hSw; go_simp; try with_reducible rfl
        try simp only [Act.put, List.getElem_toArray, List.getElem_cons_succ, List.getElem_cons_zero, List.setIfInBounds_toArray, List.set_cons_zero, List.set_cons_succ]
        refine grown_take 9 (v := ?_) rfl (by kernel_rfl) (by kernel_rfl) (by kernel_rfl) (fun _ _ _ h => h) (Or.inl ⟨by first | kernel_rfl | rfl, ?_⟩) ?_
        rotate_left
        · intro wS hSw; have hSc := hSw.cell; clear hSw; go_simp; try with_reducible rfl
        try simp only [Act.put, List.getElem_toArray, List.getElem_cons_succ, List.getElem_cons_zero, List.setIfInBounds_toArray, List.set_cons_zero, List.set_cons_succ]
        refine grown_two 1 10 (by kernel_rfl) rfl rfl (fun K hK => ?_) (fun K hK => ?_)
        · go_simp
          go_wp2_with fail
          refine (HKD.out _).mono ?_
          rintro e w' ⟨rfl, hcell, hlt, j1, rfl⟩
          simp only [World.size_more] at hlt
          have hj1 : 0 < j1.heap.size := by omega
          go_wp2_with fail
          refine hK.out _ _ (show Below _ _ _ from (by (try (with_reducible refine grown_undrew ?_)); repeat (first | (with_reducible exact Below.refl _ _) | (with_reducible exact grown_merge _ _ _ _) | (with_reducible exact grown_merge2 _ _ _ _ _ _) | (with_reducible exact grown_merge3 _ _ _ _ _ _ _) | (with_reducible refine Below.allocS ?_ _) | (with_reducible refine Below.moreS ?_ _) | (with_reducible refine Below.drew ?_)))) ?_
          clear hK K
          try simp only [Act.put, List.getElem_toArray, List.getElem_cons_succ, List.getElem_cons_zero, List.setIfInBounds_toArray, List.set_cons_zero, List.set_cons_succ]
          refine grown_take 5 (v := ?_) rfl (by kernel_rfl) (by kernel_rfl) (by kernel_rfl) (fun _ _ _ h => h) (Or.inl ⟨by first | kernel_rfl | rfl, ?_⟩) ?_
          rotate_left
          · intro wS hSw; have hSc := hSw.cell; clear hSw; go_simp; try with_reducible rfl
          try simp only [Act.put, List.getElem_toArray, List.getElem_cons_succ, List.getElem_cons_zero, List.setIfInBounds_toArray, List.set_cons_zero, List.set_cons_succ]
          refine grown_take 6 (v := ?_) rfl (by kernel_rfl) (by kernel_rfl) (by kernel_rfl) (fun _ _ _ h => h) (Or.inl ⟨by first | kernel_rfl | rfl, ?_⟩) ?_
          rotate_left
          · intro wS hSw; have hSc := hSw.cell; clear hSw; go_simp; try with_reducible rfl
          try simp only [Act.put, List.getElem_toArray, List.getElem_cons_succ, List.getElem_cons_zero, List.setIfInBounds_toArray, List.set_cons_zero, List.set_cons_succ]
          refine grown_take 7 (v := ?_) rfl (by kernel_rfl) (by kernel_rfl) (by kernel_rfl) (fun _ _ _ h => h) (Or.inl ⟨by first | kernel_rfl | rfl, ?_⟩) ?_
          rotate_left
          · intro wS hSw; have hSc := hSw.cell; clear hSw; go_simp; first | (with_reducible rfl) | (rw [if_neg (by first | omega | (simp only [List.length_append, List.length_cons, List.length_nil]; omega))])
          try simp only [Act.put, List.getElem_toArray, List.getElem_cons_succ, List.getElem_cons_zero, List.setIfInBounds_toArray, List.set_cons_zero, List.set_cons_succ]
          refine grown_step 10 (by kernel_rfl) rfl (fun K hK => ?_)
          go_simp
          go_wp2_with fail
          refine hK.out _ _ (show Below _ _ _ from (by (try (with_reducible refine grown_undrew ?_)); repeat (first | (with_reducible exact Below.refl _ _) | (with_reducible exact grown_merge _ _ _ _) | (with_reducible exact grown_merge2 _ _ _ _ _ _) | (with_reducible exact grown_merge3 _ _ _ _ _ _ _) | (with_reducible refine Below.allocS ?_ _) | (with_reducible refine Below.moreS ?_ _) | (with_reducible refine Below.drew ?_)))) ?_
          clear hK K
          try simp only [Act.put, List.getElem_toArray, List.getElem_cons_succ, List.getElem_cons_zero, List.setIfInBounds_toArray, List.set_cons_zero, List.set_cons_succ]
          refine grown_step 11 (by kernel_rfl) rfl (fun K hK => ?_)
          go_simp
          go_wp2_with (go_at_call 46; (refine (HN4.out _ _ (slI_of (t := 3) (cs := #[.int .i64 t]) (by repeat (first | ((with_reducible apply Blk.at_); (simp; done)) | (with_reducible apply Blk.alloc) | (with_reducible apply Blk.more) | (with_reducible apply Blk.drew))) rfl)).mono ?_); rintro e w' ⟨rfl, j2, rfl⟩)
          refine hK.out _ _ (show Below _ _ _ from (by (try (with_reducible refine grown_undrew ?_)); repeat (first | (with_reducible exact Below.refl _ _) | (with_reducible exact grown_merge _ _ _ _) | (with_reducible exact grown_merge2 _ _ _ _ _ _) | (with_reducible exact grown_merge3 _ _ _ _ _ _ _) | (with_reducible refine Below.allocS ?_ _) | (with_reducible refine Below.moreS ?_ _) | (with_reducible refine Below.drew ?_)))) ?_
          clear hK K
          try simp only [Act.put, List.getElem_toArray, List.getElem_cons_succ, List.getElem_cons_zero, List.setIfInBounds_toArray, List.set_cons_zero, List.set_cons_succ]
          refine grown_take 12 (v := ?_) rfl (by kernel_rfl) (by kernel_rfl) (by kernel_rfl) (fun _ _ _ h => h) (Or.inl ⟨by first | kernel_rfl | rfl, ?_⟩) ?_
          rotate_left
          · intro wS hSw; have hSc := hSw.cell; clear hSw; go_simp; first | (with_reducible rfl) | (rw [if_neg (by first | omega | (simp only [List.length_append, List.length_cons, List.length_nil]; omega))])
          try simp only [Act.put, List.getElem_toArray, List.getElem_cons_succ, List.getElem_cons_zero, List.setIfInBounds_toArray, List.set_cons_zero, List.set_cons_succ]
          refine grown_take 13 (v := ?_) rfl (by kernel_rfl) (by kernel_rfl) (by kernel_rfl) (fun _ _ _ h => h) (Or.inl ⟨by first | kernel_rfl | rfl, ?_⟩) ?_
          rotate_left
          · intro wS hSw; have hSc := hSw.cell; clear hSw; go_simp; try with_reducible rfl
          try simp only [Act.put, List.getElem_toArray, List.getElem_cons_succ, List.getElem_cons_zero, List.setIfInBounds_toArray, List.set_cons_zero, List.set_cons_succ]
          refine wpAnyH_done (by kernel_rfl) ?_ _
          refine gen_w (f := Exit.then _ _ _ _) ?_
          intro W1 hW1
          have hS1 : Below wd.heap.size wd W1 := by rw [hW1]; exact (by repeat (first | (with_reducible exact Below.refl _ _) | (with_reducible refine Below.allocS ?_ _) | (with_reducible refine Below.moreS ?_ _) | (with_reducible refine Below.drew ?_) | (with_reducible refine below_drewN ?_ _)))
          clear hW1
          generalize wd.heap.size + j1.heap.size = y1
          generalize wd.heap.size = x1
          exact key W1 x1 y1 hS1
        · go_simp
          go_wp2_with fail
          refine hK.out _ _ (show Below _ _ _ from (by (try (with_reducible refine grown_undrew ?_)); repeat (first | (with_reducible exact Below.refl _ _) | (with_reducible exact grown_merge _ _ _ _) | (with_reducible exact grown_merge2 _ _ _ _ _ _) | (with_reducible exact grown_merge3 _ _ _ _ _ _ _) | (with_reducible refine Below.allocS ?_ _) | (with_reducible refine Below.moreS ?_ _) | (with_reducible refine Below.drew ?_)))) ?_
          clear hK K
          try simp only [Act.put, List.getElem_toArray, List.getElem_cons_succ, List.getElem_cons_zero, List.setIfInBounds_toArray, List.set_cons_zero, List.set_cons_succ]
          refine grown_step 1 (by kernel_rfl) rfl (fun K hK => ?_)
          go_simp
          go_wp2_with fail
          refine (HKD.out _).mono ?_
          rintro e w' ⟨rfl, hcell, hlt, j1, rfl⟩
          simp only [World.size_more, World.size_alloc] at hlt hcell
          have hj1 : 0 < j1.heap.size := by omega
          go_wp2_with fail
          refine hK.out _ _ (show Below _ _ _ from (by (try (with_reducible refine grown_undrew ?_)); repeat (first | (with_reducible exact Below.refl _ _) | (with_reducible exact grown_merge _ _ _ _) | (with_reducible exact grown_merge2 _ _ _ _ _ _) | (with_reducible exact grown_merge3 _ _ _ _ _ _ _) | (with_reducible refine Below.allocS ?_ _) | (with_reducible refine Below.moreS ?_ _) | (with_reducible refine Below.drew ?_)))) ?_
          clear hK K
          try simp only [Act.put, List.getElem_toArray, List.getElem_cons_succ, List.getElem_cons_zero, List.setIfInBounds_toArray, List.set_cons_zero, List.set_cons_succ]
          refine grown_take 5 (v := ?_) rfl (by kernel_rfl) (by kernel_rfl) (by kernel_rfl) (fun _ _ _ h => h) (Or.inl ⟨by first | kernel_rfl | rfl, ?_⟩) ?_
          rotate_left
          · intro wS hSw; have hSc := hSw.cell; clear hSw; go_simp; try with_reducible rfl
          try simp only [Act.put, List.getElem_toArray, List.getElem_cons_succ, List.getElem_cons_zero, List.setIfInBounds_toArray, List.set_cons_zero, List.set_cons_succ]
          refine grown_take 6 (v := ?_) rfl (by kernel_rfl) (by kernel_rfl) (by kernel_rfl) (fun _ _ _ h => h) (Or.inl ⟨by first | kernel_rfl | rfl, ?_⟩) ?_
          rotate_left
          · intro wS hSw; have hSc := hSw.cell; clear hSw; go_simp; try with_reducible rfl
          try simp only [Act.put, List.getElem_toArray, List.getElem_cons_succ, List.getElem_cons_zero, List.setIfInBounds_toArray, List.set_cons_zero, List.set_cons_succ]
          refine grown_take 7 (v := ?_) rfl (by kernel_rfl) (by kernel_rfl) (by kernel_rfl) (fun _ _ _ h => h) (Or.inl ⟨by first | kernel_rfl | rfl, ?_⟩) ?_
          rotate_left
          · intro wS hSw; have hSc := hSw.cell; clear hSw; go_simp; first | (with_reducible rfl) | (rw [if_neg (by first | omega | (simp only [List.length_append, List.length_cons, List.length_nil]; omega))])
          try simp only [Act.put, List.getElem_toArray, List.getElem_cons_succ, List.getElem_cons_zero, List.setIfInBounds_toArray, List.set_cons_zero, List.set_cons_succ]
          refine grown_step 11 (by kernel_rfl) rfl (fun K hK => ?_)
          go_simp
          go_wp2_with (go_at_call 46; (refine (HN4.out _ _ (slI_of (t := 3) (cs := #[.int .i64 t]) (by repeat (first | ((with_reducible apply Blk.at_); (simp; done)) | (with_reducible apply Blk.alloc) | (with_reducible apply Blk.more) | (with_reducible apply Blk.drew))) rfl)).mono ?_); rintro e w' ⟨rfl, j2, rfl⟩)
          refine hK.out _ _ (show Below _ _ _ from (by (try (with_reducible refine grown_undrew ?_)); repeat (first | (with_reducible exact Below.refl _ _) | (with_reducible exact grown_merge _ _ _ _) | (with_reducible exact grown_merge2 _ _ _ _ _ _) | (with_reducible exact grown_merge3 _ _ _ _ _ _ _) | (with_reducible refine Below.allocS ?_ _) | (with_reducible refine Below.moreS ?_ _) | (with_reducible refine Below.drew ?_)))) ?_
          clear hK K
          try simp only [Act.put, List.getElem_toArray, List.getElem_cons_succ, List.getElem_cons_zero, List.setIfInBounds_toArray, List.set_cons_zero, List.set_cons_succ]
          refine grown_take 12 (v := ?_) rfl (by kernel_rfl) (by kernel_rfl) (by kernel_rfl) (fun _ _ _ h => h) (Or.inl ⟨by first | kernel_rfl | rfl, ?_⟩) ?_
          rotate_left
          · intro wS hSw; have hSc := hSw.cell; clear hSw; go_simp; first | (with_reducible rfl) | (rw [if_neg (by first | omega | (simp only [List.length_append, List.length_cons, List.length_nil]; omega))])
          try simp only [Act.put, List.getElem_toArray, List.getElem_cons_succ, List.getElem_cons_zero, List.setIfInBounds_toArray, List.set_cons_zero, List.set_cons_succ]
          refine grown_take 13 (v := ?_) rfl (by kernel_rfl) (by kernel_rfl) (by kernel_rfl) (fun _ _ _ h => h) (Or.inl ⟨by first | kernel_rfl | rfl, ?_⟩) ?_
          rotate_left
          · intro wS hSw; have hSc := hSw.cell; clear hSw; go_simp; try with_reducible rfl
          try simp only [Act.put, List.getElem_toArray, List.getElem_cons_succ, List.getElem_cons_zero, List.setIfInBounds_toArray, List.set_cons_zero, List.set_cons_succ]
          refine wpAnyH_done (by kernel_rfl) ?_ _
          refine gen_w (f := Exit.then _ _ _ _) ?_
          intro W1 hW1
          have hS1 : Below wd.heap.size wd W1 := by rw [hW1]; exact (by repeat (first | (with_reducible exact Below.refl _ _) | (with_reducible refine Below.allocS ?_ _) | (with_reducible refine Below.moreS ?_ _) | (with_reducible refine Below.drew ?_) | (with_reducible refine below_drewN ?_ _)))
          clear hW1
          generalize wd.heap.size + 1 = x1
          generalize wd.heap.size = y1
          exact key W1 x1 y1 hS1
      intro w4 x4 y4 hb4
      have HB4 : Hid (Below w.heap.size w w4) := HBW.out.trans (hb4.mono HBW.out.size)
      have HBX4 : Hid (Blk w4 w.heap.size RpT #[.int .i64 c0, .int .i64 c1, .int .i64 c2, .int .i64 c3, .int .i64 c4, .int .i64 c5, .slice a n c, .int .i64 ((q : Int) + 1), .int .i64 t, .slice fa nf fc, .slice ua nu uc, .int .i64 f0, .int .i64 f1]) := HBX.out.below hb4 hg1
      have hg4 : w.heap.size < w4.heap.size := HBX4.out.lt
      have hac4 : (ac ++ T4).length ≤ 400001000 := by simp only [List.length_append]; omega
      have HTX4 : Hid (T = (ac ++ T4) ++ lnW ([102, 97, 117, 108, 116, 115] ++ (32 :: F)) [] ++ lnW ([114, 117, 108, 101, 115] ++ (32 :: R)) [] ++ T7) := HTX3
      clear hb4 HBX HBW hg1 a7 a8 a6 HTX3 hac HKD HN4
      generalize ac ++ T4 = ad at HTX4 hac4 ⊢
      go_wp2_with fail
      refine grown_start (by kernel_rfl) ?_
      obtain ⟨wd, hwd⟩ : ∃ wd, wd = w4.drew := ⟨_, rfl⟩
      rw [← hwd]
      have hbx : Blk wd w.heap.size RpT #[.int .i64 c0, .int .i64 c1, .int .i64 c2, .int .i64 c3, .int .i64 c4, .int .i64 c5, .slice a n c, .int .i64 ((q : Int) + 1), .int .i64 t, .slice fa nf fc, .slice ua nu uc, .int .i64 f0, .int .i64 f1] := by rw [hwd]; exact HBX4.out.drew
      have HBW : Hid (Below w.heap.size w wd) := by show Below _ _ _; rw [hwd]; exact (by repeat (first | exact HB4.out | (with_reducible refine Below.allocS ?_ _) | (with_reducible refine Below.moreS ?_ _) | (with_reducible refine Below.drew ?_)))
      have HBX := Lib.hid hbx
      have hg1 := hbx.lt
      have a9 : wd.cell? ⟨w.heap.size, 9, none⟩ = some (.slice fa nf fc) := hbx.cell 9
      have a10 : wd.cell? ⟨w.heap.size, 10, none⟩ = some (.slice ua nu uc) := hbx.cell 10
      have a11 : wd.cell? ⟨w.heap.size, 11, none⟩ = some (.int .i64 f0) := hbx.cell 11
      have a12 : wd.cell? ⟨w.heap.size, 12, none⟩ = some (.int .i64 f1) := hbx.cell 12
      clear hwd hbx HB4 HBX4 hg4
      refine grown_take 0 (v := ?_) rfl (by kernel_rfl) (by kernel_rfl) (by kernel_rfl) (fun _ _ _ h => h) (Or.inl ⟨by first | kernel_rfl | rfl, ?_⟩) ?_
      rotate_left
      · intro wS hSw; have hSc := hSw.cell; clear hSw; go_simp; try with_reducible rfl
      try simp only [Act.put, List.getElem_toArray, List.getElem_cons_succ, List.getElem_cons_zero, List.setIfInBounds_toArray, List.set_cons_zero, List.set_cons_succ]
      refine grown_take 1 (v := ?_) rfl (by kernel_rfl) (by kernel_rfl) (by kernel_rfl) (fun _ _ _ h => h) (Or.inl ⟨by first | kernel_rfl | rfl, ?_⟩) ?_
      rotate_left
      · intro wS hSw; have hSc := hSw.cell; clear hSw; go_simp; first | (with_reducible rfl) | (rw [if_neg (by first | omega | (simp only [List.length_append, List.length_cons, List.length_nil]; omega))])
      try simp only [Act.put, List.getElem_toArray, List.getElem_cons_succ, List.getElem_cons_zero, List.setIfInBounds_toArray, List.set_cons_zero, List.set_cons_succ]
      refine grown_take 2 (v := ?_) rfl (by kernel_rfl) (by kernel_rfl) (by kernel_rfl) (fun _ _ _ h => h) (Or.inl ⟨by first | kernel_rfl | rfl, ?_⟩) ?_
      rotate_left
      · intro wS hSw; have hSc := hSw.cell; clear hSw; go_simp; try with_reducible rfl
      try simp only [Act.put, List.getElem_toArray, List.getElem_cons_succ, List.getElem_cons_zero, List.setIfInBounds_toArray, List.set_cons_zero, List.set_cons_succ]
      refine grown_take 3 (v := ?_) rfl (by kernel_rfl) (by kernel_rfl) (by kernel_rfl) (fun _ _ _ h => h) (Or.inl ⟨by first | kernel_rfl | rfl, ?_⟩) ?_
      rotate_left
      · intro wS hSw; have hSc := hSw.cell; clear hSw; go_simp; try with_reducible rfl
      try simp only [Act.put, List.getElem_toArray, List.getElem_cons_succ, List.getElem_cons_zero, List.setIfInBounds_toArray, List.set_cons_zero, List.set_cons_succ]
      refine grown_take 8 (v := ?_) rfl (by kernel_rfl) (by kernel_rfl) (by kernel_rfl) (fun _ _ _ h => h) (Or.inl ⟨by first | kernel_rfl | rfl, ?_⟩) ?_
      rotate_left
      · intro wS hSw; have hSc := hSw.cell; clear hSw; go_simp; try with_reducible rfl
      try simp only [Act.put, List.getElem_toArray, List.getElem_cons_succ, List.getElem_cons_zero, List.setIfInBounds_toArray, List.set_cons_zero, List.set_cons_succ]
      refine grown_take 9 (v := ?_) rfl (by kernel_rfl) (by kernel_rfl) (by kernel_rfl) (fun _ _ _ h => h) (Or.inl ⟨by first | kernel_rfl | rfl, ?_⟩) ?_
      rotate_left
      · intro wS hSw; have hSc := hSw.cell; clear hSw; go_simp; try with_reducible rfl
      try simp only [Act.put, List.getElem_toArray, List.getElem_cons_succ, List.getElem_cons_zero, List.setIfInBounds_toArray, List.set_cons_zero, List.set_cons_succ]
      refine grown_step 4 (by kernel_rfl) rfl (fun K hK => ?_)
      go_simp
      go_wp2_with (go_at_call 49; (with_reducible refine (HFS.out _ (by repeat (first | exact HBW.out | (with_reducible refine Below.allocS ?_ _) | (with_reducible refine Below.moreS ?_ _) | (with_reducible refine Below.drew ?_)))).mono ?_); rintro e w' ⟨rfl, j, rfl⟩)
      refine hK.out _ _ (show Below _ _ _ from (by (try (with_reducible refine grown_undrew ?_)); repeat (first | (with_reducible exact Below.refl _ _) | (with_reducible exact grown_merge _ _ _ _) | (with_reducible exact grown_merge2 _ _ _ _ _ _) | (with_reducible exact grown_merge3 _ _ _ _ _ _ _) | (with_reducible refine Below.allocS ?_ _) | (with_reducible refine Below.moreS ?_ _) | (with_reducible refine Below.drew ?_)))) ?_
      clear hK K
      try simp only [Act.put, List.getElem_toArray, List.getElem_cons_succ, List.getElem_cons_zero, List.setIfInBounds_toArray, List.set_cons_zero, List.set_cons_succ]
      refine grown_take 5 (v := ?_) rfl (by kernel_rfl) (by kernel_rfl) (by kernel_rfl) (fun _ _ _ h => h) (Or.inl ⟨by first | kernel_rfl | rfl, ?_⟩) ?_
      rotate_left
      · intro wS hSw; have hSc := hSw.cell; clear hSw; go_simp; first | (with_reducible rfl) | (rw [if_neg (by first | omega | (simp only [List.length_append, List.length_cons, List.length_nil]; omega))])
      try simp only [Act.put, List.getElem_toArray, List.getElem_cons_succ, List.getElem_cons_zero, List.setIfInBounds_toArray, List.set_cons_zero, List.set_cons_succ]
      refine grown_take 6 (v := ?_) rfl (by kernel_rfl) (by kernel_rfl) (by kernel_rfl) (fun _ _ _ h => h) (Or.inl ⟨by first | kernel_rfl | rfl, ?_⟩) ?_
      rotate_left
      · intro wS hSw; have hSc := hSw.cell; clear hSw; go_simp; first | (with_reducible rfl) | (rw [if_neg (by first | omega | (simp only [List.length_append, List.length_cons, List.length_nil]; omega))])
      try simp only [Act.put, List.getElem_toArray, List.getElem_cons_succ, List.getElem_cons_zero, List.setIfInBounds_toArray, List.set_cons_zero, List.set_cons_succ]
      refine grown_take 7 (v := ?_) rfl (by kernel_rfl) (by kernel_rfl) (by kernel_rfl) (fun _ _ _ h => h) (Or.inl ⟨by first | kernel_rfl | rfl, ?_⟩) ?_
      rotate_left
      · intro wS hSw; have hSc := hSw.cell; clear hSw; go_simp; first | (with_reducible rfl) | (rw [if_neg (by first | omega | (simp only [List.length_append, List.length_cons, List.length_nil]; omega))])
      try simp only [Act.put, List.getElem_toArray, List.getElem_cons_succ, List.getElem_cons_zero, List.setIfInBounds_toArray, List.set_cons_zero, List.set_cons_succ]
      refine grown_step 10 (by kernel_rfl) rfl (fun K hK => ?_)
      go_simp
      go_wp2_with (go_at_call 50; (with_reducible refine (HUS.out _ (by repeat (first | exact HBW.out | (with_reducible refine Below.allocS ?_ _) | (with_reducible refine Below.moreS ?_ _) | (with_reducible refine Below.drew ?_)))).mono ?_); rintro e w' ⟨rfl, j, rfl⟩)
      refine hK.out _ _ (show Below _ _ _ from (by (try (with_reducible refine grown_undrew ?_)); repeat (first | (with_reducible exact Below.refl _ _) | (with_reducible exact grown_merge _ _ _ _) | (with_reducible exact grown_merge2 _ _ _ _ _ _) | (with_reducible exact grown_merge3 _ _ _ _ _ _ _) | (with_reducible refine Below.allocS ?_ _) | (with_reducible refine Below.moreS ?_ _) | (with_reducible refine Below.drew ?_)))) ?_
      clear hK K
      try simp only [Act.put, List.getElem_toArray, List.getElem_cons_succ, List.getElem_cons_zero, List.setIfInBounds_toArray, List.set_cons_zero, List.set_cons_succ]
      refine grown_take 11 (v := ?_) rfl (by kernel_rfl) (by kernel_rfl) (by kernel_rfl) (fun _ _ _ h => h) (Or.inl ⟨by first | kernel_rfl | rfl, ?_⟩) ?_
      rotate_left
      · intro wS hSw; have hSc := hSw.cell; clear hSw; go_simp; first | (with_reducible rfl) | (rw [if_neg (by first | omega | (simp only [List.length_append, List.length_cons, List.length_nil]; omega))])
      try simp only [Act.put, List.getElem_toArray, List.getElem_cons_succ, List.getElem_cons_zero, List.setIfInBounds_toArray, List.set_cons_zero, List.set_cons_succ]
      refine grown_take 12 (v := ?_) rfl (by kernel_rfl) (by kernel_rfl) (by kernel_rfl) (fun _ _ _ h => h) (Or.inl ⟨by first | kernel_rfl | rfl, ?_⟩) ?_
      rotate_left
      · intro wS hSw; have hSc := hSw.cell; clear hSw; go_simp; first | (with_reducible rfl) | (rw [if_neg (by first | omega | (simp only [List.length_append, List.length_cons, List.length_nil]; omega))])
      try simp only [Act.put, List.getElem_toArray, List.getElem_cons_succ, List.getElem_cons_zero, List.setIfInBounds_toArray, List.set_cons_zero, List.set_cons_succ]
      refine grown_take 13 (v := ?_) rfl (by kernel_rfl) (by kernel_rfl) (by kernel_rfl) (fun _ _ _ h => h) (Or.inl ⟨by first | kernel_rfl | rfl, ?_⟩) ?_
      rotate_left
      · intro wS hSw; have hSc := hSw.cell; clear hSw; go_simp; try with_reducible rfl
      try simp only [Act.put, List.getElem_toArray, List.getElem_cons_succ, List.getElem_cons_zero, List.setIfInBounds_toArray, List.set_cons_zero, List.set_cons_succ]
      refine wpAnyH_done (by kernel_rfl) ?_ _
      go_wp2_with fail
      have hr : ∀ J, SlI (wd.more J) (wd.more J).heap.size (some ⟨w.heap.size, 11, none⟩) [f0, f1] := fun J => slI_two (by simp only [World.size_more]; omega) ((HBX.out.more J).cell 11) ((HBX.out.more J).cell 12)
      refine (HN7.out _ _ (hr _)).mono ?_
      rintro e w' ⟨rfl, j5, rfl⟩
      clear hr
      go_wp2_with fail
      go_ret
      exact ⟨by rw [HTX4.out]; simp [lnW], Below.junk (by repeat (first | exact HBW.out | (with_reducible refine Below.allocS ?_ _) | (with_reducible refine Below.moreS ?_ _) | (with_reducible refine Below.drew ?_)))⟩
end Go.Proofs.YtbdmepidabnfkaaGreatDoor
