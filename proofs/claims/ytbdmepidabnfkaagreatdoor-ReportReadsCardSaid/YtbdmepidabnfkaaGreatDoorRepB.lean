/-
  Reports: lines are read one behind the other: a line's words, a word's number.
-/
import Derived.Test.YtbdmepidabnfkaaGreatDoorRepP
import Derived.Test.YtbdmepidabnfkaaGreatDoorMb
import Derived.Test.YtbdmepidabnfkaaGreatDoorMe
import Derived.Test.YtbdmepidabnfkaaGreatDoorMf
import Derived.Deep.OwnRows
namespace Go.Proofs.YtbdmepidabnfkaaGreatDoor
set_option linter.unusedSimpArgs false
set_option linter.unusedVariables false
set_option linter.unusedSectionVars false
open Go.ChangeShapes Go.WideShapes Go.ChangeAt Go.RowKit Go.Deep Go.Shelf

abbrev RdT : TypeId := 68
/-- The reader at a block: the lines that are left, and whether one was none. -/
structure RdS (w : World) (g : Nat) (L : List (List UInt8)) (b : Bool) : Prop where
  st : ∃ a c, Blk w g RdT #[.slice a L.length c, .bool b] ∧ SlX w w.heap.size a L ∧ L.length ≤ c
theorem off_rd {w : World} {g : Nat} {x : Value} {b : Bool} {a : Option Addr} {n c : Nat} {l : List (List UInt8)} {B : Nat} (hg : Blk w g RdT #[.slice a n c, .bool b]) {a' : Option Addr} (hs : SlX w B a' l) {k : Nat} (hk : k < l.length) : ∀ p, a' = some p → p.block ≠ g := by
  obtain ⟨b1, off, ha, _, hc, _⟩ := hs.atX hk
  intro p hp e
  rw [ha] at hp
  injection hp with hp
  subst hp
  simp only at e
  subst e
  rw [hg.cell (off + k)] at hc
  generalize off + k = j at hc
  match j, hc with
  | 0, hc => simp at hc
  | 1, hc => simp at hc
  | j + 2, hc => simp at hc
theorem slX_gm {w w' : World} {g : Nat} {b : Bool} {a0 : Option Addr} {n c : Nat} {a : Option Addr} {l : List (List UInt8)} (hg : Blk w g RdT #[.slice a0 n c, .bool b]) (hs : SlX w w.heap.size a l) (h : Gm g w w') : SlX w' w'.heap.size a l := by
  intro k hk
  have hoff := off_rd (x := .bool b) hg hs hk
  obtain ⟨b1, off, cs, ha, hb, hR, hc⟩ := hs k hk
  have hne : b1 ≠ g := hoff _ ha
  refine ⟨b1, off, cs, ha, Nat.lt_of_lt_of_le hb h.size, hR, fun j v hj => ?_⟩
  exact (h.cell b1 _ hb hne).trans (hc j v hj)
theorem gm_below {w w' : World} {g : Nat} (hb : Below w.heap.size w w') : Gm g w w' := ⟨hb.os, hb.tape, hb.output, hb.size, fun k hk _ => hb.block k hk⟩
theorem Gm.below {w w' : World} {g B : Nat} (h : Gm g w w') (hB : B ≤ g) (hz : B ≤ w.heap.size) : Below B w w' := ⟨h.os, h.tape, h.output, h.size, fun k hk => h.block k (by omega) (by simp; omega)⟩
theorem gm_set {w : World} {g o : Nat} (v : Value) : Gm g w (w.setCell ⟨g, o, none⟩ v) :=
  have hb := (Below.refl 0 w).setCell (p := ⟨g, o, none⟩) (Nat.zero_le _) v
  ⟨hb.os, hb.tape, hb.output, hb.size, fun k _ hne => Below.heap_setCell w ⟨g, o, none⟩ v k (fun e => hne (by rw [e]))⟩
theorem slX_nils (w : World) (n : Nat) (t : TypeId) : SlX (w.alloc (.cells (madeCells #[.string .empty] n) t)) (w.heap.size + 1) (some ⟨w.heap.size, 0, none⟩) (List.replicate n []) :=
  slX_new (Blk.new _ _ _) (by rw [toList_madeCells_one, List.map_replicate]; rfl) (by intro x hx; rw [List.eq_of_mem_replicate hx]; simp)
set_option maxHeartbeats 4000000 in
set_option maxRecDepth 100000 in
theorem words_SplitC (l : List UInt8) (m : Int) (w : World) (hm : l.length ≤ 100000) (hlen : (cutF 32 l).length ≤ 100000) (hshort : ∀ x ∈ cutF 32 l, x.length ≤ 100000) (hM : w.cell? MaxA = some (.int .i64 m)) :
    Calls Tryz.prog 80 #[bstr l] w fun e w' => ∃ a cap, e = .returned (.tuple #[.slice a (splitF l).1.length cap, .bool (splitF l).2]) ∧ (splitF l).1.length ≤ cap ∧ SlX w' w'.heap.size a (splitF l).1 ∧ Below w.heap.size w w' := by
  by_cases h0 : l = []
  · subst h0
    go_enter Tryz.func80, Tryz.ntmps80
    go_wp2_with fail
    go_ret2
    exact ⟨none, 0, rfl, Nat.le_refl _, .nil, Below.refl _ _⟩
  have hne : l.isEmpty = false := by cases l <;> simp_all
  have hne' : (!l.isEmpty) = true := by rw [hne]; rfl
  have H1 := Lib.hid (strings_cut l 32 m w (by omega) hM)
  have H2 : Hid (∀ a cap w1, (cutF 32 l).length ≤ cap → SlX w1 w1.heap.size a (cutF 32 l) → Calls Tryz.prog 62 #[.slice a (cutF 32 l).length cap] w1 fun e w' => e = .returned (.tuple #[bstr (lineF (cutF 32 l)).1, .bool (lineF (cutF 32 l)).2]) ∧ ∃ j, w' = w1.more j) := fun a cap w1 hc hs => words_Line a cap _ w1 w1 hlen hshort hc (Below.refl _ _) hs
  have HS : Hid (splitF l = if (lineF (cutF 32 l)).2 = true then (cutF 32 l, true) else ([], false)) := by
    show _ = _
    unfold splitF
    rw [if_neg h0]
    cases h : (cutF 32 l).all okW
    · rw [split_no h]
    · rw [split_ok h]
  clear hM h0 hshort hlen
  generalize cutF 32 l = p at H1 H2 HS
  generalize lineF p = R at H2 HS
  obtain ⟨r1, r2⟩ := R
  cases r2
  all_goals
    go_enter Tryz.func80, Tryz.ntmps80
    go_wp2_with fail
    refine H1.out.mono ?_
    rintro e w1 ⟨rfl, hs1, hb1⟩
    have HX := Lib.hid hs1
    have HB := Lib.hid hb1
    have HQ := Lib.hid (H2.out _ p.length w1 (Nat.le_refl _) hs1)
    clear hs1 hb1
    go_wp2_with fail
    refine HQ.out.mono ?_
    rintro e w2 ⟨rfl, j, rfl⟩
    go_wp2_with fail
    go_ret2
  · exact ⟨none, 0, by rw [HS.out]; rfl, by rw [HS.out]; exact Nat.le_refl _, by rw [HS.out]; exact .nil, HB.out.trans ((Below.moreS (Below.refl w1.heap.size w1) _).mono HB.out.size)⟩
  · exact ⟨_, p.length, by rw [HS.out]; rfl, by rw [HS.out]; exact Nat.le_refl _, by rw [HS.out]; exact (HX.out.below (Below.moreS (Below.refl w1.heap.size w1) j) (Nat.le_refl _)).mono (by simp) (fun _ _ _ h => h), HB.out.trans ((Below.moreS (Below.refl w1.heap.size w1) _).mono HB.out.size)⟩
set_option maxHeartbeats 4000000 in
set_option maxRecDepth 100000 in
theorem words_LinesC (l : List UInt8) (m : Int) (w : World) (hm : l.length ≤ 90000) (hM : w.cell? MaxA = some (.int .i64 m)) :
    Calls Tryz.prog 38 #[bstr l] w fun e w' => ∃ a cap, e = .returned (.tuple #[.slice a (linesF l).1.length cap, .bool (linesF l).2]) ∧ (linesF l).1.length ≤ cap ∧ SlX w' w'.heap.size a (linesF l).1 ∧ Below w.heap.size w w' := by
  by_cases h0 : l = []
  · subst h0
    go_enter Tryz.func38, Tryz.ntmps38
    go_wp2_with fail
    go_ret2
    exact ⟨none, 0, rfl, Nat.le_refl _, .nil, Below.refl _ _⟩
  have hne : l.isEmpty = false := by cases l <;> simp_all
  have hne' : (!l.isEmpty) = true := by rw [hne]; rfl
  have H1 := strings_cut l 10 m w (by omega) hM
  have hlen := cut_len 10 l
  obtain ⟨q, z, hq⟩ := cut_last 10 l
  have HS := Lib.hid (lines_snoc hq)
  rw [hq] at H1 hlen
  simp only [List.length_append, List.length_cons, List.length_nil, Nat.zero_add] at H1 hlen
  have H1 := Lib.hid H1
  clear hM h0 hq
  have hq2 : q.length ≤ 100000 := by omega
  clear hlen
  cases hz : z.isEmpty
  all_goals
    have hze : (z == []) = z.isEmpty := by cases z <;> rfl
    have hzn : (z != []) = !z.isEmpty := by cases z <;> rfl
    have hzn2 : (!z.isEmpty) = !z.isEmpty := rfl
    rw [hz] at hze hzn
    simp only [Bool.not_true, Bool.not_false] at hzn
    have HZ := Lib.hid hz
    go_enter Tryz.func38, Tryz.ntmps38
    go_wp2_with fail
    refine H1.out.mono ?_
    rintro e w1 ⟨rfl, hs1, hb1⟩
    obtain ⟨b, off, ha, hb, hc⟩ := slX_last hs1
    injection ha with ha
    injection ha with ha1 ha2
    subst ha1 ha2
    have HX := Lib.hid (slX_front hs1)
    have HB := Lib.hid hb1
    clear hs1 hb1
    rw [Nat.zero_add] at hc
    go_wp2_with fail
    go_ret2
  · exact ⟨none, 0, by rw [HS.out, if_neg (fun h => by subst h; cases HZ.out)]; rfl, by rw [HS.out, if_neg (fun h => by subst h; cases HZ.out)]; exact Nat.le_refl _, by rw [HS.out, if_neg (fun h => by subst h; cases HZ.out)]; exact .nil, HB.out⟩
  · obtain rfl : z = [] := by cases z with
      | nil => rfl
      | cons _ _ => cases HZ.out
    exact ⟨_, _, by rw [HS.out, if_pos rfl]; rfl, by rw [HS.out, if_pos rfl]; simp, by rw [HS.out, if_pos rfl]; exact HX.out, HB.out⟩
theorem slX_tail {w : World} {B b off : Nat} {y : List UInt8} {ys : List (List UInt8)} (h : SlX w B (some ⟨b, off, none⟩) (y :: ys)) : SlX w B (some ⟨b, off + 1, none⟩) ys := by
  intro k hk
  obtain ⟨b1, off1, cs, ha, hb, hR, hc⟩ := h (k + 1) (by simpa using hk)
  injection ha with ha
  injection ha with h1 h2
  subst h1 h2
  refine ⟨b, off + 1, cs, rfl, hb, by simpa using hR, fun j v hj => ?_⟩
  have := hc j v hj
  rw [show off + 1 + k * 1 + j = off + (k + 1) * 1 + j by omega]
  exact this
/-- What reading a line leaves. -/
def NxtP (g many : Nat) (ws L : List (List UInt8)) (b : Bool) (w : World) (e : Ending) (w' : World) : Prop := ∃ a c, e = .returned (.slice a many c) ∧ SlX w' w'.heap.size a ws ∧ RdS w' g L b ∧ Gm g w w'
theorem info_text : (Tryz.prog.info? 9).map (fun i => (i.zero, i.size, i.bytes)) = some (some (.string .empty), 1, 16) := by kernel_rfl
set_option maxHeartbeats 8000000 in
set_option maxRecDepth 100000 in
theorem reader_next (g many : Nat) (first : List UInt8) (L : List (List UInt8)) (b : Bool) (hm : many ≤ 100) (hL : L.length ≤ 100000) (hLl : ∀ x ∈ L, x.length ≤ 90000) (m : Int) (w : World) (hM : w.cell? MaxA = some (.int .i64 m)) (hS : RdS w g L b) :
    Calls Tryz.prog 39 #[.pointer (some ⟨g, 0, none⟩), .int .i64 (many : Int), bstr first] w (NxtP g many (nextD many first L b).1 (nextD many first L b).2.1 (nextD many first L b).2.2 w) := by
  have hmk : ∀ W, (Instr.makeSlice 63 (.int .i64 (many : Int)) (.int .i64 (many : Int))).run Tryz.prog W = .ok (.slice (some ⟨W.heap.size, 0, none⟩) many many) (W.alloc (.cells (madeCells #[.string .empty] many) 9)) := run_make_row' (P := Tryz.prog) 63 9 (.string .empty) 16 Tryz.underlying63 info_text rfl .i64 .i64 many (by omega) (by omega)
  obtain ⟨a, c, hg, hs, hc⟩ := hS.st
  have k0 : w.cell? ⟨g, 0, none⟩ = some (.slice a L.length c) := hg.cell 0
  have k1 : w.cell? ⟨g, 1, none⟩ = some (.bool b) := hg.cell 1
  have f0 : w.frozen? ⟨g, 0, none⟩ = false := hg.frozen 0
  have f1 : w.frozen? ⟨g, 1, none⟩ = false := hg.frozen 1
  have hgl := hg.lt
  have hgn : ¬ g = w.heap.size := by omega
  cases L with
  | nil =>
    have HG := Lib.hid hg
    clear hM hS hs hg hLl hL
    simp only [List.length_nil] at k0 HG hc
    go_enter Tryz.func39, Tryz.ntmps39
    go_wp2_with fail
    go_ret
    have hsz : (w.setCell ⟨g, 1, none⟩ (.bool true)).heap.size = w.heap.size := by simp
    have hn := slX_nils (w.setCell ⟨g, 1, none⟩ (.bool true)) many 9
    rw [hsz] at hn
    exact ⟨_, _, rfl, hn.mono (by simp) (fun _ _ _ h => h), ⟨a, c, (HG.out.set_ 1 _).alloc _, .nil, hc⟩, (gm_set _).trans (gm_below (by repeat (first | (with_reducible exact Below.refl _ _) | (with_reducible refine Below.allocS ?_ _) | (with_reducible refine Below.moreS ?_ _) | (with_reducible refine Below.drew ?_) | (with_reducible refine below_drewN ?_ _))))⟩
  | cons x r =>
    obtain ⟨b1, off, ha, hb1, c0, _⟩ := SlR.atX hs (k := 0) (by simp)
    subst ha
    have hne1 : b1 ≠ g := off_rd (x := .bool b) hg hs (k := 0) (by simp) _ rfl
    rw [Nat.add_zero, List.getElem_cons_zero] at c0
    have hx := hLl x (by simp)
    have hcl := cut_len 32 x
    have HSP : Hid (∀ W, Below w.heap.size w W → Calls Tryz.prog 80 #[bstr x] W fun e w' => ∃ a cap, e = .returned (.tuple #[.slice a (splitF x).1.length cap, .bool (splitF x).2]) ∧ (splitF x).1.length ≤ cap ∧ SlX w' w'.heap.size a (splitF x).1 ∧ Below W.heap.size W w') := fun W hW =>
      words_SplitC x m W (by omega) (by omega) (fun y hy => by have := cut_short 32 x y hy; omega) ((hW.cell (p := MaxA) (cell_lt hM)).trans hM)
    have HST := Lib.hid (slX_tail hs)
    have HG := Lib.hid hg
    have HR : Hid (nextD many first (x :: r) b = if (splitF x).2 = true ∧ (splitF x).1.length = many + 1 ∧ (splitF x).1.head? = some first then ((splitF x).1.drop 1, r, b) else (List.replicate many [], r, true)) := rfl
    generalize nextD many first (x :: r) b = N at HR ⊢
    generalize splitF x = p at HSP HR
    obtain ⟨l, is⟩ := p
    simp only [List.length_cons] at k0 hc HG HSP HR hL
    clear hM hS hs hg hLl hcl hx
    have HC := Lib.hid hc
    have HCL := Lib.hid hL
    -- what is known behind the split
    have AFT : Hid (∀ w1, Below (w.heap.size + 1) (w.alloc (.cells (madeCells #[.string .empty] many) 9)) w1 →
        w1.cell? ⟨g, 0, none⟩ = some (.slice (some ⟨b1, off, none⟩) (r.length + 1) c) ∧ w1.cell? ⟨g, 1, none⟩ = some (.bool b) ∧ w1.frozen? ⟨g, 0, none⟩ = false ∧ w1.frozen? ⟨g, 1, none⟩ = false ∧ g < w1.heap.size) := fun w1 h1 => by
      have h2 : Below w.heap.size w w1 := Below.trans (by repeat (first | (with_reducible exact Below.refl _ _) | (with_reducible refine Below.allocS ?_ _) | (with_reducible refine Below.moreS ?_ _) | (with_reducible refine Below.drew ?_) | (with_reducible refine below_drewN ?_ _))) (h1.mono (by omega))
      have hg1 := HG.out.below h2 hgl
      exact ⟨hg1.cell 0, hg1.cell 1, hg1.frozen 0, hg1.frozen 1, hg1.lt⟩
    have BAD : Hid (∀ w1 (a' : Option Addr) (c' : Nat), SlX w w.heap.size a' r → Below (w.heap.size + 1) (w.alloc (.cells (madeCells #[.string .empty] many) 9)) w1 → r.length ≤ c' →
        NxtP g many (List.replicate many []) r true w (.returned (.slice (some ⟨w.heap.size, 0, none⟩) many many)) ((w1.setCell ⟨g, 0, none⟩ (.slice a' r.length c')).setCell ⟨g, 1, none⟩ (.bool true))) := fun w1 a' c' hsa h1 hc' => by
      have h2 : Below w.heap.size w w1 := Below.trans (by repeat (first | (with_reducible exact Below.refl _ _) | (with_reducible refine Below.allocS ?_ _) | (with_reducible refine Below.moreS ?_ _) | (with_reducible refine Below.drew ?_) | (with_reducible refine below_drewN ?_ _))) (h1.mono (by omega))
      have hg1 := HG.out.below h2 hgl
      have hgm : Gm g w1 ((w1.setCell ⟨g, 0, none⟩ (.slice a' r.length c')).setCell ⟨g, 1, none⟩ (.bool true)) := (gm_set _).trans (gm_set _)
      refine ⟨_, _, rfl, slX_gm hg1 (((slX_nils w many 9).below h1 (Nat.le_refl _)).mono (by have := h1.size; simp at this; omega) (fun _ _ _ h => h)) hgm, ⟨_, _, (hg1.set_ 0 _).set_ 1 _, slX_gm hg1 ((hsa.below h2 (Nat.le_refl _)).mono h2.size (fun _ _ _ h => h)) hgm, hc'⟩, (gm_below h2).trans hgm⟩
    have GOOD : Hid (∀ w1 (a' : Option Addr) (c' : Nat) (a2 : Option Addr) (ys : List (List UInt8)) (c2 : Nat), SlX w w.heap.size a' r → Below (w.heap.size + 1) (w.alloc (.cells (madeCells #[.string .empty] many) 9)) w1 → r.length ≤ c' → SlX w1 w1.heap.size a2 ys →
        NxtP g many ys r b w (.returned (.slice a2 many c2)) (w1.setCell ⟨g, 0, none⟩ (.slice a' r.length c'))) := fun w1 a' c' a2 ys c2 hsa h1 hc' hsl => by
      have h2 : Below w.heap.size w w1 := Below.trans (by repeat (first | (with_reducible exact Below.refl _ _) | (with_reducible refine Below.allocS ?_ _) | (with_reducible refine Below.moreS ?_ _) | (with_reducible refine Below.drew ?_) | (with_reducible refine below_drewN ?_ _))) (h1.mono (by omega))
      have hg1 := HG.out.below h2 hgl
      have hgm : Gm g w1 (w1.setCell ⟨g, 0, none⟩ (.slice a' r.length c')) := gm_set _
      exact ⟨_, _, rfl, slX_gm hg1 hsl hgm, ⟨_, _, hg1.set_ 0 _, slX_gm hg1 ((hsa.below h2 (Nat.le_refl _)).mono h2.size (fun _ _ _ h => h)) hgm, hc'⟩, (gm_below h2).trans hgm⟩
    have OFF : Hid (∀ w1 (b2 off2 : Nat) (l2 : List (List UInt8)), Below (w.heap.size + 1) (w.alloc (.cells (madeCells #[.string .empty] many) 9)) w1 → SlX w1 w1.heap.size (some ⟨b2, off2, none⟩) l2 → 0 < l2.length → b2 ≠ g) := fun w1 b2 off2 l2 h1 hsl hp => by
      have h2 : Below w.heap.size w w1 := Below.trans (by repeat (first | (with_reducible exact Below.refl _ _) | (with_reducible refine Below.allocS ?_ _) | (with_reducible refine Below.moreS ?_ _) | (with_reducible refine Below.drew ?_) | (with_reducible refine below_drewN ?_ _))) (h1.mono (by omega))
      exact off_rd (x := .bool b) (HG.out.below h2 hgl) hsl (k := 0) hp _ rfl
    have hr1 : ¬ ((r.length : Int) + 1 = 0) := by omega
    have hr2 : ((r.length : Int) + 1 == 0) = false := by rw [beq_eq_false_iff_ne]; omega
    have HSN : Hid (c = 1 → SlX w w.heap.size (some ⟨b1, off, none⟩) r) := fun h => by
      have h0 : r = [] := List.length_eq_zero_iff.1 (by have := HC.out; omega)
      rw [h0]; exact .nil
    clear HG hc hL
    cases is
    case false =>
      obtain rfl : N = (List.replicate many [], r, true) := by rw [HR.out]; simp
      clear HR GOOD
      go_enter Tryz.func39, Tryz.ntmps39
      go_wp2_with fail
      refine (HSP.out _ (by repeat (first | (with_reducible exact Below.refl _ _) | (with_reducible refine Below.allocS ?_ _) | (with_reducible refine Below.moreS ?_ _) | (with_reducible refine Below.drew ?_) | (with_reducible refine below_drewN ?_ _)))).mono ?_
      rintro e w1 ⟨al, cl, rfl, hcl, hsl, hb1'⟩
      simp only [World.size_alloc] at hb1'
      obtain ⟨e0, e1, fr0, fr1, hgl1⟩ := AFT.out w1 hb1'
      have HB1 := Lib.hid hb1'
      clear hsl hb1' k0 k1 f0 f1 c0 AFT
      go_wp2_with fail
      all_goals go_ret
      all_goals first | exact BAD.out w1 _ _ HST.out HB1.out (by have := HC.out; omega) | exact BAD.out w1 _ _ (HSN.out (by assumption)) HB1.out (by have := HC.out; omega)
    case true =>
      by_cases hlen : l.length = many + 1
      rotate_left
      · obtain rfl : N = (List.replicate many [], r, true) := by rw [HR.out, if_neg (by simp [hlen])]
        have q1 : ((l.length : Int) != (many : Int) + 1) = true := by rw [bne_iff_ne]; omega
        have hnw : IntKind.i64.wrap ((many : Int) + 1) = (many : Int) + 1 := IntWalk.i64_in _ (by omega)
        clear HR GOOD hlen
        generalize l.length = n at HSP q1
        go_enter Tryz.func39, Tryz.ntmps39
        go_wp2_with fail
        refine (HSP.out _ (by repeat (first | (with_reducible exact Below.refl _ _) | (with_reducible refine Below.allocS ?_ _) | (with_reducible refine Below.moreS ?_ _) | (with_reducible refine Below.drew ?_) | (with_reducible refine below_drewN ?_ _)))).mono ?_
        rintro e w1 ⟨al, cl, rfl, hcl, hsl, hb1'⟩
        simp only [World.size_alloc] at hb1'
        obtain ⟨e0, e1, fr0, fr1, hgl1⟩ := AFT.out w1 hb1'
        have HB1 := Lib.hid hb1'
        clear hsl hb1' k0 k1 f0 f1 c0 AFT
        go_wp2_with fail
        all_goals go_ret
        all_goals first | exact BAD.out w1 _ _ HST.out HB1.out (by have := HC.out; omega) | exact BAD.out w1 _ _ (HSN.out (by assumption)) HB1.out (by have := HC.out; omega)
      obtain ⟨y, ys, rfl⟩ : ∃ y ys, l = y :: ys := by
        match l, hlen with
        | y :: ys, _ => exact ⟨y, ys, rfl⟩
      have hys : ys.length = many := by simpa using hlen
      have hnw : IntKind.i64.wrap ((many : Int) + 1) = (many : Int) + 1 := IntWalk.i64_in _ (by omega)
      have q1 : ((many : Int) + 1 != (many : Int) + 1) = false := by simp
      simp only [List.length_cons, hys] at HSP
      cases q2 : (y == first)
      · obtain rfl : N = (List.replicate many [], r, true) := by rw [HR.out, if_neg (by simp at q2; simp [q2])]
        have q3 : (y != first) = true := by unfold bne; rw [q2]; rfl
        clear HR GOOD hlen
        go_enter Tryz.func39, Tryz.ntmps39
        go_wp2_with fail
        refine (HSP.out _ (by repeat (first | (with_reducible exact Below.refl _ _) | (with_reducible refine Below.allocS ?_ _) | (with_reducible refine Below.moreS ?_ _) | (with_reducible refine Below.drew ?_) | (with_reducible refine below_drewN ?_ _)))).mono ?_
        rintro e w1 ⟨al, cl, rfl, hcl, hsl, hb1'⟩
        simp only [World.size_alloc] at hb1'
        obtain ⟨b2, off2, ha2, hb2, d0, _⟩ := SlR.atX hsl (k := 0) (by simp)
        subst ha2
        rw [Nat.add_zero, List.getElem_cons_zero] at d0
        have hne2 := OFF.out w1 b2 off2 _ hb1' hsl (by simp)
        obtain ⟨e0, e1, fr0, fr1, hgl1⟩ := AFT.out w1 hb1'
        have HB1 := Lib.hid hb1'
        clear hsl hb1' k0 k1 f0 f1 c0 AFT OFF
        go_wp2_with fail
        all_goals go_ret
        all_goals first | exact BAD.out w1 _ _ HST.out HB1.out (by have := HC.out; omega) | exact BAD.out w1 _ _ (HSN.out (by assumption)) HB1.out (by have := HC.out; omega)
      · have hyf : y = first := eq_of_beq q2
        subst hyf
        obtain rfl : N = (ys, r, b) := by rw [HR.out, if_pos (by simp [hys])]; rfl
        have q3 : (y != y) = false := by simp
        clear HR BAD hlen
        go_enter Tryz.func39, Tryz.ntmps39
        go_wp2_with fail
        refine (HSP.out _ (by repeat (first | (with_reducible exact Below.refl _ _) | (with_reducible refine Below.allocS ?_ _) | (with_reducible refine Below.moreS ?_ _) | (with_reducible refine Below.drew ?_) | (with_reducible refine below_drewN ?_ _)))).mono ?_
        rintro e w1 ⟨al, cl, rfl, hcl, hsl, hb1'⟩
        simp only [World.size_alloc] at hb1'
        obtain ⟨b2, off2, ha2, hb2, d0, _⟩ := SlR.atX hsl (k := 0) (by simp)
        subst ha2
        rw [Nat.add_zero, List.getElem_cons_zero] at d0
        have hne2 := OFF.out w1 b2 off2 _ hb1' hsl (by simp)
        obtain ⟨e0, e1, fr0, fr1, hgl1⟩ := AFT.out w1 hb1'
        have HB1 := Lib.hid hb1'
        have HSL := Lib.hid (slX_tail hsl)
        have HSY : Hid (cl = 1 → SlX w1 w1.heap.size (some ⟨b2, off2, none⟩) ys) := fun h => by
          have h0 : ys = [] := List.length_eq_zero_iff.1 (by omega)
          rw [h0]; exact .nil
        clear hsl hb1' k0 k1 f0 f1 c0 AFT OFF
        go_wp2_with fail
        all_goals go_ret
        all_goals first | exact GOOD.out w1 _ _ _ ys _ HST.out HB1.out (by have := HC.out; omega) HSL.out | exact GOOD.out w1 _ _ _ ys _ HST.out HB1.out (by have := HC.out; omega) (HSY.out (by assumption)) | exact GOOD.out w1 _ _ _ ys _ (HSN.out (by assumption)) HB1.out (by have := HC.out; omega) HSL.out | exact GOOD.out w1 _ _ _ ys _ (HSN.out (by assumption)) HB1.out (by have := HC.out; omega) (HSY.out (by assumption))
set_option maxHeartbeats 8000000 in
set_option maxRecDepth 100000 in
theorem reader_number (g : Nat) (L : List (List UInt8)) (b : Bool) (s : List UInt8) (hs : s.length ≤ 1048576) (w : World) (hE : Env w) (hS : RdS w g L b) :
    Calls Tryz.prog 45 #[.pointer (some ⟨g, 0, none⟩), bstr s] w fun e w' => e = .returned (.int .i64 (numD s b).1) ∧ RdS w' g L (numD s b).2 ∧ Gm g w w' := by
  obtain ⟨a, c, hg, hsl, hc⟩ := hS.st
  have HR := Lib.hid (digits_Read s hs w hE)
  unfold numD
  simp only
  generalize readF s = p at HR ⊢
  obtain ⟨n, is⟩ := p
  simp only at HR ⊢
  have k0 : w.cell? ⟨g, 0, none⟩ = some (.slice a L.length c) := hg.cell 0
  have k1 : w.cell? ⟨g, 1, none⟩ = some (.bool b) := hg.cell 1
  have f1 : w.frozen? ⟨g, 1, none⟩ = false := hg.frozen 1
  have hgl := hg.lt
  have HG := Lib.hid hg
  have HSL := Lib.hid hsl
  have HC := Lib.hid hc
  clear hS hE hg hsl hc hs
  have fin : ∀ (j : Junk) (b2 : Bool), RdS ((w.setCell ⟨g, 1, none⟩ (.bool b2)).more j) g L b2 ∧ Gm g w ((w.setCell ⟨g, 1, none⟩ (.bool b2)).more j) := fun j b2 => by
    have hgm : Gm g w ((w.setCell ⟨g, 1, none⟩ (.bool b2)).more j) := (gm_set _).trans (gm_below (Below.moreS (Below.refl _ _) j))
    exact ⟨⟨a, c, (HG.out.set_ 1 _).more j, slX_gm HG.out HSL.out hgm, HC.out⟩, hgm⟩
  have FIN := Lib.hid fin
  clear fin
  cases b <;> cases is
  all_goals
    go_enter Tryz.func45, Tryz.ntmps45
    go_wp2_with (go_at_call 85; refine HR.out.mono ?_; rintro e w' ⟨rfl, j, rfl⟩)
    go_ret
    exact ⟨rfl, FIN.out j _⟩
end Go.Proofs.YtbdmepidabnfkaaGreatDoor
