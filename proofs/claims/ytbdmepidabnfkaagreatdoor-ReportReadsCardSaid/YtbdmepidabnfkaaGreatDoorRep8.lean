/-
  Reports: the program's text.
-/
import Derived.Test.YtbdmepidabnfkaaGreatDoorRep5
import Derived.Test.YtbdmepidabnfkaaGreatDoorRep7
import Derived.Test.YtbdmepidabnfkaaGreatDoorMg
import Derived.Test.YtbdmepidabnfkaaGreatDoorMi
import Derived.Test.YtbdmepidabnfkaaGreatDoorMj
import Derived.Test.YtbdmepidabnfkaaGreatDoorMf
namespace Go.Proofs.YtbdmepidabnfkaaGreatDoor
set_option linter.unusedSimpArgs false
set_option linter.unusedVariables false
set_option linter.unusedSectionVars false
open Go.ChangeShapes Go.WideShapes Go.ChangeAt Go.RowKit Go.Deep Go.Shelf

theorem cutW {S P : World → Prop} {A : Prop} (h1 : (∀ w, S w → P w) → A) (h2 : ∀ w, S w → P w) : A := h1 h2
/-- What a report's text asks of the world. -/
structure EnvR (w : World) : Prop where
  k : EnvK0 w
  f : FN w
theorem EnvR.below {w w' : World} (h : EnvR w) (hb : Below w.heap.size w w') : EnvR w' := ⟨h.k.below hb, h.f.below hb⟩
theorem EnvR.p {w : World} (h : EnvR w) : EnvP w := h.k.p
abbrev CfT : TypeId := 23
set_option maxHeartbeats 8000000 in
set_option maxRecDepth 100000 in
theorem report_Text_no (c0 c1 c2 c3 c4 c5 : Int) (a : Option Addr) (l : List Rec) (c : Nat) (v t : Int) (fa : Option Addr) (fs : List Fl) (fc : Nat) (ua : Option Addr) (us : List Int) (uc : Nat) (f0 f1 : Int) (hll : l.length ≤ 1000000) (hcap : l.length ≤ c) (hfl : fs.length ≤ 100000) (hul : us.length ≤ 100000) (m : Int) (w : World) (hM : w.cell? MaxA = some (.int .i64 m)) (hS : SlRc w w.heap.size a l) (hF : SlFl w w.heap.size fa fs) (hU : SlI w w.heap.size ua us) (hR : rightD ⟨c0, c1, c2, c3, c4, c5, l, v, t, fs, us, f0, f1⟩ = false) :
    Calls Tryz.prog 10 #[.agg #[.int .i64 c0, .int .i64 c1, .int .i64 c2, .int .i64 c3, .int .i64 c4, .int .i64 c5, .slice a l.length c, .int .i64 v, .int .i64 t, .slice fa fs.length fc, .slice ua us.length uc, .int .i64 f0, .int .i64 f1]] w fun e w' => e = .returned (.tuple #[bstr [], .int .i64 1]) ∧ ∃ j, w' = w.more j := by
  have HRT : Hid (∀ W, Below w.heap.size w W → Calls Tryz.prog 11 #[.agg #[.int .i64 c0, .int .i64 c1, .int .i64 c2, .int .i64 c3, .int .i64 c4, .int .i64 c5, .slice a l.length c, .int .i64 v, .int .i64 t, .slice fa fs.length fc, .slice ua us.length uc, .int .i64 f0, .int .i64 f1]] W fun e w' => e = .returned (.bool false) ∧ ∃ j, w' = W.more j) := fun W hW => by
    have := report_Right c0 c1 c2 c3 c4 c5 a l c v t fa fs fc ua us uc f0 f1 hll hcap hfl hul m W (max_keep hM hW) (SlRc.keep hS hW) (SlFl.keep hF hW) ((hU.below hW (Nat.le_refl _)).mono hW.size (fun _ _ _ h => h))
    rw [hR] at this
    exact this
  clear hM hS hF hU hR hll hcap hfl hul
  generalize l.length = n at HRT ⊢
  generalize fs.length = nf at HRT ⊢
  generalize us.length = nu at HRT ⊢
  go_enter Tryz.func10, Tryz.ntmps10
  go_wp2_with (go_at_call 11; (with_reducible refine (HRT.out _ (by repeat (first | (with_reducible exact Below.refl _ _) | (with_reducible refine Below.allocS ?_ _) | (with_reducible refine Below.moreS ?_ _) | (with_reducible refine Below.drew ?_) | (with_reducible refine below_drewN ?_ _)))).mono ?_); rintro e w' ⟨rfl, j, rfl⟩)
  go_ret2
  exact ⟨rfl, Below.junk (by repeat (first | (with_reducible exact Below.refl _ _) | (with_reducible refine Below.allocS ?_ _) | (with_reducible refine Below.moreS ?_ _) | (with_reducible refine Below.drew ?_) | (with_reducible refine below_drewN ?_ _)))⟩
theorem recLine_le {r : Rec} (h : RecOk r) : (recLine r).length ≤ 300 := by
  have hl := recWords_len h
  have hj : ∀ l : List (List UInt8), (∀ x ∈ l, x.length ≤ 30) → (Lib.join l [32]).length ≤ 31 * l.length := by
    intro l hl
    cases l with
    | nil => simp [Lib.join_nil]
    | cons x r =>
      rw [Lib.join_length]
      have : ∀ m : List (List UInt8), (∀ x ∈ m, x.length ≤ 30) → Lib.lens m ≤ 30 * m.length := by
        intro m
        induction m with
        | nil => intro _; simp [Lib.lens]
        | cons y t ih =>
          intro h
          have := ih (fun x hx => h x (by simp [hx]))
          have := h y (by simp)
          simp only [Lib.lens, List.map_cons, List.sum_cons, List.length_cons] at *
          omega
      have := this (x :: r) hl
      simp only [List.length_cons, List.length_nil] at *
      omega
  have := hj _ hl
  unfold recLine
  have h7 : (recWords r).length = 7 := rfl
  omega
theorem showW_le (l : List Fl) : (showW l).length ≤ 1001 * l.length + 1 := by
  unfold showW
  split
  · simp
  · have h1 := join_leC 44 ((ofF l).map textW) (by simp only [List.mem_map]; rintro x ⟨f, _, rfl⟩; exact Nat.le_trans (textW_len f) (by omega))
    have h2 := ofF_len l
    rw [List.length_map] at h1
    omega
theorem showR_le (l : List Int) : (showR l).length ≤ 1001 * l.length + 1 := by
  unfold showR
  split
  · simp
  · have h1 := join_leC 44 ((ofR l).map nameR) (by simp only [List.mem_map]; rintro x ⟨f, _, rfl⟩; exact Nat.le_trans (nameR_len f) (by omega))
    have h2 := ofR_len l
    rw [List.length_map] at h1
    omega
theorem join_bl : ∀ (ns : List Int) (h : List UInt8), Lib.join (h :: ns.map Lib.itoa) [32] = h ++ ns.flatMap blN
  | [], h => by simp [Lib.join_one]
  | n :: r, h => by
    rw [List.map_cons, join_two, join_bl r (Lib.itoa n)]
    simp [blN]
theorem lnW_line (h : List UInt8) (ns : List Int) : lnW h ns = lineW (h :: ns.map Lib.itoa) ++ [10] := by unfold lnW lineW; rw [join_bl]
theorem lnW_two (a b : List UInt8) : lnW (a ++ (32 :: b)) [] = lineW [a, b] ++ [10] := by
  unfold lnW lineW
  rw [join_two, Lib.join_one]
  simp
theorem lnW_three (a b : List UInt8) (n : Int) : lnW (a ++ (32 :: b)) [n] = lineW [a, b, Lib.itoa n] ++ [10] := by
  unfold lnW lineW
  rw [join_two, join_two, Lib.join_one]
  simp [blN]
/-- The state in which a report's text is written: the builder, the report's box, the config's copy. -/
structure TxS (w : World) (bb : Nat) (box cfg : Array Value) (acc : List UInt8) (W : World) : Prop where
  lt : w.heap.size < bb
  bld : Lib.IsBuilder BT BytT bb bb (Lib.byteCells acc) W
  blw : Below w.heap.size w W
  bx : Blk W w.heap.size RpT box
  cf : Blk W (bb + 1) CfT cfg
theorem TxS.size {w W : World} {bb : Nat} {box cfg : Array Value} {acc : List UInt8} (h : TxS w bb box cfg acc W) : bb ≤ W.heap.size := by have := h.cf.lt; omega
theorem TxS.grown {w W W' : World} {bb : Nat} {box cfg : Array Value} {acc : List UInt8} (h : TxS w bb box cfg acc W) (hb : Below W.heap.size W W') : TxS w bb box cfg acc W' :=
  ⟨h.lt, builder_below h.bld hb, h.blw.trans (hb.mono (by have := h.size; have := h.lt; omega)), h.bx.below hb h.bx.lt, h.cf.below hb h.cf.lt⟩
theorem line_call {w : World} {bb : Nat} {box cfg : Array Value} {acc : List UInt8} (hE : EnvR w) (head : List UInt8) (a : Option Addr) (cap : Nat) (ns : List Int) (hg : ∀ n ∈ ns, goodI n) (hn : ns.length ≤ 1000) (hacc : acc.length ≤ 1000000000) (hhead : head.length ≤ 6000000)
    (W : World) (hT : TxS w bb box cfg acc W) (hR : RowI W a ns) :
    Calls Tryz.prog 20 #[.pointer (some ⟨bb, 0, none⟩), bstr head, .slice a ns.length cap] W fun e W' => e = .returned (.tuple #[]) ∧ TxS w bb box cfg (acc ++ lnW head ns) W' ∧ Below bb W W' :=
  (report_line bb bb acc head a cap ns hg hn hacc hhead w W hE.p hT.blw (Nat.le_of_lt hT.lt) hT.size hT.bld hR).mono fun e W' ⟨h1, h2, h3, h4⟩ =>
    ⟨h1, ⟨hT.lt, h2, hT.blw.trans (h3.mono (Nat.le_of_lt hT.lt)), hT.bx.below h3 hT.lt, h4 _ _ _ hT.cf (by decide) (by decide)⟩, h3⟩
theorem row_one {W : World} {g : Nat} {x : Int} (h : Blk W g 3 #[.int .i64 x]) : RowI W (some ⟨g, 0, none⟩) [x] := .inr ⟨g, _, rfl, h, rfl⟩
theorem row_two {W : World} {g : Nat} {x y : Int} (h : Blk W g 3 #[.int .i64 x, .int .i64 y]) : RowI W (some ⟨g, 0, none⟩) [x, y] := .inr ⟨g, _, rfl, h, rfl⟩
theorem row_six {W : World} {g : Nat} {x0 x1 x2 x3 x4 x5 : Int} (h : Blk W g 3 #[.int .i64 x0, .int .i64 x1, .int .i64 x2, .int .i64 x3, .int .i64 x4, .int .i64 x5]) : RowI W (some ⟨g, 0, none⟩) [x0, x1, x2, x3, x4, x5] := .inr ⟨g, _, rfl, h, rfl⟩
theorem good_one {x : Int} (h : goodI x) : ∀ n ∈ [x], goodI n := by simpa using h
def recsT (l : List Rec) : List UInt8 := l.flatMap fun r => recLine r ++ [10]
theorem recs_flat (l : List Rec) : flatL (l.map recLine) = recsT l := by unfold flatL recsT; rw [List.flatMap_map]
theorem recsT_len : ∀ l : List Rec, (∀ r ∈ l, recR r = true) → (recsT l).length ≤ 301 * l.length
  | [], _ => by simp [recsT]
  | r :: l, h => by
    have h1 := recLine_le (recR_ok (h r (by simp)))
    have h2 := recsT_len l (fun x hx => h x (by simp [hx]))
    unfold recsT at h2 ⊢
    simp only [List.flatMap_cons, List.length_append, List.length_cons, List.length_nil]
    omega
def head3 (c0 c1 c2 c3 c4 c5 : Int) (n : Nat) : List UInt8 := lnW [115, 116, 105, 99, 107, 108, 101, 114] [1] ++ lnW [99, 111, 110, 102, 105, 103] [c0, c1, c2, c3, c4, c5] ++ lnW [102, 114, 97, 109, 101, 115] [(n : Int)]
theorem text_parts (c0 c1 c2 c3 c4 c5 : Int) (a : Option Addr) (l : List Rec) (c : Nat) (v t : Int) (fa : Option Addr) (fs : List Fl) (fc : Nat) (ua : Option Addr) (us : List Int) (uc : Nat) (f0 f1 : Int) : textD ⟨c0, c1, c2, c3, c4, c5, l, v, t, fs, us, f0, f1⟩ = head3 c0 c1 c2 c3 c4 c5 l.length ++ recsT l ++ lnW ([118, 101, 114, 100, 105, 99, 116] ++ (32 :: kindF v)) [t] ++ lnW ([102, 97, 117, 108, 116, 115] ++ (32 :: showW fs)) [] ++ lnW ([114, 117, 108, 101, 115] ++ (32 :: showR us)) [] ++ lnW [108, 101, 102, 116] [f0, f1] := by
  unfold textD linesD head3
  rw [flatL_app, flatL_app, recs_flat, lnW_line, lnW_line, lnW_line, lnW_three, lnW_two, lnW_two, lnW_line]
  unfold w1D w2D w3D w4D w5D w6D w7D
  simp only [flatL, List.flatMap_cons, List.flatMap_nil, List.map_cons, List.map_nil, List.append_assoc, List.append_nil]
set_option maxHeartbeats 2000000 in
set_option maxRecDepth 100000 in
theorem faults_CodeName_hi0 (t : Int) (h0 : 14 ≤ t) (h1 : t ≤ 4294967295) (w : World) (hE : EnvP w) : Calls Tryz.prog 107 #[.int .i64 t] w fun e w' => e = .returned (bstr (codeN t)) ∧ ∃ j, w' = w.more j := by
  rw [codeN_hi h0 h1]
  have HT : Hid (∀ W, EnvP W → Calls Tryz.prog 61 #[.int .i64 t] W fun e w' => e = .returned (bstr (Lib.itoa t)) ∧ ∃ j, w' = W.more j) := fun W hW => digits_Text0 t (by omega) (by omega) W hW
  have HE := Lib.hid hE
  generalize Lib.itoa t = T at HT ⊢
  have g1 : ¬ t < 0 := by omega
  have g2 : ¬ 4294967295 < t := by omega
  have g3 : ¬ t < 14 := by omega
  clear hE
  go_enter Tryz.func107, Tryz.ntmps107
  go_wp2_with (go_at_call 61; (with_reducible refine (HT.out _ (HE.out.below (by repeat (first | (with_reducible exact Below.refl _ _) | (with_reducible refine Below.allocS ?_ _) | (with_reducible refine Below.moreS ?_ _) | (with_reducible refine Below.drew ?_) | (with_reducible refine below_drewN ?_ _))))).mono ?_); rintro e w' ⟨rfl, j, rfl⟩)
  go_ret
  exact ⟨rfl, Below.junk (by repeat (first | (with_reducible exact Below.refl _ _) | (with_reducible refine Below.allocS ?_ _) | (with_reducible refine Below.moreS ?_ _) | (with_reducible refine Below.drew ?_) | (with_reducible refine below_drewN ?_ _)))⟩
theorem faults_CodeName0 (t : Int) (w : World) (hE : EnvP w) (hF : FN w) : Calls Tryz.prog 107 #[.int .i64 t] w fun e w' => e = .returned (bstr (codeN t)) ∧ ∃ j, w' = w.more j := by
  by_cases h : t < 0 ∨ 4294967295 < t
  · exact faults_CodeName_no t h w
  · by_cases h14 : t < 14
    · obtain ⟨k, rfl⟩ : ∃ k : Nat, t = (k : Int) := ⟨t.toNat, by omega⟩
      exact faults_CodeName_lo k (by omega) w hF
    · exact faults_CodeName_hi0 t (by omega) (by omega) w hE
theorem nameAt_of {w : World} (hE : EnvR w) (c : Int) (W : World) (hW : Below w.heap.size w W) : NameAt c W := faults_CodeName0 c W (hE.below hW).p (hE.below hW).f
set_option maxHeartbeats 16000000 in
set_option maxRecDepth 100000 in
theorem report_Text_yes (c0 c1 c2 c3 c4 c5 : Int) (a : Option Addr) (l : List Rec) (c : Nat) (v t : Int) (fa : Option Addr) (fs : List Fl) (fc : Nat) (ua : Option Addr) (us : List Int) (uc : Nat) (f0 f1 : Int) (hll : l.length ≤ 1000000) (hcap : l.length ≤ c) (hfl : fs.length ≤ 5000) (hul : us.length ≤ 5000) (hgt : goodI t) (hgf : goodI f0) (hgg : goodI f1) (m : Int) (w : World) (hE : EnvR w) (hM : w.cell? MaxA = some (.int .i64 m)) (hS : SlRc w w.heap.size a l) (hF : SlFl w w.heap.size fa fs) (hU : SlI w w.heap.size ua us) (hR : rightD ⟨c0, c1, c2, c3, c4, c5, l, v, t, fs, us, f0, f1⟩ = true) :
    Calls Tryz.prog 10 #[.agg #[.int .i64 c0, .int .i64 c1, .int .i64 c2, .int .i64 c3, .int .i64 c4, .int .i64 c5, .slice a l.length c, .int .i64 v, .int .i64 t, .slice fa fs.length fc, .slice ua us.length uc, .int .i64 f0, .int .i64 f1]] w fun e w' => e = .returned (.tuple #[bstr (textD ⟨c0, c1, c2, c3, c4, c5, l, v, t, fs, us, f0, f1⟩), .int .i64 0]) ∧ ∃ j, w' = w.more j := by
  have HRT : Hid (∀ W, Below w.heap.size w W → Calls Tryz.prog 11 #[.agg #[.int .i64 c0, .int .i64 c1, .int .i64 c2, .int .i64 c3, .int .i64 c4, .int .i64 c5, .slice a l.length c, .int .i64 v, .int .i64 t, .slice fa fs.length fc, .slice ua us.length uc, .int .i64 f0, .int .i64 f1]] W fun e w' => e = .returned (.bool true) ∧ ∃ j, w' = W.more j) := fun W hW => by
    have := report_Right c0 c1 c2 c3 c4 c5 a l c v t fa fs fc ua us uc f0 f1 hll hcap (by omega) (by omega) m W (max_keep hM hW) (SlRc.keep hS hW) (SlFl.keep hF hW) ((hU.below hW (Nat.le_refl _)).mono hW.size (fun _ _ _ h => h))
    rw [hR] at this
    exact this
  have HKD : Hid (∀ W, Calls Tryz.prog 22 #[.int .i64 v] W fun e w' => e = .returned (bstr (kindF v)) ∧ W = w') := record_Kind v
  have HFS : Hid (∀ W, Below w.heap.size w W → Calls Tryz.prog 23 #[.slice fa fs.length fc] W fun e w' => e = .returned (bstr (showW fs)) ∧ ∃ j, w' = W.more j) := fun W hW => faults_Show fa fs fc (by omega) W (SlFl.keep hF hW) (fun f _ W' hW' => nameAt_of hE f.code W' (hW.trans (hW'.mono hW.size)))
  have HRS : Hid (∀ W, Below w.heap.size w W → Calls Tryz.prog 24 #[.slice ua us.length uc] W fun e w' => e = .returned (bstr (showR us)) ∧ ∃ j, w' = W.more j) := fun W hW => rules_Show ua us uc (by omega) m W (max_keep hM hW) ((hU.below hW (Nat.le_refl _)).mono hW.size (fun _ _ _ h => h))
  have hrl := right_l hR
  have hcg := cfg_good (right_cfg hR)
  simp only at hrl hcg
  have HTX := Lib.hid (text_parts c0 c1 c2 c3 c4 c5 a l c v t fa fs fc ua us uc f0 f1)
  have hl1 := kindF_len v
  have hl2 := showW_le fs
  have hl3 := showR_le us
  have HRL : Hid (∀ r ∈ l, recR r = true) := List.all_eq_true.1 hrl
  have hlt0 : ∀ k, (recsT (l.take k)).length ≤ 301000000 := fun k => by
    have := recsT_len (l.take k) (fun r hr => List.all_eq_true.1 hrl r (List.mem_of_mem_take hr))
    simp only [List.length_take] at this
    omega
  have HLT := Lib.hid hlt0
  have hh3 : (head3 c0 c1 c2 c3 c4 c5 l.length).length ≤ 10000 := by
    have h1 := lnW_len (head := [115, 116, 105, 99, 107, 108, 101, 114]) (ns := [1]) (good_one (by unfold goodI; omega))
    have h2 := lnW_len (head := [99, 111, 110, 102, 105, 103]) (ns := [c0, c1, c2, c3, c4, c5]) (by intro n hn; simp only [List.mem_cons, List.not_mem_nil, or_false] at hn; obtain ⟨g0, g1, g2, g3, g4, g5⟩ := hcg; rcases hn with rfl | rfl | rfl | rfl | rfl | rfl <;> assumption)
    have h3 := lnW_len (head := [102, 114, 97, 109, 101, 115]) (ns := [(l.length : Int)]) (good_one (by unfold goodI; omega))
    unfold head3
    simp only [List.length_append, List.length_cons, List.length_nil] at h1 h2 h3 ⊢
    omega
  have hl2' : (showW fs).length ≤ 5100000 := by omega
  have hl3' : (showR us).length ≤ 5100000 := by omega
  have HE := Lib.hid hE
  have HS := Lib.hid hS
  have HCG := Lib.hid hcg
  have HGT := Lib.hid hgt
  have HGF := Lib.hid hgf
  have HGG := Lib.hid hgg
  clear hl2 hl3 hR hM hS hF hU hrl hcg hlt0 hgt hgf hgg hE hcap hul hfl
  generalize textD ⟨c0, c1, c2, c3, c4, c5, l, v, t, fs, us, f0, f1⟩ = T at HTX ⊢
  generalize showW fs = F at HFS HTX hl2'
  generalize showR us = R at HRS HTX hl3'
  generalize kindF v = KD at HKD HTX hl1
  generalize fs.length = nf at HRT HFS ⊢
  generalize us.length = nu at HRT HRS ⊢
  go_enter Tryz.func10, Tryz.ntmps10
  go_wp2_with (go_at_call 11; (with_reducible refine (HRT.out _ (by repeat (first | (with_reducible exact Below.refl _ _) | (with_reducible refine Below.allocS ?_ _) | (with_reducible refine Below.moreS ?_ _) | (with_reducible refine Below.drew ?_) | (with_reducible refine below_drewN ?_ _)))).mono ?_); rintro e w' ⟨rfl, j, rfl⟩)
  obtain ⟨bb, hbb⟩ : ∃ bb, bb = w.heap.size + 1 + j.heap.size := ⟨_, rfl⟩
  obtain ⟨W0, hW0⟩ : ∃ W0, W0 = (w.alloc (.cells #[.int .i64 c0, .int .i64 c1, .int .i64 c2, .int .i64 c3, .int .i64 c4, .int .i64 c5, .slice a l.length c, .int .i64 v, .int .i64 t, .slice fa nf fc, .slice ua nu uc, .int .i64 f0, .int .i64 f1] RpT)).more j := ⟨_, rfl⟩
  have hW0s : W0.heap.size = bb := by rw [hW0, hbb]; simp
  have hg0 : Blk W0 w.heap.size RpT #[.int .i64 c0, .int .i64 c1, .int .i64 c2, .int .i64 c3, .int .i64 c4, .int .i64 c5, .slice a l.length c, .int .i64 v, .int .i64 t, .slice fa nf fc, .slice ua nu uc, .int .i64 f0, .int .i64 f1] := by rw [hW0]; exact (Blk.new _ _ _).more _
  have hb0 : Below w.heap.size w W0 := by rw [hW0]; exact (by repeat (first | (with_reducible exact Below.refl _ _) | (with_reducible refine Below.allocS ?_ _) | (with_reducible refine Below.moreS ?_ _) | (with_reducible refine Below.drew ?_) | (with_reducible refine below_drewN ?_ _)))
  rw [← hbb, ← hW0]
  obtain ⟨W3, hW3⟩ : ∃ W3, W3 = ((W0.alloc (.cells #[.pointer none, .slice none 0 0] BT)).alloc (.cells #[.int .i64 c0, .int .i64 c1, .int .i64 c2, .int .i64 c3, .int .i64 c4, .int .i64 c5] CfT)).alloc (.cells #[.int .i64 1] 3) := ⟨_, rfl⟩
  rw [← hW3]
  have hT3 : TxS w bb #[.int .i64 c0, .int .i64 c1, .int .i64 c2, .int .i64 c3, .int .i64 c4, .int .i64 c5, .slice a l.length c, .int .i64 v, .int .i64 t, .slice fa nf fc, .slice ua nu uc, .int .i64 f0, .int .i64 f1] #[.int .i64 c0, .int .i64 c1, .int .i64 c2, .int .i64 c3, .int .i64 c4, .int .i64 c5] [] W3 := by
    refine ⟨by omega, ?_, ?_, ?_, ?_⟩
    · have h := Lib.fresh_isBuilder BT BytT W0
      rw [hW0s] at h
      rw [hW3]
      exact builder_below h (by repeat (first | (with_reducible exact Below.refl _ _) | (with_reducible refine Below.allocS ?_ _) | (with_reducible refine Below.moreS ?_ _) | (with_reducible refine Below.drew ?_) | (with_reducible refine below_drewN ?_ _)))
    · refine hb0.trans (Below.mono (B := W0.heap.size) ?_ hb0.size)
      rw [hW3]; exact (by repeat (first | (with_reducible exact Below.refl _ _) | (with_reducible refine Below.allocS ?_ _) | (with_reducible refine Below.moreS ?_ _) | (with_reducible refine Below.drew ?_) | (with_reducible refine below_drewN ?_ _)))
    · rw [hW3]; exact ((hg0.alloc _).alloc _).alloc _
    · rw [hW3]; exact (Blk.at_ _ _ _ (by simp [hW0s])).alloc _
  have hr3 : RowI W3 (some ⟨bb + 1 + 1, 0, none⟩) [1] := row_one (by rw [hW3]; exact Blk.at_ _ _ _ (by simp [hW0s]))
  clear hW3 hW0 hW0s hg0 hb0 hbb
  obtain ⟨BX, hBX⟩ : ∃ BX, BX = (#[.int .i64 c0, .int .i64 c1, .int .i64 c2, .int .i64 c3, .int .i64 c4, .int .i64 c5, .slice a l.length c, .int .i64 v, .int .i64 t, .slice fa nf fc, .slice ua nu uc, .int .i64 f0, .int .i64 f1] : Array Value) := ⟨_, rfl⟩
  obtain ⟨CF, hCF⟩ : ∃ CF, CF = (#[.int .i64 c0, .int .i64 c1, .int .i64 c2, .int .i64 c3, .int .i64 c4, .int .i64 c5] : Array Value) := ⟨_, rfl⟩
  rw [← hBX, ← hCF] at hT3
  have x6 : BX[6]? = some (.slice a l.length c) := by rw [hBX]; rfl
  have x7 : BX[7]? = some (.int .i64 v) := by rw [hBX]; rfl
  have x8 : BX[8]? = some (.int .i64 t) := by rw [hBX]; rfl
  have x9 : BX[9]? = some (.slice fa nf fc) := by rw [hBX]; rfl
  have x10 : BX[10]? = some (.slice ua nu uc) := by rw [hBX]; rfl
  have x11 : BX[11]? = some (.int .i64 f0) := by rw [hBX]; rfl
  have x12 : BX[12]? = some (.int .i64 f1) := by rw [hBX]; rfl
  have y0 : CF[0]? = some (.int .i64 c0) := by rw [hCF]; rfl
  have y1 : CF[1]? = some (.int .i64 c1) := by rw [hCF]; rfl
  have y2 : CF[2]? = some (.int .i64 c2) := by rw [hCF]; rfl
  have y3 : CF[3]? = some (.int .i64 c3) := by rw [hCF]; rfl
  have y4 : CF[4]? = some (.int .i64 c4) := by rw [hCF]; rfl
  have y5 : CF[5]? = some (.int .i64 c5) := by rw [hCF]; rfl
  have HT3 := Lib.hid hT3
  have X6 := Lib.hid x6
  have X7 := Lib.hid x7
  have X8 := Lib.hid x8
  have X9 := Lib.hid x9
  have X10 := Lib.hid x10
  have X11 := Lib.hid x11
  have X12 := Lib.hid x12
  clear hT3 hBX hCF x6 x7 x8 x9 x10 x11 x12
  refine (line_call HE.out [115, 116, 105, 99, 107, 108, 101, 114] (some ⟨bb + 1 + 1, 0, none⟩) 1 [1] (good_one (by unfold goodI; omega)) (by simp) (by simp) (by simp) W3 HT3.out hr3).mono ?_
  rintro e w1 ⟨rfl, hT1, -⟩
  clear hr3
  have HT1 := Lib.hid hT1
  have e0 : w1.cell? ⟨bb + 1, 0, none⟩ = some (.int .i64 c0) := (hT1.cf.cell 0).trans y0
  have e1 : w1.cell? ⟨bb + 1, 1, none⟩ = some (.int .i64 c1) := (hT1.cf.cell 1).trans y1
  have e2 : w1.cell? ⟨bb + 1, 2, none⟩ = some (.int .i64 c2) := (hT1.cf.cell 2).trans y2
  have e3 : w1.cell? ⟨bb + 1, 3, none⟩ = some (.int .i64 c3) := (hT1.cf.cell 3).trans y3
  have e4 : w1.cell? ⟨bb + 1, 4, none⟩ = some (.int .i64 c4) := (hT1.cf.cell 4).trans y4
  have e5 : w1.cell? ⟨bb + 1, 5, none⟩ = some (.int .i64 c5) := (hT1.cf.cell 5).trans y5
  have hcf := hT1.cf.lt
  clear hT1 y0 y1 y2 y3 y4 y5
  go_wp2_with fail
  refine (line_call HE.out [99, 111, 110, 102, 105, 103] (some ⟨w1.heap.size, 0, none⟩) 6 [c0, c1, c2, c3, c4, c5] (by intro n hn; simp only [List.mem_cons, List.not_mem_nil, or_false] at hn; obtain ⟨g0, g1, g2, g3, g4, g5⟩ := HCG.out; rcases hn with rfl | rfl | rfl | rfl | rfl | rfl <;> assumption) (by simp) (by have := lnW_len (head := [115, 116, 105, 99, 107, 108, 101, 114]) (ns := [1]) (good_one (by unfold goodI; omega)); simp only [List.length_append, List.length_cons, List.length_nil] at this ⊢; omega) (by simp) _ (HT1.out.grown (by repeat (first | (with_reducible exact Below.refl _ _) | (with_reducible refine Below.allocS ?_ _) | (with_reducible refine Below.moreS ?_ _) | (with_reducible refine Below.drew ?_) | (with_reducible refine below_drewN ?_ _)))) (row_six (Blk.new _ _ _))).mono ?_
  rintro e w2 ⟨rfl, hT2, -⟩
  have HT2 := Lib.hid hT2
  have a6 : w2.cell? ⟨w.heap.size, 6, none⟩ = some (.slice a l.length c) := (hT2.bx.cell 6).trans X6.out
  have hbx := hT2.bx.lt
  clear hT2 e0 e1 e2 e3 e4 e5 hcf HT1
  go_wp2_with fail
  refine (line_call HE.out [102, 114, 97, 109, 101, 115] (some ⟨w2.heap.size, 0, none⟩) 1 [(l.length : Int)] (good_one (by unfold goodI; omega)) (by simp) (by
    have h1 := lnW_len (head := [115, 116, 105, 99, 107, 108, 101, 114]) (ns := [1]) (good_one (by unfold goodI; omega))
    have h2 := lnW_len (head := [99, 111, 110, 102, 105, 103]) (ns := [c0, c1, c2, c3, c4, c5]) (by intro n hn; simp only [List.mem_cons, List.not_mem_nil, or_false] at hn; obtain ⟨g0, g1, g2, g3, g4, g5⟩ := HCG.out; rcases hn with rfl | rfl | rfl | rfl | rfl | rfl <;> assumption)
    simp only [List.length_append, List.length_cons, List.length_nil] at h1 h2 ⊢
    omega) (by simp) _ (HT2.out.grown (by repeat (first | (with_reducible exact Below.refl _ _) | (with_reducible refine Below.allocS ?_ _) | (with_reducible refine Below.moreS ?_ _) | (with_reducible refine Below.drew ?_) | (with_reducible refine below_drewN ?_ _)))) (row_one (Blk.new _ _ _))).mono ?_
  rintro e w3 ⟨rfl, hT3, -⟩
  have hT3' : TxS w bb BX CF (head3 c0 c1 c2 c3 c4 c5 l.length ++ recsT (l.take 0)) w3 := by
    rw [List.take_zero, show recsT [] = [] from rfl, List.append_nil]
    exact hT3
  have HT3 := Lib.hid hT3'
  have a6 : w3.cell? ⟨w.heap.size, 6, none⟩ = some (.slice a l.length c) := (hT3.bx.cell 6).trans X6.out
  have hbx := hT3.bx.lt
  clear hT3 hT3' HT2
  generalize head3 c0 c1 c2 c3 c4 c5 l.length = H3 at HT3 HTX hh3
  go_wp2_with fail
  go_loopg [39] l.length (fun g i wr => ∃ k : Nat, k + g = l.length ∧ i = .int .i64 k ∧ TxS w bb BX CF (H3 ++ recsT (l.take k)) wr)
  case atStart => exact ⟨0, by omega, rfl, HT3.out⟩
  case round =>
    obtain ⟨k, hkg, rfl, hT⟩ := hrel
    have HK := Lib.hid hkg
    have HT := Lib.hid hT
    have hlk := HLT.out k
    clear a6 hbx
    by_cases hlt : k < l.length
    · obtain ⟨b, off, ha, hbb, d0, d1, d2, d3, d4, d5⟩ := SlR.atRc HS.out hlt
      subst ha
      have q0 := (hT.blw.cell (p := ⟨b, off + k * 6, none⟩) hbb).trans d0
      have q1 := (hT.blw.cell (p := ⟨b, off + k * 6 + 1, none⟩) hbb).trans d1
      have q2 := (hT.blw.cell (p := ⟨b, off + k * 6 + 2, none⟩) hbb).trans d2
      have q3 := (hT.blw.cell (p := ⟨b, off + k * 6 + 3, none⟩) hbb).trans d3
      have q4 := (hT.blw.cell (p := ⟨b, off + k * 6 + 4, none⟩) hbb).trans d4
      have q5 := (hT.blw.cell (p := ⟨b, off + k * 6 + 5, none⟩) hbb).trans d5
      have hbz : b < wr.heap.size := Nat.lt_of_lt_of_le hbb hT.blw.size
      have hrr := HRL.out _ (List.getElem_mem hlt)
      have hrl := recLine_le (recR_ok hrr)
      have HU : Hid (H3 ++ recsT (l.take (k + 1)) = H3 ++ recsT (l.take k) ++ lnW (recLine l[k]) []) := by
        show _ = _
        rw [List.take_succ_eq_append_getElem hlt]
        unfold recsT lnW
        rw [List.flatMap_append]
        simp only [List.flatMap_cons, List.flatMap_nil, List.append_nil, List.append_assoc]
      generalize l[k] = x at q0 q1 q2 q3 q4 q5 hrr hrl HU
      obtain ⟨x0, x1, x2, x3, x4, x5⟩ := x
      simp only at q0 q1 q2 q3 q4 q5
      have HXT : Hid (∀ W, EnvK0 W → Calls Tryz.prog 21 #[.agg #[.int .i64 x0, .int .i64 x1, .int .i64 x2, .int .i64 x3, .int .i64 x4, .int .i64 x5]] W fun e w' => e = .returned (.tuple #[bstr (recLine ⟨x0, x1, x2, x3, x4, x5⟩), .int .i64 0]) ∧ ∃ j, w' = W.more j) := fun W hW => record_Text_yes x0 x1 x2 x3 x4 x5 hrr W hW
      have HEK : Hid (EnvK0 wr) := (HE.out.below hT.blw).k
      have hac : (H3 ++ recsT (l.take k)).length ≤ 400000000 := by simp only [List.length_append]; omega
      generalize H3 ++ recsT (l.take k) = ac at HT HU hac
      generalize recLine ⟨x0, x1, x2, x3, x4, x5⟩ = L at HXT HU hrl
      clear d0 d1 d2 d3 d4 d5 hT hkg hrr hlk
      go_wp2_with (go_at_call 21; (with_reducible refine (HXT.out _ (HEK.out.below (by repeat (first | (with_reducible exact Below.refl _ _) | (with_reducible refine Below.allocS ?_ _) | (with_reducible refine Below.moreS ?_ _) | (with_reducible refine Below.drew ?_) | (with_reducible refine below_drewN ?_ _))))).mono ?_); rintro e w' ⟨rfl, j, rfl⟩)
      refine (line_call HE.out L none 0 [] (by simp) (by simp) (by omega) (by omega) _ (HT.out.grown (by repeat (first | (with_reducible exact Below.refl _ _) | (with_reducible refine Below.allocS ?_ _) | (with_reducible refine Below.moreS ?_ _) | (with_reducible refine Below.drew ?_) | (with_reducible refine below_drewN ?_ _)))) (.inl rfl)).mono ?_
      rintro e w4 ⟨rfl, hT4, -⟩
      rw [← HU.out] at hT4
      have HT4 := Lib.hid hT4
      clear hT4
      go_wp2_with fail
      go_roundg (l.length - (k + 1))
      case measure => have := HK.out; omega
      case rel => exact ⟨k + 1, by have := HK.out; omega, by go_num, HT4.out⟩
    · obtain rfl : k = l.length := by omega
      rw [List.take_length] at HT hlk
      have hac : (H3 ++ recsT l).length ≤ 400000000 := by simp only [List.length_append]; omega
      clear hT hkg hlk hlt
      generalize H3 ++ recsT l = ac at HT HTX hac
      generalize l.length = n
      have a7 : wr.cell? ⟨w.heap.size, 7, none⟩ = some (.int .i64 v) := (HT.out.bx.cell 7).trans X7.out
      have a8 : wr.cell? ⟨w.heap.size, 8, none⟩ = some (.int .i64 t) := (HT.out.bx.cell 8).trans X8.out
      have hwb := HT.out.lt
      have hbw := HT.out.size
      go_wp2_with fail
      have hac5 : (ac ++ lnW ([118, 101, 114, 100, 105, 99, 116] ++ (32 :: KD)) [t]).length ≤ 400001000 := by
        have hac4 := lnW_len (head := [118, 101, 114, 100, 105, 99, 116] ++ (32 :: KD)) (good_one HGT.out)
        simp only [List.length_append, List.length_cons, List.length_nil] at hac4 ⊢
        omega
      have HLV : Hid (∀ W, TxS w bb BX CF ac W → RowI W (some ⟨wr.heap.size, 0, none⟩) [t] → Calls Tryz.prog 20 #[.pointer (some ⟨bb, 0, none⟩), bstr (118 :: 101 :: 114 :: 100 :: 105 :: 99 :: 116 :: 32 :: KD), .slice (some ⟨wr.heap.size, 0, none⟩) 1 1] W fun e W' => e = .returned (.tuple #[]) ∧ TxS w bb BX CF (ac ++ lnW ([118, 101, 114, 100, 105, 99, 116] ++ (32 :: KD)) [t]) W' ∧ Below bb W W') := fun W hT hR =>
        line_call HE.out ([118, 101, 114, 100, 105, 99, 116] ++ (32 :: KD)) (some ⟨wr.heap.size, 0, none⟩) 1 [t] (good_one HGT.out) (by simp) (by omega) (by simp; omega) W hT hR
      generalize ac ++ lnW ([118, 101, 114, 100, 105, 99, 116] ++ (32 :: KD)) [t] = ac4 at HLV HTX hac5
      refine cutW (S := TxS w bb BX CF ac4) (P := ?PP) (fun key => ?_) ?_
      rotate_left
      · refine gb_start bb (by kernel_rfl) ?_
        refine gb_take 0 (v := ?_) rfl (by kernel_rfl) (by kernel_rfl) (by kernel_rfl) (fun _ _ _ h => h) (Or.inl ⟨by first | kernel_rfl | rfl, ?_⟩) ?_
        rotate_left
        · intro wS hSw; have hSc := hSw.cell; clear hSw; go_simp; try with_reducible rfl
        try simp only [Act.put, List.getElem_toArray, List.getElem_cons_succ, List.getElem_cons_zero, List.setIfInBounds_toArray, List.set_cons_zero, List.set_cons_succ]
        refine gb_take 1 (v := ?_) rfl (by kernel_rfl) (by kernel_rfl) (by kernel_rfl) (fun _ _ _ h => h) (Or.inl ⟨by first | kernel_rfl | rfl, ?_⟩) ?_
        rotate_left
        · intro wS hSw; have hSc := hSw.cell; clear hSw; go_simp; try with_reducible rfl
        try simp only [Act.put, List.getElem_toArray, List.getElem_cons_succ, List.getElem_cons_zero, List.setIfInBounds_toArray, List.set_cons_zero, List.set_cons_succ]
        refine gb_take 4 (v := ?_) rfl (by kernel_rfl) (by kernel_rfl) (by kernel_rfl) (fun _ _ _ h => h) (Or.inl ⟨by first | kernel_rfl | rfl, ?_⟩) ?_
        rotate_left
        · intro wS hSw; have hSc := hSw.cell; clear hSw; go_simp; try with_reducible rfl
        try simp only [Act.put, List.getElem_toArray, List.getElem_cons_succ, List.getElem_cons_zero, List.setIfInBounds_toArray, List.set_cons_zero, List.set_cons_succ]
        refine gb_take 5 (v := ?_) rfl (by kernel_rfl) (by kernel_rfl) (by kernel_rfl) (fun _ _ _ h => h) (Or.inl ⟨by first | kernel_rfl | rfl, ?_⟩) ?_
        rotate_left
        · intro wS hSw; have hSc := hSw.cell; clear hSw; go_simp; try with_reducible rfl
        try simp only [Act.put, List.getElem_toArray, List.getElem_cons_succ, List.getElem_cons_zero, List.setIfInBounds_toArray, List.set_cons_zero, List.set_cons_succ]
        refine gb_two 2 6 (by kernel_rfl) rfl rfl (fun K' hK => ?_) (fun K' hK => ?_)
        · go_simp
          go_wp2_with ((go_at_call 22; (with_reducible refine (HKD.out _).mono ?_); rintro e w' ⟨rfl, rfl⟩))
          refine hK.out _ _ (show Below _ _ _ from (by first | exact Below.refl _ _ | (refine Below.mono (B := wr.heap.size) ?_ (by exact hbw); (repeat (first | (with_reducible exact Below.refl _ _) | (with_reducible exact grown_merge _ _ _ _) | (with_reducible exact grown_merge2 _ _ _ _ _ _) | (with_reducible exact grown_merge3 _ _ _ _ _ _ _) | (with_reducible refine Below.allocS ?_ _) | (with_reducible refine Below.moreS ?_ _) | (with_reducible refine Below.drew ?_))); done) | (refine gb_undrew (Below.mono (B := wr.heap.size) ?_ (by exact hbw)); (repeat (first | (with_reducible exact Below.refl _ _) | (with_reducible exact grown_merge _ _ _ _) | (with_reducible exact grown_merge2 _ _ _ _ _ _) | (with_reducible exact grown_merge3 _ _ _ _ _ _ _) | (with_reducible refine Below.allocS ?_ _) | (with_reducible refine Below.moreS ?_ _) | (with_reducible refine Below.drew ?_))); done))) ?_
          clear hK K'
          try simp only [Act.put, List.getElem_toArray, List.getElem_cons_succ, List.getElem_cons_zero, List.setIfInBounds_toArray, List.set_cons_zero, List.set_cons_succ]
          refine gb_take 3 (v := ?_) rfl (by kernel_rfl) (by kernel_rfl) (by kernel_rfl) (fun _ _ _ h => h) (Or.inl ⟨by first | kernel_rfl | rfl, ?_⟩) ?_
          rotate_left
          · intro wS hSw; have hSc := hSw.cell; clear hSw; go_simp; first | (with_reducible rfl) | (rw [if_neg (by first | omega | (simp only [List.length_append, List.length_cons, List.length_nil]; omega))])
          try simp only [Act.put, List.getElem_toArray, List.getElem_cons_succ, List.getElem_cons_zero, List.setIfInBounds_toArray, List.set_cons_zero, List.set_cons_succ]
          refine gb_step 6 (by kernel_rfl) rfl (fun K hK => ?_)
          go_simp
          go_wp2_with fail
          refine hK.out _ _ (show Below _ _ _ from (by first | exact Below.refl _ _ | (refine Below.mono (B := wr.heap.size) ?_ (by exact hbw); (repeat (first | (with_reducible exact Below.refl _ _) | (with_reducible exact grown_merge _ _ _ _) | (with_reducible exact grown_merge2 _ _ _ _ _ _) | (with_reducible exact grown_merge3 _ _ _ _ _ _ _) | (with_reducible refine Below.allocS ?_ _) | (with_reducible refine Below.moreS ?_ _) | (with_reducible refine Below.drew ?_))); done) | (refine gb_undrew (Below.mono (B := wr.heap.size) ?_ (by exact hbw)); (repeat (first | (with_reducible exact Below.refl _ _) | (with_reducible exact grown_merge _ _ _ _) | (with_reducible exact grown_merge2 _ _ _ _ _ _) | (with_reducible exact grown_merge3 _ _ _ _ _ _ _) | (with_reducible refine Below.allocS ?_ _) | (with_reducible refine Below.moreS ?_ _) | (with_reducible refine Below.drew ?_))); done))) ?_
          clear hK K
          try simp only [Act.put, List.getElem_toArray, List.getElem_cons_succ, List.getElem_cons_zero, List.setIfInBounds_toArray, List.set_cons_zero, List.set_cons_succ]
          refine gb_step 7 (by kernel_rfl) rfl (fun K hK => ?_)
          go_simp
          go_wp2_with fail
          refine (HLV.out _ (HT.out.grown (by repeat (first | (with_reducible exact Below.refl _ _) | (with_reducible refine Below.allocS ?_ _) | (with_reducible refine Below.moreS ?_ _) | (with_reducible refine Below.drew ?_) | (with_reducible refine below_drewN ?_ _)))) (row_one (by repeat (first | ((with_reducible apply Blk.at_); (simp; done)) | (with_reducible apply Blk.alloc) | (with_reducible apply Blk.more) | (with_reducible apply Blk.drew))))).mono ?_
          rintro e w4 ⟨rfl, hT4, hb4⟩
          have HT4 := Lib.hid hT4
          go_wp2_with fail
          refine hK.out _ _ (show Below _ _ _ from (hb4)) ?_
          clear hK K
          try simp only [Act.put, List.getElem_toArray, List.getElem_cons_succ, List.getElem_cons_zero, List.setIfInBounds_toArray, List.set_cons_zero, List.set_cons_succ]
          refine wpAnyH_done (by kernel_rfl) ?_ _
          exact key _ HT4.out
        · go_simp
          go_wp2_with fail
          refine hK.out _ _ (show Below _ _ _ from (by first | exact Below.refl _ _ | (refine Below.mono (B := wr.heap.size) ?_ (by exact hbw); (repeat (first | (with_reducible exact Below.refl _ _) | (with_reducible exact grown_merge _ _ _ _) | (with_reducible exact grown_merge2 _ _ _ _ _ _) | (with_reducible exact grown_merge3 _ _ _ _ _ _ _) | (with_reducible refine Below.allocS ?_ _) | (with_reducible refine Below.moreS ?_ _) | (with_reducible refine Below.drew ?_))); done) | (refine gb_undrew (Below.mono (B := wr.heap.size) ?_ (by exact hbw)); (repeat (first | (with_reducible exact Below.refl _ _) | (with_reducible exact grown_merge _ _ _ _) | (with_reducible exact grown_merge2 _ _ _ _ _ _) | (with_reducible exact grown_merge3 _ _ _ _ _ _ _) | (with_reducible refine Below.allocS ?_ _) | (with_reducible refine Below.moreS ?_ _) | (with_reducible refine Below.drew ?_))); done))) ?_
          clear hK K'
          try simp only [Act.put, List.getElem_toArray, List.getElem_cons_succ, List.getElem_cons_zero, List.setIfInBounds_toArray, List.set_cons_zero, List.set_cons_succ]
          refine gb_step 2 (by kernel_rfl) rfl (fun K hK => ?_)
          go_simp
          go_wp2_with ((go_at_call 22; (with_reducible refine (HKD.out _).mono ?_); rintro e w' ⟨rfl, rfl⟩))
          refine hK.out _ _ (show Below _ _ _ from (by first | exact Below.refl _ _ | (refine Below.mono (B := wr.heap.size) ?_ (by exact hbw); (repeat (first | (with_reducible exact Below.refl _ _) | (with_reducible exact grown_merge _ _ _ _) | (with_reducible exact grown_merge2 _ _ _ _ _ _) | (with_reducible exact grown_merge3 _ _ _ _ _ _ _) | (with_reducible refine Below.allocS ?_ _) | (with_reducible refine Below.moreS ?_ _) | (with_reducible refine Below.drew ?_))); done) | (refine gb_undrew (Below.mono (B := wr.heap.size) ?_ (by exact hbw)); (repeat (first | (with_reducible exact Below.refl _ _) | (with_reducible exact grown_merge _ _ _ _) | (with_reducible exact grown_merge2 _ _ _ _ _ _) | (with_reducible exact grown_merge3 _ _ _ _ _ _ _) | (with_reducible refine Below.allocS ?_ _) | (with_reducible refine Below.moreS ?_ _) | (with_reducible refine Below.drew ?_))); done))) ?_
          clear hK K
          try simp only [Act.put, List.getElem_toArray, List.getElem_cons_succ, List.getElem_cons_zero, List.setIfInBounds_toArray, List.set_cons_zero, List.set_cons_succ]
          refine gb_take 3 (v := ?_) rfl (by kernel_rfl) (by kernel_rfl) (by kernel_rfl) (fun _ _ _ h => h) (Or.inl ⟨by first | kernel_rfl | rfl, ?_⟩) ?_
          rotate_left
          · intro wS hSw; have hSc := hSw.cell; clear hSw; go_simp; first | (with_reducible rfl) | (rw [if_neg (by first | omega | (simp only [List.length_append, List.length_cons, List.length_nil]; omega))])
          try simp only [Act.put, List.getElem_toArray, List.getElem_cons_succ, List.getElem_cons_zero, List.setIfInBounds_toArray, List.set_cons_zero, List.set_cons_succ]
          refine gb_step 7 (by kernel_rfl) rfl (fun K hK => ?_)
          go_simp
          go_wp2_with fail
          refine (HLV.out _ (HT.out.grown (by repeat (first | (with_reducible exact Below.refl _ _) | (with_reducible refine Below.allocS ?_ _) | (with_reducible refine Below.moreS ?_ _) | (with_reducible refine Below.drew ?_) | (with_reducible refine below_drewN ?_ _)))) (row_one (by repeat (first | ((with_reducible apply Blk.at_); (simp; done)) | (with_reducible apply Blk.alloc) | (with_reducible apply Blk.more) | (with_reducible apply Blk.drew))))).mono ?_
          rintro e w4 ⟨rfl, hT4, hb4⟩
          have HT4 := Lib.hid hT4
          go_wp2_with fail
          refine hK.out _ _ (show Below _ _ _ from (hb4)) ?_
          clear hK K
          try simp only [Act.put, List.getElem_toArray, List.getElem_cons_succ, List.getElem_cons_zero, List.setIfInBounds_toArray, List.set_cons_zero, List.set_cons_succ]
          refine wpAnyH_done (by kernel_rfl) ?_ _
          exact key _ HT4.out
      intro w4 hT4
      have HT4 := Lib.hid hT4
      have a9 : w4.cell? ⟨w.heap.size, 9, none⟩ = some (.slice fa nf fc) := (HT4.out.bx.cell 9).trans X9.out
      have hbx4 := HT4.out.bx.lt
      clear hT4 a7 a8 HT HLV
      have HLF : Hid (∀ W, TxS w bb BX CF ac4 W → Calls Tryz.prog 20 #[.pointer (some ⟨bb, 0, none⟩), bstr (102 :: 97 :: 117 :: 108 :: 116 :: 115 :: 32 :: F), .slice none 0 0] W fun e W' => e = .returned (.tuple #[]) ∧ TxS w bb BX CF (ac4 ++ lnW ([102, 97, 117, 108, 116, 115] ++ (32 :: F)) []) W' ∧ Below bb W W') := fun W hT =>
        line_call HE.out ([102, 97, 117, 108, 116, 115] ++ (32 :: F)) none 0 [] (by simp) (by simp) (by omega) (by simp; omega) W hT (.inl rfl)
      have hac6 : (ac4 ++ lnW ([102, 97, 117, 108, 116, 115] ++ (32 :: F)) []).length ≤ 410001000 := by
        have hac4 := lnW_len (head := [102, 97, 117, 108, 116, 115] ++ (32 :: F)) (ns := []) (by simp)
        simp only [List.length_append, List.length_cons, List.length_nil] at hac4 ⊢
        omega
      generalize ac4 ++ lnW ([102, 97, 117, 108, 116, 115] ++ (32 :: F)) [] = ac5 at HLF HTX hac6
      go_wp2_with (go_at_call 23; (with_reducible refine (HFS.out _ HT4.out.blw).mono ?_); rintro e w' ⟨rfl, j, rfl⟩)
      refine (HLF.out _ (HT4.out.grown (by repeat (first | (with_reducible exact Below.refl _ _) | (with_reducible refine Below.allocS ?_ _) | (with_reducible refine Below.moreS ?_ _) | (with_reducible refine Below.drew ?_) | (with_reducible refine below_drewN ?_ _))))).mono ?_
      rintro e w5 ⟨rfl, hT5, -⟩
      have HT5 := Lib.hid hT5
      have a10 : w5.cell? ⟨w.heap.size, 10, none⟩ = some (.slice ua nu uc) := (hT5.bx.cell 10).trans X10.out
      have hbx5 := hT5.bx.lt
      have HLR : Hid (∀ W, TxS w bb BX CF ac5 W → Calls Tryz.prog 20 #[.pointer (some ⟨bb, 0, none⟩), bstr (114 :: 117 :: 108 :: 101 :: 115 :: 32 :: R), .slice none 0 0] W fun e W' => e = .returned (.tuple #[]) ∧ TxS w bb BX CF (ac5 ++ lnW ([114, 117, 108, 101, 115] ++ (32 :: R)) []) W' ∧ Below bb W W') := fun W hT =>
        line_call HE.out ([114, 117, 108, 101, 115] ++ (32 :: R)) none 0 [] (by simp) (by simp) (by omega) (by simp; omega) W hT (.inl rfl)
      have hac7 : (ac5 ++ lnW ([114, 117, 108, 101, 115] ++ (32 :: R)) []).length ≤ 420001000 := by
        have hac4 := lnW_len (head := [114, 117, 108, 101, 115] ++ (32 :: R)) (ns := []) (by simp)
        simp only [List.length_append, List.length_cons, List.length_nil] at hac4 ⊢
        omega
      generalize ac5 ++ lnW ([114, 117, 108, 101, 115] ++ (32 :: R)) [] = ac6 at HLR HTX hac7
      clear hT5 HT4 HLF a9 hbx4 HFS
      go_wp2_with (go_at_call 24; (with_reducible refine (HRS.out _ HT5.out.blw).mono ?_); rintro e w' ⟨rfl, j, rfl⟩)
      refine (HLR.out _ (HT5.out.grown (by repeat (first | (with_reducible exact Below.refl _ _) | (with_reducible refine Below.allocS ?_ _) | (with_reducible refine Below.moreS ?_ _) | (with_reducible refine Below.drew ?_) | (with_reducible refine below_drewN ?_ _))))).mono ?_
      rintro e w6 ⟨rfl, hT6, -⟩
      have HT6 := Lib.hid hT6
      have a11 : w6.cell? ⟨w.heap.size, 11, none⟩ = some (.int .i64 f0) := (hT6.bx.cell 11).trans X11.out
      have a12 : w6.cell? ⟨w.heap.size, 12, none⟩ = some (.int .i64 f1) := (hT6.bx.cell 12).trans X12.out
      have hbx6 := hT6.bx.lt
      clear hT6 HT5 HLR a10 hbx5 HRS
      go_wp2_with fail
      refine (line_call HE.out [108, 101, 102, 116] (some ⟨w6.heap.size, 0, none⟩) 2 [f0, f1] (by intro n hn; simp only [List.mem_cons, List.not_mem_nil, or_false] at hn; rcases hn with rfl | rfl; exact HGF.out; exact HGG.out) (by simp) (by omega) (by simp) _ (HT6.out.grown (by repeat (first | (with_reducible exact Below.refl _ _) | (with_reducible refine Below.allocS ?_ _) | (with_reducible refine Below.moreS ?_ _) | (with_reducible refine Below.drew ?_) | (with_reducible refine below_drewN ?_ _)))) (row_two (Blk.new _ _ _))).mono ?_
      rintro e w7 ⟨rfl, hT7, -⟩
      rw [← HTX.out] at hT7
      have HT7 := Lib.hid hT7
      have hs7 := hT7.size
      clear hT7 HT6 a11 a12
      go_wp2_with fail
      refine (Tryz.Builder_String_any bb bb T w7 HT7.out.bld hs7).mono ?_
      rintro e w8 ⟨rfl, hb8⟩
      have HB8 := Lib.hid hb8
      clear hb8
      go_wp2_with fail
      go_ret2
      exact ⟨rfl, (HT7.out.blw.trans (HB8.out.mono (Nat.le_of_lt HT7.out.lt))).junk⟩
end Go.Proofs.YtbdmepidabnfkaaGreatDoor
