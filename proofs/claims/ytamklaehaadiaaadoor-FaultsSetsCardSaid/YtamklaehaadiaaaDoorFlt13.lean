/-
  Faults: two rows one behind the other, and the set of both.
-/
import Derived.Test.YtamklaehaadiaaaDoorFlt9
namespace Go.Proofs.YtamklaehaadiaaaDoor
set_option linter.unusedSimpArgs false
set_option linter.unusedVariables false
set_option linter.unusedSectionVars false
open Go.ChangeShapes Go.WideShapes Go.ChangeAt Go.RowKit Go.Deep Go.Shelf

theorem SlFl.keep {w w' : World} {a : Option Addr} {l : List Fl} (h : SlFl w w.heap.size a l) (hb : Below w.heap.size w w') : SlFl w' w'.heap.size a l :=
  (h.below hb (Nat.le_refl _)).mono hb.size (fun _ _ _ h => h)
def catN (l m : List Fl) (k : Nat) : Int := if k = 0 then 0 else if k = 1 then (l.length : Int) else (l.length : Int) + m.length
def catF (l m : List Fl) (k : Nat) : List Fl := if k = 0 then [] else if k = 1 then l else l ++ m
set_option maxHeartbeats 8000000 in
set_option maxRecDepth 100000 in
theorem concat_fl (a b : Option Addr) (l m : List Fl) (ca cb : Nat) (hl : l.length ≤ 100000) (hm : m.length ≤ 100000) (g : Nat) (w : World) (hS : SlFl w w.heap.size a l) (hT : SlFl w w.heap.size b m)
    (hg : g < w.heap.size) (d0 : w.cell? ⟨g, 0, none⟩ = some (.slice a l.length ca)) (d1 : w.cell? ⟨g, 1, none⟩ = some (.slice b m.length cb)) :
    Calls Tryd.prog 23 #[.slice (some ⟨g, 0, none⟩) 2 2] w fun e w' => ∃ v, e = .returned v ∧ OwnFl w.heap.size w' v (l ++ m) ∧ Below w.heap.size w w' := by
  have HS := Lib.hid hS
  have HT := Lib.hid hT
  have HD0 := Lib.hid d0
  have HD1 := Lib.hid d1
  have HG := Lib.hid (grow_fl (l.length + m.length) (by omega) w)
  clear hS hT
  go_enter Tryd.func23, Tryd.ntmps23
  go_wp2_with fail
  go_loopg [3, 11] 2 (fun q s i wr => ∃ k : Nat, k + q = 2 ∧ i = .int .i64 k ∧ s = .int .i64 (catN l m k) ∧ w = wr)
  case atStart => exact ⟨0, by omega, rfl, rfl, rfl⟩
  case round =>
    obtain ⟨k, hkq, rfl, rfl, rfl⟩ := hrel
    rcases (by omega : k = 0 ∨ k = 1 ∨ k = 2) with rfl | rfl | rfl
    · have h0 : catN l m 0 = 0 := rfl
      rw [h0]
      go_wp2_with fail
      go_roundg 1
      case measure => omega
      case rel => exact ⟨1, by omega, by go_num, by show _ = Value.int .i64 (l.length : Int); go_num, rfl⟩
    · have h0 : catN l m 1 = (l.length : Int) := rfl
      rw [h0]
      go_wp2_with fail
      go_roundg 0
      case measure => omega
      case rel => exact ⟨2, by omega, by go_num, by show _ = Value.int .i64 ((l.length : Int) + m.length); go_num, rfl⟩
    · have h0 : catN l m 2 = ((l.length + m.length : Nat) : Int) := by show (l.length : Int) + m.length = _; omega
      rw [h0]
      clear d0 d1
      go_wp2_with fail
      refine HG.out.mono ?_
      rintro e w1 ⟨v, rfl, hO, hb1⟩
      have HO := Lib.hid hO
      have HB1 := Lib.hid hb1
      clear hO hb1
      go_wp2_with fail
      go_loopg [6, 27] 2 (fun q v i wr => ∃ k : Nat, k + q = 2 ∧ i = .int .i64 k ∧ OwnFl w.heap.size wr v (catF l m k) ∧ Below w.heap.size w wr)
      case atStart => exact ⟨0, by omega, rfl, HO.out, HB1.out⟩
      case round =>
        obtain ⟨k, hkq, rfl, hO, hb⟩ := hrel
        have HO2 := Lib.hid hO
        have HB2 := Lib.hid hb
        have hgw := Nat.lt_of_lt_of_le hg hb.size
        have d0 : _ = some (Value.slice a l.length ca) := (hb.cell (p := ⟨g, 0, none⟩) hg).trans HD0.out
        have d1 : _ = some (Value.slice b m.length cb) := (hb.cell (p := ⟨g, 1, none⟩) hg).trans HD1.out
        clear hO hb
        rcases (by omega : k = 0 ∨ k = 1 ∨ k = 2) with rfl | rfl | rfl
        · go_wp2_with (at_builtin; refine app_fls (.tmp 31) (.tmp 32) rfl rfl rfl (show OwnFl _ _ _ [] from HO2.out) rfl (SlFl.keep HS.out HB2.out) (by simp; omega) HB2.out.size ?_; intro v' w2 hown hbw)
          have HO3 := Lib.hid hown
          have HB3 := Lib.hid (HB2.out.trans hbw)
          clear hown hbw d0 d1
          go_wp2_with fail
          go_roundg 1
          case measure => omega
          case rel => exact ⟨1, by omega, by go_num, HO3.out, HB3.out⟩
        · go_wp2_with (at_builtin; refine app_fls (.tmp 31) (.tmp 32) rfl rfl rfl (show OwnFl _ _ _ l from HO2.out) rfl (SlFl.keep HT.out HB2.out) (by omega) HB2.out.size ?_; intro v' w2 hown hbw)
          have HO3 := Lib.hid hown
          have HB3 := Lib.hid (HB2.out.trans hbw)
          clear hown hbw d0 d1
          go_wp2_with fail
          go_roundg 0
          case measure => omega
          case rel => exact ⟨2, by omega, by go_num, HO3.out, HB3.out⟩
        · clear d0 d1
          go_wp2_with fail
          go_ret
          exact ⟨_, rfl, HO2.out, HB2.out⟩

set_option maxHeartbeats 4000000 in
set_option maxRecDepth 100000 in
theorem faults_Union (a b : Option Addr) (l m : List Fl) (ca cb : Nat) (hl : l.length ≤ 40000) (hm : m.length ≤ 40000) (w : World) (hS : SlFl w w.heap.size a l) (hT : SlFl w w.heap.size b m) :
    Calls Tryd.prog 7 #[.slice a l.length ca, .slice b m.length cb] w fun e w' => ∃ a' cap', e = .returned (.slice a' (ofF (l ++ m)).length cap') ∧ (ofF (l ++ m)).length ≤ cap' ∧ SlFl w' w'.heap.size a' (ofF (l ++ m)) ∧ Below w.heap.size w w' := by
  obtain ⟨w0, hw0⟩ : ∃ w0, w0 = w.alloc (.cells #[.slice a l.length ca, .slice b m.length cb] 22) := ⟨_, rfl⟩
  have hb0 : Below w.heap.size w w0 := by rw [hw0]; exact (by repeat (first | (with_reducible exact Below.refl _ _) | (with_reducible refine Below.allocS ?_ _) | (with_reducible refine Below.moreS ?_ _) | (with_reducible refine Below.drew ?_) | (with_reducible refine below_drewN ?_ _)))
  have d0 : w0.cell? ⟨w.heap.size, 0, none⟩ = some (.slice a l.length ca) := by rw [hw0]; go_simp
  have d1 : w0.cell? ⟨w.heap.size, 1, none⟩ = some (.slice b m.length cb) := by rw [hw0]; go_simp
  have hg : w.heap.size < w0.heap.size := by rw [hw0]; simp
  have HC := Lib.hid (concat_fl a b l m ca cb (by omega) (by omega) w.heap.size w0 (SlFl.keep hS hb0) (SlFl.keep hT hb0) hg d0 d1)
  have HW0 := Lib.hid hw0
  have HB0 := Lib.hid hb0
  have HL : Hid ((l ++ m).length ≤ 100000) := by show _ ≤ _; rw [List.length_append]; omega
  clear hS hT d0 d1 hg hb0
  generalize l ++ m = L at HC HL ⊢
  go_enter Tryd.func7, Tryd.ntmps7
  go_wp2_with fail
  rw [← hw0]
  refine HC.out.mono ?_
  rintro e w1 ⟨v, rfl, hO, hb1⟩
  obtain ⟨a1, c1, rfl, hs1⟩ := hO.read flC_len
  have HO := Lib.hid (faults_Of a1 L c1 HL.out w1 hs1)
  have HB1 := Lib.hid (HB0.out.trans (hb1.mono HB0.out.size))
  clear hO hs1 hb1 hw0
  go_wp2_with fail
  refine HO.out.mono ?_
  rintro e w2 ⟨a2, c2, rfl, h1, h2, h3⟩
  have HB2 := Lib.hid (HB1.out.trans (h3.mono HB1.out.size))
  have H1 := Lib.hid h1
  have H2 := Lib.hid h2
  clear h1 h2 h3
  go_wp2_with fail
  go_ret
  exact ⟨_, _, rfl, H1.out, H2.out, HB2.out⟩

/-! Sets taken together: plain laws. -/
theorem un_comm (l m : List Fl) : ofF (l ++ m) = ofF (m ++ l) := ofF_congr fun x _ => by simp [or_comm]
theorem un_twice (l m : List Fl) : ofF (ofF (l ++ m) ++ m) = ofF (l ++ m) := ofF_congr fun x hx => by
  simp only [List.mem_append, mem_ofF, hx, and_true]
  exact ⟨fun h => h.elim id .inr, .inl⟩
theorem un_assoc (l m n : List Fl) : ofF (ofF (l ++ m) ++ n) = ofF (l ++ ofF (m ++ n)) := ofF_congr fun x hx => by
  simp only [List.mem_append, mem_ofF, hx, and_true]
  exact or_assoc
end Go.Proofs.YtamklaehaadiaaaDoor
