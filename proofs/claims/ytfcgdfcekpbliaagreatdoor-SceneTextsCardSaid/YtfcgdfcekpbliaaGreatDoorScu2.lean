/-
  Scenarios: the program's words of a step.
-/
import Derived.Test.YtfcgdfcekpbliaaGreatDoorScu1
import Derived.Test.YtfcgdfcekpbliaaGreatDoorMk
import Derived.Test.YtfcgdfcekpbliaaGreatDoorMd
namespace Go.Proofs.YtfcgdfcekpbliaaGreatDoor
set_option linter.unusedSimpArgs false
set_option linter.unusedVariables false
set_option linter.unusedSectionVars false
open Go.ChangeShapes Go.WideShapes Go.ChangeAt Go.RowKit Go.Deep Go.Shelf

abbrev PsT : TypeId := 50
def WdsP (l : List (List UInt8)) (w : World) (e : Ending) (w' : World) : Prop := ∃ v, e = .returned v ∧ OwnX w.heap.size w' v l ∧ Below w.heap.size w w'
theorem OwnX.lower {B C : Nat} {w : World} {v : Value} {l : List (List UInt8)} (h : OwnX B w v l) (hC : C ≤ B) : OwnX C w v l := by
  have h0 : w.ownsRow B 9 1 v l.length (l.map bstr) := h
  refine ⟨h0.1, ?_⟩
  rcases h0.2 with ⟨h1, h2⟩ | ⟨g, cap, cur, h1, hg, h3⟩
  · exact .inl ⟨h1, h2⟩
  · exact .inr ⟨g, cap, cur, h1, Nat.le_trans hC hg, h3⟩
theorem cutV {S P : World → Value → Prop} {A : Prop} (h1 : (∀ w v, S w v → P w v) → A) (h2 : ∀ w v, S w v → P w v) : A := h1 h2
set_option maxHeartbeats 16000000 in
set_option maxRecDepth 100000 in
theorem scene_step_one (k : Int) (n : Int) (hk : k = 6 ∨ k = 7 ∨ k = 8) (h2 : goodI n) (fa sa : Option Addr) (fc sc : Nat) (w : World) (hd : Hd w) (hE : EnvP w) :
    Calls Tryz.prog 18 #[.agg #[.int .i64 k, .int .i64 0, .int .i64 n, .bool false, .slice fa 0 fc, .slice sa 0 sc]] w (WdsP [headW k, Lib.itoa n] w) := by
  rcases hk with rfl | rfl | rfl
  · have hhl := hd.lt
    have HE : Hid (∀ W, Below w.heap.size w W → EnvP W) := fun W hW => hE.below hW
    have q0 : w.cell? ⟨0, 6, none⟩ = some (bstr (headW 6)) := hd.c 6 (by omega)
    generalize headW 6 = T at q0 ⊢
    clear hd hE
    go_enter Tryz.func18, Tryz.ntmps18
    go_wp2_with fail
    refine (scene_number n h2 (w.heap.size + 1) (w.heap.size + 1 + 1) [T] (by simp) _ (by omega) (by simp only [World.size_alloc]; omega) ⟨_, OwnX.of_new blk (Nat.le_refl _), blk⟩ (HE.out _ bel)).mono ?_
    rintro e w2 ⟨rfl, hO2, hb2, _⟩
    have hbx2 : Blk w2 w.heap.size PsT #[.int .i64 6, .int .i64 0, .int .i64 n, .bool false, .slice fa 0 fc, .slice sa 0 sc] := Blk.below blk hb2 (by omega)
    have HB2 : Hid (Below w.heap.size w w2) := Below.trans bel (hb2.mono (by omega))
    have HOUT2 := Lib.hid hO2
    obtain ⟨v2, ho2, hg2⟩ := hO2.st
    have g2 : w2.cell? ⟨w.heap.size + 1 + 1, 0, none⟩ = some v2 := hg2.cell 0
    have gl2 : w.heap.size + 1 + 1 < w2.heap.size := hg2.lt
    have gm2 : w.heap.size + 1 < w2.heap.size := by omega
    have bl2 : w.heap.size < w2.heap.size := by omega
    have HBX2 := Lib.hid hbx2
    have b2_0 : w2.cell? ⟨w.heap.size, 0, none⟩ = some (.int .i64 6) := hbx2.cell 0
    have b2_1 : w2.cell? ⟨w.heap.size, 1, none⟩ = some (.int .i64 0) := hbx2.cell 1
    have b2_2 : w2.cell? ⟨w.heap.size, 2, none⟩ = some (.int .i64 n) := hbx2.cell 2
    have b2_3 : w2.cell? ⟨w.heap.size, 3, none⟩ = some (.bool false) := hbx2.cell 3
    have b2_4 : w2.cell? ⟨w.heap.size, 4, none⟩ = some (.slice fa 0 fc) := hbx2.cell 4
    have b2_5 : w2.cell? ⟨w.heap.size, 5, none⟩ = some (.slice sa 0 sc) := hbx2.cell 5
    clear hO2 ho2 hg2 hbx2
    clear hb2
    go_wp2_with fail
    have HOW : Hid (OwnX w.heap.size w2 v2 [T, Lib.itoa n]) := by
      obtain ⟨x, hx1, hx2⟩ := HOUT2.out.st
      have e := hx2.cell 0
      rw [g2] at e
      injection e with e
      rw [e]
      exact OwnX.lower (B := w.heap.size + 1) hx1 (by omega)
    go_loopw [66] (fun i wx => i = .int .i64 0 ∧ w2 = wx) (fun _ _ => 0)
    case atStart => exact ⟨rfl, rfl⟩
    case round =>
      obtain ⟨rfl, rfl⟩ := hrel
      go_wp2_with fail
      go_loopw [86] (fun i wx => i = .int .i64 0 ∧ w2 = wx) (fun _ _ => 0)
      case atStart => exact ⟨rfl, rfl⟩
      case round =>
        obtain ⟨rfl, rfl⟩ := hrel
        go_wp2_with fail
        go_ret
        exact ⟨_, rfl, HOW.out, HB2.out⟩
  · have hhl := hd.lt
    have HE : Hid (∀ W, Below w.heap.size w W → EnvP W) := fun W hW => hE.below hW
    have q0 : w.cell? ⟨0, 7, none⟩ = some (bstr (headW 7)) := hd.c 7 (by omega)
    generalize headW 7 = T at q0 ⊢
    clear hd hE
    go_enter Tryz.func18, Tryz.ntmps18
    go_wp2_with fail
    refine (scene_number n h2 (w.heap.size + 1) (w.heap.size + 1 + 1) [T] (by simp) _ (by omega) (by simp only [World.size_alloc]; omega) ⟨_, OwnX.of_new blk (Nat.le_refl _), blk⟩ (HE.out _ bel)).mono ?_
    rintro e w2 ⟨rfl, hO2, hb2, _⟩
    have hbx2 : Blk w2 w.heap.size PsT #[.int .i64 7, .int .i64 0, .int .i64 n, .bool false, .slice fa 0 fc, .slice sa 0 sc] := Blk.below blk hb2 (by omega)
    have HB2 : Hid (Below w.heap.size w w2) := Below.trans bel (hb2.mono (by omega))
    have HOUT2 := Lib.hid hO2
    obtain ⟨v2, ho2, hg2⟩ := hO2.st
    have g2 : w2.cell? ⟨w.heap.size + 1 + 1, 0, none⟩ = some v2 := hg2.cell 0
    have gl2 : w.heap.size + 1 + 1 < w2.heap.size := hg2.lt
    have gm2 : w.heap.size + 1 < w2.heap.size := by omega
    have bl2 : w.heap.size < w2.heap.size := by omega
    have HBX2 := Lib.hid hbx2
    have b2_0 : w2.cell? ⟨w.heap.size, 0, none⟩ = some (.int .i64 7) := hbx2.cell 0
    have b2_1 : w2.cell? ⟨w.heap.size, 1, none⟩ = some (.int .i64 0) := hbx2.cell 1
    have b2_2 : w2.cell? ⟨w.heap.size, 2, none⟩ = some (.int .i64 n) := hbx2.cell 2
    have b2_3 : w2.cell? ⟨w.heap.size, 3, none⟩ = some (.bool false) := hbx2.cell 3
    have b2_4 : w2.cell? ⟨w.heap.size, 4, none⟩ = some (.slice fa 0 fc) := hbx2.cell 4
    have b2_5 : w2.cell? ⟨w.heap.size, 5, none⟩ = some (.slice sa 0 sc) := hbx2.cell 5
    clear hO2 ho2 hg2 hbx2
    clear hb2
    go_wp2_with fail
    have HOW : Hid (OwnX w.heap.size w2 v2 [T, Lib.itoa n]) := by
      obtain ⟨x, hx1, hx2⟩ := HOUT2.out.st
      have e := hx2.cell 0
      rw [g2] at e
      injection e with e
      rw [e]
      exact OwnX.lower (B := w.heap.size + 1) hx1 (by omega)
    go_loopw [66] (fun i wx => i = .int .i64 0 ∧ w2 = wx) (fun _ _ => 0)
    case atStart => exact ⟨rfl, rfl⟩
    case round =>
      obtain ⟨rfl, rfl⟩ := hrel
      go_wp2_with fail
      go_loopw [86] (fun i wx => i = .int .i64 0 ∧ w2 = wx) (fun _ _ => 0)
      case atStart => exact ⟨rfl, rfl⟩
      case round =>
        obtain ⟨rfl, rfl⟩ := hrel
        go_wp2_with fail
        go_ret
        exact ⟨_, rfl, HOW.out, HB2.out⟩
  · have hhl := hd.lt
    have HE : Hid (∀ W, Below w.heap.size w W → EnvP W) := fun W hW => hE.below hW
    have q0 : w.cell? ⟨0, 8, none⟩ = some (bstr (headW 8)) := hd.c 8 (by omega)
    generalize headW 8 = T at q0 ⊢
    clear hd hE
    go_enter Tryz.func18, Tryz.ntmps18
    go_wp2_with fail
    refine (scene_number n h2 (w.heap.size + 1) (w.heap.size + 1 + 1) [T] (by simp) _ (by omega) (by simp only [World.size_alloc]; omega) ⟨_, OwnX.of_new blk (Nat.le_refl _), blk⟩ (HE.out _ bel)).mono ?_
    rintro e w2 ⟨rfl, hO2, hb2, _⟩
    have hbx2 : Blk w2 w.heap.size PsT #[.int .i64 8, .int .i64 0, .int .i64 n, .bool false, .slice fa 0 fc, .slice sa 0 sc] := Blk.below blk hb2 (by omega)
    have HB2 : Hid (Below w.heap.size w w2) := Below.trans bel (hb2.mono (by omega))
    have HOUT2 := Lib.hid hO2
    obtain ⟨v2, ho2, hg2⟩ := hO2.st
    have g2 : w2.cell? ⟨w.heap.size + 1 + 1, 0, none⟩ = some v2 := hg2.cell 0
    have gl2 : w.heap.size + 1 + 1 < w2.heap.size := hg2.lt
    have gm2 : w.heap.size + 1 < w2.heap.size := by omega
    have bl2 : w.heap.size < w2.heap.size := by omega
    have HBX2 := Lib.hid hbx2
    have b2_0 : w2.cell? ⟨w.heap.size, 0, none⟩ = some (.int .i64 8) := hbx2.cell 0
    have b2_1 : w2.cell? ⟨w.heap.size, 1, none⟩ = some (.int .i64 0) := hbx2.cell 1
    have b2_2 : w2.cell? ⟨w.heap.size, 2, none⟩ = some (.int .i64 n) := hbx2.cell 2
    have b2_3 : w2.cell? ⟨w.heap.size, 3, none⟩ = some (.bool false) := hbx2.cell 3
    have b2_4 : w2.cell? ⟨w.heap.size, 4, none⟩ = some (.slice fa 0 fc) := hbx2.cell 4
    have b2_5 : w2.cell? ⟨w.heap.size, 5, none⟩ = some (.slice sa 0 sc) := hbx2.cell 5
    clear hO2 ho2 hg2 hbx2
    clear hb2
    go_wp2_with fail
    have HOW : Hid (OwnX w.heap.size w2 v2 [T, Lib.itoa n]) := by
      obtain ⟨x, hx1, hx2⟩ := HOUT2.out.st
      have e := hx2.cell 0
      rw [g2] at e
      injection e with e
      rw [e]
      exact OwnX.lower (B := w.heap.size + 1) hx1 (by omega)
    go_loopw [66] (fun i wx => i = .int .i64 0 ∧ w2 = wx) (fun _ _ => 0)
    case atStart => exact ⟨rfl, rfl⟩
    case round =>
      obtain ⟨rfl, rfl⟩ := hrel
      go_wp2_with fail
      go_loopw [86] (fun i wx => i = .int .i64 0 ∧ w2 = wx) (fun _ _ => 0)
      case atStart => exact ⟨rfl, rfl⟩
      case round =>
        obtain ⟨rfl, rfl⟩ := hrel
        go_wp2_with fail
        go_ret
        exact ⟨_, rfl, HOW.out, HB2.out⟩
set_option maxHeartbeats 16000000 in
set_option maxRecDepth 100000 in
theorem scene_step_two (k : Int) (s n : Int) (hk : k = 4 ∨ k = 5) (h1 : goodI s) (h2 : goodI n) (fa sa : Option Addr) (fc sc : Nat) (w : World) (hd : Hd w) (hE : EnvP w) :
    Calls Tryz.prog 18 #[.agg #[.int .i64 k, .int .i64 s, .int .i64 n, .bool false, .slice fa 0 fc, .slice sa 0 sc]] w (WdsP [headW k, Lib.itoa s, Lib.itoa n] w) := by
  rcases hk with rfl | rfl
  · have hhl := hd.lt
    have HE : Hid (∀ W, Below w.heap.size w W → EnvP W) := fun W hW => hE.below hW
    have q0 : w.cell? ⟨0, 4, none⟩ = some (bstr (headW 4)) := hd.c 4 (by omega)
    generalize headW 4 = T at q0 ⊢
    clear hd hE
    go_enter Tryz.func18, Tryz.ntmps18
    go_wp2_with fail
    refine (scene_number s h1 (w.heap.size + 1) (w.heap.size + 1 + 1) [T] (by simp) _ (by omega) (by simp only [World.size_alloc]; omega) ⟨_, OwnX.of_new blk (Nat.le_refl _), blk⟩ (HE.out _ bel)).mono ?_
    rintro e w2 ⟨rfl, hO2, hb2, _⟩
    have hbx2 : Blk w2 w.heap.size PsT #[.int .i64 4, .int .i64 s, .int .i64 n, .bool false, .slice fa 0 fc, .slice sa 0 sc] := Blk.below blk hb2 (by omega)
    have HB2 : Hid (Below w.heap.size w w2) := Below.trans bel (hb2.mono (by omega))
    have HOUT2 := Lib.hid hO2
    obtain ⟨v2, ho2, hg2⟩ := hO2.st
    have g2 : w2.cell? ⟨w.heap.size + 1 + 1, 0, none⟩ = some v2 := hg2.cell 0
    have gl2 : w.heap.size + 1 + 1 < w2.heap.size := hg2.lt
    have gm2 : w.heap.size + 1 < w2.heap.size := by omega
    have bl2 : w.heap.size < w2.heap.size := by omega
    have HBX2 := Lib.hid hbx2
    have b2_0 : w2.cell? ⟨w.heap.size, 0, none⟩ = some (.int .i64 4) := hbx2.cell 0
    have b2_1 : w2.cell? ⟨w.heap.size, 1, none⟩ = some (.int .i64 s) := hbx2.cell 1
    have b2_2 : w2.cell? ⟨w.heap.size, 2, none⟩ = some (.int .i64 n) := hbx2.cell 2
    have b2_3 : w2.cell? ⟨w.heap.size, 3, none⟩ = some (.bool false) := hbx2.cell 3
    have b2_4 : w2.cell? ⟨w.heap.size, 4, none⟩ = some (.slice fa 0 fc) := hbx2.cell 4
    have b2_5 : w2.cell? ⟨w.heap.size, 5, none⟩ = some (.slice sa 0 sc) := hbx2.cell 5
    clear hO2 ho2 hg2 hbx2
    clear hb2
    go_wp2_with fail
    refine (scene_number n h2 (w.heap.size + 1) (w.heap.size + 1 + 1) [T, Lib.itoa s] (by simp) w2 (by omega) (by omega) HOUT2.out (HE.out _ HB2.out)).mono ?_
    rintro e w3 ⟨rfl, hO3, hb3, _⟩
    have hbx3 : Blk w3 w.heap.size PsT #[.int .i64 4, .int .i64 s, .int .i64 n, .bool false, .slice fa 0 fc, .slice sa 0 sc] := HBX2.out.below hb3 (by omega)
    have HB3 : Hid (Below w.heap.size w w3) := HB2.out.trans (hb3.mono (by omega))
    have HOUT3 := Lib.hid hO3
    obtain ⟨v3, ho3, hg3⟩ := hO3.st
    have g3 : w3.cell? ⟨w.heap.size + 1 + 1, 0, none⟩ = some v3 := hg3.cell 0
    have gl3 : w.heap.size + 1 + 1 < w3.heap.size := hg3.lt
    have gm3 : w.heap.size + 1 < w3.heap.size := by omega
    have bl3 : w.heap.size < w3.heap.size := by omega
    have HBX3 := Lib.hid hbx3
    have b3_0 : w3.cell? ⟨w.heap.size, 0, none⟩ = some (.int .i64 4) := hbx3.cell 0
    have b3_1 : w3.cell? ⟨w.heap.size, 1, none⟩ = some (.int .i64 s) := hbx3.cell 1
    have b3_2 : w3.cell? ⟨w.heap.size, 2, none⟩ = some (.int .i64 n) := hbx3.cell 2
    have b3_3 : w3.cell? ⟨w.heap.size, 3, none⟩ = some (.bool false) := hbx3.cell 3
    have b3_4 : w3.cell? ⟨w.heap.size, 4, none⟩ = some (.slice fa 0 fc) := hbx3.cell 4
    have b3_5 : w3.cell? ⟨w.heap.size, 5, none⟩ = some (.slice sa 0 sc) := hbx3.cell 5
    clear hO3 ho3 hg3 hbx3
    clear hb3
    clear g2 HOUT2 HBX2 b2_0 b2_1 b2_2 b2_3 b2_4 b2_5
    go_wp2_with fail
    have HOW : Hid (OwnX w.heap.size w3 v3 [T, Lib.itoa s, Lib.itoa n]) := by
      obtain ⟨x, hx1, hx2⟩ := HOUT3.out.st
      have e := hx2.cell 0
      rw [g3] at e
      injection e with e
      rw [e]
      exact OwnX.lower (B := w.heap.size + 1) hx1 (by omega)
    go_loopw [66] (fun i wx => i = .int .i64 0 ∧ w3 = wx) (fun _ _ => 0)
    case atStart => exact ⟨rfl, rfl⟩
    case round =>
      obtain ⟨rfl, rfl⟩ := hrel
      go_wp2_with fail
      go_loopw [86] (fun i wx => i = .int .i64 0 ∧ w3 = wx) (fun _ _ => 0)
      case atStart => exact ⟨rfl, rfl⟩
      case round =>
        obtain ⟨rfl, rfl⟩ := hrel
        go_wp2_with fail
        go_ret
        exact ⟨_, rfl, HOW.out, HB3.out⟩
  · have hhl := hd.lt
    have HE : Hid (∀ W, Below w.heap.size w W → EnvP W) := fun W hW => hE.below hW
    have q0 : w.cell? ⟨0, 5, none⟩ = some (bstr (headW 5)) := hd.c 5 (by omega)
    generalize headW 5 = T at q0 ⊢
    clear hd hE
    go_enter Tryz.func18, Tryz.ntmps18
    go_wp2_with fail
    refine (scene_number s h1 (w.heap.size + 1) (w.heap.size + 1 + 1) [T] (by simp) _ (by omega) (by simp only [World.size_alloc]; omega) ⟨_, OwnX.of_new blk (Nat.le_refl _), blk⟩ (HE.out _ bel)).mono ?_
    rintro e w2 ⟨rfl, hO2, hb2, _⟩
    have hbx2 : Blk w2 w.heap.size PsT #[.int .i64 5, .int .i64 s, .int .i64 n, .bool false, .slice fa 0 fc, .slice sa 0 sc] := Blk.below blk hb2 (by omega)
    have HB2 : Hid (Below w.heap.size w w2) := Below.trans bel (hb2.mono (by omega))
    have HOUT2 := Lib.hid hO2
    obtain ⟨v2, ho2, hg2⟩ := hO2.st
    have g2 : w2.cell? ⟨w.heap.size + 1 + 1, 0, none⟩ = some v2 := hg2.cell 0
    have gl2 : w.heap.size + 1 + 1 < w2.heap.size := hg2.lt
    have gm2 : w.heap.size + 1 < w2.heap.size := by omega
    have bl2 : w.heap.size < w2.heap.size := by omega
    have HBX2 := Lib.hid hbx2
    have b2_0 : w2.cell? ⟨w.heap.size, 0, none⟩ = some (.int .i64 5) := hbx2.cell 0
    have b2_1 : w2.cell? ⟨w.heap.size, 1, none⟩ = some (.int .i64 s) := hbx2.cell 1
    have b2_2 : w2.cell? ⟨w.heap.size, 2, none⟩ = some (.int .i64 n) := hbx2.cell 2
    have b2_3 : w2.cell? ⟨w.heap.size, 3, none⟩ = some (.bool false) := hbx2.cell 3
    have b2_4 : w2.cell? ⟨w.heap.size, 4, none⟩ = some (.slice fa 0 fc) := hbx2.cell 4
    have b2_5 : w2.cell? ⟨w.heap.size, 5, none⟩ = some (.slice sa 0 sc) := hbx2.cell 5
    clear hO2 ho2 hg2 hbx2
    clear hb2
    go_wp2_with fail
    refine (scene_number n h2 (w.heap.size + 1) (w.heap.size + 1 + 1) [T, Lib.itoa s] (by simp) w2 (by omega) (by omega) HOUT2.out (HE.out _ HB2.out)).mono ?_
    rintro e w3 ⟨rfl, hO3, hb3, _⟩
    have hbx3 : Blk w3 w.heap.size PsT #[.int .i64 5, .int .i64 s, .int .i64 n, .bool false, .slice fa 0 fc, .slice sa 0 sc] := HBX2.out.below hb3 (by omega)
    have HB3 : Hid (Below w.heap.size w w3) := HB2.out.trans (hb3.mono (by omega))
    have HOUT3 := Lib.hid hO3
    obtain ⟨v3, ho3, hg3⟩ := hO3.st
    have g3 : w3.cell? ⟨w.heap.size + 1 + 1, 0, none⟩ = some v3 := hg3.cell 0
    have gl3 : w.heap.size + 1 + 1 < w3.heap.size := hg3.lt
    have gm3 : w.heap.size + 1 < w3.heap.size := by omega
    have bl3 : w.heap.size < w3.heap.size := by omega
    have HBX3 := Lib.hid hbx3
    have b3_0 : w3.cell? ⟨w.heap.size, 0, none⟩ = some (.int .i64 5) := hbx3.cell 0
    have b3_1 : w3.cell? ⟨w.heap.size, 1, none⟩ = some (.int .i64 s) := hbx3.cell 1
    have b3_2 : w3.cell? ⟨w.heap.size, 2, none⟩ = some (.int .i64 n) := hbx3.cell 2
    have b3_3 : w3.cell? ⟨w.heap.size, 3, none⟩ = some (.bool false) := hbx3.cell 3
    have b3_4 : w3.cell? ⟨w.heap.size, 4, none⟩ = some (.slice fa 0 fc) := hbx3.cell 4
    have b3_5 : w3.cell? ⟨w.heap.size, 5, none⟩ = some (.slice sa 0 sc) := hbx3.cell 5
    clear hO3 ho3 hg3 hbx3
    clear hb3
    clear g2 HOUT2 HBX2 b2_0 b2_1 b2_2 b2_3 b2_4 b2_5
    go_wp2_with fail
    have HOW : Hid (OwnX w.heap.size w3 v3 [T, Lib.itoa s, Lib.itoa n]) := by
      obtain ⟨x, hx1, hx2⟩ := HOUT3.out.st
      have e := hx2.cell 0
      rw [g3] at e
      injection e with e
      rw [e]
      exact OwnX.lower (B := w.heap.size + 1) hx1 (by omega)
    go_loopw [66] (fun i wx => i = .int .i64 0 ∧ w3 = wx) (fun _ _ => 0)
    case atStart => exact ⟨rfl, rfl⟩
    case round =>
      obtain ⟨rfl, rfl⟩ := hrel
      go_wp2_with fail
      go_loopw [86] (fun i wx => i = .int .i64 0 ∧ w3 = wx) (fun _ _ => 0)
      case atStart => exact ⟨rfl, rfl⟩
      case round =>
        obtain ⟨rfl, rfl⟩ := hrel
        go_wp2_with fail
        go_ret
        exact ⟨_, rfl, HOW.out, HB3.out⟩
set_option maxHeartbeats 16000000 in
set_option maxRecDepth 100000 in
theorem scene_step_data (s n : Int) (fin : Bool) (h1 : goodI s) (h2 : goodI n) (fa sa : Option Addr) (fc sc : Nat) (w : World) (hd : Hd w) (hE : EnvP w) :
    Calls Tryz.prog 18 #[.agg #[.int .i64 2, .int .i64 s, .int .i64 n, .bool fin, .slice fa 0 fc, .slice sa 0 sc]] w (WdsP [headW 2, Lib.itoa s, Lib.itoa n, endW fin] w) := by
  have HPK : Hid (∀ W, Calls Tryz.prog 45 #[.bool fin, bstr [101, 110, 100], bstr [111, 112, 101, 110]] W fun e w' => e = .returned (bstr (endW fin)) ∧ W = w') := fun W => scene_pick fin [101, 110, 100] [111, 112, 101, 110] W
  generalize endW fin = EW at HPK ⊢
  have hhl := hd.lt
  have HE : Hid (∀ W, Below w.heap.size w W → EnvP W) := fun W hW => hE.below hW
  have q0 : w.cell? ⟨0, 2, none⟩ = some (bstr (headW 2)) := hd.c 2 (by omega)
  generalize headW 2 = T at q0 ⊢
  clear hd hE
  go_enter Tryz.func18, Tryz.ntmps18
  go_wp2_with fail
  refine (scene_number s h1 (w.heap.size + 1) (w.heap.size + 1 + 1) [T] (by simp) _ (by omega) (by simp only [World.size_alloc]; omega) ⟨_, OwnX.of_new blk (Nat.le_refl _), blk⟩ (HE.out _ bel)).mono ?_
  rintro e w2 ⟨rfl, hO2, hb2, _⟩
  have hbx2 : Blk w2 w.heap.size PsT #[.int .i64 2, .int .i64 s, .int .i64 n, .bool fin, .slice fa 0 fc, .slice sa 0 sc] := Blk.below blk hb2 (by omega)
  have HB2 : Hid (Below w.heap.size w w2) := Below.trans bel (hb2.mono (by omega))
  have HOUT2 := Lib.hid hO2
  obtain ⟨v2, ho2, hg2⟩ := hO2.st
  have g2 : w2.cell? ⟨w.heap.size + 1 + 1, 0, none⟩ = some v2 := hg2.cell 0
  have gl2 : w.heap.size + 1 + 1 < w2.heap.size := hg2.lt
  have gm2 : w.heap.size + 1 < w2.heap.size := by omega
  have bl2 : w.heap.size < w2.heap.size := by omega
  have HBX2 := Lib.hid hbx2
  have b2_0 : w2.cell? ⟨w.heap.size, 0, none⟩ = some (.int .i64 2) := hbx2.cell 0
  have b2_1 : w2.cell? ⟨w.heap.size, 1, none⟩ = some (.int .i64 s) := hbx2.cell 1
  have b2_2 : w2.cell? ⟨w.heap.size, 2, none⟩ = some (.int .i64 n) := hbx2.cell 2
  have b2_3 : w2.cell? ⟨w.heap.size, 3, none⟩ = some (.bool fin) := hbx2.cell 3
  have b2_4 : w2.cell? ⟨w.heap.size, 4, none⟩ = some (.slice fa 0 fc) := hbx2.cell 4
  have b2_5 : w2.cell? ⟨w.heap.size, 5, none⟩ = some (.slice sa 0 sc) := hbx2.cell 5
  clear hO2 ho2 hg2 hbx2
  clear hb2
  go_wp2_with fail
  refine (scene_number n h2 (w.heap.size + 1) (w.heap.size + 1 + 1) [T, Lib.itoa s] (by simp) w2 (by omega) (by omega) HOUT2.out (HE.out _ HB2.out)).mono ?_
  rintro e w3 ⟨rfl, hO3, hb3, _⟩
  have hbx3 : Blk w3 w.heap.size PsT #[.int .i64 2, .int .i64 s, .int .i64 n, .bool fin, .slice fa 0 fc, .slice sa 0 sc] := HBX2.out.below hb3 (by omega)
  have HB3 : Hid (Below w.heap.size w w3) := HB2.out.trans (hb3.mono (by omega))
  have HOUT3 := Lib.hid hO3
  obtain ⟨v3, ho3, hg3⟩ := hO3.st
  have g3 : w3.cell? ⟨w.heap.size + 1 + 1, 0, none⟩ = some v3 := hg3.cell 0
  have gl3 : w.heap.size + 1 + 1 < w3.heap.size := hg3.lt
  have gm3 : w.heap.size + 1 < w3.heap.size := by omega
  have bl3 : w.heap.size < w3.heap.size := by omega
  have HBX3 := Lib.hid hbx3
  have b3_0 : w3.cell? ⟨w.heap.size, 0, none⟩ = some (.int .i64 2) := hbx3.cell 0
  have b3_1 : w3.cell? ⟨w.heap.size, 1, none⟩ = some (.int .i64 s) := hbx3.cell 1
  have b3_2 : w3.cell? ⟨w.heap.size, 2, none⟩ = some (.int .i64 n) := hbx3.cell 2
  have b3_3 : w3.cell? ⟨w.heap.size, 3, none⟩ = some (.bool fin) := hbx3.cell 3
  have b3_4 : w3.cell? ⟨w.heap.size, 4, none⟩ = some (.slice fa 0 fc) := hbx3.cell 4
  have b3_5 : w3.cell? ⟨w.heap.size, 5, none⟩ = some (.slice sa 0 sc) := hbx3.cell 5
  clear hO3 ho3 hg3 hbx3
  clear hb3
  clear g2 HOUT2 HBX2 b2_0 b2_1 b2_2 b2_3 b2_4 b2_5
  go_wp2_with fail
  refine cutV (S := fun W vv => OwnX (w.heap.size + 1) W vv ([T, Lib.itoa s, Lib.itoa n] ++ [EW]) ∧ Blk W (w.heap.size + 1 + 1) WsT #[vv] ∧ Below (w.heap.size + 1) w3 W) (P := ?PP) (fun key => ?_) ?_
  rotate_left
  · obtain ⟨x, hx1, hx2⟩ := HOUT3.out.st
    obtain rfl : v3 = x := by
      have e := hx2.cell 0
      rw [g3] at e
      injection e
    have HOV := Lib.hid hx1
    have HCV := Lib.hid hx2
    clear hx1 hx2
    go_region_law (first
      | (refine step_wds (.tmp 57) (.tmp 61) rfl rfl rfl ((show OwnX (w.heap.size + 1) w3 v3 [T, Lib.itoa s, Lib.itoa n] from HOV.out).below (C := w3.heap.size) bel (Nat.le_refl _)) (n := 1) (m := [EW]) rfl rfl (show Blk _ _ 9 #[bstr EW] from blk) (by simp) (by simp only [World.size_drew, World.size_alloc]; omega) ?_; intro v' x2 hown hbw ⟨hst, _⟩; obtain ⟨a2, c2, rfl, _⟩ := hown.cap; have hb2 := hst (w.heap.size + 1 + 1) WsT #[v3] (HCV.out.below (B := w3.heap.size) bel (by omega)) wsT_ne; have hgl2 := hb2.lt; have k2 : x2.cell? ⟨w.heap.size + 1 + 1, 0, none⟩ = some v3 := hb2.cell 0; have f2 : x2.frozen? ⟨w.heap.size + 1 + 1, 0, none⟩ = false := hb2.frozen 0; have HO2 := Lib.hid hown; have HB2 := Lib.hid hbw; have HC2 := Lib.hid hb2; clear hown hbw hst hb2)
      | (go_simp; (first | (go_at_call 45; (with_reducible refine (HPK.out _).mono ?_); rintro e w' ⟨rfl, rfl⟩))))
    all_goals
      have hS2 : OwnX (w.heap.size + 1) (x2.setCell ⟨w.heap.size + 1 + 1, 0, none⟩ (.slice a2 4 c2)) (.slice a2 4 c2) ([T, Lib.itoa s, Lib.itoa n] ++ [EW]) ∧ Blk (x2.setCell ⟨w.heap.size + 1 + 1, 0, none⟩ (.slice a2 4 c2)) (w.heap.size + 1 + 1) WsT #[.slice a2 4 c2] ∧ Below (w.heap.size + 1) w3 (x2.setCell ⟨w.heap.size + 1 + 1, 0, none⟩ (.slice a2 4 c2)) :=
        ⟨HO2.out.far HC2.out wsT_ne, HC2.out.set_ 0 _, (Below.trans (Below.mono (B := w3.heap.size) bel (by omega)) HB2.out).setCell (p := ⟨w.heap.size + 1 + 1, 0, none⟩) (by simp) _⟩
      generalize x2.setCell ⟨w.heap.size + 1 + 1, 0, none⟩ (.slice a2 4 c2) = x3 at hS2 ⊢
      generalize (.slice a2 4 c2 : Value) = vv at hS2 ⊢
      exact key _ _ hS2
  intro w4 v4 hS4
  obtain ⟨ho4, hg4, hb4⟩ := hS4
  have hbx4 : Blk w4 w.heap.size PsT #[.int .i64 2, .int .i64 s, .int .i64 n, .bool fin, .slice fa 0 fc, .slice sa 0 sc] := HBX3.out.below hb4 (by omega)
  have HB4 : Hid (Below w.heap.size w w4) := HB3.out.trans (hb4.mono (by omega))
  have HOUT4 : Hid (OutS (w.heap.size + 1) (w.heap.size + 1 + 1) w4 ([T, Lib.itoa s, Lib.itoa n] ++ [EW])) := ⟨⟨_, ho4, hg4⟩⟩
  have g4 : w4.cell? ⟨w.heap.size + 1 + 1, 0, none⟩ = some v4 := hg4.cell 0
  have gl4 : w.heap.size + 1 + 1 < w4.heap.size := hg4.lt
  have gm4 : w.heap.size + 1 < w4.heap.size := by omega
  have bl4 : w.heap.size < w4.heap.size := by omega
  have HBX4 := Lib.hid hbx4
  have b4_0 : w4.cell? ⟨w.heap.size, 0, none⟩ = some (.int .i64 2) := hbx4.cell 0
  have b4_1 : w4.cell? ⟨w.heap.size, 1, none⟩ = some (.int .i64 s) := hbx4.cell 1
  have b4_2 : w4.cell? ⟨w.heap.size, 2, none⟩ = some (.int .i64 n) := hbx4.cell 2
  have b4_3 : w4.cell? ⟨w.heap.size, 3, none⟩ = some (.bool fin) := hbx4.cell 3
  have b4_4 : w4.cell? ⟨w.heap.size, 4, none⟩ = some (.slice fa 0 fc) := hbx4.cell 4
  have b4_5 : w4.cell? ⟨w.heap.size, 5, none⟩ = some (.slice sa 0 sc) := hbx4.cell 5
  clear ho4 hg4 hbx4 hb4 g3 HOUT3 HBX3 b3_0 b3_1 b3_2 b3_3 b3_4 b3_5
  go_wp2_with fail
  have HOW : Hid (OwnX w.heap.size w4 v4 [T, Lib.itoa s, Lib.itoa n, EW]) := by
    obtain ⟨x, hx1, hx2⟩ := HOUT4.out.st
    have e := hx2.cell 0
    rw [g4] at e
    injection e with e
    rw [e]
    exact OwnX.lower (B := w.heap.size + 1) hx1 (by omega)
  go_loopw [66] (fun i wx => i = .int .i64 0 ∧ w4 = wx) (fun _ _ => 0)
  case atStart => exact ⟨rfl, rfl⟩
  case round =>
    obtain ⟨rfl, rfl⟩ := hrel
    go_wp2_with fail
    go_loopw [86] (fun i wx => i = .int .i64 0 ∧ w4 = wx) (fun _ _ => 0)
    case atStart => exact ⟨rfl, rfl⟩
    case round =>
      obtain ⟨rfl, rfl⟩ := hrel
      go_wp2_with fail
      go_ret
      exact ⟨_, rfl, HOW.out, HB4.out⟩
end Go.Proofs.YtfcgdfcekpbliaaGreatDoor
