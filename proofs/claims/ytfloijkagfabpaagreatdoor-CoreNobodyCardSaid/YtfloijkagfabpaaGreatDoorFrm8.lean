/-
  Settings out of bytes: the program's, the document's.
-/
import Derived.Test.YtfloijkagfabpaaGreatDoorMf
import Derived.Test.YtfloijkagfabpaaGreatDoorMh
namespace Go.Proofs.YtfloijkagfabpaaGreatDoor
set_option linter.unusedSimpArgs false
set_option linter.unusedVariables false
set_option linter.unusedSectionVars false
open Go.ChangeShapes Go.WideShapes Go.ChangeAt Go.RowKit Go.Deep Go.Shelf

abbrev StT : TypeId := 264
def stC (p : Int × Int) : List Value := [.int .i64 p.1, .int .i64 p.2]
abbrev SlG (w : World) (B : Nat) (a : Option Addr) (l : List (Int × Int)) : Prop := SlR w B 2 (fun p cs => cs = stC p) a l
theorem st_sets : SliceTy Tryz.prog 107 StT (.agg #[.int .i64 0, .int .i64 0]) 2 16 := .mk' Tryz.underlying107 (by kernel_rfl) rfl (by omega)
theorem stC_len (p : Int × Int) : (stC p).length = 2 := rfl
theorem stC_cells (p : Int × Int) : ∀ u ∈ stC p, u.oneCell' = true := by intro u hu; simp [stC] at hu; rcases hu with rfl | rfl <;> rfl
def setAt (l : List UInt8) (k : Nat) : Int × Int := (beN ((l.drop (6 * k)).take 2), beN ((l.drop (6 * k + 2)).take 4))
def setsK (l : List UInt8) (k : Nat) : List (Int × Int) := (List.range k).map (setAt l)
theorem setsK_succ (l : List UInt8) (k : Nat) : setsK l (k + 1) = setsK l k ++ [setAt l k] := by simp [setsK, List.range_succ]
theorem setsK_len (l : List UInt8) (k : Nat) : (setsK l k).length = k := by simp [setsK]
def setsF (l : List UInt8) : List (Int × Int) := setsK l (l.length / 6)
theorem getF_in {k : Nat} {l : List UInt8} (h : k ≤ l.length) : getF k l = ((beN (l.take k) : Int), 0) := by unfold getF; rw [if_pos h]
theorem OwnC.full {α : Type} {e : TypeId} {size B : Nat} {c : α → List Value} {w : World} {v : Value} {l : List α} (h : OwnC e size c B w v l) (hc : ∀ x, (c x).length = size) : ∃ a cap, v = .slice a l.length cap ∧ l.length ≤ cap ∧ SlR w w.heap.size size (fun x cs => cs = c x) a l ∧ ∀ p, a = some p → B ≤ p.block := by
  obtain ⟨a, cap, rfl, hs⟩ := h.read hc
  obtain ⟨a2, cap2, e2, hcap⟩ := h.cap
  injection e2 with e3 e4 e5
  subst e3 e5
  refine ⟨a, cap, rfl, hcap, hs, ?_⟩
  rcases h.2 with ⟨he, hn⟩ | ⟨g, cap', cur, he, hg, hh, h3, h4, h5, h6⟩
  · injection he with e1 _ _
    intro p hp
    rw [e1] at hp
    cases hp
  · injection he with e1 _ _
    intro p hp
    rw [e1] at hp
    cases hp
    exact hg
theorem OwnC.gp {α : Type} {e t : TypeId} {size B g : Nat} {c : α → List Value} {w w' : World} {v : Value} {l : List α} {cs : Array Value} (h : OwnC e size c B w v l) (hb : Blk w g t cs) (ht : t ≠ e) (hg : Gp (fun q => q = g) w w') : OwnC e size c B w' v l := by
  have hne : some g ≠ v.ownBlock := by
    rcases h.2 with ⟨rfl, hn⟩ | ⟨g', cap, cur, rfl, hgg, hh, h3⟩
    · simp [Value.ownBlock]
    · intro e2
      simp only [Value.ownBlock, Option.some.injEq] at e2
      subst e2
      have h1 : w.heap[g]? = some (.cells cs t (0, 0)) := hb
      rw [h1] at hh
      injection hh with hh
      injection hh with _ h2 _
      exact ht h2
  exact World.ownsRow.kept (row := some g) h ⟨hg.os, hg.tape, hg.output, hg.size, fun k hk hkg => hg.block k hk (fun e => hkg (by rw [e]))⟩ (.inr (fun e => hne e.symm))
theorem SlR.grow' {α : Type} {w w' : World} {size : Nat} {R : α → List Value → Prop} {a : Option Addr} {l : List α} (h : SlR w w.heap.size size R a l) (hb : Below w.heap.size w w') : SlR w' w'.heap.size size R a l := (h.below hb (Nat.le_refl _)).mono hb.size (fun _ _ _ h => h)
def StpP (B : Nat) (l : List UInt8) (w : World) (e : Ending) (w' : World) : Prop :=
  ∃ a c, e = .returned (.tuple #[.slice a (setsF l).length c, .int .i64 0]) ∧ (setsF l).length ≤ c ∧ SlG w' w'.heap.size a (setsF l) ∧ (∀ p, a = some p → B ≤ p.block) ∧ Below B w w'
set_option maxHeartbeats 4000000 in
set_option maxRecDepth 100000 in
theorem setting_Parse (a : Option Addr) (c : Nat) (l : List UInt8) (w : World) (h : SlB w w.heap.size a l) (h6 : l.length % 6 = 0) (hl : l.length ≤ 1048576) :
    Calls Tryz.prog 151 #[.slice a l.length c] w (StpP w.heap.size l w) := by
  have HN := Lib.hid (cursor_New a c l w h (by omega))
  have g6 : (l.length : Int) % 6 = 0 := by omega
  obtain ⟨n, hn⟩ : ∃ n, l.length = 6 * n := ⟨l.length / 6, by omega⟩
  have HLn := Lib.hid hn
  have HSF : Hid (setsF l = setsK l n) := by show _ = _; unfold setsF; rw [hn, Nat.mul_div_cancel_left _ (by omega)]
  have HLL : Hid (l.length ≤ 1048576) := hl
  clear h h6 hn
  unfold StpP
  go_enter Tryz.func151, Tryz.ntmps151
  go_wp2_with fail
  refine HN.out.mono ?_
  rintro e w1 ⟨C, A, rfl, hc, hC, hb⟩
  have HC := Lib.hid hc
  have HCC := Lib.hid hC
  have HB := Lib.hid hb
  clear hc hC hb
  go_wp2_with fail
  have hC1 : C < w1.heap.size := HC.out.2.1.lt
  have HC1 := Lib.hid hC1
  clear hC1
  go_loopg [5] (n + 1) (fun q v wr => ∃ k, k + q = n + 1 ∧ k ≤ n ∧ OwnC StT 2 stC w1.heap.size wr v (setsK l k) ∧ Cur wr C A l (6 * k) ∧ Gp (fun q => q = C) w1 wr)
  case atStart => exact ⟨0, by omega, by omega, OwnC.nil _ _, HC.out, Gp.refl _⟩
  case round =>
    obtain ⟨k, hkq, hkn, ho, hcu, hg⟩ := hrel
    have HL := Lib.hid (cursor_Left C A l (6 * k) wr hcu)
    have HCU := Lib.hid hcu
    have HO := Lib.hid ho
    have HG := Lib.hid hg
    have HLk : Hid ((l.length - 6 * k : Nat) = 6 * (n - k)) := by show _ = _; have := HLn.out; omega
    rw [HLk.out] at HL
    clear hcu ho hg
    by_cases hlt : k < n
    · have hlt2 : ((6 * (n - k) : Nat) : Int) > 0 := by omega
      go_wp2_with (go_at_call 150; (with_reducible refine (HL.out).mono ?_); rintro e w' ⟨rfl, j, rfl⟩)
      have HN1 : Hid (∀ W, Cur W C A l (6 * k) → Calls Tryz.prog 211 #[.pointer (some ⟨C, 0, none⟩), .int .i64 2] W fun e w' => e = .returned (.tuple #[.int .i64 (setAt l k).1, .int .i64 0]) ∧ Cur w' C A l (6 * k + 2) ∧ Gp (fun q => q = C) W w') := fun W hW => by
        have := cursor_Number C A l (6 * k) 2 (by decide) (by decide) W hW (by have := HLL.out; omega)
        rw [if_pos (by have := HLn.out; omega)] at this
        unfold numF at this
        rw [getF_in (by have := HLn.out; simp; omega)] at this
        exact this
      have HN2 : Hid (∀ W, Cur W C A l (6 * k + 2) → Calls Tryz.prog 211 #[.pointer (some ⟨C, 0, none⟩), .int .i64 4] W fun e w' => e = .returned (.tuple #[.int .i64 (setAt l k).2, .int .i64 0]) ∧ Cur w' C A l (6 * (k + 1)) ∧ Gp (fun q => q = C) W w') := fun W hW => by
        have := cursor_Number C A l (6 * k + 2) 4 (by decide) (by decide) W hW (by have := HLL.out; omega)
        rw [if_pos (by have := HLn.out; omega)] at this
        unfold numF at this
        rw [getF_in (by have := HLn.out; simp; omega)] at this
        exact this
      have HSC : Hid (setsK l (k + 1) = setsK l k ++ [setAt l k]) := setsK_succ l k
      generalize setAt l k = S at HN1 HN2 HSC
      refine (HN1.out _ (HCU.out.below bel)).mono ?_
      rintro e w2 ⟨rfl, hc2, hg2⟩
      have HC2 := Lib.hid hc2
      have HG2 : Hid (Gp (fun q => q = C) wr w2) := (Gp.of_below bel).trans hg2
      clear hc2 hg2
      go_wp2_with fail
      refine (HN2.out _ HC2.out).mono ?_
      rintro e w3 ⟨rfl, hc3, hg3⟩
      have HC3 := Lib.hid hc3
      have HG3 : Hid (Gp (fun q => q = C) wr w3) := HG2.out.trans hg3
      have ho3 := HO.out.gp HCU.out.2.1 (by decide) HG3.out
      have HO3 := Lib.hid ho3
      have hz3 := HG.out.size
      have hz4 := HG3.out.size
      have hkl : (setsK l k).length ≤ 1000000 := by rw [setsK_len]; have := HLn.out; have := HLL.out; omega
      clear hc3 hg3 ho3
      go_wp2_with (at_builtin; refine app_c st_sets stC_len stC_cells (by decide) (.tmp 29) (.tmp 33) (y := S) rfl rfl rfl (HO3.out.below bel (Nat.le_refl _)) rfl blk rfl (by omega) (by simp only [World.size_alloc]; omega) ?_; intro v' w5 h5 hb5)
      have hb35 : Below w1.heap.size w3 w5 := ((Below.refl w1.heap.size w3).alloc (by omega) _).trans hb5
      have HG5 : Hid (Gp (fun q => q = C) w1 w5) := (HG.out.trans HG3.out).then hb35
      have HC5 : Hid (Cur w5 C A l (6 * (k + 1))) := ⟨HC3.out.1, HC3.out.2.1.below hb35 HC1.out, SlB.gp HC.out.2.2.1 HG5.out (fun q hq => ⟨_, _, hq ▸ HC.out.2.1, cur_cells⟩), HC3.out.2.2.2⟩
      clear hb35 hb5
      go_roundg (n - k)
      case measure => omega
      case rel => exact ⟨k + 1, by omega, by omega, by rw [HSC.out]; exact h5, HC5.out, HG5.out⟩
    · obtain rfl : k = n := by omega
      have hlt2 : ¬ ((6 * (k - k) : Nat) : Int) > 0 := by omega
      go_wp2_with (go_at_call 150; (with_reducible refine (HL.out).mono ?_); rintro e w' ⟨rfl, j, rfl⟩)
      obtain ⟨a9, c9, e9, hc9, hs9, hn9⟩ := HO.out.full stC_len
      subst e9
      go_ret2
      rw [HSF.out]
      exact ⟨a9, c9, rfl, hc9, hs9.grow' bel, fun p hp => Nat.le_trans HB.out.size (hn9 p hp), (HB.out.trans (HG.out.below (fun q hq => by rw [hq]; exact HCC.out) HB.out.size)).trans (Below.mono (B := wr.heap.size) bel (Nat.le_trans HB.out.size HG.out.size))⟩
end Go.Proofs.YtfloijkagfabpaaGreatDoor
