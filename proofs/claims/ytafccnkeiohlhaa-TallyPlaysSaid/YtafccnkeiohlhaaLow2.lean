/-
  Small letters: the contract of token.Lower.
-/
import Derived.Test.YtafccnkeiohlhaaLow1
import Derived.Deep.LoopGhost
namespace Go.Proofs.Ytafccnkeiohlhaa
open Go.ChangeShapes Go.WideShapes Go.ChangeAt Go.RowKit Go.Deep Go.Shelf

def lowB (c : UInt8) : UInt8 := if isLarge c.toNat then c + 32 else c
def lowF (l : List UInt8) : List UInt8 := l.map lowB
theorem lowB_large {c : UInt8} (h : isLarge c.toNat = true) : ((lowB c).toNat : Int) = c.toNat + 32 := by
  have hb := c.toNat_lt
  simp only [lowB, h, if_true, UInt8.toNat_add]
  simp [isLarge] at h
  have : (32 : UInt8).toNat = 32 := rfl
  omega
theorem lowB_small {c : UInt8} (h : isLarge c.toNat = false) : lowB c = c := by
  simp [lowB, h]
theorem low_step {l : List UInt8} {k : Nat} (h : k < l.length) : (l.take (k + 1)).map lowB = (l.take k).map lowB ++ [lowB l[k]] := by
  rw [List.take_succ_eq_append_getElem h, List.map_append]; rfl
theorem cells_step {l : List UInt8} {k : Nat} (h : k < l.length) : Lib.byteCells ((l.take (k + 1)).map lowB) = Lib.byteCells ((l.take k).map lowB) ++ [.int .u8 (lowB l[k]).toNat] := by
  rw [low_step h, Lib.byteCells, Lib.byteCells, List.map_append]; rfl
theorem len_step {l : List UInt8} {k : Nat} (h : k ≤ l.length) : (Lib.byteCells ((l.take k).map lowB)).length = k := by
  simp [Lib.byteCells]; omega

set_option maxHeartbeats 2000000 in
set_option maxRecDepth 100000 in
theorem token_Lower (l : List UInt8) (hm : l.length ≤ 1048576) (w : World) :
    Calls Try.prog 47 #[bstr l] w fun e w' => e = .returned (bstr (lowF l)) ∧ Below w.heap.size w w' := by
  go_enter Try.func47, Try.ntmps47
  go_wp2_with fail
  go_loopg [8] l.length (fun g i wr => ∃ k : Nat, k + g = l.length ∧ i = .int .i64 k ∧ Below w.heap.size w wr ∧ Lib.IsBuilder BT BytT w.heap.size w.heap.size (Lib.byteCells ((l.take k).map lowB)) wr)
  case atStart => exact ⟨0, by omega, rfl, (Below.refl _ _).alloc (Nat.le_refl _) _, Lib.fresh_isBuilder BT BytT w⟩
  case round =>
    obtain ⟨k, hkg, rfl, hb, HB⟩ := hrel
    by_cases hlt : k < l.length
    · have hc := l[k].toNat_lt
      have HK := Lib.hid hkg
      clear hkg
      cases h1 : isLarge l[k].toNat with
      | true =>
        have hL := lowB_large h1
        go_wp2_with (first
          | (go_at_call 79; refine (token_large _ _ (by omega) (by omega)).mono ?_; rintro e w' ⟨rfl, rfl⟩))
        have e0 : ((l[k].toNat : Int) + 32) % 256 = (lowB l[k]).toNat := by rw [hL]; simp [isLarge] at h1; omega
        rw [e0]
        refine (writeByte w.heap.size w.heap.size _ _ wr HB (by rw [len_step (by omega)]; omega) hb.size).mono ?_
        rintro e w2 ⟨rfl, hB2, hb2⟩
        have HB2 : Lib.BuilderAt BT BytT w.heap.size w.heap.size (.pointer (some ⟨w.heap.size, 0, none⟩)) (Lib.byteCells ((l.take (k + 1)).map lowB)) w2 := by
          rw [cells_step hlt]; exact hB2
        go_wp2_with fail
        go_roundg (l.length - (k + 1))
        case measure => have := HK.out; omega
        case rel => exact ⟨k + 1, by omega, by go_num, hb.trans (hb2.mono (Nat.le_refl _)), Or.inr HB2⟩
      | false =>
        go_wp2_with (first
          | (go_at_call 79; refine (token_large _ _ (by omega) (by omega)).mono ?_; rintro e w' ⟨rfl, rfl⟩))
        refine (writeByte w.heap.size w.heap.size _ _ wr HB (by rw [len_step (by omega)]; omega) hb.size).mono ?_
        rintro e w2 ⟨rfl, hB2, hb2⟩
        have HB2 : Lib.BuilderAt BT BytT w.heap.size w.heap.size (.pointer (some ⟨w.heap.size, 0, none⟩)) (Lib.byteCells ((l.take (k + 1)).map lowB)) w2 := by
          rw [cells_step hlt]; rw [lowB_small h1]; exact hB2
        go_wp2_with fail
        go_roundg (l.length - (k + 1))
        case measure => have := HK.out; omega
        case rel => exact ⟨k + 1, by omega, by go_num, hb.trans (hb2.mono (Nat.le_refl _)), Or.inr HB2⟩
    · go_wp2_with fail
      have hk : l.take k = l := List.take_of_length_le (by omega)
      rw [hk] at HB
      refine (Try.Builder_String_any w.heap.size w.heap.size _ wr HB hb.size).mono ?_
      rintro e w2 ⟨rfl, hb2⟩
      go_wp2_with fail
      go_ret
      exact ⟨rfl, hb.trans hb2⟩

theorem lowF_len (l : List UInt8) : (lowF l).length = l.length := by simp [lowF]
theorem low_idem (c : UInt8) : lowB (lowB c) = lowB c := by
  cases h : isLarge c.toNat with
  | false => rw [lowB_small h]; exact lowB_small h
  | true =>
    have := lowB_large h
    simp [isLarge] at h
    apply lowB_small
    simp [isLarge]
    omega
theorem lowF_idem (l : List UInt8) : lowF (lowF l) = lowF l := by
  simp [lowF, low_idem]
theorem lowF_name (l : List UInt8) (h : nameF l = true) : lowF l = l := by
  have h1 : (l.all fun c => mayB c.toNat) = true := by
    simp [nameF] at h; simpa using h.1
  have h2 : ∀ c ∈ l, lowB c = c := by
    intro c hc
    have h3 := List.all_eq_true.1 h1 c hc
    apply lowB_small
    obtain ⟨_, _, _, h4⟩ := mayB_true h3
    simp [isLarge]
    omega
  simp only [lowF]
  exact (List.map_congr_left h2).trans (List.map_id _)
def barF (l : List UInt8) : Bool :=
  l == [99, 111, 110, 110, 101, 99, 116, 105, 111, 110] || l == [107, 101, 101, 112, 45, 97, 108, 105, 118, 101] || l == [112, 114, 111, 120, 121, 45, 99, 111, 110, 110, 101, 99, 116, 105, 111, 110] || l == [116, 114, 97, 110, 115, 102, 101, 114, 45, 101, 110, 99, 111, 100, 105, 110, 103] || l == [117, 112, 103, 114, 97, 100, 101]

set_option maxRecDepth 100000 in
theorem token_Barred (l : List UInt8) (w : World) :
    Calls Try.prog 49 #[bstr l] w fun e w' => e = .returned (.bool (barF l)) ∧ w = w' := by
  cases h1 : (l == [99, 111, 110, 110, 101, 99, 116, 105, 111, 110]) <;> cases h2 : (l == [107, 101, 101, 112, 45, 97, 108, 105, 118, 101]) <;> cases h3 : (l == [112, 114, 111, 120, 121, 45, 99, 111, 110, 110, 101, 99, 116, 105, 111, 110]) <;> cases h4 : (l == [116, 114, 97, 110, 115, 102, 101, 114, 45, 101, 110, 99, 111, 100, 105, 110, 103]) <;> cases h5 : (l == [117, 112, 103, 114, 97, 100, 101])
  all_goals
    go_enter Try.func49, Try.ntmps49
    go_wp2_with fail
    go_ret
    exact ⟨ret1d (by simp only [barF, h1, h2, h3, h4, h5]; rfl), rfl⟩

set_option maxRecDepth 100000 in
theorem ref25_Barred (l : List UInt8) (w : World) :
    Calls Try.prog 50 #[bstr l] w fun e w' => e = .returned (.bool (barF l)) ∧ w = w' := by
  cases h1 : (l == [99, 111, 110, 110, 101, 99, 116, 105, 111, 110]) <;> cases h2 : (l == [107, 101, 101, 112, 45, 97, 108, 105, 118, 101]) <;> cases h3 : (l == [112, 114, 111, 120, 121, 45, 99, 111, 110, 110, 101, 99, 116, 105, 111, 110]) <;> cases h4 : (l == [116, 114, 97, 110, 115, 102, 101, 114, 45, 101, 110, 99, 111, 100, 105, 110, 103]) <;> cases h5 : (l == [117, 112, 103, 114, 97, 100, 101])
  all_goals
    go_enter Try.func50, Try.ntmps50
    go_wp2_with fail
    go_ret
    exact ⟨ret1d (by simp only [barF, h1, h2, h3, h4, h5]; rfl), rfl⟩
