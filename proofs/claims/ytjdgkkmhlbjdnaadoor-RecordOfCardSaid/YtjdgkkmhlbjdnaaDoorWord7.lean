/-
  Words: lines of words; parts.
-/
import Derived.Test.YtjdgkkmhlbjdnaaDoorByt
import Derived.Test.YtjdgkkmhlbjdnaaDoorQm
import Derived.Test.YtjdgkkmhlbjdnaaDoorWordP
import Derived.Deep.LoopGhost
import Derived.BigGuardPart
namespace Go.Proofs.YtjdgkkmhlbjdnaaDoor
set_option linter.unusedSimpArgs false
set_option linter.unusedVariables false
set_option linter.unusedSectionVars false
open Go.ChangeShapes Go.WideShapes Go.ChangeAt Go.RowKit Go.Deep Go.Shelf

/-! Slices of texts. -/
def txtIs (s : List UInt8) (cs : List Value) : Prop := cs = [bstr s] ∧ s.length ≤ maxLen
abbrev SlX (w : World) (B : Nat) (a : Option Addr) (l : List (List UInt8)) : Prop := SlR w B 1 txtIs a l
theorem SlR.atX {w : World} {B : Nat} {a : Option Addr} {l : List (List UInt8)} (h : SlR w B 1 txtIs a l) {k : Nat} (hk : k < l.length) : ∃ b off, a = some ⟨b, off, none⟩ ∧ b < B ∧ w.cell? ⟨b, off + k, none⟩ = some (bstr l[k]) ∧ l[k].length ≤ 9223372036854775807 := by
  obtain ⟨b, off, cs, ha, hb, ⟨rfl, h1⟩, hc⟩ := h k hk
  have := hc 0 _ rfl
  rw [Nat.mul_one, Nat.add_zero] at this
  unfold maxLen at h1
  exact ⟨b, off, ha, hb, this, h1⟩
theorem slX_new {w : World} {g : Nat} {t : TypeId} {cs : Array Value} {l : List (List UInt8)} (h : Blk w g t cs) (hl : cs.toList = l.map bstr) (hR : ∀ x ∈ l, x.length ≤ maxLen) : SlX w (g + 1) (some ⟨g, 0, none⟩) l :=
  SlR.of_blk (c := fun s => [bstr s]) h (by rw [hl]; clear h hl hR; induction l <;> simp_all) (fun _ _ => rfl) (fun x hx => ⟨rfl, hR x hx⟩)
def okW (w : List UInt8) : Bool := !w.isEmpty && !decide (0 ≤ Lib.indexByte w 32) && !decide (0 ≤ Lib.indexByte w 10)
theorem index_in (s : List UInt8) (c : UInt8) (w : World) : Calls Tryd.prog 73 #[bstr s, .int .u8 (c.toNat : Int)] w fun e w' => e = .returned (.int .i64 (Lib.indexByte s c)) ∧ w = w' :=
  (Tryd.strings_IndexByte ⟨s.toArray⟩ c.toNat w).mono fun e w' ⟨he, hw⟩ => ⟨by rw [he]; simp, hw.symm⟩

set_option maxHeartbeats 4000000 in
set_option maxRecDepth 100000 in
/-- A line of words one of which is none. -/
theorem words_Line_bad (a : Option Addr) (cap : Nat) (l : List (List UInt8)) (w0 w : World) (hm : l.length ≤ 1048576) (hb : Below w0.heap.size w0 w) (hs0 : SlX w0 w0.heap.size a l) (hbad : l.all okW = false) :
    Calls Tryd.prog 23 #[.slice a l.length cap] w fun e w' => e = .returned (.tuple #[bstr [], .bool false]) ∧ w = w' := by
  have hs := hs0.below hb (Nat.le_refl _)
  have hz := hb.size
  clear hs0 hb
  have HA : Hid ((l.drop 0).all okW = false) := hbad
  clear hbad
  go_enter Tryd.func23, Tryd.ntmps23
  go_wp2_with fail
  go_loop [8] (fun i => ∃ k : Nat, k ≤ l.length ∧ i = .int .i64 k ∧ Hid ((l.drop k).all okW = false)) (fun i => l.length - (intOf i).toNat)
  case atStart => exact ⟨0, by omega, rfl, HA⟩
  case round =>
    clear HA
    obtain ⟨k, hk, rfl, HA⟩ := hrel
    by_cases hlt : k < l.length
    · obtain ⟨b, off, rfl, hb, c0, hl0⟩ := hs.atX hlt
      have hd : (l.drop k).all okW = (okW l[k] && (l.drop (k + 1)).all okW) := by rw [List.drop_eq_getElem_cons hlt]; rfl
      have HI1 : Hid (∀ W, Calls Tryd.prog 73 #[bstr l[k], .int .u8 32] W fun e w' => e = .returned (.int .i64 (Lib.indexByte l[k] 32)) ∧ W = w') := fun W => index_in l[k] 32 W
      have HI2 : Hid (∀ W, Calls Tryd.prog 73 #[bstr l[k], .int .u8 10] W fun e w' => e = .returned (.int .i64 (Lib.indexByte l[k] 10)) ∧ W = w') := fun W => index_in l[k] 10 W
      have HD : Hid ((okW l[k] && (l.drop (k + 1)).all okW) = false) := hd.symm.trans HA.out
      have HO : Hid (okW l[k] = (!l[k].isEmpty && !decide (0 ≤ Lib.indexByte l[k] 32) && !decide (0 ≤ Lib.indexByte l[k] 10))) := rfl
      generalize okW l[k] = ok at HD HO
      generalize Lib.indexByte l[k] 32 = i1 at HI1 HO
      generalize Lib.indexByte l[k] 10 = i2 at HI2 HO
      generalize l[k] = x at c0 hl0 HI1 HI2 HO
      have HN : Hid (x.isEmpty = false → i1 < 0 → i2 < 0 → (l.drop (k + 1)).all okW = false) := fun h1 h2 h3 => by
        have h := HD.out
        rw [HO.out, h1] at h
        have e1 : decide (0 ≤ i1) = false := by simp; omega
        have e2 : decide (0 ≤ i2) = false := by simp; omega
        rw [e1, e2] at h
        simpa using h
      clear hd HA HD HO
      cases he : x.isEmpty <;> by_cases h1 : 0 ≤ i1 <;> by_cases h2 : 0 ≤ i2
      all_goals
        have hne : (!x.isEmpty) = !x.isEmpty := rfl
        have hxe : (x == []) = x.isEmpty := by cases x <;> rfl
        rw [he] at hxe
        go_wp2_with (first
          | (go_at_call 73; (with_reducible refine (HI1.out _).mono ?_); rintro e w' ⟨rfl, rfl⟩)
          | (go_at_call 73; (with_reducible refine (HI2.out _).mono ?_); rintro e w' ⟨rfl, rfl⟩))
      all_goals first
        | (exfalso; omega)
        | (go_ret2
           exact ⟨rfl, rfl⟩)
        | (go_round
           case rel => exact ⟨k + 1, hlt, by go_num, HN.out he (by omega) (by omega)⟩
           case measure => simp [intOf]; omega)
    · exfalso
      have := HA.out
      rw [List.drop_of_length_le (by omega)] at this
      simp at this

theorem splitK_len (sep : List UInt8) : ∀ (k : Nat) (s : List UInt8), ∀ x ∈ Lib.splitK sep 0 k s, x.length ≤ s.length
  | 0, s, x, h => by simp [Lib.splitK] at h; subst h; exact Nat.le_refl _
  | k + 1, s, x, h => by
    unfold Lib.splitK at h
    split at h
    · simp at h; subst h; exact Nat.le_refl _
    · rcases List.mem_cons.1 h with rfl | h
      · simp; omega
      · have := splitK_len sep k _ x h
        simp at this; omega
theorem split_map (l : List UInt8) (c : UInt8) : (Lib.splitB ⟨#[c]⟩ 0 (Lib.countB ⟨l.toArray⟩ ⟨#[c]⟩) ⟨l.toArray⟩).map Value.string = (Lib.split l [c]).map bstr := by
  have h := Lib.splitB_data ⟨#[c]⟩ 0 (Lib.countB ⟨l.toArray⟩ ⟨#[c]⟩) ⟨l.toArray⟩
  have e : (Lib.split l [c]) = (Lib.splitB ⟨#[c]⟩ 0 (Lib.countB ⟨l.toArray⟩ ⟨#[c]⟩) ⟨l.toArray⟩).map (·.data.toList) := by rw [h]; rfl
  rw [e, List.map_map]
  rfl
theorem split_len (l : List UInt8) (c : UInt8) : (Lib.split l [c]).length = Lib.countB ⟨l.toArray⟩ ⟨#[c]⟩ + 1 := by
  have h := Lib.splitB_all ⟨#[c]⟩ (Nat.le_refl 1) 0 _ ⟨l.toArray⟩ rfl
  have := congrArg List.length (split_map l c)
  simp only [List.length_map] at this
  rw [← this, h]
theorem split_le (l : List UInt8) (c : UInt8) : (Lib.split l [c]).length ≤ l.length + 1 := by
  rw [split_len]
  have := Lib.countB_le ⟨#[c]⟩ (Nat.le_refl 1) _ ⟨l.toArray⟩ (Nat.le_refl _)
  have e : (ByteArray.mk l.toArray).size = l.length := rfl
  omega
theorem strings_split (l : List UInt8) (c : UInt8) (m : Int) (w : World) (hm : l.length ≤ 1048576) (hM : w.cell? ⟨2, 0, none⟩ = some (.int .i64 m)) :
    Calls Tryd.prog 75 #[bstr l, bstr [c]] w fun e w' => e = .returned (.slice (some ⟨w.heap.size, 0, none⟩) (Lib.split l [c]).length (Lib.split l [c]).length) ∧ w' = w.alloc (.cells ((Lib.split l [c]).map bstr).toArray 9) :=
  (Tryd.strings_Split ⟨l.toArray⟩ ⟨#[c]⟩ m w (by show l.length < _; omega) hM (Nat.le_refl 1)).mono fun e w' ⟨he, hw⟩ => ⟨by rw [he, split_len], by rw [hw, ← split_map]⟩
theorem split_slX (l : List UInt8) (c : UInt8) (w : World) (hm : l.length ≤ 1048576) : SlX (w.alloc (.cells ((Lib.split l [c]).map bstr).toArray 9)) (w.heap.size + 1) (some ⟨w.heap.size, 0, none⟩) (Lib.split l [c]) :=
  slX_new (Blk.at_ _ _ _ rfl) (by simp) (fun x hx => by have := splitK_len [c] _ l x hx; unfold maxLen; omega)

set_option maxHeartbeats 4000000 in
set_option maxRecDepth 100000 in
theorem words_Split_bad (l : List UInt8) (m : Int) (w : World) (hm : l.length ≤ 1000000) (h0 : l ≠ []) (hM : w.cell? ⟨2, 0, none⟩ = some (.int .i64 m)) (hbad : (Lib.split l [32]).all okW = false) :
    Calls Tryd.prog 25 #[bstr l] w fun e w' => e = .returned (.tuple #[.slice none 0 0, .bool false]) ∧ ∃ j, w' = w.more j := by
  have hne : l.isEmpty = false := by cases l <;> simp_all
  have hne' : (!l.isEmpty) = true := by rw [hne]; rfl
  have H1 := Lib.hid (strings_split l 32 m w (by omega) hM)
  have H2 := Lib.hid (words_Line_bad (some ⟨w.heap.size, 0, none⟩) (Lib.split l [32]).length (Lib.split l [32]) (w.alloc (.cells ((Lib.split l [32]).map bstr).toArray 9)) (w.alloc (.cells ((Lib.split l [32]).map bstr).toArray 9)) (by have := split_le l 32; omega) (Below.refl _ _) (by rw [World.size_alloc]; exact split_slX l 32 w (by omega)) hbad)
  clear hbad hM h0
  generalize Lib.split l [32] = p at H1 H2
  go_enter Tryd.func25, Tryd.ntmps25
  go_wp2_with fail
  refine H1.out.mono ?_
  rintro e w1 ⟨rfl, rfl⟩
  go_wp2_with fail
  refine H2.out.mono ?_
  rintro e w1 ⟨rfl, rfl⟩
  go_wp2_with fail
  go_ret2
  exact ⟨rfl, Below.junk (by repeat (first | (with_reducible exact Below.refl _ _) | (with_reducible refine Below.allocS ?_ _) | (with_reducible refine Below.moreS ?_ _) | (with_reducible refine Below.drew ?_) | (with_reducible refine below_drewN ?_ _)))⟩
