/-
  Pseudo-fields: the small functions of the program and of the document.
-/
import Derived.Test.YtafccnkeiohlhaaBase
import Derived.Test.YtafccnkeiohlhaaOpen
import Derived.Test.YtafccnkeiohlhaaApp
namespace Go.Proofs.Ytafccnkeiohlhaa
open Go.ChangeShapes Go.WideShapes Go.ChangeAt Go.RowKit Go.Deep

def startsF : List UInt8 → Bool
  | [] => false
  | c :: _ => (c.toNat : Int) == 58
def trailerF (l : List Fd) : Bool := l.all fun f => !startsF f.name
def manyF (l : List Fd) (name : List UInt8) : Int := (l.filter fun f => f.name == name).length
def valueR : List Fd → List UInt8 → List UInt8
  | [], _ => []
  | f :: r, name => if f.name == name then f.value else valueR r name
def amongF (names : List (List UInt8)) (name : List UInt8) : Bool := names.any fun n => n == name

/-! Slices of texts. -/
def strIs (s : List UInt8) (cs : List Value) : Prop := cs = [bstr s] ∧ s.length ≤ maxLen
abbrev SlS (w : World) (B : Nat) (a : Option Addr) (l : List (List UInt8)) : Prop := SlR w B 1 strIs a l
theorem SlR.atS {w : World} {B : Nat} {a : Option Addr} {l : List (List UInt8)} (h : SlR w B 1 strIs a l) {k : Nat} (hk : k < l.length) : ∃ b off, a = some ⟨b, off, none⟩ ∧ b < B ∧ w.cell? ⟨b, off + k, none⟩ = some (bstr l[k]) ∧ l[k].length ≤ 9223372036854775807 := by
  obtain ⟨b, off, cs, ha, hb, ⟨rfl, h1⟩, hc⟩ := h k hk
  have := hc 0 _ rfl
  rw [Nat.mul_one, Nat.add_zero] at this
  unfold maxLen at h1
  exact ⟨b, off, ha, hb, this, h1⟩

set_option maxRecDepth 100000 in
theorem pseudo_starts (f : Fd) (w : World) (hn : f.name.length ≤ maxLen) :
    Calls Try.prog 83 #[.agg #[bstr f.name, bstr f.value, .bool f.never]] w fun e w' => e = .returned (.bool (startsF f.name)) ∧ Below w.heap.size w w' := by
  unfold maxLen at hn
  obtain ⟨name, value, never⟩ := f
  dsimp only at hn ⊢
  cases name with
  | nil =>
    go_enter Try.func83, Try.ntmps83
    go_wp2_with fail
    go_ret
    exact ⟨rfl, (Below.refl _ _).alloc (Nat.le_refl _) _⟩
  | cons c r =>
    simp only [List.length_cons] at hn
    have hb := c.toNat_lt
    go_enter Try.func83, Try.ntmps83
    go_wp2_with fail
    go_ret
    exact ⟨rfl, (Below.refl _ _).alloc (Nat.le_refl _) _⟩

set_option maxRecDepth 100000 in
theorem ref27_is (f : Fd) (w : World) (hn : f.name.length ≤ maxLen) :
    Calls Try.prog 82 #[.agg #[bstr f.name, bstr f.value, .bool f.never]] w fun e w' => e = .returned (.bool (startsF f.name)) ∧ Below w.heap.size w w' := by
  unfold maxLen at hn
  obtain ⟨name, value, never⟩ := f
  dsimp only at hn ⊢
  cases name with
  | nil =>
    go_enter Try.func82, Try.ntmps82
    go_wp2_with fail
    go_ret
    exact ⟨rfl, (Below.refl _ _).alloc (Nat.le_refl _) _⟩
  | cons c r =>
    simp only [List.length_cons] at hn
    have hb := c.toNat_lt
    go_enter Try.func82, Try.ntmps82
    go_wp2_with fail
    go_ret
    exact ⟨rfl, (Below.refl _ _).alloc (Nat.le_refl _) _⟩

set_option maxRecDepth 100000 in
theorem ref27_Trailer (a : Option Addr) (cap B : Nat) (l : List Fd) (w : World) (hm : l.length ≤ maxLen) (hB : B ≤ w.heap.size) (hs : SlF w B a l) :
    Calls Try.prog 51 #[.slice a l.length cap] w fun e w' => e = .returned (.bool (trailerF l)) ∧ Below w.heap.size w w' := by
  unfold maxLen at hm
  have HF : Hid (trailerF l = trailerF (l.drop 0)) := rfl
  go_enter Try.func51, Try.ntmps51
  go_wp2_with fail
  go_loopw [3] (fun i wr => ∃ k : Nat, k ≤ l.length ∧ i = .int .i64 k ∧ Below w.heap.size w wr ∧ Hid (trailerF l = trailerF (l.drop k))) (fun i _ => l.length - (intOf i).toNat)
  case atStart => exact ⟨0, by omega, rfl, Below.refl _ _, HF⟩
  case round =>
    clear HF
    obtain ⟨k, hk, rfl, hb, HF⟩ := hrel
    by_cases hlt : k < l.length
    · obtain ⟨b, off, rfl, hb', c0, c1, c2, m1, m2⟩ := (hs.below hb hB).atF hlt
      have HF2 : Hid (trailerF l = (!startsF l[k].name && trailerF (l.drop (k + 1)))) := HF.out.trans (by rw [List.drop_eq_getElem_cons hlt]; rfl)
      clear HF
      cases h1 : startsF l[k].name
      all_goals
        go_wp2_with (go_at_call 82; refine (ref27_is l[k] _ (by unfold maxLen; exact m1)).mono ?_; rintro e w1 ⟨rfl, hb1⟩)
        first
          | (go_roundw
             case rel => exact ⟨k + 1, hlt, by go_num, hb.trans (hb1.mono hb.size), HF2.out.trans (by rw [h1]; rfl)⟩
             case measure => simp [intOf]; omega)
          | (go_ret
             exact ⟨ret1d (by rw [HF2.out, h1]; rfl), hb.trans (hb1.mono hb.size)⟩)
    · go_wp2_with fail
      go_ret
      exact ⟨ret1d (by rw [HF.out, List.drop_of_length_le (by omega)]; rfl), hb⟩

set_option maxRecDepth 100000 in
theorem pseudo_Trailer (a : Option Addr) (cap B : Nat) (l : List Fd) (w : World) (hm : l.length ≤ maxLen) (hB : B ≤ w.heap.size) (hs : SlF w B a l) :
    Calls Try.prog 52 #[.slice a l.length cap] w fun e w' => e = .returned (.bool (trailerF l)) ∧ Below w.heap.size w w' := by
  unfold maxLen at hm
  have HF : Hid (trailerF l = trailerF (l.drop 0)) := rfl
  go_enter Try.func52, Try.ntmps52
  go_wp2_with fail
  go_loopw [7] (fun i wr => ∃ k : Nat, k ≤ l.length ∧ i = .int .i64 k ∧ Below w.heap.size w wr ∧ Hid (trailerF l = trailerF (l.drop k))) (fun i _ => l.length - (intOf i).toNat)
  case atStart => exact ⟨0, by omega, rfl, Below.refl _ _, HF⟩
  case round =>
    clear HF
    obtain ⟨k, hk, rfl, hb, HF⟩ := hrel
    by_cases hlt : k < l.length
    · obtain ⟨b, off, rfl, hb', c0, c1, c2, m1, m2⟩ := (hs.below hb hB).atF hlt
      have HF2 : Hid (trailerF l = (!startsF l[k].name && trailerF (l.drop (k + 1)))) := HF.out.trans (by rw [List.drop_eq_getElem_cons hlt]; rfl)
      clear HF
      cases h1 : startsF l[k].name
      all_goals
        go_wp2_with (go_at_call 83; refine (pseudo_starts l[k] _ (by unfold maxLen; exact m1)).mono ?_; rintro e w1 ⟨rfl, hb1⟩)
        first
          | (go_roundw
             case rel => exact ⟨k + 1, hlt, by go_num, (hb.alloc hb.size _).trans (hb1.mono (by have := hb.size; simp; omega)), HF2.out.trans (by rw [h1]; rfl)⟩
             case measure => simp [intOf]; omega)
          | (go_ret
             exact ⟨ret1d (by rw [HF2.out, h1]; rfl), (hb.alloc hb.size _).trans (hb1.mono (by have := hb.size; simp; omega))⟩)
    · go_wp2_with fail
      go_ret
      exact ⟨ret1d (by rw [HF.out, List.drop_of_length_le (by omega)]; rfl), hb⟩

theorem valueR_yes {f : Fd} {r : List Fd} {n : List UInt8} (h : (f.name == n) = true) : valueR (f :: r) n = f.value := by simp only [valueR, h, if_true]
theorem valueR_no {f : Fd} {r : List Fd} {n : List UInt8} (h : (f.name == n) = false) : valueR (f :: r) n = valueR r n := by simp only [valueR, h]; rfl
theorem manyF_yes {f : Fd} {r : List Fd} {n : List UInt8} (h : (f.name == n) = true) : manyF (f :: r) n = manyF r n + 1 := by simp only [manyF, List.filter_cons, h, if_true, List.length_cons]; omega
theorem manyF_no {f : Fd} {r : List Fd} {n : List UInt8} (h : (f.name == n) = false) : manyF (f :: r) n = manyF r n := by simp only [manyF, List.filter_cons, h]; rfl
theorem manyF_le (l : List Fd) (n : List UInt8) : 0 ≤ manyF l n ∧ manyF l n ≤ l.length := by
  unfold manyF
  exact ⟨by omega, by have := List.length_filter_le (fun f : Fd => f.name == n) l; omega⟩

set_option maxRecDepth 100000 in
theorem ref27_value (a : Option Addr) (cap B : Nat) (l : List Fd) (n : List UInt8) (w : World) (hm : l.length ≤ maxLen) (hs : SlF w B a l) :
    Calls Try.prog 77 #[.slice a l.length cap, bstr n] w fun e w' => e = .returned (bstr (valueR l n)) ∧ w = w' := by
  unfold maxLen at hm
  have HF : Hid (valueR l n = valueR (l.drop 0) n) := rfl
  go_enter Try.func77, Try.ntmps77
  go_wp2_with fail
  go_loop [5] (fun i => ∃ k : Nat, k ≤ l.length ∧ i = .int .i64 k ∧ Hid (valueR l n = valueR (l.drop k) n)) (fun i => l.length - (intOf i).toNat)
  case atStart => exact ⟨0, by omega, rfl, HF⟩
  case round =>
    clear HF
    obtain ⟨k, hk, rfl, HF⟩ := hrel
    by_cases hlt : k < l.length
    · obtain ⟨b, off, rfl, hb, c0, c1, c2, m1, m2⟩ := hs.atF hlt
      have HF2 : Hid (valueR l n = valueR (l[k] :: l.drop (k + 1)) n) := HF.out.trans (by rw [List.drop_eq_getElem_cons hlt])
      clear HF c2
      cases h1 : (l[k].name == n) with
      | true =>
        go_wp2_with fail
        go_ret
        exact ⟨ret1d (by rw [HF2.out, valueR_yes h1]; rfl), rfl⟩
      | false =>
        go_wp2_with fail
        go_round
        case rel => exact ⟨k + 1, hlt, by go_num, HF2.out.trans (valueR_no h1)⟩
        case measure => simp [intOf]; omega
    · go_wp2_with fail
      go_ret
      exact ⟨ret1d (by rw [HF.out, List.drop_of_length_le (by omega)]; rfl), rfl⟩

set_option maxRecDepth 100000 in
theorem ref27_many (a : Option Addr) (cap B : Nat) (l : List Fd) (n : List UInt8) (w : World) (hm : l.length ≤ maxLen) (hs : SlF w B a l) :
    Calls Try.prog 78 #[.slice a l.length cap, bstr n] w fun e w' => e = .returned (.int .i64 (manyF l n)) ∧ w = w' := by
  unfold maxLen at hm
  have HF : Hid (manyF l n = 0 + manyF (l.drop 0) n) := by show _ = _; simp
  go_enter Try.func78, Try.ntmps78
  go_wp2_with fail
  go_loop [6, 5] (fun i c => ∃ (k : Nat) (m : Int), k ≤ l.length ∧ i = .int .i64 k ∧ c = .int .i64 m ∧ 0 ≤ m ∧ m ≤ k ∧ Hid (manyF l n = m + manyF (l.drop k) n)) (fun i _ => l.length - (intOf i).toNat)
  case atStart => exact ⟨0, 0, by omega, rfl, rfl, by omega, by omega, HF⟩
  case round =>
    clear HF
    obtain ⟨k, m, hk, rfl, rfl, h0, hmk, HF⟩ := hrel
    by_cases hlt : k < l.length
    · obtain ⟨b, off, rfl, hb, c0, c1, c2, m1, m2⟩ := hs.atF hlt
      have HF2 : Hid (manyF l n = m + manyF (l[k] :: l.drop (k + 1)) n) := HF.out.trans (by rw [List.drop_eq_getElem_cons hlt])
      clear HF c2 c1
      cases h1 : (l[k].name == n) with
      | true =>
        have HF3 : Hid (manyF l n = (m + 1) + manyF (l.drop (k + 1)) n) := HF2.out.trans (by rw [manyF_yes h1]; omega)
        clear HF2
        go_wp2_with fail
        go_round
        case rel => exact ⟨k + 1, m + 1, hlt, by go_num, rfl, by omega, by omega, HF3⟩
        case measure => simp [intOf]; omega
      | false =>
        have HF3 : Hid (manyF l n = m + manyF (l.drop (k + 1)) n) := HF2.out.trans (by rw [manyF_no h1])
        clear HF2
        go_wp2_with fail
        go_round
        case rel => exact ⟨k + 1, m, hlt, by go_num, rfl, by omega, by omega, HF3⟩
        case measure => simp [intOf]; omega
    · have HF2 : Hid (manyF l n = m) := HF.out.trans (by rw [List.drop_of_length_le (by omega)]; simp [manyF])
      clear HF
      go_wp2_with fail
      go_ret
      exact ⟨ret1d (by rw [HF2.out]; rfl), rfl⟩

set_option maxRecDepth 100000 in
theorem ref27_among (a : Option Addr) (cap B : Nat) (l : List (List UInt8)) (n : List UInt8) (w : World) (hm : l.length ≤ maxLen) (hs : SlS w B a l) :
    Calls Try.prog 93 #[.slice a l.length cap, bstr n] w fun e w' => e = .returned (.bool (amongF l n)) ∧ w = w' := by
  unfold maxLen at hm
  have HF : Hid (amongF l n = amongF (l.drop 0) n) := rfl
  go_enter Try.func93, Try.ntmps93
  go_wp2_with fail
  go_loop [5] (fun i => ∃ k : Nat, k ≤ l.length ∧ i = .int .i64 k ∧ Hid (amongF l n = amongF (l.drop k) n)) (fun i => l.length - (intOf i).toNat)
  case atStart => exact ⟨0, by omega, rfl, HF⟩
  case round =>
    clear HF
    obtain ⟨k, hk, rfl, HF⟩ := hrel
    by_cases hlt : k < l.length
    · obtain ⟨b, off, rfl, hb, c0, m1⟩ := hs.atS hlt
      have HF2 : Hid (amongF l n = ((l[k] == n) || amongF (l.drop (k + 1)) n)) := HF.out.trans (by rw [List.drop_eq_getElem_cons hlt]; rfl)
      clear HF
      cases h1 : (l[k] == n) with
      | true =>
        go_wp2_with fail
        go_ret
        exact ⟨ret1d (by rw [HF2.out, h1]; rfl), rfl⟩
      | false =>
        go_wp2_with fail
        go_round
        case rel => exact ⟨k + 1, hlt, by go_num, HF2.out.trans (by rw [h1]; rfl)⟩
        case measure => simp [intOf]; omega
    · go_wp2_with fail
      go_ret
      exact ⟨ret1d (by rw [HF.out, List.drop_of_length_le (by omega)]; rfl), rfl⟩
end Go.Proofs.Ytafccnkeiohlhaa
