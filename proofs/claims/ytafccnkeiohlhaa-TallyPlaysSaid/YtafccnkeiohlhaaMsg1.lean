/-
  A message's fields: barred, own, safe; the document's fields and barred.
-/
import Derived.Test.YtafccnkeiohlhaaLow3
import Derived.Test.YtafccnkeiohlhaaPse9
namespace Go.Proofs.Ytafccnkeiohlhaa
open Go.ChangeShapes Go.WideShapes Go.ChangeAt Go.RowKit Go.Deep Go.Shelf

abbrev vTe : List UInt8 := [116, 101]
abbrev vTrailers : List UInt8 := [116, 114, 97, 105, 108, 101, 114, 115]
abbrev vGet : List UInt8 := [71, 69, 84]
abbrev vHead : List UInt8 := [72, 69, 65, 68]
def msgBar (f : Fd) : Bool := barF f.name || (f.name == vTe && !(lowF f.value == vTrailers))
def ownGo : List Fd → Int → Int
  | [], rule => rule
  | f :: r, rule => if fieldF f = false then 28 else ownGo r (if msgBar f = true then 29 else rule)
def ownF (l : List Fd) : Int := ownGo l 0
theorem ownGo_bad {f : Fd} {r : List Fd} {n : Int} (h : fieldF f = false) : ownGo (f :: r) n = 28 := by simp [ownGo, h]
theorem ownGo_bar {f : Fd} {r : List Fd} {n : Int} (h : fieldF f = true) (h2 : msgBar f = true) : ownGo (f :: r) n = ownGo r 29 := by simp [ownGo, h, h2]
theorem ownGo_ok {f : Fd} {r : List Fd} {n : Int} (h : fieldF f = true) (h2 : msgBar f = false) : ownGo (f :: r) n = ownGo r n := by simp [ownGo, h, h2]
theorem ownGo_eq : ∀ (l : List Fd) (n : Int), ownGo l n = if (l.all fieldF) = true then (if (l.any msgBar) = true then 29 else n) else 28
  | [], n => rfl
  | f :: r, n => by
    simp only [ownGo]
    rw [ownGo_eq r]
    cases h1 : fieldF f <;> cases h2 : msgBar f <;> simp [h1, h2]
theorem ownF_eq (l : List Fd) : ownF l = if (l.all fieldF) = true then (if (l.any msgBar) = true then 29 else 0) else 28 := ownGo_eq l 0
def safeF (m : List UInt8) : Bool := m == vGet || m == vHead

set_option maxRecDepth 100000 in
theorem message_safe (m : List UInt8) (w : World) :
    Calls Try.prog 86 #[bstr m] w fun e w' => e = .returned (.bool (safeF m)) ∧ w = w' := by
  cases h1 : (m == vGet) <;> cases h2 : (m == vHead)
  all_goals
    go_enter Try.func86, Try.ntmps86
    go_wp2_with fail
    go_ret
    exact ⟨ret1d (by simp only [safeF, h1, h2]; rfl), rfl⟩

set_option maxHeartbeats 2000000 in
set_option maxRecDepth 100000 in
theorem message_barred (f : Fd) (hv : f.value.length ≤ 1048576) (w : World) :
    Calls Try.prog 95 #[.agg #[bstr f.name, bstr f.value, .bool f.never]] w fun e w' => e = .returned (.bool (msgBar f)) ∧ Below w.heap.size w w' := by
  have HF : Hid (msgBar f = (barF f.name || (f.name == vTe && !(lowF f.value == vTrailers)))) := rfl
  have hL := token_Lower f.value hv
  generalize lowF f.value = L at HF hL
  have HL := Lib.hid hL
  clear hL
  cases e1 : barF f.name <;> cases e2 : (f.name == vTe) <;> cases e3 : (L == vTrailers)
  all_goals
    go_enter Try.func95, Try.ntmps95
    go_wp2_with (first
      | (go_at_call 49; refine (token_Barred _ _).mono ?_; rintro e w' ⟨rfl, rfl⟩)
      | (go_at_call 47; refine (HL.out _).mono ?_; rintro e w' ⟨rfl, hbw⟩))
    go_ret
    refine ⟨ret1d (by rw [HF.out, e1, e2, e3]; rfl), ?_⟩
    have h0 : Below w.heap.size w (w.alloc (.cells #[bstr f.name, bstr f.value, .bool f.never] 33)) := (Below.refl _ _).alloc (Nat.le_refl _) _
    first
      | exact h0
      | exact h0.trans ((by assumption : Below _ (w.alloc _) _).mono h0.size)

set_option maxHeartbeats 2000000 in
set_option maxRecDepth 100000 in
theorem message_own (a : Option Addr) (cap B : Nat) (l : List Fd) (w : World) (hm : l.length ≤ maxLen) (hB : B ≤ w.heap.size) (hs : SlF w B a l) (hv : ∀ f ∈ l, f.value.length ≤ 1048576) :
    Calls Try.prog 84 #[.slice a l.length cap] w fun e w' => e = .returned (.int .i64 (ownF l)) ∧ Below w.heap.size w w' := by
  unfold maxLen at hm
  have HF : Hid (ownF l = ownGo (l.drop 0) 0) := rfl
  have HV := Lib.hid hv
  clear hv
  go_enter Try.func84, Try.ntmps84
  go_wp2_with fail
  go_loopg [8, 3] l.length (fun g i ru wr => ∃ (k : Nat) (n : Int), k + g = l.length ∧ i = .int .i64 k ∧ ru = .int .i64 n ∧ Below w.heap.size w wr ∧ Hid (ownF l = ownGo (l.drop k) n))
  case atStart => exact ⟨0, 0, by omega, rfl, rfl, Below.refl _ _, HF⟩
  case round =>
    clear HF
    obtain ⟨k, n, hkg, rfl, rfl, hb, HF⟩ := hrel
    by_cases hlt : k < l.length
    · obtain ⟨b, off, rfl, hb', c0, c1, c2, m1, m2⟩ := (hs.below hb hB).atF hlt
      have HF2 : Hid (ownF l = ownGo (l[k] :: l.drop (k + 1)) n) := HF.out.trans (by rw [List.drop_eq_getElem_cons hlt])
      have hv := HV.out l[k] (List.getElem_mem hlt)
      have HK := Lib.hid hkg
      have h0 : Below w.heap.size w (wr.alloc (.cells #[bstr l[k].name, bstr l[k].value, .bool l[k].never] 33)) := hb.alloc hb.size _
      have hz := h0.size
      clear HF hkg
      have CF : ∀ W, Below w.heap.size w W → Calls Try.prog 30 #[.agg #[bstr l[k].name, bstr l[k].value, .bool l[k].never]] W fun e w' => e = .returned (.bool (fieldF l[k])) ∧ Below w.heap.size w w' ∧ Below W.heap.size W w' := fun W h => (token_Field l[k] (by unfold maxLen; exact m1) (by unfold maxLen; exact m2) W).mono fun e w' ⟨he, hb⟩ => ⟨he, h.trans (hb.mono h.size), hb⟩
      have CB : ∀ W, Below w.heap.size w W → Calls Try.prog 95 #[.agg #[bstr l[k].name, bstr l[k].value, .bool l[k].never]] W fun e w' => e = .returned (.bool (msgBar l[k])) ∧ Below w.heap.size w w' := fun W h => (message_barred l[k] hv W).mono fun e w' ⟨he, hb⟩ => ⟨he, h.trans (hb.mono h.size)⟩
      have H1 := Lib.hid CF
      have H2 := Lib.hid CB
      clear CF CB
      have BF0 := Blk.new wr 33 #[bstr l[k].name, bstr l[k].value, .bool l[k].never]
      cases e1 : fieldF l[k] with
      | false =>
        have HR := Lib.hid (HF2.out.trans (ownGo_bad e1))
        go_wp2_with (go_at_call 30; refine (H1.out _ h0).mono ?_; rintro e w1 ⟨rfl, hb1, hp1⟩)
        go_ret
        exact ⟨ret1d (by rw [HR.out]; rfl), hb1⟩
      | true =>
        cases e2 : msgBar l[k] with
        | true =>
          have HR := Lib.hid (HF2.out.trans (ownGo_bar e1 e2))
          go_wp2_with (first
            | (go_at_call 30; refine (H1.out _ h0).mono ?_; rintro e w1 ⟨rfl, hb1, hp1⟩; replace BF0 := BF0.below hp1 (by simp); obtain ⟨p0, p1, p2, _, _, _, _⟩ := BF0.three)
            | (go_at_call 95; refine (H2.out _ hb1).mono ?_; rintro e w2 ⟨rfl, hb2⟩))
          go_roundg (l.length - (k + 1))
          case measure => have := HK.out; omega
          case rel => exact ⟨k + 1, 29, by omega, by go_num, rfl, hb2, HR⟩
        | false =>
          have HR := Lib.hid (HF2.out.trans (ownGo_ok e1 e2))
          go_wp2_with (first
            | (go_at_call 30; refine (H1.out _ h0).mono ?_; rintro e w1 ⟨rfl, hb1, hp1⟩; replace BF0 := BF0.below hp1 (by simp); obtain ⟨p0, p1, p2, _, _, _, _⟩ := BF0.three)
            | (go_at_call 95; refine (H2.out _ hb1).mono ?_; rintro e w2 ⟨rfl, hb2⟩))
          go_roundg (l.length - (k + 1))
          case measure => have := HK.out; omega
          case rel => exact ⟨k + 1, n, by omega, by go_num, rfl, hb2, HR⟩
    · go_wp2_with fail
      go_ret
      exact ⟨ret1d (by rw [HF.out, List.drop_of_length_le (by omega)]; rfl), hb⟩

set_option maxHeartbeats 2000000 in
set_option maxRecDepth 100000 in
theorem ref28_fields (a : Option Addr) (cap B : Nat) (l : List Fd) (w : World) (hm : l.length ≤ maxLen) (hB : B ≤ w.heap.size) (hs : SlF w B a l) :
    Calls Try.prog 87 #[.slice a l.length cap] w fun e w' => e = .returned (.bool (l.all fieldF)) ∧ Below w.heap.size w w' := by
  unfold maxLen at hm
  have HF : Hid (l.all fieldF = (l.drop 0).all fieldF) := rfl
  go_enter Try.func87, Try.ntmps87
  go_wp2_with fail
  go_loopg [3] l.length (fun g i wr => ∃ (k : Nat), k + g = l.length ∧ i = .int .i64 k ∧ Below w.heap.size w wr ∧ Hid (l.all fieldF = (l.drop k).all fieldF))
  case atStart => exact ⟨0, by omega, rfl, Below.refl _ _, HF⟩
  case round =>
    clear HF
    obtain ⟨k, hkg, rfl, hb, HF⟩ := hrel
    by_cases hlt : k < l.length
    · obtain ⟨b, off, rfl, hb', c0, c1, c2, m1, m2⟩ := (hs.below hb hB).atF hlt
      have HF2 : Hid (l.all fieldF = (fieldF l[k] && (l.drop (k + 1)).all fieldF)) := HF.out.trans (by rw [List.drop_eq_getElem_cons hlt]; rfl)
      have HK := Lib.hid hkg
      clear HF hkg
      cases e1 : fieldF l[k]
      all_goals
        go_wp2_with (go_at_call 31; refine (ref25_Field l[k] (by unfold maxLen; exact m1) (by unfold maxLen; exact m2) _).mono ?_; rintro e w1 ⟨rfl, hb1⟩)
        first
          | (go_roundg (l.length - (k + 1))
             case measure => have := HK.out; omega
             case rel => exact ⟨k + 1, by omega, by go_num, hb.trans (hb1.mono hb.size), HF2.out.trans (by rw [e1]; rfl)⟩)
          | (go_ret
             exact ⟨ret1d (by rw [HF2.out, e1]; rfl), hb.trans (hb1.mono hb.size)⟩)
    · go_wp2_with fail
      go_ret
      exact ⟨ret1d (by rw [HF.out, List.drop_of_length_le (by omega)]; rfl), hb⟩

set_option maxHeartbeats 2000000 in
set_option maxRecDepth 100000 in
theorem ref28_barred (a : Option Addr) (cap B : Nat) (l : List Fd) (w : World) (hm : l.length ≤ maxLen) (hB : B ≤ w.heap.size) (hs : SlF w B a l) (hv : ∀ f ∈ l, f.value.length ≤ 1048576) :
    Calls Try.prog 88 #[.slice a l.length cap] w fun e w' => e = .returned (.bool (l.any msgBar)) ∧ Below w.heap.size w w' := by
  unfold maxLen at hm
  have HF : Hid (l.any msgBar = (l.drop 0).any msgBar) := rfl
  have HV := Lib.hid hv
  clear hv
  go_enter Try.func88, Try.ntmps88
  go_wp2_with fail
  go_loopg [3] l.length (fun g i wr => ∃ (k : Nat), k + g = l.length ∧ i = .int .i64 k ∧ Below w.heap.size w wr ∧ Hid (l.any msgBar = (l.drop k).any msgBar))
  case atStart => exact ⟨0, by omega, rfl, Below.refl _ _, HF⟩
  case round =>
    clear HF
    obtain ⟨k, hkg, rfl, hb, HF⟩ := hrel
    by_cases hlt : k < l.length
    · obtain ⟨b, off, rfl, hb', c0, c1, c2, m1, m2⟩ := (hs.below hb hB).atF hlt
      have HF2 : Hid (l.any msgBar = (msgBar l[k] || (l.drop (k + 1)).any msgBar)) := HF.out.trans (by rw [List.drop_eq_getElem_cons hlt]; rfl)
      have HM : Hid (msgBar l[k] = (barF l[k].name || (l[k].name == vTe && !(lowF l[k].value == vTrailers)))) := rfl
      have hL := ref25_Lower l[k].value (HV.out l[k] (List.getElem_mem hlt))
      generalize lowF l[k].value = L at HM hL
      have HL := Lib.hid hL
      have HK := Lib.hid hkg
      clear HF hkg hL
      cases e1 : barF l[k].name <;> cases e2 : (l[k].name == vTe) <;> cases e3 : (L == vTrailers)
      all_goals
        go_wp2_with (first
          | (go_at_call 50; refine (ref25_Barred _ _).mono ?_; rintro e w' ⟨rfl, rfl⟩)
          | (go_at_call 48; refine (HL.out _).mono ?_; rintro e w' ⟨rfl, hbw⟩; replace hb := hb.trans (hbw.mono hb.size)))
        first
          | (go_roundg (l.length - (k + 1))
             case measure => have := HK.out; omega
             case rel => exact ⟨k + 1, by omega, by go_num, hb, HF2.out.trans (by rw [HM.out, e1, e2, e3]; rfl)⟩)
          | (go_ret
             exact ⟨ret1d (by rw [HF2.out, HM.out, e1, e2, e3]; rfl), hb⟩)
    · go_wp2_with fail
      go_ret
      exact ⟨ret1d (by rw [HF.out, List.drop_of_length_le (by omega)]; rfl), hb⟩
