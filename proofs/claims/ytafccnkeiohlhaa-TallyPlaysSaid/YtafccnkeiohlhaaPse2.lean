/-
  Pseudo-fields in the document's order; the document's requests and responses.
-/
import Derived.Test.YtafccnkeiohlhaaPse1
import Derived.Test.YtafccnkeiohlhaaLen
namespace Go.Proofs.Ytafccnkeiohlhaa
open Go.ChangeShapes Go.WideShapes Go.ChangeAt Go.RowKit Go.Deep

theorem SlR.getF {w : World} {B b off : Nat} {l : List Fd} (h : SlR w B 3 Fd.Is (some ⟨b, off, none⟩) l) {k : Nat} (hk : k < l.length) :
    b < B ∧ w.cell? ⟨b, off + k * 3, none⟩ = some (bstr l[k].name) ∧ w.cell? ⟨b, off + k * 3 + 1, none⟩ = some (bstr l[k].value) ∧ w.cell? ⟨b, off + k * 3 + 2, none⟩ = some (.bool l[k].never) ∧ l[k].name.length ≤ 9223372036854775807 ∧ l[k].value.length ≤ 9223372036854775807 := by
  obtain ⟨b', off', e, hr⟩ := h.atF hk
  injection e with e
  injection e with e1 e2
  subst e1 e2
  exact hr
theorem SlR.some_of {α : Type} {w : World} {B size : Nat} {R : α → List Value → Prop} {a : Option Addr} {l : List α} (h : SlR w B size R a l) (hk : 0 < l.length) : ∃ b off, a = some ⟨b, off, none⟩ := by
  obtain ⟨b, off, _, ha, _⟩ := h 0 hk
  exact ⟨b, off, ha⟩

theorem prev_at {l : List Fd} {k : Nat} {p : Bool} {hk : k < l.length} (h : startsF l[k].name = p) : ∀ (j : Nat) (hj : j < l.length), k + 1 = j + 1 → startsF l[j].name = p := by
  intro j hj e
  have e : k = j := by omega
  subst e
  exact h
def ordGo (all : List Fd) (names : List (List UInt8)) : Bool → List Fd → Bool
  | _, [] => true
  | prev, f :: r => if startsF f.name = true then prev && amongF names f.name && !decide (1 < manyF all f.name) && ordGo all names true r else ordGo all names false r
def orderedF (l : List Fd) (names : List (List UInt8)) : Bool := ordGo l names true l
theorem ordGo_no {all : List Fd} {names : List (List UInt8)} {p : Bool} {f : Fd} {r : List Fd} (h : startsF f.name = false) : ordGo all names p (f :: r) = ordGo all names false r := by simp [ordGo, h]
theorem ordGo_yes {all : List Fd} {names : List (List UInt8)} {p : Bool} {f : Fd} {r : List Fd} (h : startsF f.name = true) : ordGo all names p (f :: r) = (p && amongF names f.name && !decide (1 < manyF all f.name) && ordGo all names true r) := by simp [ordGo, h]

set_option maxRecDepth 100000 in
theorem ref27_ordered (a an : Option Addr) (cap capn B Bn : Nat) (l : List Fd) (names : List (List UInt8)) (w : World) (hm : l.length ≤ maxLen) (hB : B ≤ w.heap.size) (hs : SlF w B a l) (hmn : names.length ≤ maxLen) (hBn : Bn ≤ w.heap.size) (hsn : SlS w Bn an names) :
    Calls Try.prog 76 #[.slice a l.length cap, .slice an names.length capn] w fun e w' => e = .returned (.bool (orderedF l names)) ∧ Below w.heap.size w w' := by
  have hm' := hm
  unfold maxLen at hm'
  have HF : Hid (orderedF l names = ordGo l names true (l.drop 0)) := rfl
  go_enter Try.func76, Try.ntmps76
  go_wp2_with fail
  go_loopw [5] (fun i wr => ∃ (k : Nat) (p : Bool), k ≤ l.length ∧ i = .int .i64 k ∧ Below w.heap.size w wr ∧ (∀ (j : Nat) (hj : j < l.length), k = j + 1 → startsF l[j].name = p) ∧ (k = 0 → p = true) ∧ Hid (orderedF l names = ordGo l names p (l.drop k))) (fun i _ => l.length - (intOf i).toNat)
  case atStart => exact ⟨0, true, by omega, rfl, Below.refl _ _, fun _ _ h => by omega, fun _ => rfl, HF⟩
  case round =>
    clear HF
    obtain ⟨k, p, hk, rfl, hb, HP, HP0, HF⟩ := hrel
    by_cases hlt : k < l.length
    · have hs1 := hs.below hb hB
      obtain ⟨b, off, rfl⟩ := hs1.some_of (by omega)
      obtain ⟨hb', c0, c1, c2, m1, m2⟩ := hs1.getF hlt
      have hdrop := List.drop_eq_getElem_cons hlt
      have HF2 : Hid (orderedF l names = ordGo l names p (l[k] :: l.drop (k + 1))) := HF.out.trans (by rw [hdrop])
      have HPS := Lib.hid HP
      have HP0S := Lib.hid HP0
      clear HF hdrop HP HP0
      go_wp2_with fail
      refine (ref27_is l[k] _ (by unfold maxLen; exact m1)).mono ?_
      rintro e w1 ⟨rfl, hb1⟩
      have hb2 := hb.trans (hb1.mono hb.size)
      have hs2 := hs1.below hb1 (by have := hb.size; omega)
      have hsn2 := (hsn.below hb hBn).below hb1 (by have := hb.size; omega)
      obtain ⟨_, d0, d1, d2, _, _⟩ := hs2.getF hlt
      clear c0 c1 c2
      cases h1 : startsF l[k].name with
      | false =>
        have HF3 : Hid (orderedF l names = ordGo l names false (l.drop (k + 1))) := HF2.out.trans (ordGo_no h1)
        go_wp2_with fail
        go_roundw
        case rel => exact ⟨k + 1, false, hlt, by go_num, hb2, prev_at h1, fun h => by omega, HF3⟩
        case measure => simp [intOf]; omega
      | true =>
        have HF3 : Hid (orderedF l names = (p && amongF names l[k].name && !decide (1 < manyF l l[k].name) && ordGo l names true (l.drop (k + 1)))) := HF2.out.trans (ordGo_yes h1)
        clear HF2
        have H1 := Lib.hid h1
        clear h1
        cases k with
        | zero =>
          have hp := HP0S.out rfl
          simp only [Nat.zero_mul, Nat.add_zero] at d0 d1 d2
          subst hp
          cases h3 : amongF names l[0].name
          all_goals
            cases h4 : decide ((1 : Int) < manyF l l[0].name)
            all_goals
              go_wp2_with (first
                | (go_at_call 93; refine (ref27_among _ _ _ _ _ _ hmn hsn2).mono ?_; rintro e w' ⟨rfl, rfl⟩)
                | (go_at_call 78; refine (ref27_many _ _ _ _ _ _ hm hs2).mono ?_; rintro e w' ⟨rfl, rfl⟩))
              first
                | (go_ret
                   exact ⟨ret1d (by rw [HF3.out, h3, h4]; rfl), hb2⟩)
                | (go_roundw
                   case rel => exact ⟨0 + 1, true, hlt, by go_num, hb2, prev_at H1.out, fun h => rfl, HF3.out.trans (by rw [h3, h4]; rfl)⟩
                   case measure => simp [intOf]; omega)
        | succ j =>
          have hj : j < l.length := by omega
          have hp := HPS.out j hj rfl
          obtain ⟨_, g0, g1, g2, n1, n2⟩ := hs2.getF hj
          go_wp2_with fail
          refine (ref27_is l[j] _ (by unfold maxLen; exact n1)).mono ?_
          rintro e w2 ⟨rfl, hb3⟩
          have hb4 := hb2.trans (hb3.mono hb2.size)
          have hs3 := hs2.below hb3 (by have := hb2.size; omega)
          have hsn3 := hsn2.below hb3 (by have := hb2.size; omega)
          obtain ⟨_, q0, q1, q2, _, _⟩ := hs3.getF hlt
          clear d0 d1 d2 g0 g1 g2
          rw [hp]
          cases p with
          | false =>
            go_wp2_with fail
            go_ret
            exact ⟨ret1d (by rw [HF3.out]; rfl), hb4⟩
          | true =>
            cases h3 : amongF names l[j + 1].name
            all_goals
              cases h4 : decide ((1 : Int) < manyF l l[j + 1].name)
              all_goals
                go_wp2_with (first
                  | (go_at_call 93; refine (ref27_among _ _ _ _ _ _ hmn hsn3).mono ?_; rintro e w' ⟨rfl, rfl⟩)
                  | (go_at_call 78; refine (ref27_many _ _ _ _ _ _ hm hs3).mono ?_; rintro e w' ⟨rfl, rfl⟩))
                first
                  | (go_ret
                     exact ⟨ret1d (by rw [HF3.out, h3, h4]; rfl), hb4⟩)
                  | (go_roundw
                     case rel => exact ⟨j + 1 + 1, true, hlt, by go_num, hb4, prev_at H1.out, fun h => rfl, HF3.out.trans (by rw [h3, h4]; rfl)⟩
                     case measure => simp [intOf]; omega)
    · go_wp2_with fail
      go_ret
      exact ⟨ret1d (by rw [HF.out, List.drop_of_length_le (by omega)]; rfl), hb⟩
end Go.Proofs.Ytafccnkeiohlhaa
