/-
  The statement InjectNames: each kind has its name, and just these names are kinds.
-/
import Derived.Test.YtgghddhdkfocoaaDoorInj2
namespace Go.Proofs.YtgghddhdkfocoaaDoor
set_option linter.unusedSimpArgs false
set_option linter.unusedVariables false
set_option linter.unusedSectionVars false
open Go.ChangeShapes Go.WideShapes Go.ChangeAt Go.RowKit Go.Deep Go.Shelf

theorem max_keep {w W : World} {m : Int} (hM : w.cell? MaxA = some (.int .i64 m)) (hW : Below w.heap.size w W) : W.cell? MaxA = some (.int .i64 m) :=
  (hW.cell (p := MaxA) (World.block_lt_of_cell? w MaxA hM)).trans hM
set_option maxHeartbeats 4000000 in
set_option maxRecDepth 100000 in
theorem law46_alive (m : Int) (w : World) (hM : w.cell? MaxA = some (.int .i64 m)) : Calls Tryd.prog 4 #[] w fun e w' => e = .returned (.bool true) ∧ ∃ j, w' = w.more j := by
  have HR := Lib.hid (inject_Frames21 m w hM)
  have HX : Hid (∀ W, Below w.heap.size w W → Calls Tryd.prog 7 #[.int .i64 2] W fun e w' => e = .returned (bstr [112, 105, 110, 103, 55]) ∧ ∃ j, w' = W.more j) := fun W hW => by
    have := inject_Name 2 m W (max_keep hM hW)
    rw [inj_two2] at this
    exact this
  clear hM
  go_enter Tryd.func4, Tryd.ntmps4
  go_wp2_with fail
  refine HR.out.mono ?_
  rintro e w1 ⟨g, rfl, ⟨h, hblk⟩, hb⟩
  have c1 := hblk.cell 1
  have c5 := hblk.cell 5
  have hl := hblk.lt
  have HB := Lib.hid hb
  clear hblk hb
  go_wp2_with fail
  refine (HX.out _ HB.out).mono ?_
  rintro e w2 ⟨rfl, j, rfl⟩
  go_wp2_with fail
  go_ret
  exact ⟨rfl, (HB.out.trans (((Below.refl w1.heap.size w1).moreS j).mono HB.out.size)).junk⟩

theorem inj_eq (s : List UInt8) (k : Nat) (hk : k < 26) : injW.getD k [] = s ↔ idxX injW s = (k : Int) := by
  have hk' : k < injW.length := hk
  constructor
  · intro h
    have := seekX_hit s injW 0 k hk' (by rw [inj_at k hk']; exact h) (fun j hj hjk e => by
      rw [inj_at j hj, ← h] at e
      have := inj_two ⟨j, hj⟩ ⟨k, hk⟩ e
      have h9 : j = k := congrArg Fin.val this
      omega)
    rw [Nat.zero_add] at this
    exact this
  · intro h
    obtain ⟨h1, h2⟩ := seekX_at s injW 0 k (by rw [Nat.zero_add]; exact h)
    rw [inj_at k h1] at h2
    exact h2
def wantF (f : Int) (k : Nat) : Int := if 0 ≤ f ∧ f < (k : Int) then f + 1 else 0
set_option maxHeartbeats 8000000 in
set_option maxRecDepth 100000 in
theorem injectNames_law (kind : Int) (s : List UInt8) (m : Int) (w : World) (h0 : -9223372036854775808 ≤ kind) (h1 : kind ≤ 9223372036854775807) (hms : s.length ≤ maxLen) (hM : w.cell? MaxA = some (.int .i64 m)) :
    Calls Tryd.prog 3 #[.int .i64 kind, bstr s] w fun e w' => e = .returned (.bool true) ∧ ∃ j, w' = w.more j := by
  have HAL : Hid (∀ W, Below w.heap.size w W → Calls Tryd.prog 4 #[] W fun e w' => e = .returned (.bool true) ∧ ∃ j, w' = W.more j) := fun W hW => law46_alive m W (max_keep hM hW)
  unfold maxLen at hms
  by_cases g : 100 < s.length
  · have g1 : (100 : Int) < s.length := by omega
    clear hM
    go_enter Tryd.func3, Tryd.ntmps3
    go_wp2_with (go_at_call 4; (with_reducible refine (HAL.out _ (by repeat (first | (with_reducible exact Below.refl _ _) | (with_reducible refine Below.allocS ?_ _) | (with_reducible refine Below.moreS ?_ _) | (with_reducible refine Below.drew ?_) | (with_reducible refine below_drewN ?_ _)))).mono ?_); rintro e w' ⟨rfl, j, rfl⟩)
    go_ret
    exact ⟨rfl, Below.junk (by repeat (first | (with_reducible exact Below.refl _ _) | (with_reducible refine Below.allocS ?_ _) | (with_reducible refine Below.moreS ?_ _) | (with_reducible refine Below.drew ?_) | (with_reducible refine below_drewN ?_ _)))⟩
  have g1 : ¬ (100 : Int) < s.length := by omega
  have HN : Hid (∀ W, Below w.heap.size w W → Calls Tryd.prog 7 #[.int .i64 kind] W fun e w' => e = .returned (bstr (injN kind)) ∧ ∃ j, w' = W.more j) := fun W hW => inject_Name kind m W (max_keep hM hW)
  have HB : Hid (∀ W, Below w.heap.size w W → Calls Tryd.prog 6 #[bstr s] W fun e w' => e = .returned (.tuple #[.int .i64 (idxX injW s + 1), .bool (decide (0 ≤ idxX injW s))]) ∧ ∃ j, w' = W.more j) := fun W hW => inject_ByName s m W (max_keep hM hW)
  have HR : Hid (∀ W, Calls Tryd.prog 5 #[] W (NamesI 26 (fun k => injW.getD k []) W)) := ref46_Names
  have HQ : Hid (∀ k, k < 26 → (injW.getD k [] = s ↔ idxX injW s = (k : Int))) := inj_eq s
  have hlo := seekX_lo s injW 0
  have hlen : injW.length = 26 := rfl
  rw [hlen] at hlo
  have hf : -1 ≤ idxX injW s ∧ idxX injW s < 26 := by unfold idxX; omega
  generalize idxX injW s = f at HB HQ hf
  clear hM hlo hlen g
  by_cases hin : 1 ≤ kind ∧ kind ≤ 26
  · obtain ⟨q, rfl⟩ : ∃ q : Nat, kind = (q : Int) + 1 := ⟨(kind - 1).toNat, by omega⟩
    have hq : q < 26 := by omega
    have hnm : injN ((q : Int) + 1) = injW.getD q [] := by unfold injN; rw [if_neg (by omega)]; congr 1; omega
    have k1 : (1 : Int) ≤ (q : Int) + 1 := by omega
    have k2 : (q : Int) + 1 ≤ 26 := by omega
    have hw1 : IntKind.i64.wrap ((q : Int) + 1 - 1) = q := by rw [show (q : Int) + 1 - 1 = q by omega]; exact IntWalk.i64_in _ (by omega)
    have hw2 : IntKind.i64.wrap (q : Int) = q := IntWalk.i64_in _ (by omega)
    rw [hnm] at HN
    have HRQ : Hid (∀ W, Calls Tryd.prog 5 #[] W fun e w' => ∃ g j, e = .returned (.slice (some ⟨g, 0, none⟩) 26 26) ∧ w'.cell? ⟨g, q, none⟩ = some (bstr (injW.getD q [])) ∧ g < w'.heap.size ∧ w' = W.more j) := fun W => (ref46_Names W).mono fun e w' ⟨g, j, h1, h2, h3, h4⟩ => ⟨g, j, h1, h2 q hq, h3, h4⟩
    generalize injW.getD q [] = NM at HN HRQ
    clear hnm hin h0 h1
    go_enter Tryd.func3, Tryd.ntmps3
    go_wp2_with fail
    refine (HRQ.out _).mono ?_
    rintro e w' ⟨gg, jj, rfl, c0, hg, rfl⟩
    clear HRQ
    go_wp2_with fail
    clear c0 hg hw1 hw2 k1 k2 hq
    go_loopg [6, 7] 26 (fun g v i wr => ∃ k : Nat, k + g = 26 ∧ i = .int .i64 k ∧ v = .int .i64 (wantF f k) ∧ ∃ j, wr = w.more j)
    case atStart => exact ⟨0, rfl, rfl, by show _ = Value.int .i64 (if 0 ≤ f ∧ f < ((0 : Nat) : Int) then f + 1 else 0); rw [if_neg (by omega)], Below.junk (by repeat (first | (with_reducible exact Below.refl _ _) | (with_reducible refine Below.allocS ?_ _) | (with_reducible refine Below.moreS ?_ _) | (with_reducible refine Below.drew ?_) | (with_reducible refine below_drewN ?_ _)))⟩
    case round =>
      obtain ⟨k, hkg, rfl, rfl, j, rfl⟩ := hrel
      have HK := Lib.hid hkg
      by_cases hlt : k < 26
      · have HT := Lib.hid (HQ.out k hlt)
        clear hkg
        go_wp2_with fail
        refine (HR.out _).mono ?_
        rintro e w' ⟨gg, jj, rfl, hc, hg, rfl⟩
        have c0 := hc k hlt
        simp only [World.more_more] at c0 hg ⊢
        generalize injW.getD k [] = T at c0 HT
        clear hc
        cases e1 : (T == s)
        · have hw : wantF f (k + 1) = wantF f k := by
            have hne : ¬ f = (k : Int) := fun h => by have := HT.out.2 h; rw [this] at e1; simp at e1
            unfold wantF
            by_cases hp : 0 ≤ f ∧ f < (k : Int)
            · rw [if_pos hp, if_pos (by omega)]
            · rw [if_neg hp, if_neg (by omega)]
          have HW := Lib.hid hw
          clear hw
          go_wp2_with fail
          go_roundg (26 - (k + 1))
          case measure => have := HK.out; omega
          case rel => exact ⟨k + 1, by have := HK.out; omega, by go_num, by rw [HW.out], Below.junk (by repeat (first | (with_reducible exact Below.refl _ _) | (with_reducible refine Below.allocS ?_ _) | (with_reducible refine Below.moreS ?_ _) | (with_reducible refine Below.drew ?_) | (with_reducible refine below_drewN ?_ _)))⟩
        · have hfk : f = (k : Int) := HT.out.1 (eq_of_beq e1)
          have hw : wantF f (k + 1) = (k : Int) + 1 := by unfold wantF; rw [if_pos (by omega), hfk]
          have HW := Lib.hid hw
          have hw1 : IntKind.i64.wrap ((k : Int) + 1) = (k : Int) + 1 := IntWalk.i64_in _ (by omega)
          clear hw hfk
          go_wp2_with fail
          go_roundg (26 - (k + 1))
          case measure => have := HK.out; omega
          case rel => exact ⟨k + 1, by have := HK.out; omega, by go_num, by rw [HW.out], Below.junk (by repeat (first | (with_reducible exact Below.refl _ _) | (with_reducible refine Below.allocS ?_ _) | (with_reducible refine Below.moreS ?_ _) | (with_reducible refine Below.drew ?_) | (with_reducible refine below_drewN ?_ _)))⟩
      · have hwant : wantF f k = f + 1 := by
          unfold wantF
          by_cases hp : 0 ≤ f
          · rw [if_pos (by omega)]
          · rw [if_neg (by omega)]; omega
        rw [hwant]
        have e2 : (decide (0 ≤ f) == decide (0 < f + 1)) = true := by
          by_cases hp : 0 ≤ f
          · rw [decide_eq_true hp, decide_eq_true (by omega)]; rfl
          · rw [decide_eq_false hp, decide_eq_false (by omega)]; rfl
        have hlt' : ¬ (k : Int) < 26 := by omega
        clear hwant hkg HK HQ HR
        by_cases hp : 0 ≤ f
        · have hp1 : (0 : Int) < f + 1 := by omega
          go_wp2_with (first
            | (go_at_call 6; (with_reducible refine (HB.out _ (by repeat (first | (with_reducible exact Below.refl _ _) | (with_reducible refine Below.allocS ?_ _) | (with_reducible refine Below.moreS ?_ _) | (with_reducible refine Below.drew ?_) | (with_reducible refine below_drewN ?_ _)))).mono ?_); rintro e w' ⟨rfl, j, rfl⟩)
            | (go_at_call 7; (with_reducible refine (HN.out _ (by repeat (first | (with_reducible exact Below.refl _ _) | (with_reducible refine Below.allocS ?_ _) | (with_reducible refine Below.moreS ?_ _) | (with_reducible refine Below.drew ?_) | (with_reducible refine below_drewN ?_ _)))).mono ?_); rintro e w' ⟨rfl, j, rfl⟩)
            | (go_at_call 4; (with_reducible refine (HAL.out _ (by repeat (first | (with_reducible exact Below.refl _ _) | (with_reducible refine Below.allocS ?_ _) | (with_reducible refine Below.moreS ?_ _) | (with_reducible refine Below.drew ?_) | (with_reducible refine below_drewN ?_ _)))).mono ?_); rintro e w' ⟨rfl, j, rfl⟩))
          go_ret
          exact ⟨rfl, Below.junk (by repeat (first | (with_reducible exact Below.refl _ _) | (with_reducible refine Below.allocS ?_ _) | (with_reducible refine Below.moreS ?_ _) | (with_reducible refine Below.drew ?_) | (with_reducible refine below_drewN ?_ _)))⟩
        · have hp1 : ¬ (0 : Int) < f + 1 := by omega
          go_wp2_with (first
            | (go_at_call 6; (with_reducible refine (HB.out _ (by repeat (first | (with_reducible exact Below.refl _ _) | (with_reducible refine Below.allocS ?_ _) | (with_reducible refine Below.moreS ?_ _) | (with_reducible refine Below.drew ?_) | (with_reducible refine below_drewN ?_ _)))).mono ?_); rintro e w' ⟨rfl, j, rfl⟩)
            | (go_at_call 7; (with_reducible refine (HN.out _ (by repeat (first | (with_reducible exact Below.refl _ _) | (with_reducible refine Below.allocS ?_ _) | (with_reducible refine Below.moreS ?_ _) | (with_reducible refine Below.drew ?_) | (with_reducible refine below_drewN ?_ _)))).mono ?_); rintro e w' ⟨rfl, j, rfl⟩)
            | (go_at_call 4; (with_reducible refine (HAL.out _ (by repeat (first | (with_reducible exact Below.refl _ _) | (with_reducible refine Below.allocS ?_ _) | (with_reducible refine Below.moreS ?_ _) | (with_reducible refine Below.drew ?_) | (with_reducible refine below_drewN ?_ _)))).mono ?_); rintro e w' ⟨rfl, j, rfl⟩))
          go_ret
          exact ⟨rfl, Below.junk (by repeat (first | (with_reducible exact Below.refl _ _) | (with_reducible refine Below.allocS ?_ _) | (with_reducible refine Below.moreS ?_ _) | (with_reducible refine Below.drew ?_) | (with_reducible refine below_drewN ?_ _)))⟩
  · have hnm : injN kind = [] := by unfold injN; rw [if_pos (by omega)]
    rw [hnm] at HN
    have hsplit : kind < 1 ∨ 26 < kind := by omega
    clear hnm hin
    rcases hsplit with k1 | k1
    · have k2 : ¬ 1 ≤ kind := by omega
      go_enter Tryd.func3, Tryd.ntmps3
      go_wp2_with fail
      go_loopg [6, 7] 26 (fun g v i wr => ∃ k : Nat, k + g = 26 ∧ i = .int .i64 k ∧ v = .int .i64 (wantF f k) ∧ ∃ j, wr = w.more j)
      case atStart => exact ⟨0, rfl, rfl, by show _ = Value.int .i64 (if 0 ≤ f ∧ f < ((0 : Nat) : Int) then f + 1 else 0); rw [if_neg (by omega)], Below.junk (by repeat (first | (with_reducible exact Below.refl _ _) | (with_reducible refine Below.allocS ?_ _) | (with_reducible refine Below.moreS ?_ _) | (with_reducible refine Below.drew ?_) | (with_reducible refine below_drewN ?_ _)))⟩
      case round =>
        obtain ⟨k, hkg, rfl, rfl, j, rfl⟩ := hrel
        have HK := Lib.hid hkg
        by_cases hlt : k < 26
        · have HT := Lib.hid (HQ.out k hlt)
          clear hkg
          go_wp2_with fail
          refine (HR.out _).mono ?_
          rintro e w' ⟨gg, jj, rfl, hc, hg, rfl⟩
          have c0 := hc k hlt
          simp only [World.more_more] at c0 hg ⊢
          generalize injW.getD k [] = T at c0 HT
          clear hc
          cases e1 : (T == s)
          · have hw : wantF f (k + 1) = wantF f k := by
              have hne : ¬ f = (k : Int) := fun h => by have := HT.out.2 h; rw [this] at e1; simp at e1
              unfold wantF
              by_cases hp : 0 ≤ f ∧ f < (k : Int)
              · rw [if_pos hp, if_pos (by omega)]
              · rw [if_neg hp, if_neg (by omega)]
            have HW := Lib.hid hw
            clear hw
            go_wp2_with fail
            go_roundg (26 - (k + 1))
            case measure => have := HK.out; omega
            case rel => exact ⟨k + 1, by have := HK.out; omega, by go_num, by rw [HW.out], Below.junk (by repeat (first | (with_reducible exact Below.refl _ _) | (with_reducible refine Below.allocS ?_ _) | (with_reducible refine Below.moreS ?_ _) | (with_reducible refine Below.drew ?_) | (with_reducible refine below_drewN ?_ _)))⟩
          · have hfk : f = (k : Int) := HT.out.1 (eq_of_beq e1)
            have hw : wantF f (k + 1) = (k : Int) + 1 := by unfold wantF; rw [if_pos (by omega), hfk]
            have HW := Lib.hid hw
            have hw1 : IntKind.i64.wrap ((k : Int) + 1) = (k : Int) + 1 := IntWalk.i64_in _ (by omega)
            clear hw hfk
            go_wp2_with fail
            go_roundg (26 - (k + 1))
            case measure => have := HK.out; omega
            case rel => exact ⟨k + 1, by have := HK.out; omega, by go_num, by rw [HW.out], Below.junk (by repeat (first | (with_reducible exact Below.refl _ _) | (with_reducible refine Below.allocS ?_ _) | (with_reducible refine Below.moreS ?_ _) | (with_reducible refine Below.drew ?_) | (with_reducible refine below_drewN ?_ _)))⟩
        · have hwant : wantF f k = f + 1 := by
            unfold wantF
            by_cases hp : 0 ≤ f
            · rw [if_pos (by omega)]
            · rw [if_neg (by omega)]; omega
          rw [hwant]
          have e2 : (decide (0 ≤ f) == decide (0 < f + 1)) = true := by
            by_cases hp : 0 ≤ f
            · rw [decide_eq_true hp, decide_eq_true (by omega)]; rfl
            · rw [decide_eq_false hp, decide_eq_false (by omega)]; rfl
          have hlt' : ¬ (k : Int) < 26 := by omega
          clear hwant hkg HK HQ HR
          by_cases hp : 0 ≤ f
          · have hp1 : (0 : Int) < f + 1 := by omega
            go_wp2_with (first
              | (go_at_call 6; (with_reducible refine (HB.out _ (by repeat (first | (with_reducible exact Below.refl _ _) | (with_reducible refine Below.allocS ?_ _) | (with_reducible refine Below.moreS ?_ _) | (with_reducible refine Below.drew ?_) | (with_reducible refine below_drewN ?_ _)))).mono ?_); rintro e w' ⟨rfl, j, rfl⟩)
              | (go_at_call 7; (with_reducible refine (HN.out _ (by repeat (first | (with_reducible exact Below.refl _ _) | (with_reducible refine Below.allocS ?_ _) | (with_reducible refine Below.moreS ?_ _) | (with_reducible refine Below.drew ?_) | (with_reducible refine below_drewN ?_ _)))).mono ?_); rintro e w' ⟨rfl, j, rfl⟩)
              | (go_at_call 4; (with_reducible refine (HAL.out _ (by repeat (first | (with_reducible exact Below.refl _ _) | (with_reducible refine Below.allocS ?_ _) | (with_reducible refine Below.moreS ?_ _) | (with_reducible refine Below.drew ?_) | (with_reducible refine below_drewN ?_ _)))).mono ?_); rintro e w' ⟨rfl, j, rfl⟩))
            go_ret
            exact ⟨rfl, Below.junk (by repeat (first | (with_reducible exact Below.refl _ _) | (with_reducible refine Below.allocS ?_ _) | (with_reducible refine Below.moreS ?_ _) | (with_reducible refine Below.drew ?_) | (with_reducible refine below_drewN ?_ _)))⟩
          · have hp1 : ¬ (0 : Int) < f + 1 := by omega
            go_wp2_with (first
              | (go_at_call 6; (with_reducible refine (HB.out _ (by repeat (first | (with_reducible exact Below.refl _ _) | (with_reducible refine Below.allocS ?_ _) | (with_reducible refine Below.moreS ?_ _) | (with_reducible refine Below.drew ?_) | (with_reducible refine below_drewN ?_ _)))).mono ?_); rintro e w' ⟨rfl, j, rfl⟩)
              | (go_at_call 7; (with_reducible refine (HN.out _ (by repeat (first | (with_reducible exact Below.refl _ _) | (with_reducible refine Below.allocS ?_ _) | (with_reducible refine Below.moreS ?_ _) | (with_reducible refine Below.drew ?_) | (with_reducible refine below_drewN ?_ _)))).mono ?_); rintro e w' ⟨rfl, j, rfl⟩)
              | (go_at_call 4; (with_reducible refine (HAL.out _ (by repeat (first | (with_reducible exact Below.refl _ _) | (with_reducible refine Below.allocS ?_ _) | (with_reducible refine Below.moreS ?_ _) | (with_reducible refine Below.drew ?_) | (with_reducible refine below_drewN ?_ _)))).mono ?_); rintro e w' ⟨rfl, j, rfl⟩))
            go_ret
            exact ⟨rfl, Below.junk (by repeat (first | (with_reducible exact Below.refl _ _) | (with_reducible refine Below.allocS ?_ _) | (with_reducible refine Below.moreS ?_ _) | (with_reducible refine Below.drew ?_) | (with_reducible refine below_drewN ?_ _)))⟩
    · have k2 : 1 ≤ kind := by omega
      have k3 : ¬ kind ≤ 26 := by omega
      go_enter Tryd.func3, Tryd.ntmps3
      go_wp2_with fail
      go_loopg [6, 7] 26 (fun g v i wr => ∃ k : Nat, k + g = 26 ∧ i = .int .i64 k ∧ v = .int .i64 (wantF f k) ∧ ∃ j, wr = w.more j)
      case atStart => exact ⟨0, rfl, rfl, by show _ = Value.int .i64 (if 0 ≤ f ∧ f < ((0 : Nat) : Int) then f + 1 else 0); rw [if_neg (by omega)], Below.junk (by repeat (first | (with_reducible exact Below.refl _ _) | (with_reducible refine Below.allocS ?_ _) | (with_reducible refine Below.moreS ?_ _) | (with_reducible refine Below.drew ?_) | (with_reducible refine below_drewN ?_ _)))⟩
      case round =>
        obtain ⟨k, hkg, rfl, rfl, j, rfl⟩ := hrel
        have HK := Lib.hid hkg
        by_cases hlt : k < 26
        · have HT := Lib.hid (HQ.out k hlt)
          clear hkg
          go_wp2_with fail
          refine (HR.out _).mono ?_
          rintro e w' ⟨gg, jj, rfl, hc, hg, rfl⟩
          have c0 := hc k hlt
          simp only [World.more_more] at c0 hg ⊢
          generalize injW.getD k [] = T at c0 HT
          clear hc
          cases e1 : (T == s)
          · have hw : wantF f (k + 1) = wantF f k := by
              have hne : ¬ f = (k : Int) := fun h => by have := HT.out.2 h; rw [this] at e1; simp at e1
              unfold wantF
              by_cases hp : 0 ≤ f ∧ f < (k : Int)
              · rw [if_pos hp, if_pos (by omega)]
              · rw [if_neg hp, if_neg (by omega)]
            have HW := Lib.hid hw
            clear hw
            go_wp2_with fail
            go_roundg (26 - (k + 1))
            case measure => have := HK.out; omega
            case rel => exact ⟨k + 1, by have := HK.out; omega, by go_num, by rw [HW.out], Below.junk (by repeat (first | (with_reducible exact Below.refl _ _) | (with_reducible refine Below.allocS ?_ _) | (with_reducible refine Below.moreS ?_ _) | (with_reducible refine Below.drew ?_) | (with_reducible refine below_drewN ?_ _)))⟩
          · have hfk : f = (k : Int) := HT.out.1 (eq_of_beq e1)
            have hw : wantF f (k + 1) = (k : Int) + 1 := by unfold wantF; rw [if_pos (by omega), hfk]
            have HW := Lib.hid hw
            have hw1 : IntKind.i64.wrap ((k : Int) + 1) = (k : Int) + 1 := IntWalk.i64_in _ (by omega)
            clear hw hfk
            go_wp2_with fail
            go_roundg (26 - (k + 1))
            case measure => have := HK.out; omega
            case rel => exact ⟨k + 1, by have := HK.out; omega, by go_num, by rw [HW.out], Below.junk (by repeat (first | (with_reducible exact Below.refl _ _) | (with_reducible refine Below.allocS ?_ _) | (with_reducible refine Below.moreS ?_ _) | (with_reducible refine Below.drew ?_) | (with_reducible refine below_drewN ?_ _)))⟩
        · have hwant : wantF f k = f + 1 := by
            unfold wantF
            by_cases hp : 0 ≤ f
            · rw [if_pos (by omega)]
            · rw [if_neg (by omega)]; omega
          rw [hwant]
          have e2 : (decide (0 ≤ f) == decide (0 < f + 1)) = true := by
            by_cases hp : 0 ≤ f
            · rw [decide_eq_true hp, decide_eq_true (by omega)]; rfl
            · rw [decide_eq_false hp, decide_eq_false (by omega)]; rfl
          have hlt' : ¬ (k : Int) < 26 := by omega
          clear hwant hkg HK HQ HR
          by_cases hp : 0 ≤ f
          · have hp1 : (0 : Int) < f + 1 := by omega
            go_wp2_with (first
              | (go_at_call 6; (with_reducible refine (HB.out _ (by repeat (first | (with_reducible exact Below.refl _ _) | (with_reducible refine Below.allocS ?_ _) | (with_reducible refine Below.moreS ?_ _) | (with_reducible refine Below.drew ?_) | (with_reducible refine below_drewN ?_ _)))).mono ?_); rintro e w' ⟨rfl, j, rfl⟩)
              | (go_at_call 7; (with_reducible refine (HN.out _ (by repeat (first | (with_reducible exact Below.refl _ _) | (with_reducible refine Below.allocS ?_ _) | (with_reducible refine Below.moreS ?_ _) | (with_reducible refine Below.drew ?_) | (with_reducible refine below_drewN ?_ _)))).mono ?_); rintro e w' ⟨rfl, j, rfl⟩)
              | (go_at_call 4; (with_reducible refine (HAL.out _ (by repeat (first | (with_reducible exact Below.refl _ _) | (with_reducible refine Below.allocS ?_ _) | (with_reducible refine Below.moreS ?_ _) | (with_reducible refine Below.drew ?_) | (with_reducible refine below_drewN ?_ _)))).mono ?_); rintro e w' ⟨rfl, j, rfl⟩))
            go_ret
            exact ⟨rfl, Below.junk (by repeat (first | (with_reducible exact Below.refl _ _) | (with_reducible refine Below.allocS ?_ _) | (with_reducible refine Below.moreS ?_ _) | (with_reducible refine Below.drew ?_) | (with_reducible refine below_drewN ?_ _)))⟩
          · have hp1 : ¬ (0 : Int) < f + 1 := by omega
            go_wp2_with (first
              | (go_at_call 6; (with_reducible refine (HB.out _ (by repeat (first | (with_reducible exact Below.refl _ _) | (with_reducible refine Below.allocS ?_ _) | (with_reducible refine Below.moreS ?_ _) | (with_reducible refine Below.drew ?_) | (with_reducible refine below_drewN ?_ _)))).mono ?_); rintro e w' ⟨rfl, j, rfl⟩)
              | (go_at_call 7; (with_reducible refine (HN.out _ (by repeat (first | (with_reducible exact Below.refl _ _) | (with_reducible refine Below.allocS ?_ _) | (with_reducible refine Below.moreS ?_ _) | (with_reducible refine Below.drew ?_) | (with_reducible refine below_drewN ?_ _)))).mono ?_); rintro e w' ⟨rfl, j, rfl⟩)
              | (go_at_call 4; (with_reducible refine (HAL.out _ (by repeat (first | (with_reducible exact Below.refl _ _) | (with_reducible refine Below.allocS ?_ _) | (with_reducible refine Below.moreS ?_ _) | (with_reducible refine Below.drew ?_) | (with_reducible refine below_drewN ?_ _)))).mono ?_); rintro e w' ⟨rfl, j, rfl⟩))
            go_ret
            exact ⟨rfl, Below.junk (by repeat (first | (with_reducible exact Below.refl _ _) | (with_reducible refine Below.allocS ?_ _) | (with_reducible refine Below.moreS ?_ _) | (with_reducible refine Below.drew ?_) | (with_reducible refine below_drewN ?_ _)))⟩
end Go.Proofs.YtgghddhdkfocoaaDoor
