/-
  Faults: codes and their names, both roads.
-/
import Derived.Test.YthbflllflnnipaaGreatDoorMa
import Derived.Test.YthbflllflnnipaaGreatDoorDig6
import Derived.Test.YthbflllflnnipaaGreatDoorDig4
namespace Go.Proofs.YthbflllflnnipaaGreatDoor
set_option linter.unusedSimpArgs false
set_option linter.unusedVariables false
set_option linter.unusedSectionVars false
open Go.ChangeShapes Go.WideShapes Go.ChangeAt Go.RowKit Go.Deep Go.Shelf

def NamesM (n : Nat) (f : Nat → List UInt8) (w : World) (e : Ending) (w' : World) : Prop := ∃ g j, e = .returned (.slice (some ⟨g, 0, none⟩) n n) ∧ (∀ k, k < n → w'.cell? ⟨g, k, none⟩ = some (bstr (f k))) ∧ g < w'.heap.size ∧ w' = w.more j
theorem names_more {n : Nat} {f : Nat → List UInt8} {w : World} {t : TypeId} {cs : Array Value} (h : ∀ k, k < n → cs[k]? = some (bstr (f k))) : NamesM n f w (.returned (.slice (some ⟨w.heap.size, 0, none⟩) n n)) (w.alloc (.cells cs t)) := by
  obtain ⟨j, hj⟩ : ∃ j, w.alloc (.cells cs t) = w.more j := Below.junk (by repeat (first | (with_reducible exact Below.refl _ _) | (with_reducible refine Below.allocS ?_ _) | (with_reducible refine Below.moreS ?_ _) | (with_reducible refine Below.drew ?_) | (with_reducible refine below_drewN ?_ _)))
  exact ⟨_, j, rfl, fun k hk => (Blk.new w t cs).cell k |>.trans (h k hk), by simp, hj⟩
set_option maxRecDepth 100000 in
theorem ref09_names (w : World) : Calls Tryz.prog 139 #[] w (NamesM 14 cdName w) := by
  go_enter Tryz.func139, Tryz.ntmps139
  go_wp2_with fail
  go_ret
  refine names_more (cs := (cdNames.map bstr).toArray) fun k hk => ?_
  simp [cdName_lit ⟨k, hk⟩]

def FN (w : World) : Prop := ∀ k, k < 14 → w.cell? ⟨1, k, none⟩ = some (bstr (cdName k))
theorem FN.below {w w' : World} (h : FN w) (hb : Below w.heap.size w w') : FN w' :=
  fun k hk => (hb.cell (p := ⟨1, k, none⟩) (cell_lt (h 0 (by omega)))).trans (h k hk)
theorem FN.more {w : World} (h : FN w) (j : Junk) : FN (w.more j) := h.below (Below.moreS (Below.refl w.heap.size w) j)

set_option maxHeartbeats 2000000 in
set_option maxRecDepth 100000 in
theorem faults_CodeName_no (t : Int) (h : t < 0 ∨ 4294967295 < t) (w : World) : Calls Tryz.prog 107 #[.int .i64 t] w fun e w' => e = .returned (bstr (codeN t)) ∧ ∃ j, w' = w.more j := by
  rw [codeN_out h]
  rcases h with h | h
  all_goals
    go_enter Tryz.func107, Tryz.ntmps107
    go_wp2_with fail
    go_ret
    exact ⟨rfl, Below.junk (by repeat (first | (with_reducible exact Below.refl _ _) | (with_reducible refine Below.allocS ?_ _) | (with_reducible refine Below.moreS ?_ _) | (with_reducible refine Below.drew ?_) | (with_reducible refine below_drewN ?_ _)))⟩
set_option maxHeartbeats 2000000 in
set_option maxRecDepth 100000 in
theorem faults_CodeName_lo (k : Nat) (hk : k < 14) (w : World) (hE : FN w) : Calls Tryz.prog 107 #[.int .i64 k] w fun e w' => e = .returned (bstr (codeN k)) ∧ ∃ j, w' = w.more j := by
  rw [codeN_lo (by omega) (by omega)]
  have c0 : w.cell? ⟨1, k, none⟩ = some (bstr (cdAt k)) := hE k hk
  generalize cdAt (k : Int) = T at c0 ⊢
  clear hE
  go_enter Tryz.func107, Tryz.ntmps107
  go_wp2_with fail
  go_ret
  exact ⟨rfl, Below.junk (by repeat (first | (with_reducible exact Below.refl _ _) | (with_reducible refine Below.allocS ?_ _) | (with_reducible refine Below.moreS ?_ _) | (with_reducible refine Below.drew ?_) | (with_reducible refine below_drewN ?_ _)))⟩
set_option maxHeartbeats 2000000 in
set_option maxRecDepth 100000 in
theorem faults_CodeName_hi (t : Int) (h0 : 14 ≤ t) (h1 : t ≤ 4294967295) (w : World) (hE : Env w) : Calls Tryz.prog 107 #[.int .i64 t] w fun e w' => e = .returned (bstr (codeN t)) ∧ ∃ j, w' = w.more j := by
  rw [codeN_hi h0 h1]
  have HT : Hid (∀ W, Env W → Calls Tryz.prog 61 #[.int .i64 t] W fun e w' => e = .returned (bstr (Lib.itoa t)) ∧ ∃ j, w' = W.more j) := fun W hW => digits_Text t (by omega) (by omega) W hW
  have HE := Lib.hid hE
  generalize Lib.itoa t = T at HT ⊢
  have g1 : ¬ t < 0 := by omega
  have g2 : ¬ 4294967295 < t := by omega
  have g3 : ¬ t < 14 := by omega
  clear hE
  go_enter Tryz.func107, Tryz.ntmps107
  go_wp2_with (go_at_call 61; (with_reducible refine (HT.out _ (HE.out.below (by repeat (first | (with_reducible exact Below.refl _ _) | (with_reducible refine Below.allocS ?_ _) | (with_reducible refine Below.moreS ?_ _) | (with_reducible refine Below.drew ?_) | (with_reducible refine below_drewN ?_ _))))).mono ?_); rintro e w' ⟨rfl, j, rfl⟩)
  go_ret
  exact ⟨rfl, Below.junk (by repeat (first | (with_reducible exact Below.refl _ _) | (with_reducible refine Below.allocS ?_ _) | (with_reducible refine Below.moreS ?_ _) | (with_reducible refine Below.drew ?_) | (with_reducible refine below_drewN ?_ _)))⟩
theorem faults_CodeName (t : Int) (w : World) (hE : Env w) (hF : FN w) : Calls Tryz.prog 107 #[.int .i64 t] w fun e w' => e = .returned (bstr (codeN t)) ∧ ∃ j, w' = w.more j := by
  by_cases h : t < 0 ∨ 4294967295 < t
  · exact faults_CodeName_no t h w
  · by_cases h14 : t < 14
    · obtain ⟨k, rfl⟩ : ∃ k : Nat, t = (k : Int) := ⟨t.toNat, by omega⟩
      exact faults_CodeName_lo k (by omega) w hF
    · exact faults_CodeName_hi t (by omega) (by omega) w hE

set_option maxHeartbeats 2000000 in
set_option maxRecDepth 100000 in
theorem ref09_CodeName (t : Int) (w : World) : Calls Tryz.prog 122 #[.int .i64 t] w fun e w' => e = .returned (bstr (codeN t)) ∧ ∃ j, w' = w.more j := by
  by_cases h : t < 0 ∨ 4294967295 < t
  · rw [codeN_out h]
    rcases h with h | h
    · go_enter Tryz.func122, Tryz.ntmps122
      go_wp2_with fail
      go_ret
      exact ⟨rfl, Below.junk (by repeat (first | (with_reducible exact Below.refl _ _) | (with_reducible refine Below.allocS ?_ _) | (with_reducible refine Below.moreS ?_ _) | (with_reducible refine Below.drew ?_) | (with_reducible refine below_drewN ?_ _)))⟩
    · have h1 : 4294967296 ≤ t := by omega
      have h2 : ¬ t < 0 := by omega
      go_enter Tryz.func122, Tryz.ntmps122
      go_wp2_with fail
      go_ret
      exact ⟨rfl, Below.junk (by repeat (first | (with_reducible exact Below.refl _ _) | (with_reducible refine Below.allocS ?_ _) | (with_reducible refine Below.moreS ?_ _) | (with_reducible refine Below.drew ?_) | (with_reducible refine below_drewN ?_ _)))⟩
  · have h0 : ¬ t < 0 := by omega
    have h1 : ¬ 4294967296 ≤ t := by omega
    by_cases h14 : t < 14
    · obtain ⟨k, rfl⟩ : ∃ k : Nat, t = (k : Int) := ⟨t.toNat, by omega⟩
      rw [codeN_lo (by omega) h14]
      generalize hT : cdAt (k : Int) = T
      have HN := Lib.hid (ref09_names w)
      have hk : k < 14 := by omega
      clear h
      go_enter Tryz.func122, Tryz.ntmps122
      go_wp2_with fail
      refine HN.out.mono ?_
      rintro e w' ⟨g, j, rfl, hc, hg, rfl⟩
      have c0 : (w.more j).cell? ⟨g, k, none⟩ = some (bstr T) := by rw [← hT]; exact hc k hk
      clear hc hk hT
      go_wp2_with fail
      go_ret
      exact ⟨rfl, Below.junk (by repeat (first | (with_reducible exact Below.refl _ _) | (with_reducible refine Below.allocS ?_ _) | (with_reducible refine Below.moreS ?_ _) | (with_reducible refine Below.drew ?_) | (with_reducible refine below_drewN ?_ _)))⟩
    · rw [codeN_hi (by omega) (by omega)]
      have HT : Hid (∀ W, Calls Tryz.prog 86 #[.int .i64 t] W fun e w' => e = .returned (bstr (Lib.itoa t)) ∧ W = w') := fun W => ref03_Text t (by omega) (by omega) W
      generalize Lib.itoa t = T at HT ⊢
      clear h
      go_enter Tryz.func122, Tryz.ntmps122
      go_wp2_with (go_at_call 86; (with_reducible refine (HT.out _).mono ?_); rintro e w' ⟨rfl, rfl⟩)
      go_ret
      exact ⟨rfl, Below.junk (by repeat (first | (with_reducible exact Below.refl _ _) | (with_reducible refine Below.allocS ?_ _) | (with_reducible refine Below.moreS ?_ _) | (with_reducible refine Below.drew ?_) | (with_reducible refine below_drewN ?_ _)))⟩
theorem scan_stepC (f : Int → List UInt8) (s : List UInt8) (g : Nat) (t : Int) : scanF f s (g + 1) t = if f t = s then (t, true) else scanF f s g (t + 1) := rfl
theorem code_hit {s : List UInt8} {t : Int} (h : scanF cdAt s 14 0 = (t, true)) : codeOf s = (t, true) := by unfold codeOf; rw [h, if_pos rfl]
theorem code_miss {s : List UInt8} (h : scanF cdAt s 14 0 = (0, false)) : codeOf s = if (readF s).2 = true ∧ 14 ≤ (readF s).1 ∧ (readF s).1 ≤ 4294967295 then ((readF s).1, true) else (0, false) := by unfold codeOf; rw [h, if_neg (by simp)]

set_option maxHeartbeats 4000000 in
set_option maxRecDepth 100000 in
theorem faults_Code (s : List UInt8) (hs : s.length ≤ 1048576) (w : World) (hE : Env w) (hF : FN w) : Calls Tryz.prog 117 #[bstr s] w fun e w' => e = .returned (.tuple #[.int .i64 (codeOf s).1, .bool (codeOf s).2]) ∧ ∃ j, w' = w.more j := by
  have HH : Hid (∀ t, scanF cdAt s 14 0 = (t, true) → codeOf s = (t, true)) := fun t h => code_hit h
  have HM : Hid (scanF cdAt s 14 0 = (0, false) → codeOf s = if (readF s).2 = true ∧ 14 ≤ (readF s).1 ∧ (readF s).1 ≤ 4294967295 then ((readF s).1, true) else (0, false)) := code_miss
  have HR : Hid (∀ W, Env W → Calls Tryz.prog 85 #[bstr s] W fun e w' => e = .returned (.tuple #[.int .i64 (readF s).1, .bool (readF s).2]) ∧ ∃ j, w' = W.more j) := fun W hW => digits_Read s hs W hW
  have HF : Hid (scanF cdAt s 14 0 = scanF cdAt s 14 0) := rfl
  generalize hS : scanF cdAt s 14 0 = S at HH HM
  rw [hS] at HF
  generalize readF s = q at HM HR
  obtain ⟨n, is⟩ := q
  generalize codeOf s = R at HH HM ⊢
  obtain ⟨r1, r2⟩ := R
  have HE := Lib.hid hE
  have HN := Lib.hid hF
  have HS0 := Lib.hid hS
  clear hE hF hS
  go_enter Tryz.func117, Tryz.ntmps117
  go_wp2_with fail
  go_loopg [7] 14 (fun g i wr => ∃ (k q : Nat), q = g ∧ k + q = 14 ∧ i = .int .i64 k ∧ Hid (S = scanF cdAt s q k) ∧ ∃ j, wr = w.more j)
  case atStart => exact ⟨0, _, rfl, by omega, rfl, HS0.out.symm, Below.junk (by repeat (first | (with_reducible exact Below.refl _ _) | (with_reducible refine Below.allocS ?_ _) | (with_reducible refine Below.moreS ?_ _) | (with_reducible refine Below.drew ?_) | (with_reducible refine below_drewN ?_ _)))⟩
  case round =>
    obtain ⟨k, q, hq, hkq, rfl, HS, j, rfl⟩ := hrel
    have HQ := Lib.hid hq
    have HK := Lib.hid hkq
    clear hq
    by_cases hlt : k < 14
    · obtain ⟨g', rfl⟩ : ∃ g', q = g' + 1 := ⟨q - 1, by omega⟩
      have c0 : w.cell? ⟨1, k, none⟩ = some (bstr (cdAt k)) := HN.out k hlt
      have hsz := cell_lt (HN.out 0 (by omega))
      have HT : Hid (S = if cdAt k = s then ((k : Int), true) else scanF cdAt s g' (k + 1)) := by show _ = _; rw [HS.out, scan_stepC]
      generalize cdAt (k : Int) = T at c0 HT
      clear HS hkq
      cases e1 : (T == s)
      · have HU : Hid (S = scanF cdAt s g' (k + 1)) := by show _ = _; rw [HT.out, if_neg (by simpa using e1)]
        clear HT
        go_wp2_with fail
        go_roundg g'
        case measure => have := HQ.out; omega
        case rel => exact ⟨k + 1, _, rfl, by have := HK.out; omega, by first | rfl | go_num, HU, Below.junk (by repeat (first | (with_reducible exact Below.refl _ _) | (with_reducible refine Below.allocS ?_ _) | (with_reducible refine Below.moreS ?_ _) | (with_reducible refine Below.drew ?_) | (with_reducible refine below_drewN ?_ _)))⟩
      · have hr : (r1, r2) = ((k : Int), true) := HH.out k (by rw [HT.out, if_pos (by simpa using e1)])
        obtain ⟨rfl, rfl⟩ := Prod.mk.inj hr
        clear HT hr
        go_wp2_with fail
        go_ret2
        exact ⟨rfl, Below.junk (by repeat (first | (with_reducible exact Below.refl _ _) | (with_reducible refine Below.allocS ?_ _) | (with_reducible refine Below.moreS ?_ _) | (with_reducible refine Below.drew ?_) | (with_reducible refine below_drewN ?_ _)))⟩
    · obtain rfl : q = 0 := by omega
      have HM2 := Lib.hid (HM.out HS.out)
      clear HS HM HH hkq
      cases is
      · have hr : (r1, r2) = (0, false) := by rw [HM2.out, if_neg (by simp)]
        obtain ⟨rfl, rfl⟩ := Prod.mk.inj hr
        clear HM2 hr
        go_wp2_with (go_at_call 85; (with_reducible refine (HR.out _ (HE.out.below (by repeat (first | (with_reducible exact Below.refl _ _) | (with_reducible refine Below.allocS ?_ _) | (with_reducible refine Below.moreS ?_ _) | (with_reducible refine Below.drew ?_) | (with_reducible refine below_drewN ?_ _))))).mono ?_); rintro e w' ⟨rfl, j, rfl⟩)
        go_ret2
        exact ⟨rfl, Below.junk (by repeat (first | (with_reducible exact Below.refl _ _) | (with_reducible refine Below.allocS ?_ _) | (with_reducible refine Below.moreS ?_ _) | (with_reducible refine Below.drew ?_) | (with_reducible refine below_drewN ?_ _)))⟩
      · by_cases h14 : n < 14
        · have hr : (r1, r2) = (0, false) := by rw [HM2.out, if_neg (by simp; omega)]
          obtain ⟨rfl, rfl⟩ := Prod.mk.inj hr
          clear HM2 hr
          go_wp2_with (go_at_call 85; (with_reducible refine (HR.out _ (HE.out.below (by repeat (first | (with_reducible exact Below.refl _ _) | (with_reducible refine Below.allocS ?_ _) | (with_reducible refine Below.moreS ?_ _) | (with_reducible refine Below.drew ?_) | (with_reducible refine below_drewN ?_ _))))).mono ?_); rintro e w' ⟨rfl, j, rfl⟩)
          go_ret2
          exact ⟨rfl, Below.junk (by repeat (first | (with_reducible exact Below.refl _ _) | (with_reducible refine Below.allocS ?_ _) | (with_reducible refine Below.moreS ?_ _) | (with_reducible refine Below.drew ?_) | (with_reducible refine below_drewN ?_ _)))⟩
        · by_cases hbig : 4294967295 < n
          · have hr : (r1, r2) = (0, false) := by rw [HM2.out, if_neg (by simp; omega)]
            obtain ⟨rfl, rfl⟩ := Prod.mk.inj hr
            clear HM2 hr
            go_wp2_with (go_at_call 85; (with_reducible refine (HR.out _ (HE.out.below (by repeat (first | (with_reducible exact Below.refl _ _) | (with_reducible refine Below.allocS ?_ _) | (with_reducible refine Below.moreS ?_ _) | (with_reducible refine Below.drew ?_) | (with_reducible refine below_drewN ?_ _))))).mono ?_); rintro e w' ⟨rfl, j, rfl⟩)
            go_ret2
            exact ⟨rfl, Below.junk (by repeat (first | (with_reducible exact Below.refl _ _) | (with_reducible refine Below.allocS ?_ _) | (with_reducible refine Below.moreS ?_ _) | (with_reducible refine Below.drew ?_) | (with_reducible refine below_drewN ?_ _)))⟩
          · have hr : (r1, r2) = (n, true) := by rw [HM2.out, if_pos ⟨rfl, (by omega : 14 ≤ n), (by omega : n ≤ 4294967295)⟩]
            obtain ⟨rfl, rfl⟩ := Prod.mk.inj hr
            clear HM2 hr
            go_wp2_with (go_at_call 85; (with_reducible refine (HR.out _ (HE.out.below (by repeat (first | (with_reducible exact Below.refl _ _) | (with_reducible refine Below.allocS ?_ _) | (with_reducible refine Below.moreS ?_ _) | (with_reducible refine Below.drew ?_) | (with_reducible refine below_drewN ?_ _))))).mono ?_); rintro e w' ⟨rfl, j, rfl⟩)
            all_goals first
              | (exfalso; omega)
              | (go_ret2
                 exact ⟨rfl, Below.junk (by repeat (first | (with_reducible exact Below.refl _ _) | (with_reducible refine Below.allocS ?_ _) | (with_reducible refine Below.moreS ?_ _) | (with_reducible refine Below.drew ?_) | (with_reducible refine below_drewN ?_ _)))⟩)

set_option maxHeartbeats 4000000 in
set_option maxRecDepth 100000 in
theorem ref09_Code (s : List UInt8) (hs : s.length ≤ 1048576) (w : World) : Calls Tryz.prog 125 #[bstr s] w fun e w' => e = .returned (.tuple #[.int .i64 (codeOf s).1, .bool (codeOf s).2]) ∧ ∃ j, w' = w.more j := by
  have HH : Hid (∀ t, scanF cdAt s 14 0 = (t, true) → codeOf s = (t, true)) := fun t h => code_hit h
  have HM : Hid (scanF cdAt s 14 0 = (0, false) → codeOf s = if (readF s).2 = true ∧ 14 ≤ (readF s).1 ∧ (readF s).1 ≤ 4294967295 then ((readF s).1, true) else (0, false)) := code_miss
  have HR : Hid (∀ W, Calls Tryz.prog 93 #[bstr s] W fun e w' => e = .returned (.tuple #[.int .i64 (readF s).1, .bool (readF s).2]) ∧ W = w') := fun W => by rw [read_eq]; exact ref03_Read s hs W
  generalize hS : scanF cdAt s 14 0 = S at HH HM
  generalize readF s = q at HM HR
  obtain ⟨n, is⟩ := q
  generalize codeOf s = R at HH HM ⊢
  obtain ⟨r1, r2⟩ := R
  have HS0 := Lib.hid hS
  clear hS
  go_enter Tryz.func125, Tryz.ntmps125
  go_wp2_with fail
  go_loopg [4] 14 (fun g i wr => ∃ (k q : Nat), q = g ∧ k + q = 14 ∧ i = .int .i64 k ∧ Hid (S = scanF cdAt s q k) ∧ ∃ j, wr = w.more j)
  case atStart => exact ⟨0, _, rfl, by omega, rfl, HS0.out.symm, Below.junk (by repeat (first | (with_reducible exact Below.refl _ _) | (with_reducible refine Below.allocS ?_ _) | (with_reducible refine Below.moreS ?_ _) | (with_reducible refine Below.drew ?_) | (with_reducible refine below_drewN ?_ _)))⟩
  case round =>
    obtain ⟨k, q, hq, hkq, rfl, HS, j, rfl⟩ := hrel
    have HQ := Lib.hid hq
    have HK := Lib.hid hkq
    clear hq
    by_cases hlt : k < 14
    · obtain ⟨g', rfl⟩ : ∃ g', q = g' + 1 := ⟨q - 1, by omega⟩
      have HN := Lib.hid (ref09_names (w.more j))
      have HT : Hid (S = if cdAt k = s then ((k : Int), true) else scanF cdAt s g' (k + 1)) := by show _ = _; rw [HS.out, scan_stepC]
      clear HS hkq
      go_wp2_with fail
      refine HN.out.mono ?_
      rintro e w' ⟨g, j2, rfl, hc, hg, rfl⟩
      have c0 : ((w.more j).more j2).cell? ⟨g, k, none⟩ = some (bstr (cdAt k)) := hc k hlt
      rw [World.more_more] at c0 hg ⊢
      generalize cdAt (k : Int) = T at c0 HT
      clear hc
      cases e1 : (T == s)
      · have HU : Hid (S = scanF cdAt s g' (k + 1)) := by show _ = _; rw [HT.out, if_neg (by simpa using e1)]
        clear HT
        go_wp2_with fail
        go_roundg g'
        case measure => have := HQ.out; omega
        case rel => exact ⟨k + 1, _, rfl, by have := HK.out; omega, by first | rfl | go_num, HU, Below.junk (by repeat (first | (with_reducible exact Below.refl _ _) | (with_reducible refine Below.allocS ?_ _) | (with_reducible refine Below.moreS ?_ _) | (with_reducible refine Below.drew ?_) | (with_reducible refine below_drewN ?_ _)))⟩
      · have hr : (r1, r2) = ((k : Int), true) := HH.out k (by rw [HT.out, if_pos (by simpa using e1)])
        obtain ⟨rfl, rfl⟩ := Prod.mk.inj hr
        clear HT hr
        go_wp2_with fail
        go_ret2
        exact ⟨rfl, Below.junk (by repeat (first | (with_reducible exact Below.refl _ _) | (with_reducible refine Below.allocS ?_ _) | (with_reducible refine Below.moreS ?_ _) | (with_reducible refine Below.drew ?_) | (with_reducible refine below_drewN ?_ _)))⟩
    · obtain rfl : q = 0 := by omega
      have HM2 := Lib.hid (HM.out HS.out)
      clear HS HM HH hkq
      cases is
      · have hr : (r1, r2) = (0, false) := by rw [HM2.out, if_neg (by simp)]
        obtain ⟨rfl, rfl⟩ := Prod.mk.inj hr
        clear HM2 hr
        go_wp2_with (go_at_call 93; (with_reducible refine (HR.out _).mono ?_); rintro e w' ⟨rfl, rfl⟩)
        go_ret2
        exact ⟨rfl, Below.junk (by repeat (first | (with_reducible exact Below.refl _ _) | (with_reducible refine Below.allocS ?_ _) | (with_reducible refine Below.moreS ?_ _) | (with_reducible refine Below.drew ?_) | (with_reducible refine below_drewN ?_ _)))⟩
      · by_cases h14 : 14 ≤ n
        · by_cases hbig : n < 4294967296
          · have hr : (r1, r2) = (n, true) := by rw [HM2.out, if_pos ⟨rfl, (by omega : 14 ≤ n), (by omega : n ≤ 4294967295)⟩]
            obtain ⟨rfl, rfl⟩ := Prod.mk.inj hr
            clear HM2 hr
            go_wp2_with (go_at_call 93; (with_reducible refine (HR.out _).mono ?_); rintro e w' ⟨rfl, rfl⟩)
            go_ret2
            exact ⟨rfl, Below.junk (by repeat (first | (with_reducible exact Below.refl _ _) | (with_reducible refine Below.allocS ?_ _) | (with_reducible refine Below.moreS ?_ _) | (with_reducible refine Below.drew ?_) | (with_reducible refine below_drewN ?_ _)))⟩
          · have hr : (r1, r2) = (0, false) := by rw [HM2.out, if_neg (by simp; omega)]
            obtain ⟨rfl, rfl⟩ := Prod.mk.inj hr
            clear HM2 hr
            go_wp2_with (go_at_call 93; (with_reducible refine (HR.out _).mono ?_); rintro e w' ⟨rfl, rfl⟩)
            go_ret2
            exact ⟨rfl, Below.junk (by repeat (first | (with_reducible exact Below.refl _ _) | (with_reducible refine Below.allocS ?_ _) | (with_reducible refine Below.moreS ?_ _) | (with_reducible refine Below.drew ?_) | (with_reducible refine below_drewN ?_ _)))⟩
        · have hr : (r1, r2) = (0, false) := by rw [HM2.out, if_neg (by simp; omega)]
          obtain ⟨rfl, rfl⟩ := Prod.mk.inj hr
          clear HM2 hr
          go_wp2_with (go_at_call 93; (with_reducible refine (HR.out _).mono ?_); rintro e w' ⟨rfl, rfl⟩)
          go_ret2
          exact ⟨rfl, Below.junk (by repeat (first | (with_reducible exact Below.refl _ _) | (with_reducible refine Below.allocS ?_ _) | (with_reducible refine Below.moreS ?_ _) | (with_reducible refine Below.drew ?_) | (with_reducible refine below_drewN ?_ _)))⟩
end Go.Proofs.YthbflllflnnipaaGreatDoor
