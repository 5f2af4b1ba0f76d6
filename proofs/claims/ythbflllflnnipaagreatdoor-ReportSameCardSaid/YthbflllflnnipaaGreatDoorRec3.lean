/-
  Records: names looked for, both roads.
-/
import Derived.Test.YthbflllflnnipaaGreatDoorRec2
import Derived.Test.YthbflllflnnipaaGreatDoorMa
namespace Go.Proofs.YthbflllflnnipaaGreatDoor
set_option linter.unusedSimpArgs false
set_option linter.unusedVariables false
set_option linter.unusedSectionVars false
open Go.ChangeShapes Go.WideShapes Go.ChangeAt Go.RowKit Go.Deep Go.Shelf

theorem more_of_quiet {P : Program} {f : FuncId} {args : Array Value} {w : World} {v : Value} (h : Calls P f args w fun e w' => e = .returned v ∧ w = w') : Calls P f args w fun e w' => e = .returned v ∧ ∃ k, w' = w.more k :=
  h.mono fun _ _ ⟨he, hw⟩ => ⟨he, by subst hw; exact ⟨_, more_self w⟩⟩

set_option maxHeartbeats 4000000 in
set_option maxRecDepth 100000 in
theorem ref08_ByName (s : List UInt8) (hs : s.length ≤ 1048576) (w : World) : Calls Tryz.prog 94 #[bstr s] w fun e w' => e = .returned (.tuple #[.int .i64 (byNameF s).1, .bool (byNameF s).2]) ∧ ∃ j, w' = w.more j := by
  have HF : Hid (byNameF s = scanF nameF s 257 (-1)) := rfl
  generalize byNameF s = R at HF ⊢
  obtain ⟨r1, r2⟩ := R
  go_enter Tryz.func94, Tryz.ntmps94
  go_wp2_with fail
  go_loopg [4] 257 (fun g i wr => ∃ (t : Int) (q : Nat), q = g ∧ t + q = 256 ∧ q ≤ 257 ∧ i = .int .i64 t ∧ Hid ((r1, r2) = scanF nameF s q t) ∧ ∃ j, wr = w.more j)
  case atStart => exact ⟨(-1), _, rfl, by omega, by omega, rfl, HF, Below.junk (by repeat (first | (with_reducible exact Below.refl _ _) | (with_reducible refine Below.allocS ?_ _) | (with_reducible refine Below.moreS ?_ _) | (with_reducible refine Below.drew ?_) | (with_reducible refine below_drewN ?_ _)))⟩
  case round =>
    obtain ⟨t, q, hq, htg, hgn, rfl, HS, j, rfl⟩ := hrel
    have HQ := Lib.hid hq
    clear hq
    have HK := Lib.hid htg
    by_cases hlt : t < 256
    · obtain ⟨g', rfl⟩ : ∃ g', q = g' + 1 := ⟨q - 1, by omega⟩
      have HN : Hid (∀ j, Calls Tryz.prog 89 #[.int .i64 t] (w.more j) fun e w' => e = .returned (bstr (nameF t)) ∧ ∃ k, w' = (w.more j).more k) := fun j => ref08_Name t _
      have HT : Hid ((r1, r2) = if nameF t = s then (t, true) else scanF nameF s g' (t + 1)) := by show _ = _; rw [HS.out, scan_step]
      have b0 : (-1) ≤ t := by omega
      generalize nameF t = T at HN HT
      clear htg HS
      cases e1 : (T == s)
      · have HU : Hid ((r1, r2) = scanF nameF s g' (t + 1)) := by show _ = _; rw [HT.out, if_neg (by simpa using e1)]
        clear HT
        go_wp2_with (go_at_call 89; (with_reducible refine (HN.out _).mono ?_); rintro e w' ⟨rfl, j, rfl⟩)
        go_roundg g'
        case measure => have := HQ.out; omega
        case rel => exact ⟨t + 1, _, rfl, by have := HK.out; omega, by omega, by first | rfl | go_num, HU, Below.junk (by repeat (first | (with_reducible exact Below.refl _ _) | (with_reducible refine Below.allocS ?_ _) | (with_reducible refine Below.moreS ?_ _) | (with_reducible refine Below.drew ?_) | (with_reducible refine below_drewN ?_ _)))⟩
      · have hr : (r1, r2) = (t, true) := by rw [HT.out, if_pos (by simpa using e1)]
        obtain ⟨rfl, rfl⟩ := Prod.mk.inj hr
        clear HT hr
        go_wp2_with (go_at_call 89; (with_reducible refine (HN.out _).mono ?_); rintro e w' ⟨rfl, j, rfl⟩)
        go_ret2
        exact ⟨rfl, Below.junk (by repeat (first | (with_reducible exact Below.refl _ _) | (with_reducible refine Below.allocS ?_ _) | (with_reducible refine Below.moreS ?_ _) | (with_reducible refine Below.drew ?_) | (with_reducible refine below_drewN ?_ _)))⟩
    · obtain rfl : q = 0 := by omega
      have hr : (r1, r2) = (0, false) := HS.out
      obtain ⟨rfl, rfl⟩ := Prod.mk.inj hr
      clear hr HS htg
      go_wp2_with fail
      go_ret2
      exact ⟨rfl, Below.junk (by repeat (first | (with_reducible exact Below.refl _ _) | (with_reducible refine Below.allocS ?_ _) | (with_reducible refine Below.moreS ?_ _) | (with_reducible refine Below.drew ?_) | (with_reducible refine below_drewN ?_ _)))⟩

set_option maxHeartbeats 4000000 in
set_option maxRecDepth 100000 in
theorem named_Side (s : List UInt8) (hs : s.length ≤ 1048576) (w : World) : Calls Tryz.prog 114 #[bstr s, .int .i64 0, .int .i64 1, .func (.func 63) #[] #[]] w fun e w' => e = .returned (.tuple #[.int .i64 (sideB s).1, .bool (sideB s).2]) ∧ ∃ j, w' = w.more j := by
  have HF : Hid (sideB s = scanF sideF s 2 0) := rfl
  generalize sideB s = R at HF ⊢
  obtain ⟨r1, r2⟩ := R
  go_enter Tryz.func114, Tryz.ntmps114
  go_wp2_with fail
  go_loopg [10] 2 (fun g i wr => ∃ (t : Int) (q : Nat), q = g ∧ t + q = 2 ∧ q ≤ 2 ∧ i = .int .i64 t ∧ Hid ((r1, r2) = scanF sideF s q t) ∧ ∃ j, wr = w.more j)
  case atStart => exact ⟨0, _, rfl, by omega, by omega, rfl, HF, Below.junk (by repeat (first | (with_reducible exact Below.refl _ _) | (with_reducible refine Below.allocS ?_ _) | (with_reducible refine Below.moreS ?_ _) | (with_reducible refine Below.drew ?_) | (with_reducible refine below_drewN ?_ _)))⟩
  case round =>
    obtain ⟨t, q, hq, htg, hgn, rfl, HS, j, rfl⟩ := hrel
    have HQ := Lib.hid hq
    clear hq
    have HK := Lib.hid htg
    by_cases hlt : t ≤ 1
    · obtain ⟨g', rfl⟩ : ∃ g', q = g' + 1 := ⟨q - 1, by omega⟩
      have HN : Hid (∀ j, Calls Tryz.prog 63 #[.int .i64 t] (w.more j) fun e w' => e = .returned (bstr (sideF t)) ∧ ∃ k, w' = (w.more j).more k) := fun j => more_of_quiet (record_Side t _)
      have HT : Hid ((r1, r2) = if sideF t = s then (t, true) else scanF sideF s g' (t + 1)) := by show _ = _; rw [HS.out, scan_step]
      have b0 : 0 ≤ t := by omega
      generalize sideF t = T at HN HT
      clear htg HS
      cases e1 : (T == s)
      · have HU : Hid ((r1, r2) = scanF sideF s g' (t + 1)) := by show _ = _; rw [HT.out, if_neg (by simpa using e1)]
        clear HT
        go_wp2_with (go_at_call 63; (with_reducible refine (HN.out _).mono ?_); rintro e w' ⟨rfl, j, rfl⟩)
        go_roundg g'
        case measure => have := HQ.out; omega
        case rel => exact ⟨t + 1, _, rfl, by have := HK.out; omega, by omega, by first | rfl | go_num, HU, Below.junk (by repeat (first | (with_reducible exact Below.refl _ _) | (with_reducible refine Below.allocS ?_ _) | (with_reducible refine Below.moreS ?_ _) | (with_reducible refine Below.drew ?_) | (with_reducible refine below_drewN ?_ _)))⟩
      · have hr : (r1, r2) = (t, true) := by rw [HT.out, if_pos (by simpa using e1)]
        obtain ⟨rfl, rfl⟩ := Prod.mk.inj hr
        clear HT hr
        go_wp2_with (go_at_call 63; (with_reducible refine (HN.out _).mono ?_); rintro e w' ⟨rfl, j, rfl⟩)
        go_ret2
        exact ⟨rfl, Below.junk (by repeat (first | (with_reducible exact Below.refl _ _) | (with_reducible refine Below.allocS ?_ _) | (with_reducible refine Below.moreS ?_ _) | (with_reducible refine Below.drew ?_) | (with_reducible refine below_drewN ?_ _)))⟩
    · obtain rfl : q = 0 := by omega
      have hr : (r1, r2) = (0, false) := HS.out
      obtain ⟨rfl, rfl⟩ := Prod.mk.inj hr
      clear hr HS htg
      go_wp2_with fail
      go_ret2
      exact ⟨rfl, Below.junk (by repeat (first | (with_reducible exact Below.refl _ _) | (with_reducible refine Below.allocS ?_ _) | (with_reducible refine Below.moreS ?_ _) | (with_reducible refine Below.drew ?_) | (with_reducible refine below_drewN ?_ _)))⟩

set_option maxHeartbeats 4000000 in
set_option maxRecDepth 100000 in
theorem named_Kind (s : List UInt8) (hs : s.length ≤ 1048576) (w : World) : Calls Tryz.prog 114 #[bstr s, .int .i64 1, .int .i64 4, .func (.func 22) #[] #[]] w fun e w' => e = .returned (.tuple #[.int .i64 (kindB s).1, .bool (kindB s).2]) ∧ ∃ j, w' = w.more j := by
  have HF : Hid (kindB s = scanF kindF s 4 1) := rfl
  generalize kindB s = R at HF ⊢
  obtain ⟨r1, r2⟩ := R
  go_enter Tryz.func114, Tryz.ntmps114
  go_wp2_with fail
  go_loopg [10] 4 (fun g i wr => ∃ (t : Int) (q : Nat), q = g ∧ t + q = 5 ∧ q ≤ 4 ∧ i = .int .i64 t ∧ Hid ((r1, r2) = scanF kindF s q t) ∧ ∃ j, wr = w.more j)
  case atStart => exact ⟨1, _, rfl, by omega, by omega, rfl, HF, Below.junk (by repeat (first | (with_reducible exact Below.refl _ _) | (with_reducible refine Below.allocS ?_ _) | (with_reducible refine Below.moreS ?_ _) | (with_reducible refine Below.drew ?_) | (with_reducible refine below_drewN ?_ _)))⟩
  case round =>
    obtain ⟨t, q, hq, htg, hgn, rfl, HS, j, rfl⟩ := hrel
    have HQ := Lib.hid hq
    clear hq
    have HK := Lib.hid htg
    by_cases hlt : t ≤ 4
    · obtain ⟨g', rfl⟩ : ∃ g', q = g' + 1 := ⟨q - 1, by omega⟩
      have HN : Hid (∀ j, Calls Tryz.prog 22 #[.int .i64 t] (w.more j) fun e w' => e = .returned (bstr (kindF t)) ∧ ∃ k, w' = (w.more j).more k) := fun j => more_of_quiet (record_Kind t _)
      have HT : Hid ((r1, r2) = if kindF t = s then (t, true) else scanF kindF s g' (t + 1)) := by show _ = _; rw [HS.out, scan_step]
      have b0 : 1 ≤ t := by omega
      generalize kindF t = T at HN HT
      clear htg HS
      cases e1 : (T == s)
      · have HU : Hid ((r1, r2) = scanF kindF s g' (t + 1)) := by show _ = _; rw [HT.out, if_neg (by simpa using e1)]
        clear HT
        go_wp2_with (go_at_call 22; (with_reducible refine (HN.out _).mono ?_); rintro e w' ⟨rfl, j, rfl⟩)
        go_roundg g'
        case measure => have := HQ.out; omega
        case rel => exact ⟨t + 1, _, rfl, by have := HK.out; omega, by omega, by first | rfl | go_num, HU, Below.junk (by repeat (first | (with_reducible exact Below.refl _ _) | (with_reducible refine Below.allocS ?_ _) | (with_reducible refine Below.moreS ?_ _) | (with_reducible refine Below.drew ?_) | (with_reducible refine below_drewN ?_ _)))⟩
      · have hr : (r1, r2) = (t, true) := by rw [HT.out, if_pos (by simpa using e1)]
        obtain ⟨rfl, rfl⟩ := Prod.mk.inj hr
        clear HT hr
        go_wp2_with (go_at_call 22; (with_reducible refine (HN.out _).mono ?_); rintro e w' ⟨rfl, j, rfl⟩)
        go_ret2
        exact ⟨rfl, Below.junk (by repeat (first | (with_reducible exact Below.refl _ _) | (with_reducible refine Below.allocS ?_ _) | (with_reducible refine Below.moreS ?_ _) | (with_reducible refine Below.drew ?_) | (with_reducible refine below_drewN ?_ _)))⟩
    · obtain rfl : q = 0 := by omega
      have hr : (r1, r2) = (0, false) := HS.out
      obtain ⟨rfl, rfl⟩ := Prod.mk.inj hr
      clear hr HS htg
      go_wp2_with fail
      go_ret2
      exact ⟨rfl, Below.junk (by repeat (first | (with_reducible exact Below.refl _ _) | (with_reducible refine Below.allocS ?_ _) | (with_reducible refine Below.moreS ?_ _) | (with_reducible refine Below.drew ?_) | (with_reducible refine below_drewN ?_ _)))⟩

theorem idx_step {l : List (List UInt8)} {s : List UInt8} {k : Nat} (hk : k < l.length) (hn : ∀ q (h : q < l.length), q < k → l[q] ≠ s) (he : l[k] = s) : findF l s = (k : Int) := by
  have hm : s ∈ l := he ▸ List.getElem_mem hk
  unfold findF
  rw [if_pos hm]
  have h1 := List.idxOf_lt_length_of_mem hm
  have h2 := List.getElem_idxOf h1
  rcases Nat.lt_trichotomy (l.idxOf s) k with h | h | h
  · exact absurd h2 (hn _ h1 h)
  · rw [h]
  · exfalso
    have := List.not_of_lt_findIdx (p := fun x => x == s) (xs := l) (i := k) h
    simp [he] at this
theorem idx_none {l : List (List UInt8)} {s : List UInt8} (hn : ∀ q (h : q < l.length), l[q] ≠ s) : findF l s = -1 := by
  unfold findF
  rw [if_neg]
  intro hm
  obtain ⟨k, hk, he⟩ := List.getElem_of_mem hm
  exact hn k hk he
set_option maxHeartbeats 4000000 in
set_option maxRecDepth 100000 in
theorem ref41_find (a : Option Addr) (cap : Nat) (l : List (List UInt8)) (s : List UInt8) (hm : l.length ≤ 1048576) (w : World) (hs : SlX w w.heap.size a l) :
    Calls Tryz.prog 95 #[.slice a l.length cap, bstr s] w fun e w' => e = .returned (.int .i64 (findF l s)) ∧ w = w' := by
  have HY : Hid (∀ k (h : k < l.length), (∀ q (h : q < l.length), q < k → l[q] ≠ s) → l[k] = s → findF l s = (k : Int)) := fun k h h1 h2 => idx_step h h1 h2
  have HN : Hid ((∀ q (h : q < l.length), l[q] ≠ s) → findF l s = -1) := idx_none
  generalize findF l s = R at HY HN ⊢
  go_enter Tryz.func95, Tryz.ntmps95
  go_wp2_with fail
  go_loop [5] (fun i => ∃ k : Nat, k ≤ l.length ∧ i = .int .i64 k ∧ Hid (∀ q (h : q < l.length), q < k → l[q] ≠ s)) (fun i => l.length - (intOf i).toNat)
  case atStart => exact ⟨0, by omega, rfl, fun q _ h => absurd h (by omega)⟩
  case round =>
    obtain ⟨k, hk, rfl, HQ⟩ := hrel
    by_cases hlt : k < l.length
    · obtain ⟨b, off, rfl, hb, c0, _⟩ := hs.atX hlt
      have HY2 := Lib.hid (HY.out k hlt HQ.out)
      have HE : Hid (l[k] ≠ s → ∀ q (h : q < l.length), q < k + 1 → l[q] ≠ s) := fun he q h hq => by
        by_cases hqk : q = k
        · subst hqk; exact he
        · exact HQ.out q h (by omega)
      clear HY HN HQ
      generalize l[k] = x at c0 HY2 HE
      cases e1 : (x == s)
      · have HE2 := Lib.hid (HE.out (by simpa using e1))
        clear HE HY2
        go_wp2_with fail
        go_round
        case rel => exact ⟨k + 1, hlt, by go_num, HE2.out⟩
        case measure => simp [intOf]; omega
      · have hR := HY2.out (by simpa using e1)
        subst hR
        clear HE HY2
        go_wp2_with fail
        go_ret
        exact ⟨rfl, rfl⟩
    · have hR := HN.out (fun q h => HQ.out q h (by omega))
      subst hR
      clear HY HN HQ
      go_wp2_with fail
      go_ret
      exact ⟨rfl, rfl⟩
end Go.Proofs.YthbflllflnnipaaGreatDoor
