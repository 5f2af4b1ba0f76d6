/-
  Parts of the proof, one behind the other: contracts of the program and plain laws; no condition of their own.
-/
import Derived.Test.YtbdmepidabnfkaaGreatDoorMb
import Derived.Test.YtbdmepidabnfkaaGreatDoorMf
import Derived.Test.YtbdmepidabnfkaaGreatDoorMh
import Derived.Test.YtbdmepidabnfkaaGreatDoorMa
/-
  Faults: texts joined with any byte between.
-/
namespace Go.Proofs.YtbdmepidabnfkaaGreatDoor
set_option linter.unusedSimpArgs false
set_option linter.unusedVariables false
set_option linter.unusedSectionVars false
open Go.ChangeShapes Go.WideShapes Go.ChangeAt Go.RowKit Go.Deep Go.Shelf

theorem join_leC (c : UInt8) (l : List (List UInt8)) (h : ∀ x ∈ l, x.length ≤ 1000) : (Lib.join l [c]).length ≤ 1001 * l.length := by
  cases l with
  | nil => simp [Lib.join_nil]
  | cons x r =>
    rw [Lib.join_length]
    have : ∀ m : List (List UInt8), (∀ x ∈ m, x.length ≤ 1000) → Lib.lens m ≤ 1000 * m.length := by
      intro m
      induction m with
      | nil => intro _; simp [Lib.lens]
      | cons y t ih =>
        intro h
        have := ih (fun x hx => h x (by simp [hx]))
        have := h y (by simp)
        simp only [Lib.lens, List.map_cons, List.sum_cons, List.length_cons] at *
        omega
    have := this (x :: r) h
    simp only [List.length_cons, List.length_nil] at *
    omega
theorem strings_joinC (c : UInt8) (a : Option Addr) (cap : Nat) (l : List (List UInt8)) (w : World) (hm : l.length ≤ 100000) (hw : ∀ x ∈ l, x.length ≤ 1000) (hcap : l.length ≤ cap) (hs : SlX w w.heap.size a l) :
    Calls Tryz.prog 67 #[.slice a l.length cap, bstr [c]] w fun e w' => e = .returned (bstr (Lib.join l [c])) ∧ Below w.heap.size w w' := by
  by_cases h0 : l = []
  · subst h0
    exact (Tryz.strings_Join_none a cap ⟨#[c]⟩ w).mono fun e w' ⟨he, hw⟩ => ⟨by rw [he]; rfl, by rw [hw]; exact Below.refl _ _⟩
  · have hp : 0 < l.length := List.length_pos_iff.2 h0
    obtain ⟨b, off, rfl, hb, _, _⟩ := hs.atX hp
    have hj := join_leC c l hw
    have hx : (l.map (fun s => (⟨s.toArray⟩ : ByteArray))).map (·.data.toList) = l := by rw [List.map_map]; exact (List.map_congr_left (fun _ _ => rfl)).trans (List.map_id l)
    have := Tryz.strings_Join b off cap (l.map (fun s => (⟨s.toArray⟩ : ByteArray))) ⟨#[c]⟩ w (fun j x hjx => by
      rw [List.getElem?_map] at hjx
      obtain ⟨y, hy, rfl⟩ := Option.map_eq_some_iff.1 hjx
      obtain ⟨hlt, rfl⟩ := List.getElem?_eq_some_iff.1 hy
      obtain ⟨b', off', e, _, hc, _⟩ := hs.atX hlt
      injection e with e
      injection e with e1 e2
      subst e1 e2
      exact hc) hb (by simp; omega) (by simpa using hcap) (by rw [hx]; show (Lib.join l [c]).length ≤ _; omega)
    rw [hx, List.length_map] at this
    exact this
end Go.Proofs.YtbdmepidabnfkaaGreatDoor
/-
  Faults: codes and their names, both roads.
-/
namespace Go.Proofs.YtbdmepidabnfkaaGreatDoor
set_option linter.unusedSimpArgs false
set_option linter.unusedVariables false
set_option linter.unusedSectionVars false
open Go.ChangeShapes Go.WideShapes Go.ChangeAt Go.RowKit Go.Deep Go.Shelf

def NamesM (n : Nat) (f : Nat → List UInt8) (w : World) (e : Ending) (w' : World) : Prop := ∃ g j, e = .returned (.slice (some ⟨g, 0, none⟩) n n) ∧ (∀ k, k < n → w'.cell? ⟨g, k, none⟩ = some (bstr (f k))) ∧ g < w'.heap.size ∧ w' = w.more j
theorem names_more {n : Nat} {f : Nat → List UInt8} {w : World} {t : TypeId} {cs : Array Value} (h : ∀ k, k < n → cs[k]? = some (bstr (f k))) : NamesM n f w (.returned (.slice (some ⟨w.heap.size, 0, none⟩) n n)) (w.alloc (.cells cs t)) := by
  obtain ⟨j, hj⟩ : ∃ j, w.alloc (.cells cs t) = w.more j := Below.junk (by repeat (first | (with_reducible exact Below.refl _ _) | (with_reducible refine Below.allocS ?_ _) | (with_reducible refine Below.moreS ?_ _) | (with_reducible refine Below.drew ?_) | (with_reducible refine below_drewN ?_ _)))
  exact ⟨_, j, rfl, fun k hk => (Blk.new w t cs).cell k |>.trans (h k hk), by simp, hj⟩
set_option maxRecDepth 100000 in
theorem ref09_names (w : World) : Calls Tryz.prog 139 #[] w (NamesM 14 cdName w) := by
  go_enter Tryz.func139, Tryz.ntmps139
  go_wp2_with fail
  go_ret
  refine names_more (cs := (cdNames.map bstr).toArray) fun k hk => ?_
  simp [cdName_lit ⟨k, hk⟩]

def FN (w : World) : Prop := ∀ k, k < 14 → w.cell? ⟨1, k, none⟩ = some (bstr (cdName k))
theorem FN.below {w w' : World} (h : FN w) (hb : Below w.heap.size w w') : FN w' :=
  fun k hk => (hb.cell (p := ⟨1, k, none⟩) (cell_lt (h 0 (by omega)))).trans (h k hk)
theorem FN.more {w : World} (h : FN w) (j : Junk) : FN (w.more j) := h.below (Below.moreS (Below.refl w.heap.size w) j)

set_option maxHeartbeats 2000000 in
set_option maxRecDepth 100000 in
theorem faults_CodeName_no (t : Int) (h : t < 0 ∨ 4294967295 < t) (w : World) : Calls Tryz.prog 107 #[.int .i64 t] w fun e w' => e = .returned (bstr (codeN t)) ∧ ∃ j, w' = w.more j := by
  rw [codeN_out h]
  rcases h with h | h
  all_goals
    go_enter Tryz.func107, Tryz.ntmps107
    go_wp2_with fail
    go_ret
    exact ⟨rfl, Below.junk (by repeat (first | (with_reducible exact Below.refl _ _) | (with_reducible refine Below.allocS ?_ _) | (with_reducible refine Below.moreS ?_ _) | (with_reducible refine Below.drew ?_) | (with_reducible refine below_drewN ?_ _)))⟩
set_option maxHeartbeats 2000000 in
set_option maxRecDepth 100000 in
theorem faults_CodeName_lo (k : Nat) (hk : k < 14) (w : World) (hE : FN w) : Calls Tryz.prog 107 #[.int .i64 k] w fun e w' => e = .returned (bstr (codeN k)) ∧ ∃ j, w' = w.more j := by
  rw [codeN_lo (by omega) (by omega)]
  have c0 : w.cell? ⟨1, k, none⟩ = some (bstr (cdAt k)) := hE k hk
  generalize cdAt (k : Int) = T at c0 ⊢
  clear hE
  go_enter Tryz.func107, Tryz.ntmps107
  go_wp2_with fail
  go_ret
  exact ⟨rfl, Below.junk (by repeat (first | (with_reducible exact Below.refl _ _) | (with_reducible refine Below.allocS ?_ _) | (with_reducible refine Below.moreS ?_ _) | (with_reducible refine Below.drew ?_) | (with_reducible refine below_drewN ?_ _)))⟩
set_option maxHeartbeats 2000000 in
set_option maxRecDepth 100000 in
theorem ref09_CodeName (t : Int) (w : World) : Calls Tryz.prog 122 #[.int .i64 t] w fun e w' => e = .returned (bstr (codeN t)) ∧ ∃ j, w' = w.more j := by
  by_cases h : t < 0 ∨ 4294967295 < t
  · rw [codeN_out h]
    rcases h with h | h
    · go_enter Tryz.func122, Tryz.ntmps122
      go_wp2_with fail
      go_ret
      exact ⟨rfl, Below.junk (by repeat (first | (with_reducible exact Below.refl _ _) | (with_reducible refine Below.allocS ?_ _) | (with_reducible refine Below.moreS ?_ _) | (with_reducible refine Below.drew ?_) | (with_reducible refine below_drewN ?_ _)))⟩
    · have h1 : 4294967296 ≤ t := by omega
      have h2 : ¬ t < 0 := by omega
      go_enter Tryz.func122, Tryz.ntmps122
      go_wp2_with fail
      go_ret
      exact ⟨rfl, Below.junk (by repeat (first | (with_reducible exact Below.refl _ _) | (with_reducible refine Below.allocS ?_ _) | (with_reducible refine Below.moreS ?_ _) | (with_reducible refine Below.drew ?_) | (with_reducible refine below_drewN ?_ _)))⟩
  · have h0 : ¬ t < 0 := by omega
    have h1 : ¬ 4294967296 ≤ t := by omega
    by_cases h14 : t < 14
    · obtain ⟨k, rfl⟩ : ∃ k : Nat, t = (k : Int) := ⟨t.toNat, by omega⟩
      rw [codeN_lo (by omega) h14]
      generalize hT : cdAt (k : Int) = T
      have HN := Lib.hid (ref09_names w)
      have hk : k < 14 := by omega
      clear h
      go_enter Tryz.func122, Tryz.ntmps122
      go_wp2_with fail
      refine HN.out.mono ?_
      rintro e w' ⟨g, j, rfl, hc, hg, rfl⟩
      have c0 : (w.more j).cell? ⟨g, k, none⟩ = some (bstr T) := by rw [← hT]; exact hc k hk
      clear hc hk hT
      go_wp2_with fail
      go_ret
      exact ⟨rfl, Below.junk (by repeat (first | (with_reducible exact Below.refl _ _) | (with_reducible refine Below.allocS ?_ _) | (with_reducible refine Below.moreS ?_ _) | (with_reducible refine Below.drew ?_) | (with_reducible refine below_drewN ?_ _)))⟩
    · rw [codeN_hi (by omega) (by omega)]
      have HT : Hid (∀ W, Calls Tryz.prog 86 #[.int .i64 t] W fun e w' => e = .returned (bstr (Lib.itoa t)) ∧ W = w') := fun W => ref03_Text t (by omega) (by omega) W
      generalize Lib.itoa t = T at HT ⊢
      clear h
      go_enter Tryz.func122, Tryz.ntmps122
      go_wp2_with (go_at_call 86; (with_reducible refine (HT.out _).mono ?_); rintro e w' ⟨rfl, rfl⟩)
      go_ret
      exact ⟨rfl, Below.junk (by repeat (first | (with_reducible exact Below.refl _ _) | (with_reducible refine Below.allocS ?_ _) | (with_reducible refine Below.moreS ?_ _) | (with_reducible refine Below.drew ?_) | (with_reducible refine below_drewN ?_ _)))⟩
theorem scan_stepC (f : Int → List UInt8) (s : List UInt8) (g : Nat) (t : Int) : scanF f s (g + 1) t = if f t = s then (t, true) else scanF f s g (t + 1) := rfl
theorem code_hit {s : List UInt8} {t : Int} (h : scanF cdAt s 14 0 = (t, true)) : codeOf s = (t, true) := by unfold codeOf; rw [h, if_pos rfl]
theorem code_miss {s : List UInt8} (h : scanF cdAt s 14 0 = (0, false)) : codeOf s = if (readF s).2 = true ∧ 14 ≤ (readF s).1 ∧ (readF s).1 ≤ 4294967295 then ((readF s).1, true) else (0, false) := by unfold codeOf; rw [h, if_neg (by simp)]

set_option maxHeartbeats 4000000 in
set_option maxRecDepth 100000 in
theorem faults_Code (s : List UInt8) (hs : s.length ≤ 1048576) (w : World) (hE : Env w) (hF : FN w) : Calls Tryz.prog 117 #[bstr s] w fun e w' => e = .returned (.tuple #[.int .i64 (codeOf s).1, .bool (codeOf s).2]) ∧ ∃ j, w' = w.more j := by
  have HH : Hid (∀ t, scanF cdAt s 14 0 = (t, true) → codeOf s = (t, true)) := fun t h => code_hit h
  have HM : Hid (scanF cdAt s 14 0 = (0, false) → codeOf s = if (readF s).2 = true ∧ 14 ≤ (readF s).1 ∧ (readF s).1 ≤ 4294967295 then ((readF s).1, true) else (0, false)) := code_miss
  have HR : Hid (∀ W, Env W → Calls Tryz.prog 85 #[bstr s] W fun e w' => e = .returned (.tuple #[.int .i64 (readF s).1, .bool (readF s).2]) ∧ ∃ j, w' = W.more j) := fun W hW => digits_Read s hs W hW
  have HF : Hid (scanF cdAt s 14 0 = scanF cdAt s 14 0) := rfl
  generalize hS : scanF cdAt s 14 0 = S at HH HM
  rw [hS] at HF
  generalize readF s = q at HM HR
  obtain ⟨n, is⟩ := q
  generalize codeOf s = R at HH HM ⊢
  obtain ⟨r1, r2⟩ := R
  have HE := Lib.hid hE
  have HN := Lib.hid hF
  have HS0 := Lib.hid hS
  clear hE hF hS
  go_enter Tryz.func117, Tryz.ntmps117
  go_wp2_with fail
  go_loopg [7] 14 (fun g i wr => ∃ (k q : Nat), q = g ∧ k + q = 14 ∧ i = .int .i64 k ∧ Hid (S = scanF cdAt s q k) ∧ ∃ j, wr = w.more j)
  case atStart => exact ⟨0, _, rfl, by omega, rfl, HS0.out.symm, Below.junk (by repeat (first | (with_reducible exact Below.refl _ _) | (with_reducible refine Below.allocS ?_ _) | (with_reducible refine Below.moreS ?_ _) | (with_reducible refine Below.drew ?_) | (with_reducible refine below_drewN ?_ _)))⟩
  case round =>
    obtain ⟨k, q, hq, hkq, rfl, HS, j, rfl⟩ := hrel
    have HQ := Lib.hid hq
    have HK := Lib.hid hkq
    clear hq
    by_cases hlt : k < 14
    · obtain ⟨g', rfl⟩ : ∃ g', q = g' + 1 := ⟨q - 1, by omega⟩
      have c0 : w.cell? ⟨1, k, none⟩ = some (bstr (cdAt k)) := HN.out k hlt
      have hsz := cell_lt (HN.out 0 (by omega))
      have HT : Hid (S = if cdAt k = s then ((k : Int), true) else scanF cdAt s g' (k + 1)) := by show _ = _; rw [HS.out, scan_stepC]
      generalize cdAt (k : Int) = T at c0 HT
      clear HS hkq
      cases e1 : (T == s)
      · have HU : Hid (S = scanF cdAt s g' (k + 1)) := by show _ = _; rw [HT.out, if_neg (by simpa using e1)]
        clear HT
        go_wp2_with fail
        go_roundg g'
        case measure => have := HQ.out; omega
        case rel => exact ⟨k + 1, _, rfl, by have := HK.out; omega, by first | rfl | go_num, HU, Below.junk (by repeat (first | (with_reducible exact Below.refl _ _) | (with_reducible refine Below.allocS ?_ _) | (with_reducible refine Below.moreS ?_ _) | (with_reducible refine Below.drew ?_) | (with_reducible refine below_drewN ?_ _)))⟩
      · have hr : (r1, r2) = ((k : Int), true) := HH.out k (by rw [HT.out, if_pos (by simpa using e1)])
        obtain ⟨rfl, rfl⟩ := Prod.mk.inj hr
        clear HT hr
        go_wp2_with fail
        go_ret2
        exact ⟨rfl, Below.junk (by repeat (first | (with_reducible exact Below.refl _ _) | (with_reducible refine Below.allocS ?_ _) | (with_reducible refine Below.moreS ?_ _) | (with_reducible refine Below.drew ?_) | (with_reducible refine below_drewN ?_ _)))⟩
    · obtain rfl : q = 0 := by omega
      have HM2 := Lib.hid (HM.out HS.out)
      clear HS HM HH hkq
      cases is
      · have hr : (r1, r2) = (0, false) := by rw [HM2.out, if_neg (by simp)]
        obtain ⟨rfl, rfl⟩ := Prod.mk.inj hr
        clear HM2 hr
        go_wp2_with (go_at_call 85; (with_reducible refine (HR.out _ (HE.out.below (by repeat (first | (with_reducible exact Below.refl _ _) | (with_reducible refine Below.allocS ?_ _) | (with_reducible refine Below.moreS ?_ _) | (with_reducible refine Below.drew ?_) | (with_reducible refine below_drewN ?_ _))))).mono ?_); rintro e w' ⟨rfl, j, rfl⟩)
        go_ret2
        exact ⟨rfl, Below.junk (by repeat (first | (with_reducible exact Below.refl _ _) | (with_reducible refine Below.allocS ?_ _) | (with_reducible refine Below.moreS ?_ _) | (with_reducible refine Below.drew ?_) | (with_reducible refine below_drewN ?_ _)))⟩
      · by_cases h14 : n < 14
        · have hr : (r1, r2) = (0, false) := by rw [HM2.out, if_neg (by simp; omega)]
          obtain ⟨rfl, rfl⟩ := Prod.mk.inj hr
          clear HM2 hr
          go_wp2_with (go_at_call 85; (with_reducible refine (HR.out _ (HE.out.below (by repeat (first | (with_reducible exact Below.refl _ _) | (with_reducible refine Below.allocS ?_ _) | (with_reducible refine Below.moreS ?_ _) | (with_reducible refine Below.drew ?_) | (with_reducible refine below_drewN ?_ _))))).mono ?_); rintro e w' ⟨rfl, j, rfl⟩)
          go_ret2
          exact ⟨rfl, Below.junk (by repeat (first | (with_reducible exact Below.refl _ _) | (with_reducible refine Below.allocS ?_ _) | (with_reducible refine Below.moreS ?_ _) | (with_reducible refine Below.drew ?_) | (with_reducible refine below_drewN ?_ _)))⟩
        · by_cases hbig : 4294967295 < n
          · have hr : (r1, r2) = (0, false) := by rw [HM2.out, if_neg (by simp; omega)]
            obtain ⟨rfl, rfl⟩ := Prod.mk.inj hr
            clear HM2 hr
            go_wp2_with (go_at_call 85; (with_reducible refine (HR.out _ (HE.out.below (by repeat (first | (with_reducible exact Below.refl _ _) | (with_reducible refine Below.allocS ?_ _) | (with_reducible refine Below.moreS ?_ _) | (with_reducible refine Below.drew ?_) | (with_reducible refine below_drewN ?_ _))))).mono ?_); rintro e w' ⟨rfl, j, rfl⟩)
            go_ret2
            exact ⟨rfl, Below.junk (by repeat (first | (with_reducible exact Below.refl _ _) | (with_reducible refine Below.allocS ?_ _) | (with_reducible refine Below.moreS ?_ _) | (with_reducible refine Below.drew ?_) | (with_reducible refine below_drewN ?_ _)))⟩
          · have hr : (r1, r2) = (n, true) := by rw [HM2.out, if_pos ⟨rfl, (by omega : 14 ≤ n), (by omega : n ≤ 4294967295)⟩]
            obtain ⟨rfl, rfl⟩ := Prod.mk.inj hr
            clear HM2 hr
            go_wp2_with (go_at_call 85; (with_reducible refine (HR.out _ (HE.out.below (by repeat (first | (with_reducible exact Below.refl _ _) | (with_reducible refine Below.allocS ?_ _) | (with_reducible refine Below.moreS ?_ _) | (with_reducible refine Below.drew ?_) | (with_reducible refine below_drewN ?_ _))))).mono ?_); rintro e w' ⟨rfl, j, rfl⟩)
            all_goals first
              | (exfalso; omega)
              | (go_ret2
                 exact ⟨rfl, Below.junk (by repeat (first | (with_reducible exact Below.refl _ _) | (with_reducible refine Below.allocS ?_ _) | (with_reducible refine Below.moreS ?_ _) | (with_reducible refine Below.drew ?_) | (with_reducible refine below_drewN ?_ _)))⟩)

set_option maxHeartbeats 4000000 in
set_option maxRecDepth 100000 in
theorem ref09_Code (s : List UInt8) (hs : s.length ≤ 1048576) (w : World) : Calls Tryz.prog 125 #[bstr s] w fun e w' => e = .returned (.tuple #[.int .i64 (codeOf s).1, .bool (codeOf s).2]) ∧ ∃ j, w' = w.more j := by
  have HH : Hid (∀ t, scanF cdAt s 14 0 = (t, true) → codeOf s = (t, true)) := fun t h => code_hit h
  have HM : Hid (scanF cdAt s 14 0 = (0, false) → codeOf s = if (readF s).2 = true ∧ 14 ≤ (readF s).1 ∧ (readF s).1 ≤ 4294967295 then ((readF s).1, true) else (0, false)) := code_miss
  have HR : Hid (∀ W, Calls Tryz.prog 93 #[bstr s] W fun e w' => e = .returned (.tuple #[.int .i64 (readF s).1, .bool (readF s).2]) ∧ W = w') := fun W => by rw [read_eq]; exact ref03_Read s hs W
  generalize hS : scanF cdAt s 14 0 = S at HH HM
  generalize readF s = q at HM HR
  obtain ⟨n, is⟩ := q
  generalize codeOf s = R at HH HM ⊢
  obtain ⟨r1, r2⟩ := R
  have HS0 := Lib.hid hS
  clear hS
  go_enter Tryz.func125, Tryz.ntmps125
  go_wp2_with fail
  go_loopg [4] 14 (fun g i wr => ∃ (k q : Nat), q = g ∧ k + q = 14 ∧ i = .int .i64 k ∧ Hid (S = scanF cdAt s q k) ∧ ∃ j, wr = w.more j)
  case atStart => exact ⟨0, _, rfl, by omega, rfl, HS0.out.symm, Below.junk (by repeat (first | (with_reducible exact Below.refl _ _) | (with_reducible refine Below.allocS ?_ _) | (with_reducible refine Below.moreS ?_ _) | (with_reducible refine Below.drew ?_) | (with_reducible refine below_drewN ?_ _)))⟩
  case round =>
    obtain ⟨k, q, hq, hkq, rfl, HS, j, rfl⟩ := hrel
    have HQ := Lib.hid hq
    have HK := Lib.hid hkq
    clear hq
    by_cases hlt : k < 14
    · obtain ⟨g', rfl⟩ : ∃ g', q = g' + 1 := ⟨q - 1, by omega⟩
      have HN := Lib.hid (ref09_names (w.more j))
      have HT : Hid (S = if cdAt k = s then ((k : Int), true) else scanF cdAt s g' (k + 1)) := by show _ = _; rw [HS.out, scan_stepC]
      clear HS hkq
      go_wp2_with fail
      refine HN.out.mono ?_
      rintro e w' ⟨g, j2, rfl, hc, hg, rfl⟩
      have c0 : ((w.more j).more j2).cell? ⟨g, k, none⟩ = some (bstr (cdAt k)) := hc k hlt
      rw [World.more_more] at c0 hg ⊢
      generalize cdAt (k : Int) = T at c0 HT
      clear hc
      cases e1 : (T == s)
      · have HU : Hid (S = scanF cdAt s g' (k + 1)) := by show _ = _; rw [HT.out, if_neg (by simpa using e1)]
        clear HT
        go_wp2_with fail
        go_roundg g'
        case measure => have := HQ.out; omega
        case rel => exact ⟨k + 1, _, rfl, by have := HK.out; omega, by first | rfl | go_num, HU, Below.junk (by repeat (first | (with_reducible exact Below.refl _ _) | (with_reducible refine Below.allocS ?_ _) | (with_reducible refine Below.moreS ?_ _) | (with_reducible refine Below.drew ?_) | (with_reducible refine below_drewN ?_ _)))⟩
      · have hr : (r1, r2) = ((k : Int), true) := HH.out k (by rw [HT.out, if_pos (by simpa using e1)])
        obtain ⟨rfl, rfl⟩ := Prod.mk.inj hr
        clear HT hr
        go_wp2_with fail
        go_ret2
        exact ⟨rfl, Below.junk (by repeat (first | (with_reducible exact Below.refl _ _) | (with_reducible refine Below.allocS ?_ _) | (with_reducible refine Below.moreS ?_ _) | (with_reducible refine Below.drew ?_) | (with_reducible refine below_drewN ?_ _)))⟩
    · obtain rfl : q = 0 := by omega
      have HM2 := Lib.hid (HM.out HS.out)
      clear HS HM HH hkq
      cases is
      · have hr : (r1, r2) = (0, false) := by rw [HM2.out, if_neg (by simp)]
        obtain ⟨rfl, rfl⟩ := Prod.mk.inj hr
        clear HM2 hr
        go_wp2_with (go_at_call 93; (with_reducible refine (HR.out _).mono ?_); rintro e w' ⟨rfl, rfl⟩)
        go_ret2
        exact ⟨rfl, Below.junk (by repeat (first | (with_reducible exact Below.refl _ _) | (with_reducible refine Below.allocS ?_ _) | (with_reducible refine Below.moreS ?_ _) | (with_reducible refine Below.drew ?_) | (with_reducible refine below_drewN ?_ _)))⟩
      · by_cases h14 : 14 ≤ n
        · by_cases hbig : n < 4294967296
          · have hr : (r1, r2) = (n, true) := by rw [HM2.out, if_pos ⟨rfl, (by omega : 14 ≤ n), (by omega : n ≤ 4294967295)⟩]
            obtain ⟨rfl, rfl⟩ := Prod.mk.inj hr
            clear HM2 hr
            go_wp2_with (go_at_call 93; (with_reducible refine (HR.out _).mono ?_); rintro e w' ⟨rfl, rfl⟩)
            go_ret2
            exact ⟨rfl, Below.junk (by repeat (first | (with_reducible exact Below.refl _ _) | (with_reducible refine Below.allocS ?_ _) | (with_reducible refine Below.moreS ?_ _) | (with_reducible refine Below.drew ?_) | (with_reducible refine below_drewN ?_ _)))⟩
          · have hr : (r1, r2) = (0, false) := by rw [HM2.out, if_neg (by simp; omega)]
            obtain ⟨rfl, rfl⟩ := Prod.mk.inj hr
            clear HM2 hr
            go_wp2_with (go_at_call 93; (with_reducible refine (HR.out _).mono ?_); rintro e w' ⟨rfl, rfl⟩)
            go_ret2
            exact ⟨rfl, Below.junk (by repeat (first | (with_reducible exact Below.refl _ _) | (with_reducible refine Below.allocS ?_ _) | (with_reducible refine Below.moreS ?_ _) | (with_reducible refine Below.drew ?_) | (with_reducible refine below_drewN ?_ _)))⟩
        · have hr : (r1, r2) = (0, false) := by rw [HM2.out, if_neg (by simp; omega)]
          obtain ⟨rfl, rfl⟩ := Prod.mk.inj hr
          clear HM2 hr
          go_wp2_with (go_at_call 93; (with_reducible refine (HR.out _).mono ?_); rintro e w' ⟨rfl, rfl⟩)
          go_ret2
          exact ⟨rfl, Below.junk (by repeat (first | (with_reducible exact Below.refl _ _) | (with_reducible refine Below.allocS ?_ _) | (with_reducible refine Below.moreS ?_ _) | (with_reducible refine Below.drew ?_) | (with_reducible refine below_drewN ?_ _)))⟩
end Go.Proofs.YtbdmepidabnfkaaGreatDoor
/-
  Faults: their texts, and sets' texts: the program's.
-/
namespace Go.Proofs.YtbdmepidabnfkaaGreatDoor
set_option linter.unusedSimpArgs false
set_option linter.unusedVariables false
set_option linter.unusedSectionVars false
open Go.ChangeShapes Go.WideShapes Go.ChangeAt Go.RowKit Go.Deep Go.Shelf

set_option maxRecDepth 100000 in
theorem faults_scope (n : Int) (w : World) : Calls Tryz.prog 106 #[.int .i64 n] w fun e w' => e = .returned (bstr (scopeW n)) ∧ w = w' := by
  cases h : (n == 1)
  · have hn : ¬ n = 1 := by simpa using h
    have HR : Hid (scopeW n = [99, 111, 110, 110, 101, 99, 116, 105, 111, 110]) := by show _ = _; unfold scopeW; rw [if_neg hn]
    clear hn
    go_enter Tryz.func106, Tryz.ntmps106
    go_wp2_with fail
    go_ret
    exact ⟨by rw [HR.out]; rfl, rfl⟩
  · obtain rfl : n = 1 := by simpa using h
    clear h
    go_enter Tryz.func106, Tryz.ntmps106
    go_wp2_with fail
    go_ret
    exact ⟨rfl, rfl⟩
/-- What a fault's text asks of its code's name. -/
abbrev NameAt (c : Int) (w : World) : Prop := Calls Tryz.prog 107 #[.int .i64 c] w fun e w' => e = .returned (bstr (codeN c)) ∧ ∃ j, w' = w.more j
set_option maxHeartbeats 2000000 in
set_option maxRecDepth 100000 in
theorem faults_Text (s c : Int) (w : World) (hC : flR ⟨s, c⟩ = true → ∀ W, Below w.heap.size w W → NameAt c W) : Calls Tryz.prog 66 #[.agg #[.int .i64 s, .int .i64 c]] w fun e w' => e = .returned (bstr (textW ⟨s, c⟩)) ∧ ∃ j, w' = w.more j := by
  have HQ : Hid (∀ W, Calls Tryz.prog 102 #[.agg #[.int .i64 s, .int .i64 c]] W fun e w' => e = .returned (.bool (flR ⟨s, c⟩)) ∧ ∃ j, w' = W.more j) := faults_Right s c
  have HC := Lib.hid hC
  have HW : Hid (textW ⟨s, c⟩ = if flR ⟨s, c⟩ = true then scopeW s ++ 58 :: codeN c else []) := rfl
  clear hC
  have hl1 : (scopeW s).length ≤ 10 := by unfold scopeW; split <;> simp
  have hl2 := codeN_len c
  generalize textW ⟨s, c⟩ = T at HW ⊢
  generalize flR ⟨s, c⟩ = r at HQ HC HW
  cases r
  · have HR : Hid (T = []) := by show _ = _; rw [HW.out, if_neg (by simp)]
    clear HW HC
    go_enter Tryz.func66, Tryz.ntmps66
    go_wp2_with fail
    refine (HQ.out _).mono ?_
    rintro e w' ⟨rfl, j, rfl⟩
    go_wp2_with fail
    go_ret
    exact ⟨by rw [HR.out]; rfl, Below.junk (by repeat (first | (with_reducible exact Below.refl _ _) | (with_reducible refine Below.allocS ?_ _) | (with_reducible refine Below.moreS ?_ _) | (with_reducible refine Below.drew ?_) | (with_reducible refine below_drewN ?_ _)))⟩
  · have HR : Hid (T = scopeW s ++ 58 :: codeN c) := by show _ = _; rw [HW.out, if_pos rfl]
    have HS : Hid (∀ W, Calls Tryz.prog 106 #[.int .i64 s] W fun e w' => e = .returned (bstr (scopeW s)) ∧ W = w') := faults_scope s
    have HC2 : Hid (∀ W, Below w.heap.size w W → Calls Tryz.prog 107 #[.int .i64 c] W fun e w' => e = .returned (bstr (codeN c)) ∧ ∃ j', w' = W.more j') := HC.out rfl
    clear HW HC
    generalize scopeW s = P at HR HS hl1
    generalize codeN c = Q at HR HC2 hl2
    go_enter Tryz.func66, Tryz.ntmps66
    go_wp2_with fail
    refine (HQ.out _).mono ?_
    rintro e w' ⟨rfl, j, rfl⟩
    obtain ⟨wk, hwk⟩ : ∃ wk, wk = (w.alloc (.cells #[.int .i64 s, .int .i64 c] 88)).more j := ⟨_, rfl⟩
    have hbk : Below w.heap.size w wk := by rw [hwk]; exact (by repeat (first | (with_reducible exact Below.refl _ _) | (with_reducible refine Below.allocS ?_ _) | (with_reducible refine Below.moreS ?_ _) | (with_reducible refine Below.drew ?_) | (with_reducible refine below_drewN ?_ _)))
    have d0 : wk.cell? ⟨w.heap.size, 0, none⟩ = some (.int .i64 s) := by rw [hwk]; go_simp
    have d1 : wk.cell? ⟨w.heap.size, 1, none⟩ = some (.int .i64 c) := by rw [hwk]; go_simp
    have hks : w.heap.size < wk.heap.size := by rw [hwk]; simp; omega
    have HBK := Lib.hid hbk
    rw [← hwk]
    clear hwk hbk
    go_wp2_with fail
    refine wp_region_more (by kernel_rfl) (by kernel_rfl) ?_
    repeat (go_big_quiet_step (first | (go_at_call 106; exact more_of_same (HS.out _)) | (go_at_call 107; exact more_of (HC2.out _ (HBK.out.moreS _)))))
    refine wpQuiet_nil ?_
    intro w' hw'
    obtain ⟨j, rfl⟩ := hw'
    go_wp2_with fail
    go_ret
    exact ⟨by rw [HR.out]; simp, (HBK.out.moreS _).junk⟩

set_option maxHeartbeats 8000000 in
set_option maxRecDepth 100000 in
theorem faults_Show (a : Option Addr) (l : List Fl) (cap : Nat) (hl : l.length ≤ 100000) (w : World) (hS : SlFl w w.heap.size a l) (hC : ∀ f ∈ ofF l, ∀ W, Below w.heap.size w W → NameAt f.code W) :
    Calls Tryz.prog 23 #[.slice a l.length cap] w fun e w' => e = .returned (bstr (showW l)) ∧ ∃ j, w' = w.more j := by
  have HO := Lib.hid (faults_Of a l cap (by omega) w hS)
  have hlen := ofF_len l
  have HC := Lib.hid hC
  have HW : Hid (showW l = if ofF l = [] then [45] else Lib.join ((ofF l).map textW) [44]) := rfl
  generalize ofF l = S at HO HC HW hlen
  generalize showW l = R at HW ⊢
  clear hS hC
  go_enter Tryz.func23, Tryz.ntmps23
  go_wp2_with fail
  refine HO.out.mono ?_
  rintro e w1 ⟨a1, cap1, rfl, hcap1, hs1, hb1⟩
  have HS1 := Lib.hid hs1
  have HB1 := Lib.hid hb1
  have HL := Lib.hid hlen
  clear hs1 hb1 hcap1
  by_cases h0 : S = []
  · have hr : R = [45] := by rw [HW.out, if_pos h0]
    subst h0 hr
    clear HW HC HS1 HL
    go_wp2_with fail
    go_ret
    exact ⟨rfl, HB1.out.junk⟩
  have hne : ¬ S.length = 0 := by simpa using h0
  have hnb : ((S.length : Int) == 0) = false := by rw [beq_eq_false_iff_ne]; omega
  have HR : Hid (R = Lib.join (S.map textW) [44]) := by show _ = _; rw [HW.out, if_neg h0]
  clear HW h0
  go_wp2_with fail
  go_loopg [4, 14] S.length (fun g v i wr => ∃ k : Nat, k + g = S.length ∧ i = .int .i64 k ∧ OwnX w1.heap.size wr v ((S.take k).map textW) ∧ Below w1.heap.size w1 wr)
  case atStart => exact ⟨0, by omega, rfl, OwnX.nil _ _, Below.refl _ _⟩
  case round =>
    obtain ⟨k, hkg, rfl, HX, hb⟩ := hrel
    have HX := Lib.hid HX
    have HB := Lib.hid hb
    have HK := Lib.hid hkg
    by_cases hlt : k < S.length
    · obtain ⟨b, off, ha, hbb, c00, c01⟩ := SlR.atFl HS1.out hlt
      subst ha
      have c0 : wr.cell? ⟨b, off + k * 2, none⟩ = some (.int .i64 S[k].scope) := (hb.cell (p := ⟨b, off + k * 2, none⟩) hbb).trans c00
      have c1 : wr.cell? ⟨b, off + k * 2 + 1, none⟩ = some (.int .i64 S[k].code) := (hb.cell (p := ⟨b, off + k * 2 + 1, none⟩) hbb).trans c01
      have hbx : b < wr.heap.size := Nat.lt_of_lt_of_le hbb hb.size
      have HT : Hid (∀ W, Below wr.heap.size wr W → Calls Tryz.prog 66 #[.agg #[.int .i64 S[k].scope, .int .i64 S[k].code]] W fun e w' => e = .returned (bstr (textW S[k])) ∧ ∃ j', w' = W.more j') :=
        fun W hw => faults_Text _ _ _ fun _ W' hW => HC.out _ (List.getElem_mem hlt) _ (HB1.out.trans ((HB.out.mono HB1.out.size).trans ((hw.mono (Nat.le_trans HB1.out.size HB.out.size)).trans (hW.mono (by have := HB1.out.size; have := HB.out.size; have := hw.size; omega)))))
      have hU : (S.take (k + 1)).map textW = (S.take k).map textW ++ [textW S[k]] := by rw [List.take_add_one, List.getElem?_eq_getElem hlt, List.map_append]; rfl
      have hlk : ((S.take k).map textW).length ≤ k := by simp; omega
      have HU := Lib.hid hU
      generalize S[k] = x at c0 c1 HT HU
      obtain ⟨xs, xc⟩ := x
      generalize textW ⟨xs, xc⟩ = t at HT HU
      generalize (S.take k).map textW = out at HX HU hlk
      have HLK := Lib.hid hlk
      clear c00 c01 hb hkg hU hlk
      go_wp2_with fail
      refine (HT.out _ (by repeat (first | (with_reducible exact Below.refl _ _) | (with_reducible refine Below.allocS ?_ _) | (with_reducible refine Below.moreS ?_ _) | (with_reducible refine Below.drew ?_) | (with_reducible refine below_drewN ?_ _)))).mono ?_
      rintro e w2 ⟨rfl, j, rfl⟩
      go_wp2_with (at_builtin; refine app_text (.tmp 18) (.tmp 21) rfl rfl rfl (HX.out.below (C := wr.heap.size) (by repeat (first | (with_reducible exact Below.refl _ _) | (with_reducible refine Below.allocS ?_ _) | (with_reducible refine Below.moreS ?_ _) | (with_reducible refine Below.drew ?_) | (with_reducible refine below_drewN ?_ _))) (Nat.le_refl _)) rfl (Blk.at_ _ _ _ (by simp)) (by have := HLK.out; have := HL.out; omega) (by have := HB.out.size; simp only [World.size_alloc, World.size_more]; omega) ?_; intro v' w2 hown hbw)
      have hb2 := HB.out.trans ((Below.mono (B := wr.heap.size) (by repeat (first | (with_reducible exact Below.refl _ _) | (with_reducible refine Below.allocS ?_ _) | (with_reducible refine Below.moreS ?_ _) | (with_reducible refine Below.drew ?_) | (with_reducible refine below_drewN ?_ _))) HB.out.size).trans hbw)
      have HB2 := Lib.hid hb2
      have HX2 := Lib.hid hown
      clear hbw hb2 hown
      go_wp2_with fail
      go_roundg (S.length - (k + 1))
      case measure => have := HK.out; omega
      case rel => exact ⟨k + 1, by have := HK.out; omega, by go_num, by rw [HU.out]; exact HX2.out, HB2.out⟩
    · have hk : S.take k = S := List.take_of_length_le (by omega)
      have hlen2 : ∀ x ∈ S.map textW, x.length ≤ 1000 := by simp only [List.mem_map]; rintro x ⟨f, _, rfl⟩; exact Nat.le_trans (textW_len f) (by omega)
      have hX := HX.out
      rw [hk] at hX
      obtain ⟨a3, cap3, rfl, hsl⟩ := hX.read (fun x hx => by have := hlen2 x hx; unfold maxLen; omega)
      obtain ⟨_, _, hv, hcap⟩ := hX.cap
      injection hv with e1 e2 e3
      subst e3
      have HJ := Lib.hid (strings_joinC 44 a3 cap3 (S.map textW) wr (by have := HL.out; simp; omega) hlen2 hcap hsl)
      rw [← HR.out] at HJ
      clear hX hsl hlen2 hcap HX hkg hb hk e1
      generalize S.map textW = out at HJ
      go_wp2_with fail
      refine HJ.out.mono ?_
      rintro e w2 ⟨rfl, hb3⟩
      have HB3 := Lib.hid ((HB1.out.trans (HB.out.mono HB1.out.size)).trans (hb3.mono (Nat.le_trans HB1.out.size HB.out.size)))
      clear hb3
      go_wp2_with fail
      go_ret
      exact ⟨rfl, HB3.out.junk⟩
end Go.Proofs.YtbdmepidabnfkaaGreatDoor
/-
  Faults: a text read as a fault: the program's.
-/
namespace Go.Proofs.YtbdmepidabnfkaaGreatDoor
set_option linter.unusedSimpArgs false
set_option linter.unusedVariables false
set_option linter.unusedSectionVars false
open Go.ChangeShapes Go.WideShapes Go.ChangeAt Go.RowKit Go.Deep Go.Shelf

theorem st_Fl : StructTy Tryz.prog 88 2 := ⟨_, Tryz.underlying88, rfl, by kernel_rfl⟩
theorem strings_cutAt (c : UInt8) (s : List UInt8) (w : World) (hm : s.length ≤ 1048576) (hE : Env w) :
    Calls Tryz.prog 116 #[bstr s, bstr [c]] w fun e w' => e = .returned (.tuple #[bstr (hdC c s).1, bstr (hdC c s).2.1, .bool (hdC c s).2.2]) ∧ ∃ j, w' = w.more j := by
  obtain ⟨m, hM⟩ := hE.max
  refine (Tryz.strings_Cut ⟨s.toArray⟩ ⟨#[c]⟩ m w (by show s.length < _; omega) hM).mono ?_
  rintro e w' ⟨he, n, hw⟩
  refine ⟨?_, by subst hw; exact Below.junk (below_drewN (Below.refl _ _) n)⟩
  rw [he, ← hd_cut]
theorem codeOf_empty : codeOf [] = (0, false) := by decide
theorem hdC_len (c : UInt8) (s : List UInt8) : (hdC c s).2.1.length ≤ s.length := by
  unfold hdC
  cases h : hdF c s with
  | none => simp
  | some p =>
    obtain ⟨a, b⟩ := p
    obtain ⟨rfl, _⟩ := hd_some h
    simp
    omega
def readP (p : List UInt8 × List UInt8 × Bool) : Fl × Bool :=
  if (codeOf p.2.1).2 = true ∧ p.1 = [115, 116, 114, 101, 97, 109] then (⟨1, (codeOf p.2.1).1⟩, true) else if (codeOf p.2.1).2 = true ∧ p.1 = [99, 111, 110, 110, 101, 99, 116, 105, 111, 110] then (⟨2, (codeOf p.2.1).1⟩, true) else (⟨0, 0⟩, false)
theorem readW_P (s : List UInt8) : readW s = readP (hdC 58 s) := by
  unfold readW readP hdC
  cases h : hdF 58 s with
  | none =>
    simp only
    rw [codeOf_empty, if_neg (by simp), if_neg (by simp)]
  | some p => rfl

set_option maxHeartbeats 8000000 in
set_option maxRecDepth 100000 in
theorem faults_Read (s : List UInt8) (hm : s.length ≤ 1000000) (w : World) (hE : Env w) (hF : FN w) :
    Calls Tryz.prog 82 #[bstr s] w fun e w' => e = .returned (.tuple #[.agg #[.int .i64 (readW s).1.scope, .int .i64 (readW s).1.code], .bool (readW s).2]) ∧ ∃ j, w' = w.more j := by
  have HC : Hid (∀ W, Env W → Calls Tryz.prog 116 #[bstr s, bstr [58]] W fun e w' => e = .returned (.tuple #[bstr (hdC 58 s).1, bstr (hdC 58 s).2.1, .bool (hdC 58 s).2.2]) ∧ ∃ j, w' = W.more j) := fun W hW => strings_cutAt 58 s W (by omega) hW
  have hlen := hdC_len 58 s
  have HR : Hid (readW s = readP (hdC 58 s)) := readW_P s
  generalize readW s = R at HR ⊢
  generalize hdC 58 s = p at HC HR hlen
  obtain ⟨a, b, f⟩ := p
  simp only at HC HR hlen
  have HD : Hid (∀ W, Env W → FN W → Calls Tryz.prog 117 #[bstr b] W fun e w' => e = .returned (.tuple #[.int .i64 (codeOf b).1, .bool (codeOf b).2]) ∧ ∃ j, w' = W.more j) := fun W => faults_Code b (by omega) W
  have HR2 : Hid (R = if (codeOf b).2 = true ∧ a = [115, 116, 114, 101, 97, 109] then (⟨1, (codeOf b).1⟩, true) else if (codeOf b).2 = true ∧ a = [99, 111, 110, 110, 101, 99, 116, 105, 111, 110] then (⟨2, (codeOf b).1⟩, true) else (⟨0, 0⟩, false)) := HR.out
  generalize codeOf b = q at HD HR2
  obtain ⟨cd, is⟩ := q
  simp only at HD HR2
  have HE := Lib.hid hE
  have HN := Lib.hid hF
  clear HR hE hF hm hlen
  cases is
  · have hr : R = (⟨0, 0⟩, false) := by rw [HR2.out, if_neg (by simp), if_neg (by simp)]
    subst hr
    clear HR2
    go_enter Tryz.func82, Tryz.ntmps82
    go_wp2_with (first
      | (go_at_call 116; (with_reducible refine (HC.out _ (HE.out.below (by repeat (first | (with_reducible exact Below.refl _ _) | (with_reducible refine Below.allocS ?_ _) | (with_reducible refine Below.moreS ?_ _) | (with_reducible refine Below.drew ?_) | (with_reducible refine below_drewN ?_ _))))).mono ?_); rintro e w' ⟨rfl, j, rfl⟩)
      | (go_at_call 117; (with_reducible refine (HD.out _ (HE.out.below (by repeat (first | (with_reducible exact Below.refl _ _) | (with_reducible refine Below.allocS ?_ _) | (with_reducible refine Below.moreS ?_ _) | (with_reducible refine Below.drew ?_) | (with_reducible refine below_drewN ?_ _)))) (HN.out.below (by repeat (first | (with_reducible exact Below.refl _ _) | (with_reducible refine Below.allocS ?_ _) | (with_reducible refine Below.moreS ?_ _) | (with_reducible refine Below.drew ?_) | (with_reducible refine below_drewN ?_ _))))).mono ?_); rintro e w' ⟨rfl, j, rfl⟩))
    refine bodyPost_ret (res_cell_tmp (cs := #[.int .i64 0, .int .i64 0]) rfl st_Fl rfl (by repeat (first | ((with_reducible apply Blk.at_); (simp; done)) | (with_reducible apply Blk.alloc) | (with_reducible apply Blk.more) | (with_reducible apply Blk.drew))) rfl rfl) rfl ⟨rfl, Below.junk (by repeat (first | (with_reducible exact Below.refl _ _) | (with_reducible refine Below.allocS ?_ _) | (with_reducible refine Below.moreS ?_ _) | (with_reducible refine Below.drew ?_) | (with_reducible refine below_drewN ?_ _)))⟩
  · have HS : Hid (∀ n W, Calls Tryz.prog 106 #[.int .i64 n] W fun e w' => e = .returned (bstr (scopeW n)) ∧ W = w') := faults_scope
    go_enter Tryz.func82, Tryz.ntmps82
    go_wp2_with (first
      | (go_at_call 116; (with_reducible refine (HC.out _ (HE.out.below (by repeat (first | (with_reducible exact Below.refl _ _) | (with_reducible refine Below.allocS ?_ _) | (with_reducible refine Below.moreS ?_ _) | (with_reducible refine Below.drew ?_) | (with_reducible refine below_drewN ?_ _))))).mono ?_); rintro e w' ⟨rfl, j, rfl⟩)
      | (go_at_call 117; (with_reducible refine (HD.out _ (HE.out.below (by repeat (first | (with_reducible exact Below.refl _ _) | (with_reducible refine Below.allocS ?_ _) | (with_reducible refine Below.moreS ?_ _) | (with_reducible refine Below.drew ?_) | (with_reducible refine below_drewN ?_ _)))) (HN.out.below (by repeat (first | (with_reducible exact Below.refl _ _) | (with_reducible refine Below.allocS ?_ _) | (with_reducible refine Below.moreS ?_ _) | (with_reducible refine Below.drew ?_) | (with_reducible refine below_drewN ?_ _))))).mono ?_); rintro e w' ⟨rfl, j, rfl⟩))
    go_loopg [9] 2 (fun g i wr => ∃ k q : Nat, q = g ∧ k + q = 2 ∧ i = .int .i64 ((k : Int) + 1) ∧ Hid (1 ≤ k → a ≠ [115, 116, 114, 101, 97, 109]) ∧ Hid (2 ≤ k → a ≠ [99, 111, 110, 110, 101, 99, 116, 105, 111, 110]) ∧ ∃ j, wr = (w.alloc (.cells #[.int .i64 0, .int .i64 0] 88)).more j)
    case atStart => exact ⟨0, 2, rfl, rfl, rfl, fun h => absurd h (by omega), fun h => absurd h (by omega), _, rfl⟩
    case round =>
      obtain ⟨k, q, hq, hkq, rfl, HA, HB, j, rfl⟩ := hrel
      have HQ := Lib.hid hq
      clear hq
      rcases (by omega : k = 0 ∨ k = 1 ∨ k = 2) with rfl | rfl | rfl
      · have HS1 : Hid (∀ W, Calls Tryz.prog 106 #[.int .i64 1] W fun e w' => e = .returned (bstr [115, 116, 114, 101, 97, 109]) ∧ W = w') := HS.out 1
        cases e1 : (([115, 116, 114, 101, 97, 109] : List UInt8) == a)
        · have HA2 : Hid (1 ≤ 1 → a ≠ [115, 116, 114, 101, 97, 109]) := fun _ h => by rw [h] at e1; simp at e1
          go_wp2_with (go_at_call 106; (with_reducible refine (HS1.out _).mono ?_); rintro e w' ⟨rfl, rfl⟩)
          go_roundg 1
          case measure => have := HQ.out; omega
          case rel => exact ⟨1, 1, rfl, by omega, by go_num, HA2, fun h => absurd h (by omega), _, rfl⟩
        · have hr : R = (⟨1, cd⟩, true) := by rw [HR2.out, if_pos ⟨trivial, (eq_of_beq e1).symm⟩]
          subst hr
          clear HR2
          go_wp2_with (go_at_call 106; (with_reducible refine (HS1.out _).mono ?_); rintro e w' ⟨rfl, rfl⟩)
          refine bodyPost_ret (res_cell_tmp (cs := #[.int .i64 1, .int .i64 cd]) rfl st_Fl rfl (by repeat (first | ((with_reducible apply Blk.at_); (simp; done)) | (with_reducible apply Blk.alloc) | (with_reducible apply Blk.more) | (with_reducible apply Blk.drew))) rfl rfl) rfl ⟨rfl, Below.junk (by repeat (first | (with_reducible exact Below.refl _ _) | (with_reducible refine Below.allocS ?_ _) | (with_reducible refine Below.moreS ?_ _) | (with_reducible refine Below.drew ?_) | (with_reducible refine below_drewN ?_ _)))⟩
      · have HS1 : Hid (∀ W, Calls Tryz.prog 106 #[.int .i64 2] W fun e w' => e = .returned (bstr [99, 111, 110, 110, 101, 99, 116, 105, 111, 110]) ∧ W = w') := HS.out 2
        cases e1 : (([99, 111, 110, 110, 101, 99, 116, 105, 111, 110] : List UInt8) == a)
        · have HA2 : Hid (2 ≤ 2 → a ≠ [99, 111, 110, 110, 101, 99, 116, 105, 111, 110]) := fun _ h => by rw [h] at e1; simp at e1
          have HA3 : Hid (1 ≤ 2 → a ≠ [115, 116, 114, 101, 97, 109]) := fun _ => HA.out (by omega)
          go_wp2_with (go_at_call 106; (with_reducible refine (HS1.out _).mono ?_); rintro e w' ⟨rfl, rfl⟩)
          go_roundg 0
          case measure => have := HQ.out; omega
          case rel => exact ⟨2, 0, rfl, by omega, by go_num, HA3, HA2, _, rfl⟩
        · have hr : R = (⟨2, cd⟩, true) := by rw [HR2.out, if_neg (fun h => HA.out (by omega) h.2), if_pos ⟨trivial, (eq_of_beq e1).symm⟩]
          subst hr
          clear HR2
          go_wp2_with (go_at_call 106; (with_reducible refine (HS1.out _).mono ?_); rintro e w' ⟨rfl, rfl⟩)
          refine bodyPost_ret (res_cell_tmp (cs := #[.int .i64 2, .int .i64 cd]) rfl st_Fl rfl (by repeat (first | ((with_reducible apply Blk.at_); (simp; done)) | (with_reducible apply Blk.alloc) | (with_reducible apply Blk.more) | (with_reducible apply Blk.drew))) rfl rfl) rfl ⟨rfl, Below.junk (by repeat (first | (with_reducible exact Below.refl _ _) | (with_reducible refine Below.allocS ?_ _) | (with_reducible refine Below.moreS ?_ _) | (with_reducible refine Below.drew ?_) | (with_reducible refine below_drewN ?_ _)))⟩
      · have hr : R = (⟨0, 0⟩, false) := by rw [HR2.out, if_neg (fun h => HA.out (by omega) h.2), if_neg (fun h => HB.out (by omega) h.2)]
        subst hr
        clear HR2
        go_wp2_with fail
        refine bodyPost_ret (res_cell_tmp (cs := #[.int .i64 0, .int .i64 0]) rfl st_Fl rfl (by repeat (first | ((with_reducible apply Blk.at_); (simp; done)) | (with_reducible apply Blk.alloc) | (with_reducible apply Blk.more) | (with_reducible apply Blk.drew))) rfl rfl) rfl ⟨rfl, Below.junk (by repeat (first | (with_reducible exact Below.refl _ _) | (with_reducible refine Below.allocS ?_ _) | (with_reducible refine Below.moreS ?_ _) | (with_reducible refine Below.drew ?_) | (with_reducible refine below_drewN ?_ _)))⟩
end Go.Proofs.YtbdmepidabnfkaaGreatDoor
/-
  Faults: their texts, and sets' texts: the document's.
-/
namespace Go.Proofs.YtbdmepidabnfkaaGreatDoor
set_option linter.unusedSimpArgs false
set_option linter.unusedVariables false
set_option linter.unusedSectionVars false
open Go.ChangeShapes Go.WideShapes Go.ChangeAt Go.RowKit Go.Deep Go.Shelf

set_option maxHeartbeats 2000000 in
set_option maxRecDepth 100000 in
theorem ref09_Text (s c : Int) (w : World) : Calls Tryz.prog 90 #[.agg #[.int .i64 s, .int .i64 c]] w fun e w' => e = .returned (bstr (textW ⟨s, c⟩)) ∧ ∃ j, w' = w.more j := by
  have HQ : Hid (∀ W, Calls Tryz.prog 76 #[.agg #[.int .i64 s, .int .i64 c]] W fun e w' => e = .returned (.bool (flR ⟨s, c⟩)) ∧ ∃ j, w' = W.more j) := ref09_Right s c
  have HC : Hid (∀ W, Calls Tryz.prog 122 #[.int .i64 c] W fun e w' => e = .returned (bstr (codeN c)) ∧ ∃ j, w' = W.more j) := ref09_CodeName c
  have HW : Hid (textW ⟨s, c⟩ = if flR ⟨s, c⟩ = true then scopeW s ++ 58 :: codeN c else []) := rfl
  have hl2 := codeN_len c
  generalize textW ⟨s, c⟩ = T at HW ⊢
  generalize flR ⟨s, c⟩ = r at HQ HW
  cases r
  · have HR : Hid (T = []) := by show _ = _; rw [HW.out, if_neg (by simp)]
    clear HW HC
    go_enter Tryz.func90, Tryz.ntmps90
    go_wp2_with fail
    refine (HQ.out _).mono ?_
    rintro e w' ⟨rfl, j, rfl⟩
    go_wp2_with fail
    go_ret
    exact ⟨by rw [HR.out]; rfl, Below.junk (by repeat (first | (with_reducible exact Below.refl _ _) | (with_reducible refine Below.allocS ?_ _) | (with_reducible refine Below.moreS ?_ _) | (with_reducible refine Below.drew ?_) | (with_reducible refine below_drewN ?_ _)))⟩
  · have HR : Hid (T = scopeW s ++ 58 :: codeN c) := by show _ = _; rw [HW.out, if_pos rfl]
    clear HW
    generalize codeN c = Q at HR HC hl2
    cases h1 : (s == 1)
    · have hs : ¬ s = 1 := by simpa using h1
      have HR2 : Hid (T = [99, 111, 110, 110, 101, 99, 116, 105, 111, 110, 58] ++ Q) := by show _ = _; rw [HR.out]; unfold scopeW; rw [if_neg hs]; rfl
      clear HR hs
      go_enter Tryz.func90, Tryz.ntmps90
      go_wp2_with fail
      refine (HQ.out _).mono ?_
      rintro e w' ⟨rfl, j, rfl⟩
      go_wp2_with (go_at_call 122; (with_reducible refine (HC.out _).mono ?_); rintro e w' ⟨rfl, j, rfl⟩)
      go_ret
      exact ⟨by rw [HR2.out]; rfl, Below.junk (by repeat (first | (with_reducible exact Below.refl _ _) | (with_reducible refine Below.allocS ?_ _) | (with_reducible refine Below.moreS ?_ _) | (with_reducible refine Below.drew ?_) | (with_reducible refine below_drewN ?_ _)))⟩
    · obtain rfl : s = 1 := by simpa using h1
      have HR2 : Hid (T = [115, 116, 114, 101, 97, 109, 58] ++ Q) := by show _ = _; rw [HR.out]; rfl
      clear HR h1
      go_enter Tryz.func90, Tryz.ntmps90
      go_wp2_with fail
      refine (HQ.out _).mono ?_
      rintro e w' ⟨rfl, j, rfl⟩
      go_wp2_with (go_at_call 122; (with_reducible refine (HC.out _).mono ?_); rintro e w' ⟨rfl, j, rfl⟩)
      go_ret
      exact ⟨by rw [HR2.out]; rfl, Below.junk (by repeat (first | (with_reducible exact Below.refl _ _) | (with_reducible refine Below.allocS ?_ _) | (with_reducible refine Below.moreS ?_ _) | (with_reducible refine Below.drew ?_) | (with_reducible refine below_drewN ?_ _)))⟩

theorem show_step (S : List Fl) (k : Nat) (hk : k < S.length) (h0 : 0 < k) : Lib.join ((S.take (k + 1)).map textW) [44] = Lib.join ((S.take k).map textW) [44] ++ [44] ++ textW S[k] := by
  rw [List.map_take, List.map_take, take_join_c 44 _ k (by simpa using hk), if_neg (by omega)]
  simp
set_option maxHeartbeats 8000000 in
set_option maxRecDepth 100000 in
theorem ref09_Show (a : Option Addr) (l : List Fl) (cap : Nat) (hl : l.length ≤ 100000) (w : World) (hS : SlFl w w.heap.size a l) :
    Calls Tryz.prog 49 #[.slice a l.length cap] w fun e w' => e = .returned (bstr (showW l)) ∧ ∃ j, w' = w.more j := by
  have HO := Lib.hid (ref09_Of a l cap (by omega) w hS)
  have hlen := ofF_len l
  have HW : Hid (showW l = if ofF l = [] then [45] else Lib.join ((ofF l).map textW) [44]) := rfl
  generalize ofF l = S at HO HW hlen
  generalize showW l = R at HW ⊢
  clear hS
  go_enter Tryz.func49, Tryz.ntmps49
  go_wp2_with fail
  refine HO.out.mono ?_
  rintro e w1 ⟨a1, cap1, rfl, hcap1, hs1, hb1⟩
  have HS1 := Lib.hid hs1
  have HB1 := Lib.hid hb1
  have HL := Lib.hid hlen
  clear hs1 hb1 hcap1
  cases hS : S with
  | nil =>
    have hr : R = [45] := by rw [HW.out, if_pos hS]
    subst hS hr
    clear HW HS1 HL
    go_wp2_with fail
    go_ret
    exact ⟨rfl, HB1.out.junk⟩
  | cons x0 r0 =>
  have h0 : 0 < S.length := by rw [hS]; simp
  have hR : R = Lib.join ((S.take S.length).map textW) [44] := by rw [HW.out, if_neg (by rw [hS]; simp), List.take_length]
  have HR := Lib.hid hR
  rw [← hS]
  have HZ : Hid (textW S[0] = Lib.join ((S.take 1).map textW) [44]) := by
    show _ = _
    rw [show S.take 1 = S.take 0 ++ [S[0]] from List.take_succ_eq_append_getElem h0]
    simp [Lib.join_one]
  obtain ⟨b, off, ha, hbb, c00, c01⟩ := SlR.atFl HS1.out h0
  subst ha
  simp only [Nat.zero_mul, Nat.add_zero] at c00 c01
  have HT0 : Hid (∀ W, Calls Tryz.prog 90 #[.agg #[.int .i64 S[0].scope, .int .i64 S[0].code]] W fun e w' => e = .returned (bstr (textW S[0])) ∧ ∃ j, w' = W.more j) := fun W => ref09_Text _ _ W
  have hlen0 := textW_len S[0]
  have hne : ¬ S.length = 0 := by omega
  have hnb : ((S.length : Int) == 0) = false := by rw [beq_eq_false_iff_ne]; omega
  generalize textW S[0] = t0 at HZ HT0 hlen0
  generalize S[0] = x at c00 c01 HT0
  obtain ⟨xs, xc⟩ := x
  clear HW hR hS
  go_wp2_with fail
  refine (HT0.out _).mono ?_
  rintro e w2 ⟨rfl, j0, rfl⟩
  go_wp2_with fail
  go_loopg [4, 5] S.length (fun g v i wr => ∃ (k : Nat) (acc : List UInt8), k + g = S.length + 1 ∧ 1 ≤ k ∧ k ≤ S.length ∧ i = .int .i64 k ∧ v = bstr acc ∧ acc.length ≤ 32 * k ∧ Hid (acc = Lib.join ((S.take k).map textW) [44]) ∧ ∃ j, wr = w1.more j)
  case atStart => exact ⟨1, t0, by omega, Nat.le_refl _, h0, rfl, rfl, by omega, HZ, ⟨j0, rfl⟩⟩
  case round =>
    obtain ⟨k, acc, hkg, hk1, hk2, rfl, rfl, hacc, HA, j, rfl⟩ := hrel
    have HK := Lib.hid hkg
    by_cases hlt : k < S.length
    · obtain ⟨b', off', ha, hbb2, d0, d1⟩ := SlR.atFl HS1.out hlt
      injection ha with ha
      injection ha with ha1 ha2
      subst ha1 ha2
      have HT : Hid (∀ W, Calls Tryz.prog 90 #[.agg #[.int .i64 S[k].scope, .int .i64 S[k].code]] W fun e w' => e = .returned (bstr (textW S[k])) ∧ ∃ j, w' = W.more j) := fun W => ref09_Text _ _ W
      have hlk := textW_len S[k]
      have HU : Hid (acc ++ [44] ++ textW S[k] = Lib.join ((S.take (k + 1)).map textW) [44]) := by show _ = _; rw [HA.out, ← show_step S k hlt hk1]
      generalize textW S[k] = t at HT HU hlk
      generalize S[k] = x at d0 d1 HT
      obtain ⟨xs, xc⟩ := x
      clear HA hkg
      go_wp2_with fail
      refine (HT.out _).mono ?_
      rintro e w3 ⟨rfl, j3, rfl⟩
      go_wp2_with fail
      go_roundg (S.length - k)
      case measure => have := HK.out; omega
      case rel => exact ⟨k + 1, acc ++ [44] ++ t, by have := HK.out; omega, by omega, by omega, by go_num, by simp, by simp; omega, HU, Below.junk (by repeat (first | (with_reducible exact Below.refl _ _) | (with_reducible refine Below.allocS ?_ _) | (with_reducible refine Below.moreS ?_ _) | (with_reducible refine Below.drew ?_) | (with_reducible refine below_drewN ?_ _)))⟩
    · have hr : R = acc := by rw [HR.out, HA.out, show k = S.length by omega]
      subst hr
      clear HA hkg
      go_wp2_with fail
      go_ret
      exact ⟨rfl, (HB1.out.trans ((Below.refl w1.heap.size w1).moreS j |>.mono HB1.out.size)).junk⟩
end Go.Proofs.YtbdmepidabnfkaaGreatDoor
/-
  Faults: a text read as a fault: the document's.
-/
namespace Go.Proofs.YtbdmepidabnfkaaGreatDoor
set_option linter.unusedSimpArgs false
set_option linter.unusedVariables false
set_option linter.unusedSectionVars false
open Go.ChangeShapes Go.WideShapes Go.ChangeAt Go.RowKit Go.Deep Go.Shelf

theorem hd_absent {c : UInt8} {s : List UInt8} (h : c ∉ s) : hdF c s = none := by
  cases hd : hdF c s with
  | none => rfl
  | some p =>
    obtain ⟨a, b⟩ := p
    obtain ⟨rfl, _⟩ := hd_some hd
    exact absurd (by simp) h
theorem readW_none {s : List UInt8} (h : (58 : UInt8) ∉ s) : readW s = (⟨0, 0⟩, false) := by
  unfold readW
  rw [hd_absent h]
theorem readW_at {s : List UInt8} {k : Nat} (hk : k < s.length) (hc : s[k] = 58) (h : (58 : UInt8) ∉ s.take k) :
    readW s = if (codeOf (s.drop (k + 1))).2 = true ∧ textW (docFl (s.take k) (s.drop (k + 1))) = s then (docFl (s.take k) (s.drop (k + 1)), true) else (⟨0, 0⟩, false) := by
  have e : s = s.take k ++ 58 :: s.drop (k + 1) := by rw [← hc, ← List.drop_eq_getElem_cons hk, List.take_append_drop]
  have hd : hdF 58 s = some (s.take k, s.drop (k + 1)) := by
    have := hd_app 58 (s.drop (k + 1)) (s.take k) h
    rw [← e] at this
    exact this
  rw [readW_eq]
  unfold readD
  rw [hd]

set_option maxHeartbeats 8000000 in
set_option maxRecDepth 100000 in
theorem ref09_Read (s : List UInt8) (hm : s.length ≤ 1000000) (w : World) :
    Calls Tryz.prog 96 #[bstr s] w fun e w' => e = .returned (.tuple #[.agg #[.int .i64 (readW s).1.scope, .int .i64 (readW s).1.code], .bool (readW s).2]) ∧ ∃ j, w' = w.more j := by
  have HR0 : Hid ((58 : UInt8) ∉ s → readW s = (⟨0, 0⟩, false)) := readW_none
  have HR1 : Hid (∀ k (hk : k < s.length), s[k] = 58 → (58 : UInt8) ∉ s.take k → readW s = if (codeOf (s.drop (k + 1))).2 = true ∧ textW (docFl (s.take k) (s.drop (k + 1))) = s then (docFl (s.take k) (s.drop (k + 1)), true) else (⟨0, 0⟩, false)) := fun k hk => readW_at hk
  generalize readW s = R at HR0 HR1 ⊢
  go_enter Tryz.func96, Tryz.ntmps96
  go_wp2_with fail
  go_loopg [4] s.length (fun g i wr => ∃ k : Nat, k + g = s.length ∧ i = .int .i64 k ∧ Hid ((58 : UInt8) ∉ s.take k) ∧ ∃ j, wr = (w.alloc (.cells #[.int .i64 0, .int .i64 0] 88)).more j)
  case atStart => exact ⟨0, by omega, rfl, by show _ ∉ _; simp, _, more_self _⟩
  case round =>
    obtain ⟨k, hkg, rfl, HA, j, rfl⟩ := hrel
    have HK := Lib.hid hkg
    by_cases hlt : k < s.length
    · have hlt' : (k : Int) < s.length := by omega
      by_cases h58 : s[k] = 58
      · have hc : ((s[k].toNat : Int) != 58) = false := by rw [h58]; rfl
        have hc2 : ((s[k].toNat : Int) == 58) = true := by rw [h58]; rfl
        have HR := Lib.hid (HR1.out k hlt h58 HA.out)
        have hb : (s.drop (k + 1)).length ≤ 1048576 := by simp; omega
        have hcut : (s.drop (k + 1)).take (s.length - (k + 1)) = s.drop (k + 1) := List.take_of_length_le (by simp)
        have HC : Hid (∀ W, Calls Tryz.prog 125 #[bstr ((s.drop (k + 1)).take (s.length - (k + 1)))] W fun e w' => e = .returned (.tuple #[.int .i64 (codeOf (s.drop (k + 1))).1, .bool (codeOf (s.drop (k + 1))).2]) ∧ ∃ j, w' = W.more j) := fun W => by rw [hcut]; exact ref09_Code _ hb W
        have hdoc : docFl (s.take k) (s.drop (k + 1)) = ⟨if s.take k = [99, 111, 110, 110, 101, 99, 116, 105, 111, 110] then 2 else 1, (codeOf (s.drop (k + 1))).1⟩ := rfl
        rw [hdoc] at HR
        have i1 : (0 : Int) ≤ (k : Int) + 1 := by omega
        have i2 : (k : Int) + 1 ≤ s.length := by omega
        clear HR0 HR1 HA h58 hkg hb hdoc hcut
        generalize codeOf (s.drop (k + 1)) = q at HC HR
        obtain ⟨cd, is⟩ := q
        cases e3 : (s.take k == [99, 111, 110, 110, 101, 99, 116, 105, 111, 110])
        · have HR2 : Hid (R = if is = true ∧ textW ⟨1, cd⟩ = s then (⟨1, cd⟩, true) else (⟨0, 0⟩, false)) := by
            show _ = _
            have h1 := HR.out
            rw [show (if s.take k = [99, 111, 110, 110, 101, 99, 116, 105, 111, 110] then (2 : Int) else 1) = 1 from if_neg (fun h => by rw [h] at e3; simp at e3)] at h1
            exact h1
          have HT : Hid (∀ W, Calls Tryz.prog 90 #[.agg #[.int .i64 1, .int .i64 cd]] W fun e w' => e = .returned (bstr (textW ⟨1, cd⟩)) ∧ ∃ j, w' = W.more j) := ref09_Text 1 cd
          generalize textW ⟨1, cd⟩ = T at HT HR2
          clear HR
          cases is
          · have hr : R = (⟨0, 0⟩, false) := by rw [HR2.out, if_neg (by simp)]
            subst hr
            clear HR2
            go_wp2_with (go_at_call 125; (with_reducible refine (HC.out _).mono ?_); rintro e w' ⟨rfl, j, rfl⟩)
            refine bodyPost_ret (res_cell_tmp (cs := #[.int .i64 0, .int .i64 0]) rfl st_Fl rfl (by repeat (first | ((with_reducible apply Blk.at_); (simp; done)) | (with_reducible apply Blk.alloc) | (with_reducible apply Blk.more) | (with_reducible apply Blk.drew))) rfl rfl) rfl ⟨rfl, Below.junk (by repeat (first | (with_reducible exact Below.refl _ _) | (with_reducible refine Below.allocS ?_ _) | (with_reducible refine Below.moreS ?_ _) | (with_reducible refine Below.drew ?_) | (with_reducible refine below_drewN ?_ _)))⟩
          · cases e4 : (T == s)
            · have hr : R = (⟨0, 0⟩, false) := by rw [HR2.out, if_neg (by intro h; rw [h.2] at e4; simp at e4)]
              subst hr
              clear HR2
              go_wp2_with (first
                | (go_at_call 125; (with_reducible refine (HC.out _).mono ?_); rintro e w' ⟨rfl, j, rfl⟩)
                | (go_at_call 90; (with_reducible refine (HT.out _).mono ?_); rintro e w' ⟨rfl, j, rfl⟩))
              refine bodyPost_ret (res_cell_tmp (cs := #[.int .i64 0, .int .i64 0]) rfl st_Fl rfl (by repeat (first | ((with_reducible apply Blk.at_); (simp; done)) | (with_reducible apply Blk.alloc) | (with_reducible apply Blk.more) | (with_reducible apply Blk.drew))) rfl rfl) rfl ⟨rfl, Below.junk (by repeat (first | (with_reducible exact Below.refl _ _) | (with_reducible refine Below.allocS ?_ _) | (with_reducible refine Below.moreS ?_ _) | (with_reducible refine Below.drew ?_) | (with_reducible refine below_drewN ?_ _)))⟩
            · have hr : R = (⟨1, cd⟩, true) := by rw [HR2.out, if_pos ⟨rfl, eq_of_beq e4⟩]
              subst hr
              clear HR2
              go_wp2_with (first
                | (go_at_call 125; (with_reducible refine (HC.out _).mono ?_); rintro e w' ⟨rfl, j, rfl⟩)
                | (go_at_call 90; (with_reducible refine (HT.out _).mono ?_); rintro e w' ⟨rfl, j, rfl⟩))
              refine bodyPost_ret (res_cell_tmp (cs := #[.int .i64 1, .int .i64 cd]) rfl st_Fl rfl (by repeat (first | ((with_reducible apply Blk.at_); (simp; done)) | (with_reducible apply Blk.alloc) | (with_reducible apply Blk.more) | (with_reducible apply Blk.drew))) rfl rfl) rfl ⟨rfl, Below.junk (by repeat (first | (with_reducible exact Below.refl _ _) | (with_reducible refine Below.allocS ?_ _) | (with_reducible refine Below.moreS ?_ _) | (with_reducible refine Below.drew ?_) | (with_reducible refine below_drewN ?_ _)))⟩
        · have HR2 : Hid (R = if is = true ∧ textW ⟨2, cd⟩ = s then (⟨2, cd⟩, true) else (⟨0, 0⟩, false)) := by
            show _ = _
            have h1 := HR.out
            rw [show (if s.take k = [99, 111, 110, 110, 101, 99, 116, 105, 111, 110] then (2 : Int) else 1) = 2 from if_pos (eq_of_beq e3)] at h1
            exact h1
          have HT : Hid (∀ W, Calls Tryz.prog 90 #[.agg #[.int .i64 2, .int .i64 cd]] W fun e w' => e = .returned (bstr (textW ⟨2, cd⟩)) ∧ ∃ j, w' = W.more j) := ref09_Text 2 cd
          generalize textW ⟨2, cd⟩ = T at HT HR2
          clear HR
          cases is
          · have hr : R = (⟨0, 0⟩, false) := by rw [HR2.out, if_neg (by simp)]
            subst hr
            clear HR2
            go_wp2_with (go_at_call 125; (with_reducible refine (HC.out _).mono ?_); rintro e w' ⟨rfl, j, rfl⟩)
            refine bodyPost_ret (res_cell_tmp (cs := #[.int .i64 0, .int .i64 0]) rfl st_Fl rfl (by repeat (first | ((with_reducible apply Blk.at_); (simp; done)) | (with_reducible apply Blk.alloc) | (with_reducible apply Blk.more) | (with_reducible apply Blk.drew))) rfl rfl) rfl ⟨rfl, Below.junk (by repeat (first | (with_reducible exact Below.refl _ _) | (with_reducible refine Below.allocS ?_ _) | (with_reducible refine Below.moreS ?_ _) | (with_reducible refine Below.drew ?_) | (with_reducible refine below_drewN ?_ _)))⟩
          · cases e4 : (T == s)
            · have hr : R = (⟨0, 0⟩, false) := by rw [HR2.out, if_neg (by intro h; rw [h.2] at e4; simp at e4)]
              subst hr
              clear HR2
              go_wp2_with (first
                | (go_at_call 125; (with_reducible refine (HC.out _).mono ?_); rintro e w' ⟨rfl, j, rfl⟩)
                | (go_at_call 90; (with_reducible refine (HT.out _).mono ?_); rintro e w' ⟨rfl, j, rfl⟩))
              refine bodyPost_ret (res_cell_tmp (cs := #[.int .i64 0, .int .i64 0]) rfl st_Fl rfl (by repeat (first | ((with_reducible apply Blk.at_); (simp; done)) | (with_reducible apply Blk.alloc) | (with_reducible apply Blk.more) | (with_reducible apply Blk.drew))) rfl rfl) rfl ⟨rfl, Below.junk (by repeat (first | (with_reducible exact Below.refl _ _) | (with_reducible refine Below.allocS ?_ _) | (with_reducible refine Below.moreS ?_ _) | (with_reducible refine Below.drew ?_) | (with_reducible refine below_drewN ?_ _)))⟩
            · have hr : R = (⟨2, cd⟩, true) := by rw [HR2.out, if_pos ⟨rfl, eq_of_beq e4⟩]
              subst hr
              clear HR2
              go_wp2_with (first
                | (go_at_call 125; (with_reducible refine (HC.out _).mono ?_); rintro e w' ⟨rfl, j, rfl⟩)
                | (go_at_call 90; (with_reducible refine (HT.out _).mono ?_); rintro e w' ⟨rfl, j, rfl⟩))
              refine bodyPost_ret (res_cell_tmp (cs := #[.int .i64 2, .int .i64 cd]) rfl st_Fl rfl (by repeat (first | ((with_reducible apply Blk.at_); (simp; done)) | (with_reducible apply Blk.alloc) | (with_reducible apply Blk.more) | (with_reducible apply Blk.drew))) rfl rfl) rfl ⟨rfl, Below.junk (by repeat (first | (with_reducible exact Below.refl _ _) | (with_reducible refine Below.allocS ?_ _) | (with_reducible refine Below.moreS ?_ _) | (with_reducible refine Below.drew ?_) | (with_reducible refine below_drewN ?_ _)))⟩
      · have hc : ((s[k].toNat : Int) != 58) = true := by
          rw [bne_iff_ne]; intro h; exact h58 (UInt8.toNat_inj.1 (by show s[k].toNat = 58; omega))
        have hc2 : ((s[k].toNat : Int) == 58) = false := by
          rw [beq_eq_false_iff_ne]; intro h; exact h58 (UInt8.toNat_inj.1 (by show s[k].toNat = 58; omega))
        have HA2 : Hid ((58 : UInt8) ∉ s.take (k + 1)) := by
          show _ ∉ _
          rw [List.take_succ_eq_append_getElem hlt]
          simp only [List.mem_append, List.mem_singleton, not_or]
          exact ⟨HA.out, fun h => h58 h.symm⟩
        clear HR0 HR1 HA h58 hkg
        go_wp2_with fail
        go_roundg (s.length - (k + 1))
        case measure => have := HK.out; omega
        case rel => exact ⟨k + 1, by have := HK.out; omega, by go_num, HA2, _, rfl⟩
    · have hr : R = (⟨0, 0⟩, false) := HR0.out (by have := HA.out; rwa [List.take_of_length_le (by omega)] at this)
      subst hr
      have hlt' : ¬ (k : Int) < s.length := by omega
      clear HR0 HR1 HA hkg
      go_wp2_with fail
      refine bodyPost_ret (res_cell_tmp (cs := #[.int .i64 0, .int .i64 0]) rfl st_Fl rfl (by repeat (first | ((with_reducible apply Blk.at_); (simp; done)) | (with_reducible apply Blk.alloc) | (with_reducible apply Blk.more) | (with_reducible apply Blk.drew))) rfl rfl) rfl ⟨rfl, Below.junk (by repeat (first | (with_reducible exact Below.refl _ _) | (with_reducible refine Below.allocS ?_ _) | (with_reducible refine Below.moreS ?_ _) | (with_reducible refine Below.drew ?_) | (with_reducible refine below_drewN ?_ _)))⟩
end Go.Proofs.YtbdmepidabnfkaaGreatDoor
/-
  Faults: a text read as a set: the program's.
-/
namespace Go.Proofs.YtbdmepidabnfkaaGreatDoor
set_option linter.unusedSimpArgs false
set_option linter.unusedVariables false
set_option linter.unusedSectionVars false
open Go.ChangeShapes Go.WideShapes Go.ChangeAt Go.RowKit Go.Deep Go.Shelf

theorem map_nil_appF (o : Option (List Fl)) : o = o.map ([] ++ ·) := by cases o <;> simp
theorem goW_yes {x : List UInt8} {r : List (List UInt8)} {f : Fl} {last : Option Fl} (h : readW x = (f, true)) (ho : okBy last f = true) (out : List Fl) : (goW (x :: r) last).map (out ++ ·) = (goW r (some f)).map ((out ++ [f]) ++ ·) := by
  rw [goW, h, if_pos ⟨rfl, ho⟩]
  cases goW r (some f) <;> simp
theorem goW_no {x : List UInt8} {r : List (List UInt8)} {last : Option Fl} (h : ¬ ((readW x).2 = true ∧ okBy last (readW x).1 = true)) : goW (x :: r) last = none := by
  rw [goW, if_neg h]
theorem nil_or_snoc (l : List Fl) : l = [] ∨ ∃ i y, l = i ++ [y] := by
  rcases List.eq_nil_or_concat l with h | ⟨i, y, h⟩
  · exact .inl h
  · exact .inr ⟨i, y, by rw [h, List.concat_eq_append]⟩
theorem last_snoc (l : List Fl) (f : Fl) : (l ++ [f]).getLast? = some f := by simp

end Go.Proofs.YtbdmepidabnfkaaGreatDoor
/-
  Faults: a text read as a set: the document's.
-/
namespace Go.Proofs.YtbdmepidabnfkaaGreatDoor
set_option linter.unusedSimpArgs false
set_option linter.unusedVariables false
set_option linter.unusedSectionVars false
open Go.ChangeShapes Go.WideShapes Go.ChangeAt Go.RowKit Go.Deep Go.Shelf

theorem map_nil_appD (o : Option (List Fl)) : o = o.map ([] ++ ·) := by cases o <;> simp
theorem allD_yes {x : List UInt8} {r : List (List UInt8)} {f : Fl} (h : readW x = (f, true)) (out : List Fl) : (allD (x :: r)).map (out ++ ·) = (allD r).map ((out ++ [f]) ++ ·) := by
  rw [allD, h, if_pos rfl]
  cases allD r <;> simp
theorem allD_no {x : List UInt8} {r : List (List UInt8)} (h : (readW x).2 = false) : allD (x :: r) = none := by
  rw [allD, if_neg (by rw [h]; simp)]
def tailD (s : List UInt8) (k fr : Nat) : Option (List Fl) := if k ≤ s.length then allD (preF ((s.drop fr).take (k - fr)) (cutF 44 (s.drop k))) else some []
theorem pre_nilD (c : UInt8) (s : List UInt8) : preF [] (cutF c s) = cutF c s := by obtain ⟨a, t, e⟩ := cut_ne c s; rw [e]; rfl
theorem tailD_zero (s : List UInt8) : allD (cutF 44 s) = tailD s 0 0 := by unfold tailD; rw [if_pos (Nat.zero_le _)]; simp [pre_nilD]
theorem tailD_skip {s : List UInt8} {k fr : Nat} (hlt : k < s.length) (hf : fr ≤ k) (hc : s[k] ≠ 44) : tailD s k fr = tailD s (k + 1) fr := by
  unfold tailD
  rw [if_pos (by omega), if_pos (by omega), List.drop_eq_getElem_cons hlt, cutF, if_neg hc, pre_pre]
  congr 2
  rw [show k + 1 - fr = (k - fr) + 1 by omega, List.take_succ_eq_append_getElem (by simp; omega)]
  simp [show fr + (k - fr) = k by omega]
theorem tailD_cut {s : List UInt8} {k fr : Nat} (hk : k ≤ s.length) (hc : ∀ h : k < s.length, s[k] = 44) : ∃ r, tailD s k fr = allD ((s.drop fr).take (k - fr) :: r) ∧ allD r = tailD s (k + 1) (k + 1) := by
  unfold tailD
  rw [if_pos hk]
  by_cases hlt : k < s.length
  · refine ⟨cutF 44 (s.drop (k + 1)), ?_, ?_⟩
    · rw [List.drop_eq_getElem_cons hlt, cutF, if_pos (hc hlt)]; simp [preF]
    · rw [if_pos (by omega)]; simp [pre_nilD]
  · refine ⟨[], ?_, ?_⟩
    · have e : s.drop k = [] := List.drop_of_length_le (by omega)
      rw [e]; simp [cutF, preF]
    · rw [if_neg (by omega)]; rfl
def endD (s : List UInt8) : Option (List Fl) → List Fl × Bool
  | none => ([], false)
  | some l => if showW l = s then (l, true) else ([], false)
theorem setW_tail {s : List UInt8} (h : s ≠ [45]) : setW s = endD s (tailD s 0 0) := by
  rw [setW_eq, ← tailD_zero]
  unfold setD
  rw [if_neg h]
  cases allD (cutF 44 s) <;> rfl

end Go.Proofs.YtbdmepidabnfkaaGreatDoor
