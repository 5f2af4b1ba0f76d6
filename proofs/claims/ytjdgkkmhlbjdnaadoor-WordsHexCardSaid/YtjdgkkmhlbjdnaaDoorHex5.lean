/-
  Digits of base sixteen: the law WordsHex.
-/
import Derived.Test.YtjdgkkmhlbjdnaaDoorHex4
import Derived.Test.YtjdgkkmhlbjdnaaDoorWord9
namespace Go.Proofs.YtjdgkkmhlbjdnaaDoor
set_option linter.unusedSimpArgs false
set_option linter.unusedVariables false
open Go.ChangeShapes Go.WideShapes Go.ChangeAt Go.RowKit Go.Deep Go.Shelf

theorem unhx_len : ∀ (n : Nat) (l o : List UInt8), l.length ≤ n → unhx l = some o → o.length ≤ l.length
  | _, [], o, _, h => by rw [unhx] at h; cases h; simp
  | _, [_], o, _, h => by rw [unhx] at h; cases h
  | 0, _ :: _ :: _, _, hn, _ => by simp at hn
  | n + 1, a :: b :: r, o, hn, h => by
    rw [unhx] at h
    split at h
    · cases hr : unhx r with
      | none => rw [hr] at h; cases h
      | some q =>
        rw [hr] at h
        have := unhx_len n r q (by simp at hn; omega) hr
        cases h
        simp
        omega
    · cases h
theorem unhexF_len (l : List UInt8) : (unhexF l).1.length ≤ l.length := by
  unfold unhexF
  cases h : unhx l with
  | none => simp
  | some o => exact unhx_len _ l o (Nat.le_refl _) h

set_option maxHeartbeats 8000000 in
set_option maxRecDepth 100000 in
theorem wordsHex_law (a : Option Addr) (cap : Nat) (b s : List UInt8) (m : Int) (w : World) (hmb : b.length ≤ maxLen) (hs : SlB w w.heap.size a b) (hms : s.length ≤ maxLen) (hM : w.cell? MaxA = some (.int .i64 m)) :
    Calls Tryd.prog 7 #[.slice a b.length cap, bstr s] w fun e w' => e = .returned (.bool true) ∧ ∃ j, w' = w.more j := by
  unfold maxLen at hmb hms
  by_cases hbad : 300 < (b.length : Int) ∨ 300 < (s.length : Int)
  · have HA0 := Lib.hid (law04_alive m w hM)
    clear hM
    by_cases h1 : 300 < (b.length : Int) <;> by_cases h2 : 300 < (s.length : Int)
    all_goals try (exfalso; omega)
    all_goals
      clear hbad
      go_enter Tryd.func7, Tryd.ntmps7
      go_wp2_with (go_at_call 22; (with_reducible refine (HA0.out).mono ?_); rintro e w' ⟨rfl, j, rfl⟩)
      go_ret
      exact ⟨rfl, Below.junk (by repeat (first | (with_reducible exact Below.refl _ _) | (with_reducible refine Below.allocS ?_ _) | (with_reducible refine Below.moreS ?_ _) | (with_reducible refine Below.drew ?_) | (with_reducible refine below_drewN ?_ _)))⟩
  have h1 : (b.length : Int) ≤ 300 := by omega
  have h2 : (s.length : Int) ≤ 300 := by omega
  clear hbad
  have hq : (hexF b).length ≤ 1048576 := by
    have := hex_len b b.length
    rw [List.take_of_length_le (Nat.le_refl _)] at this
    show (b.flatMap pairB).length ≤ _
    omega
  have hr : (unhexF s).1.length ≤ 1048576 := by have := unhexF_len s; omega
  have H0 := Lib.hid (words_Hex a cap b w w (by omega) (Below.refl _ _) hs)
  have HU : Hid (∀ W, Calls Tryd.prog 35 #[bstr (hexF b)] W fun e w' => ∃ v, e = .returned (.tuple #[v, .bool true]) ∧ OwnB W.heap.size w' v b ∧ ∃ j, w' = W.more j) := fun W => by
    have := words_Unhex (hexF b) hq W
    rw [unhex_hex] at this
    exact this
  have HV := Lib.hid (words_Unhex s (by omega))
  have HR := Lib.hid (ref04_Unhex s (by omega))
  have HG : Hid (∀ W, Below w.heap.size w W → Calls Tryd.prog 37 #[.slice a b.length cap] W fun e w' => e = .returned (bstr (hexF b)) ∧ ∃ j, w' = W.more j) := fun W hb => ref04_Hex a cap b w W (by omega) hb hs
  generalize hexF b = q at H0 HU HG
  generalize unhexF s = r at HV HR hr
  obtain ⟨r1, r2⟩ := r
  simp only at HV HR hr
  have HMm := Lib.hid hM
  have e1 : (q == q) = true := by simp
  have e2 : (r2 == r2) = true := by simp
  have e3 : sameB b b = true := by simp [sameB]
  have e4 : sameB r1 r1 = true := by simp [sameB]
  have hb3 : b.length ≤ 1048576 := by omega
  clear hq hM
  go_enter Tryd.func7, Tryd.ntmps7
  go_wp2_with (go_at_call 34; (with_reducible refine (H0.out).mono ?_); rintro e w' ⟨rfl, j, rfl⟩)
  refine (HU.out _).mono ?_
  rintro e w1 ⟨v1, rfl, ho1, j1, hw1⟩
  have hb1 : Below w.heap.size w w1 := by rw [hw1]; exact (Below.moreS (Below.moreS (Below.refl _ _) j) j1)
  clear hw1
  go_wp2_with fail
  refine (HV.out _).mono ?_
  rintro e w2 ⟨v2, rfl, ho2, j2, hw2⟩
  have hb2 : Below w1.heap.size w1 w2 := by rw [hw2]; exact (Below.moreS (Below.refl _ _) j2)
  clear hw2
  go_wp2_with fail
  refine (HR.out _).mono ?_
  rintro e w3 ⟨v3, rfl, ho3, j3, hw3⟩
  have hb3' : Below w2.heap.size w2 w3 := by rw [hw3]; exact (Below.moreS (Below.refl _ _) j3)
  clear hw3
  have hz1 := hb1.size
  have hz2 := hb2.size
  have hz3 := hb3'.size
  have hbw : Below w.heap.size w w3 := (hb1.trans (hb2.mono hz1)).trans (hb3'.mono (by omega))
  have ho1' := (ho1.below hb2 (Nat.le_refl _)).below hb3' (Nat.le_refl _)
  have ho2' := ho2.below hb3' (Nat.le_refl _)
  obtain ⟨a1, c1, rfl, hs1⟩ := ho1'.read
  obtain ⟨a2, c2, rfl, hs2⟩ := ho2'.read
  obtain ⟨a3, c3, rfl, hs3⟩ := ho3.read
  have hsw := hs.below hbw (Nat.le_refl _)
  have hM3 : w3.cell? MaxA = some (.int .i64 m) := by obtain ⟨J, hJ⟩ := hbw.junk; rw [hJ]; exact max_more HMm.out J
  have HW := Lib.hid hbw
  have HA : Hid (∀ j, Calls Tryd.prog 22 #[] (w3.more j) fun e w' => e = .returned (.bool true) ∧ ∃ k, w' = (w3.more j).more k) := fun j => law04_alive m _ (max_more hM3 j)
  have HG3 := Lib.hid (HG.out w3 hbw)
  have HS1 : Hid (∀ j, Calls Tryd.prog 38 #[.slice a1 b.length c1, .slice a b.length cap] (w3.more j) fun e w' => e = .returned (.bool true) ∧ ∃ k, w' = (w3.more j).more k) := fun j => by
    have := ref01_Same a1 a c1 cap b b w3 (w3.more j) hb3 hb3 (Below.moreS (Below.refl _ _) j) hs1 (hsw.mono (by have := hbw.size; omega) (fun _ _ _ h => h))
    rw [e3] at this
    exact this
  have HS2 : Hid (∀ j, Calls Tryd.prog 38 #[.slice a2 r1.length c2, .slice a3 r1.length c3] (w3.more j) fun e w' => e = .returned (.bool true) ∧ ∃ k, w' = (w3.more j).more k) := fun j => by
    have := ref01_Same a2 a3 c2 c3 r1 r1 w3 (w3.more j) hr hr (Below.moreS (Below.refl _ _) j) hs2 hs3
    rw [e4] at this
    exact this
  clear hbw hM3 hsw hs1 hs2 hs3 ho1 ho2 ho3 ho1' ho2' hb1 hb2 hb3' hs hb3 hr hz1 hz2 hz3
  go_wp2_with (first
    | (go_at_call 37; (with_reducible refine (HG3.out).mono ?_); rintro e w' ⟨rfl, j, rfl⟩)
    | (go_at_call 38; (with_reducible refine (HS1.out _).mono ?_); rintro e w' ⟨rfl, j, rfl⟩)
    | (go_at_call 38; (with_reducible refine (HS2.out _).mono ?_); rintro e w' ⟨rfl, j, rfl⟩)
    | (go_at_call 22; (with_reducible refine (HA.out _).mono ?_); rintro e w' ⟨rfl, j, rfl⟩))
  go_ret
  exact ⟨rfl, (HW.out.trans ((Below.moreS (Below.refl w3.heap.size w3) _).mono HW.out.size)).junk⟩
