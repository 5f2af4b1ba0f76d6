/-
  The law TallySums.
-/
import Derived.Test.YtafccnkeiohlhaaTal13
namespace Go.Proofs.Ytafccnkeiohlhaa
set_option linter.unusedSimpArgs false
set_option linter.unusedVariables false
open Go.ChangeShapes Go.WideShapes Go.ChangeAt Go.RowKit Go.Deep Go.Shelf

theorem dat_sum {n s p : Nat} (h : s + p ≤ n) : datF ⟨true, vGET, 1, 2, (n : Int) - s⟩ p false = (⟨true, vGET, 1, 2, (n : Int) - (s + p : Nat)⟩, 0) := by
  unfold datF
  rw [show max (p : Int) 0 = p by omega]
  unfold datN
  rw [if_neg (by simp), if_pos rfl, if_neg (by simp only; omega)]
  simp only [datEnd, Bool.false_eq_true, if_false]
  congr 2
  omega
theorem dat_over {n s p : Nat} (h : ¬ s + p ≤ n) : datF ⟨true, vGET, 1, 2, (n : Int) - s⟩ p false = (noTa, 31) := by
  unfold datF
  rw [show max (p : Int) 0 = p by omega]
  unfold datN
  rw [if_neg (by simp), if_pos rfl, if_pos (by simp only; omega)]
theorem dat_end {n s : Nat} (h : s = n) : datF ⟨true, vGET, 1, 2, (n : Int) - s⟩ 0 true = (⟨true, vGET, 2, 2, 0⟩, 0) := by
  subst h
  unfold datF
  rw [show max (0 : Int) 0 = 0 by omega]
  unfold datN
  rw [if_neg (by simp), if_pos rfl, if_neg (by simp)]
  simp only [datEnd, if_true, closeF]
  rw [if_neg (by simp)]
  simp
theorem dat_short {n s : Nat} (h : s < n) : datF ⟨true, vGET, 1, 2, (n : Int) - s⟩ 0 true = (noTa, 31) := by
  unfold datF
  rw [show max (0 : Int) 0 = 0 by omega]
  unfold datN
  rw [if_neg (by simp), if_pos rfl, if_neg (by simp only; omega)]
  simp only [datEnd, if_true, closeF]
  rw [if_pos ⟨trivial, by omega⟩]

set_option maxHeartbeats 8000000 in
set_option maxRecDepth 100000 in
theorem tallySums_law (told : Int) (a : Option Addr) (cap : Nat) (l : List Nat) (w : World) (_hc : l.length ≤ cap) (hm : l.length ≤ maxLen) (hs : SlR w w.heap.size 1 shortIs a l) :
    Calls Try.prog 17 #[.int .i64 told, .slice a l.length cap] w fun e w' => e = .returned (.bool true) ∧ ∃ j, w' = w.more j := by
  unfold maxLen at hm
  have HA : Hid (∀ W, Calls Try.prog 57 #[] W fun e w' => e = .returned (.bool true) ∧ ∃ j, w' = W.more j) := law29_alive
  have HS := Lib.hid hs
  clear hs
  by_cases hbad : told < 0 ∨ 4503599627370496 < told ∨ 60 < (l.length : Int)
  · rcases hbad with h | h | h
    all_goals
      go_enter Try.func17, Try.ntmps17
      go_wp2_with (go_at_call 57; (with_reducible refine (HA.out _).mono ?_); rintro e w' ⟨rfl, j, rfl⟩)
      all_goals first
        | (exfalso; omega)
        | (go_ret
           exact ⟨rfl, Below.junk (by repeat (first | (with_reducible exact Below.refl _ _) | (with_reducible refine Below.allocS ?_ _) | (with_reducible refine Below.moreS ?_ _) | (with_reducible refine Below.drew ?_)))⟩)
  obtain ⟨n, rfl⟩ : ∃ n : Nat, told = n := ⟨told.toNat, by omega⟩
  have h1 : n ≤ 4503599627370496 := by omega
  have h2 : l.length ≤ 60 := by omega
  clear hbad
  have HT : Hid (∀ W, Calls Try.prog 66 #[.int .i64 n] W fun e w' => e = .returned (bstr (digs n)) ∧ ∃ j, w' = W.more j) := fun W => law29_text n n W (Nat.le_refl _) h1
  have HR : Hid (∀ m W, Calls Try.prog 59 #[bstr m] W fun e w' => e = .returned (taVal ⟨true, m, 0, 0, 0⟩) ∧ ∃ j, w' = W.more j) := tally_Answers
  have HO : Hid (∀ (a : Bool) (m : List UInt8) (p y l : Int) (W : World), Calls Try.prog 65 #[.agg #[.bool a, bstr m, .int .i64 p, .int .i64 y, .int .i64 l]] W fun e w' => e = .returned (.bool (p == 2)) ∧ ∃ j, w' = W.more j) := fun a m p y l W => outs (tally_Over ⟨a, m, p, y, l⟩ W)
  have HH : Hid (∀ (X W : World) (g : Nat), X.heap.size = g → Below (X.alloc (.cells #[bstr vStatus, bstr [50, 48, 48], .bool false, bstr contentLength, bstr (digs n), .bool false] 33)).heap.size (X.alloc (.cells #[bstr vStatus, bstr [50, 48, 48], .bool false, bstr contentLength, bstr (digs n), .bool false] 33)) W → Calls Try.prog 62 #[taVal ⟨true, vGET, 0, 0, 0⟩, .slice (some ⟨g, 0, none⟩) 2 2, .bool false] W fun e' w' => e' = .returned (trVal ⟨⟨true, vGET, 1, 2, n⟩, ⟨[], 200, n, true⟩, 0⟩) ∧ ∃ j, w' = W.more j) := by
    intro X W g hg hb
    subst hg
    have hlen := digs_len 15 n (by omega)
    have s1 : SlF (X.alloc (.cells #[bstr vStatus, bstr [50, 48, 48], .bool false, bstr contentLength, bstr (digs n), .bool false] 33)) (X.heap.size + 1) (some ⟨X.heap.size, 0, none⟩) (ansL (digs n)) := slF_new (Blk.at_ _ _ _ (by simp)) rfl (by rw [List.all_eq_true]; intro f hf; simp only [List.mem_cons, List.not_mem_nil, or_false] at hf; unfold maxLen; rcases hf with rfl | rfl <;> simp <;> omega)
    exact ans_head h1 ▸ tally_Head _ _ 2 (ansL (digs n)) false W _ (by simp [maxLen]) hb (by rw [World.size_alloc]; exact s1) (by intro f hf; simp at hf; rcases hf with rfl | rfl <;> simp <;> omega)
  generalize hdg : digs n = dg at HT HH
  clear hdg
  have HD : Hid (∀ (t : Ta) (p : Int) (e : Bool) (W : World), t.left ≤ 9223372036854775807 → Calls Try.prog 60 #[taVal t, .int .i64 p, .bool e] W fun e' w' => e' = .returned (.tuple #[taVal (datF t p e).1, .int .i64 (datF t p e).2]) ∧ ∃ j, w' = W.more j) := fun t p e W h => outs (tally_Data t p e W h)
  have HSum : Hid (∀ k (hk : k < l.length), (l.take (k + 1)).sum = (l.take k).sum + l[k]) := fun k hk => by rw [List.take_succ_eq_append_getElem hk, List.sum_append]; rfl
  go_enter Try.func17, Try.ntmps17
  go_wp2_with (first
    | (go_at_call 66; (with_reducible refine (HT.out _).mono ?_); rintro e w' ⟨rfl, jT, rfl⟩)
    | (go_at_call 59; (with_reducible refine (HR.out _ _).mono ?_); rintro e w' ⟨rfl, jA, rfl⟩)
    | (go_at_call 62; (with_reducible refine (HH.out (w.more jT) _ _ (by simp) (by repeat (first | exact Below.refl _ _ | (with_reducible refine Below.allocS ?_ _) | (with_reducible refine Below.moreS ?_ _)))).mono ?_); rintro e w' ⟨rfl, jH, rfl⟩))
  go_loopw [9, 57] (fun s i wr => ∃ k x : Nat, k ≤ l.length ∧ i = .int .i64 k ∧ s = .int .i64 x ∧ x ≤ n ∧ x ≤ 65535 * k ∧ Hid (x = (l.take k).sum) ∧ ∃ j, wr = (((((w.more jT).alloc (.cells #[bstr vStatus, bstr [50, 48, 48], .bool false, bstr contentLength, bstr dg, .bool false] 33)).more ⟨jA.heap ++ jH.heap, jH.drawn⟩).alloc (.cells #[.bool true, bstr vGET, .int .i64 1, .int .i64 2, .int .i64 ((n : Int) - x)] TaT)).alloc (.cells #[bstr [], .int .i64 200, .int .i64 n, .bool true] 68)).more j) (fun _ i _ => l.length - (intOf i).toNat)
  case atStart => exact ⟨0, 0, by omega, rfl, rfl, by omega, by omega, by show _ = _; simp, by
    have e : (n : Int) - ((0 : Nat) : Int) = n := by omega
    rw [e]
    exact Below.junk (by repeat (first | (with_reducible exact Below.refl _ _) | (with_reducible refine Below.allocS ?_ _) | (with_reducible refine Below.moreS ?_ _) | (with_reducible refine Below.drew ?_)))⟩
  case round =>
    obtain ⟨k, s, hk, rfl, rfl, hsn, hsk, HX, jr, rfl⟩ := hrel
    by_cases hlt : k < l.length
    · obtain ⟨b, off, rfl, hb, c0, hx⟩ := HS.out.atH hlt
      have hx2 := HSum.out k hlt
      generalize l[k] = x at c0 hx hx2
      have HX2 : Hid (s + x = (l.take (k + 1)).sum) := by show _ = _; rw [hx2, HX.out]
      clear hx2
      by_cases hsx : s + x ≤ n
      · have D : ∀ W, Calls Try.prog 60 #[taVal ⟨true, vGET, 1, 2, (n : Int) - s⟩, .int .i64 x, .bool false] W fun e' w' => e' = .returned (.tuple #[taVal ⟨true, vGET, 1, 2, (n : Int) - (s + x : Nat)⟩, .int .i64 0]) ∧ ∃ j, w' = W.more j := fun W => by
          have h := HD.out ⟨true, vGET, 1, 2, (n : Int) - s⟩ x false W (by show (n : Int) - s ≤ _; omega)
          rw [dat_sum hsx] at h
          exact h
        have D := Lib.hid D
        have q : decide ((s : Int) + x ≤ n) = true := by simp; omega
        go_wp2_with (go_at_call 60; (with_reducible refine (D.out _).mono ?_); rintro e w' ⟨rfl, j, rfl⟩)
        go_roundw
        case measure => simp [intOf]; omega
        refine ⟨k + 1, s + x, hlt, by go_num, by go_num, hsx, by omega, HX2, ?_⟩
        have e : ((s + x : Nat) : Int) = (s : Int) + x := by omega
        rw [e]
        exact Below.junk (by repeat (first | (with_reducible exact Below.refl _ _) | (with_reducible refine Below.allocS ?_ _) | (with_reducible refine Below.moreS ?_ _) | (with_reducible refine Below.drew ?_)))
      · have D : ∀ W, Calls Try.prog 60 #[taVal ⟨true, vGET, 1, 2, (n : Int) - s⟩, .int .i64 x, .bool false] W fun e' w' => e' = .returned (.tuple #[taVal noTa, .int .i64 31]) ∧ ∃ j, w' = W.more j := fun W => by
          have h := HD.out ⟨true, vGET, 1, 2, (n : Int) - s⟩ x false W (by show (n : Int) - s ≤ _; omega)
          rw [dat_over hsx] at h
          exact h
        have D := Lib.hid D
        have q : decide ((s : Int) + x ≤ n) = false := by simp; omega
        go_wp2_with (first | (go_at_call 60; (with_reducible refine (D.out _).mono ?_); rintro e w' ⟨rfl, j, rfl⟩) | (go_at_call 57; (with_reducible refine (HA.out _).mono ?_); rintro e w' ⟨rfl, j, rfl⟩))
        go_ret
        exact ⟨rfl, Below.junk (by repeat (first | (with_reducible exact Below.refl _ _) | (with_reducible refine Below.allocS ?_ _) | (with_reducible refine Below.moreS ?_ _) | (with_reducible refine Below.drew ?_)))⟩
    · by_cases hsn2 : s = n
      · have D : ∀ W, Calls Try.prog 60 #[taVal ⟨true, vGET, 1, 2, (n : Int) - s⟩, .int .i64 0, .bool true] W fun e' w' => e' = .returned (.tuple #[taVal ⟨true, vGET, 2, 2, 0⟩, .int .i64 0]) ∧ ∃ j, w' = W.more j := fun W => by
          have h := HD.out ⟨true, vGET, 1, 2, (n : Int) - s⟩ 0 true W (by show (n : Int) - s ≤ _; omega)
          rw [dat_end hsn2] at h
          exact h
        have D := Lib.hid D
        have q : ((s : Int) == n) = true := by rw [beq_iff_eq]; omega
        clear hsn2
        go_wp2_with (first | (go_at_call 60; (with_reducible refine (D.out _).mono ?_); rintro e w' ⟨rfl, j, rfl⟩) | (go_at_call 65; (with_reducible refine (HO.out _ _ _ _ _ _).mono ?_); rintro e w' ⟨rfl, j, rfl⟩) | (go_at_call 57; (with_reducible refine (HA.out _).mono ?_); rintro e w' ⟨rfl, j, rfl⟩))
        go_ret
        exact ⟨rfl, Below.junk (by repeat (first | (with_reducible exact Below.refl _ _) | (with_reducible refine Below.allocS ?_ _) | (with_reducible refine Below.moreS ?_ _) | (with_reducible refine Below.drew ?_)))⟩
      · have D : ∀ W, Calls Try.prog 60 #[taVal ⟨true, vGET, 1, 2, (n : Int) - s⟩, .int .i64 0, .bool true] W fun e' w' => e' = .returned (.tuple #[taVal noTa, .int .i64 31]) ∧ ∃ j, w' = W.more j := fun W => by
          have h := HD.out ⟨true, vGET, 1, 2, (n : Int) - s⟩ 0 true W (by show (n : Int) - s ≤ _; omega)
          rw [dat_short (show s < n by omega)] at h
          exact h
        have D := Lib.hid D
        have q : ((s : Int) == n) = false := by simp; omega
        go_wp2_with (first | (go_at_call 60; (with_reducible refine (D.out _).mono ?_); rintro e w' ⟨rfl, j, rfl⟩) | (go_at_call 65; (with_reducible refine (HO.out _ _ _ _ _ _).mono ?_); rintro e w' ⟨rfl, j, rfl⟩) | (go_at_call 57; (with_reducible refine (HA.out _).mono ?_); rintro e w' ⟨rfl, j, rfl⟩))
        go_ret
        exact ⟨rfl, Below.junk (by repeat (first | (with_reducible exact Below.refl _ _) | (with_reducible refine Below.allocS ?_ _) | (with_reducible refine Below.moreS ?_ _) | (with_reducible refine Below.drew ?_)))⟩
