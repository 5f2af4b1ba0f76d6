/-
  The laws MessageChecks and MessagePromise.
-/
import Derived.Test.YtafccnkeiohlhaaMsg3
namespace Go.Proofs.Ytafccnkeiohlhaa
open Go.ChangeShapes Go.WideShapes Go.ChangeAt Go.RowKit Go.Deep Go.Shelf

abbrev al28 : List Fd := [⟨[58, 115, 116, 97, 116, 117, 115], [50, 48, 48], false⟩, ⟨[99, 111, 110, 110, 101, 99, 116, 105, 111, 110], [99, 108, 111, 115, 101], false⟩]
theorem alive28_a : chkF 1 al28 = (noMs, 29) := by
  rw [chkF_bar] <;> decide +kernel
theorem small_vals {l : List Fd} (h : largeF l 60 200 = false) : ∀ f ∈ l, f.value.length ≤ 1048576 := by
  simp only [largeF, Bool.or_eq_false_iff, List.any_eq_false, decide_eq_false_iff_not] at h
  intro f hf
  have := h.2 f hf
  simp at this
  omega

set_option maxRecDepth 100000 in
theorem law28_alive (w : World) : Calls Try.prog 53 #[] w fun e w' => e = .returned (.bool true) ∧ Below w.heap.size w w' := by
  go_enter Try.func53, Try.ntmps53
  go_wp2_with fail
  have s1 : SlF (w.alloc (.cells #[bstr [58, 115, 116, 97, 116, 117, 115], bstr [50, 48, 48], .bool false, bstr [99, 111, 110, 110, 101, 99, 116, 105, 111, 110], bstr [99, 108, 111, 115, 101], .bool false] 33)) (w.heap.size + 1) (some ⟨w.heap.size, 0, none⟩) al28 := slF_new (Blk.at_ _ _ _ (by simp)) rfl (by decide)
  refine (message_Check 1 (some ⟨w.heap.size, 0, none⟩) 2 (w.heap.size + 1) al28 _ (by decide) (by simp) s1 (by decide)).mono ?_
  rintro e w1 ⟨rfl, hb1⟩
  rw [alive28_a]
  have z1 := hb1.size
  simp at z1
  go_wp2_with fail
  go_ret
  exact ⟨rfl, ((((Below.refl w.heap.size w).alloc (Nat.le_refl _) _).trans (hb1.mono (by simp))).alloc (by omega) _)⟩

set_option maxHeartbeats 2000000 in
set_option maxRecDepth 100000 in
theorem messageChecks_law (kind : Int) (a : Option Addr) (cap : Nat) (l : List Fd) (w : World) (_hlo : -9223372036854775808 ≤ kind) (_hhi : kind ≤ 9223372036854775807) (_hc : l.length ≤ cap) (hm : l.length ≤ maxLen) (hs : SlF w w.heap.size a l) :
    Calls Try.prog 13 #[.int .i64 kind, .slice a l.length cap] w fun e w' => e = .returned (.bool true) ∧ Below w.heap.size w w' := by
  cases hL : largeF l 60 200 with
  | true =>
    go_enter Try.func13, Try.ntmps13
    go_wp2_with fail
    refine (ref21_Large _ _ _ _ _ _ _ hm hs).mono ?_
    rintro e w1 ⟨rfl, rfl⟩
    rw [hL]
    go_wp2_with fail
    refine (law28_alive _).mono ?_
    rintro e w1 ⟨rfl, hb⟩
    go_wp2_with fail
    go_ret
    exact ⟨rfl, hb⟩
  | false =>
    have hlen := small_of hL
    have hv := small_vals hL
    go_enter Try.func13, Try.ntmps13
    go_wp2_with fail
    refine (ref21_Large _ _ _ _ _ _ _ hm hs).mono ?_
    rintro e w1 ⟨rfl, rfl⟩
    rw [hL]
    go_wp2_with fail
    refine (message_Check kind a cap w.heap.size l w hm (Nat.le_refl _) hs hv).mono ?_
    rintro e w1 ⟨rfl, hb1⟩
    generalize hp : chkF kind l = p
    have HP := Lib.hid hp
    clear hp
    obtain ⟨h, r⟩ := p
    have z1 := hb1.size
    have BX := Blk.new w1 68 #[bstr h.method, .int .i64 h.status, .int .i64 h.n, .bool h.told]
    have hbX : Below w.heap.size w (w1.alloc (.cells #[bstr h.method, .int .i64 h.status, .int .i64 h.n, .bool h.told] 68)) := hb1.alloc z1 _
    have zX := hbX.size
    go_wp2_with fail
    refine (ref28_Check kind a cap w.heap.size l _ (by omega) zX (hs.below hbX (Nat.le_refl _)) hv).mono ?_
    rintro e w2 ⟨rfl, hb2⟩
    rw [HP.out]
    have z2 := hb2.size
    have BX2 := (BX.below hb2 BX.lt).alloc (.cells #[bstr h.method, .int .i64 h.status, .int .i64 h.n, .bool h.told] 72)
    have BY := Blk.new w2 72 #[bstr h.method, .int .i64 h.status, .int .i64 h.n, .bool h.told]
    have hbY := (hbX.trans (hb2.mono zX)).alloc (hbX.trans (hb2.mono zX)).size (.cells #[bstr h.method, .int .i64 h.status, .int .i64 h.n, .bool h.told] 72)
    obtain ⟨⟨q0, q1, q2, q3⟩, _, _⟩ := BX2.all4
    obtain ⟨⟨r0, r1, r2, r3⟩, _, _⟩ := BY.all4
    go_wp2_with (go_at_call 53; refine (law28_alive _).mono ?_; rintro e w3 ⟨rfl, hb3⟩)
    go_ret
    exact ⟨rfl, hbY.trans (hb3.mono hbY.size)⟩

theorem chk_promise (l : List Fd) : chkF 3 l = if (chkF 0 l).2 = 0 ∧ safeF (chkF 0 l).1.method = false then (noMs, 34) else chkF 0 l := by
  unfold chkF
  rw [begF_req (.inl rfl), begF_req (.inr rfl)]
  generalize ownF l = o
  generalize refReq l = p
  generalize lenF l = n
  by_cases ho : o = 0
  · subst ho
    cases h2 : p.2 with
    | false => rw [chk_beg h2, chk_beg h2]; rfl
    | true =>
      cases h3 : n.2.2 with
      | false => rw [chk_len h2 h3, chk_len h2 h3]; rfl
      | true =>
        rw [chk_ok (kind := 0) h2 h3 (by simp)]
        cases h4 : safeF p.1.method with
        | false => rw [chk_safe h2 h3 h4]; simp only [and_self, if_true]
        | true => rw [chk_ok (kind := 3) h2 h3 (by rw [h4]; decide)]; exact (if_neg (fun h => absurd h.2 (by decide))).symm
  · rw [chk_own ho, chk_own ho]
    simp [ho]

set_option maxHeartbeats 2000000 in
set_option maxRecDepth 100000 in
theorem messagePromise_law (a : Option Addr) (cap : Nat) (l : List Fd) (w : World) (_hc : l.length ≤ cap) (hm : l.length ≤ maxLen) (hs : SlF w w.heap.size a l) :
    Calls Try.prog 15 #[.slice a l.length cap] w fun e w' => e = .returned (.bool true) ∧ Below w.heap.size w w' := by
  cases hL : largeF l 60 200 with
  | true =>
    go_enter Try.func15, Try.ntmps15
    go_wp2_with fail
    refine (ref21_Large _ _ _ _ _ _ _ hm hs).mono ?_
    rintro e w1 ⟨rfl, rfl⟩
    rw [hL]
    go_wp2_with fail
    refine (law28_alive _).mono ?_
    rintro e w1 ⟨rfl, hb⟩
    go_wp2_with fail
    go_ret
    exact ⟨rfl, hb⟩
  | false =>
    have hv := small_vals hL
    have T1 : Calls Try.prog 54 #[.int .i64 0, .slice a l.length cap] w fun e w' => e = .returned (.tuple #[msVal (chkF 0 l).1, .int .i64 (chkF 0 l).2]) ∧ Below w.heap.size w w' := message_Check 0 a cap w.heap.size l w hm (Nat.le_refl _) hs hv
    have T2 : ∀ W, Below w.heap.size w W → Calls Try.prog 54 #[.int .i64 3, .slice a l.length cap] W fun e w' => e = .returned (.tuple #[msVal (chkF 3 l).1, .int .i64 (chkF 3 l).2]) ∧ Below W.heap.size W w' := fun W h => message_Check 3 a cap w.heap.size l W hm h.size (hs.below h (Nat.le_refl _)) hv
    have hpr := chk_promise l
    generalize chkF 0 l = p at T1 hpr
    generalize chkF 3 l = q at T2 hpr
    have H2 := Lib.hid T2
    have HP := Lib.hid hpr
    obtain ⟨h, r⟩ := p
    clear T2 hpr hv
    go_enter Try.func15, Try.ntmps15
    go_wp2_with fail
    refine (ref21_Large _ _ _ _ _ _ _ hm hs).mono ?_
    rintro e w1 ⟨rfl, rfl⟩
    rw [hL]
    go_wp2_with fail
    refine T1.mono ?_
    rintro e w1 ⟨rfl, hb1⟩
    clear T1
    have z1 := hb1.size
    have BX := Blk.new w1 68 #[bstr h.method, .int .i64 h.status, .int .i64 h.n, .bool h.told]
    have hbX : Below w.heap.size w (w1.alloc (.cells #[bstr h.method, .int .i64 h.status, .int .i64 h.n, .bool h.told] 68)) := hb1.alloc z1 _
    have zX := hbX.size
    have sp : (r = 0 ∧ safeF h.method = false ∧ q = (noMs, 34)) ∨ (¬ (r = 0 ∧ safeF h.method = false) ∧ q = (h, r)) := by
      have := HP.out
      by_cases hc : r = 0 ∧ safeF h.method = false
      · exact .inl ⟨hc.1, hc.2, this.trans (if_pos hc)⟩
      · exact .inr ⟨hc, this.trans (if_neg hc)⟩
    clear HP
    go_wp2_with fail
    refine (H2.out _ hbX).mono ?_
    rintro e w2 ⟨rfl, hb2⟩
    have hbY := hbX.trans (hb2.mono zX)
    have BX2 := BX.below hb2 BX.lt
    clear BX H2
    rcases sp with ⟨rfl, hs4, rfl⟩ | ⟨hns, rfl⟩
    · obtain ⟨⟨q0, q1, q2, q3⟩, _, _⟩ := (BX2.alloc (.cells #[bstr [], .int .i64 0, .int .i64 0, .bool false] 68)).all4
      obtain ⟨⟨r0, r1, r2, r3⟩, _, _⟩ := (Blk.new w2 68 #[bstr [], .int .i64 0, .int .i64 0, .bool false]).all4
      have e1 : (h.method == vGet) = false := by simp only [safeF, Bool.or_eq_false_iff] at hs4; exact hs4.1
      have e2 : (h.method == vHead) = false := by simp only [safeF, Bool.or_eq_false_iff] at hs4; exact hs4.2
      have hbZ := hbY.alloc hbY.size (.cells #[bstr [], .int .i64 0, .int .i64 0, .bool false] 68)
      clear hs4
      go_wp2_with (go_at_call 53; refine (law28_alive _).mono ?_; rintro e w3 ⟨rfl, hb3⟩)
      go_ret
      exact ⟨rfl, hbZ.trans (hb3.mono hbZ.size)⟩
    · obtain ⟨⟨q0, q1, q2, q3⟩, _, _⟩ := (BX2.alloc (.cells #[bstr h.method, .int .i64 h.status, .int .i64 h.n, .bool h.told] 68)).all4
      obtain ⟨⟨r0, r1, r2, r3⟩, _, _⟩ := (Blk.new w2 68 #[bstr h.method, .int .i64 h.status, .int .i64 h.n, .bool h.told]).all4
      have hbZ := hbY.alloc hbY.size (.cells #[bstr h.method, .int .i64 h.status, .int .i64 h.n, .bool h.told] 68)
      by_cases hr : r = 0
      · subst hr
        have hsf : safeF h.method = true := by
          cases h5 : safeF h.method with
          | true => rfl
          | false => exact absurd ⟨rfl, h5⟩ hns
        clear hns
        cases e1 : (h.method == vGet) <;> cases e2 : (h.method == vHead)
        all_goals first
          | (exfalso; simp only [safeF, e1, e2] at hsf; exact absurd hsf (by decide))
          | skip
        all_goals
          clear hsf
          go_wp2_with (go_at_call 53; refine (law28_alive _).mono ?_; rintro e w3 ⟨rfl, hb3⟩)
        all_goals
          go_ret
          exact ⟨rfl, hbZ.trans (hb3.mono hbZ.size)⟩
      · clear hns
        cases e1 : (h.method == vGet) <;> cases e2 : (h.method == vHead)
        all_goals
          go_wp2_with (go_at_call 53; refine (law28_alive _).mono ?_; rintro e w3 ⟨rfl, hb3⟩)
        all_goals
          go_ret
          exact ⟨rfl, hbZ.trans (hb3.mono hbZ.size)⟩
