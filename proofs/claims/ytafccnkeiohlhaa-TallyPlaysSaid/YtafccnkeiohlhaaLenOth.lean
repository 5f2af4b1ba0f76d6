/-
  The law LengthOthers: fields of other names change nothing of the length that is told.
-/
import Derived.Test.YtafccnkeiohlhaaLenLaw
import Derived.Test.YtafccnkeiohlhaaApp
namespace Go.Proofs.Ytafccnkeiohlhaa
open Go.ChangeShapes Go.WideShapes Go.ChangeAt Go.RowKit Go.Deep

theorem st_fields : SliceTy Try.prog 22 33 (.agg #[.string .empty, .string .empty, .bool false]) 3 40 := .mk' Try.underlying22 (by kernel_rfl) rfl (by omega)

theorem lenGo_append : ∀ (p q : List Fd) (n : Int) (t : Bool), lenGo (p ++ q) n t = if (lenGo p n t).2.2 = true then lenGo q (lenGo p n t).1 (lenGo p n t).2.1 else (0, false, false)
  | [], q, n, t => by simp [lenGo]
  | f :: r, q, n, t => by
    by_cases hn : f.name = contentLength
    · by_cases hb : (!(natF f.value 4503599627370496).2 || (t && (natF f.value 4503599627370496).1 != n)) = true
      · rw [List.cons_append, lenGo_bad hn hb, lenGo_bad hn hb]; rfl
      · have hb' : (!(natF f.value 4503599627370496).2 || (t && (natF f.value 4503599627370496).1 != n)) = false := by simpa using hb
        rw [List.cons_append, lenGo_ok hn hb', lenGo_ok hn hb']
        exact lenGo_append r q _ _
    · rw [List.cons_append, lenGo_skip hn, lenGo_skip hn]
      exact lenGo_append r q n t
theorem lenGo_told : ∀ (q : List Fd) (v n0 : Int), (lenGo q v true).2.2 = true → lenGo q v true = (v, true, true) ∧ (lenGo q n0 false = (v, true, true) ∨ lenGo q n0 false = (n0, false, true))
  | [], v, n0, _ => ⟨rfl, .inr rfl⟩
  | f :: r, v, n0, h => by
    by_cases hn : f.name = contentLength
    · by_cases hb : (!(natF f.value 4503599627370496).2 || (true && (natF f.value 4503599627370496).1 != v)) = true
      · rw [lenGo_bad hn hb] at h; cases h
      · have hb' : (!(natF f.value 4503599627370496).2 || (true && (natF f.value 4503599627370496).1 != v)) = false := by simpa using hb
        rw [lenGo_ok hn hb'] at h
        have hv : (natF f.value 4503599627370496).1 = v := by simp at hb'; exact hb'.2
        have hp : (natF f.value 4503599627370496).2 = true := by simp at hb'; exact hb'.1
        rw [hv] at h
        have ih := lenGo_told r v n0 h
        rw [lenGo_ok hn hb', hv, lenGo_ok (n := n0) (t := false) hn (by simp [hp]), hv]
        exact ⟨ih.1, .inl ih.1⟩
    · rw [lenGo_skip hn] at h
      rw [lenGo_skip hn, lenGo_skip hn]
      exact lenGo_told r v n0 h
theorem lenGo_untold : ∀ (p : List Fd) (n : Int), (lenGo p n false).2.2 = true → (lenGo p n false).2.1 = false → (lenGo p n false).1 = n
  | [], n, _, _ => rfl
  | f :: r, n, h, h2 => by
    by_cases hn : f.name = contentLength
    · by_cases hb : (!(natF f.value 4503599627370496).2 || (false && (natF f.value 4503599627370496).1 != n)) = true
      · rw [lenGo_bad hn hb] at h; cases h
      · have hb' : (!(natF f.value 4503599627370496).2 || (false && (natF f.value 4503599627370496).1 != n)) = false := by simpa using hb
        rw [lenGo_ok hn hb'] at h h2
        rw [(lenGo_told r _ 0 h).1] at h2
        cases h2
    · rw [lenGo_skip hn] at h h2 ⊢
      exact lenGo_untold r n h h2
theorem lenF_other (p q : List Fd) (f : Fd) (hn : f.name ≠ contentLength) : lenF (p ++ f :: q) = lenF (p ++ q) := by
  unfold lenF
  rw [lenGo_append, lenGo_append, lenGo_skip hn]
/-- What one more length can do. -/
theorem lenF_more (p q : List Fd) (f : Fd) (hn : f.name = contentLength) :
    ((lenF (p ++ q)).2.2 = false → (lenF (p ++ f :: q)).2.2 = false) ∧ ((lenF (p ++ q)).2.2 = true → (lenF (p ++ f :: q)).2.2 = true → (lenF (p ++ q)).2.1 = true → lenF (p ++ f :: q) = lenF (p ++ q)) := by
  unfold lenF
  rw [lenGo_append, lenGo_append]
  cases hp : (lenGo p 0 false).2.2 with
  | false => simp
  | true =>
    simp only [if_true]
    by_cases hb : (!(natF f.value 4503599627370496).2 || ((lenGo p 0 false).2.1 && (natF f.value 4503599627370496).1 != (lenGo p 0 false).1)) = true
    · rw [lenGo_bad hn hb]; simp
    · have hb' : (!(natF f.value 4503599627370496).2 || ((lenGo p 0 false).2.1 && (natF f.value 4503599627370496).1 != (lenGo p 0 false).1)) = false := by simpa using hb
      rw [lenGo_ok hn hb']
      cases ht : (lenGo p 0 false).2.1 with
      | true =>
        rw [ht] at hb'
        have hv : (natF f.value 4503599627370496).1 = (lenGo p 0 false).1 := by simp at hb'; exact hb'.2
        rw [hv]
        exact ⟨fun h => h, fun _ _ _ => rfl⟩
      | false =>
        rw [lenGo_untold p 0 hp ht]
        generalize (natF f.value 4503599627370496).1 = v
        cases hw : (lenGo q v true).2.2 with
        | false => simp
        | true =>
          obtain ⟨h1, h2⟩ := lenGo_told q v 0 hw
          rw [h1]
          rcases h2 with h2 | h2 <;> rw [h2] <;> simp
theorem slF_bounds {w : World} {B : Nat} {a : Option Addr} {l : List Fd} (h : SlF w B a l) : ∀ f ∈ l, f.name.length ≤ maxLen ∧ f.value.length ≤ maxLen := by
  intro f hf
  obtain ⟨k, hk, rfl⟩ := List.getElem_of_mem hf
  obtain ⟨_, _, _, _, _, hi, _⟩ := h k hk
  exact hi.2
theorem own_slF {w : World} {base : Nat} {e : TypeId} {v : Value} {n : Nat} {xs : List Value} {l : List Fd} (h : w.ownsRow base e 3 v n xs) (hn : n = l.length) (hx : xs = l.flatMap Fd.cells) (hb : ∀ f ∈ l, f.name.length ≤ maxLen ∧ f.value.length ≤ maxLen) :
    ∃ a cap, v = .slice a l.length cap ∧ SlF w w.heap.size a l := by
  subst hn hx
  obtain ⟨a, cap, hv, hs⟩ := own_slr h (fun _ _ => rfl)
  exact ⟨a, cap, hv, hs.mono (Nat.le_refl _) (fun x hx cs hc => ⟨hc, hb x hx⟩)⟩
theorem eqb_self (x : Int) (b : Bool) : (x == x && b == b) = true := by simp

set_option maxRecDepth 100000 in
set_option maxHeartbeats 2000000 in
theorem lengthOthers_law (a : Option Addr) (cap : Nat) (l : List Fd) (f : Fd) (at' : Int) (w : World) (hcap : l.length ≤ cap) (hm : l.length ≤ maxLen) (hs : SlF w w.heap.size a l) (hn : f.name.length ≤ maxLen) (hv : f.value.length ≤ maxLen) (hlo : -9223372036854775808 ≤ at') (hhi : at' ≤ 9223372036854775807) :
    Calls Try.prog 4 #[.slice a l.length cap, .agg #[bstr f.name, bstr f.value, .bool f.never], .int .i64 at'] w fun e w' => e = .returned (.bool true) ∧ Below w.heap.size w w' := by
  unfold maxLen at hn hv
  have hm' := hm
  unfold maxLen at hm'
  have hs1 := fun o => hs.below ((Below.refl w.heap.size w).alloc (Nat.le_refl _) o) (Nat.le_refl _)
  cases hL : largeF l 60 200 with
  | true =>
    go_enter Try.func4, Try.ntmps4
    go_wp2_with fail
    refine (ref21_Large _ _ _ _ _ _ _ hm (hs1 _)).mono ?_
    rintro e w1 ⟨rfl, rfl⟩
    rw [hL]
    go_wp2_with (first | (go_at_call 20; refine (law26_alive _).mono ?_; rintro e w1 ⟨rfl, hb⟩))
    go_ret
    exact ⟨rfl, ((Below.refl _ _).alloc (Nat.le_refl _) _).trans (hb.mono (by simp))⟩
  | false =>
    have hlen : l.length ≤ 60 := by
      simp only [largeF, Bool.or_eq_false_iff, decide_eq_false_iff_not] at hL
      omega
    by_cases hok : (f.name.length : Int) ≤ 200 ∧ (f.value.length : Int) ≤ 200 ∧ 0 ≤ at' ∧ at' ≤ l.length
    · obtain ⟨o1, o2, o3, o4⟩ := hok
      obtain ⟨k, rfl⟩ := Int.eq_ofNat_of_zero_le o3
      have hk : k ≤ l.length := by omega
      go_enter Try.func4, Try.ntmps4
      go_wp2_with fail
      refine (ref21_Large _ _ _ _ _ _ _ hm (hs1 _)).mono ?_
      rintro e w1 ⟨rfl, rfl⟩
      rw [hL]
      go_wp2_with fail
      refine (length_Of _ _ _ _ _ hm (by simp) (hs1 _)).mono ?_
      rintro e w1 ⟨rfl, hb1⟩
      have hz1 : w.heap.size + 1 ≤ w1.heap.size := by have := hb1.size; simp at this; omega
      have B0 := (Blk.new w 33 #[bstr f.name, bstr f.value, .bool f.never]).below hb1 (by simp)
      have hs2 := (hs1 (.cells #[bstr f.name, bstr f.value, .bool f.never] 33)).below hb1 (by simp)
      clear hs hs1
      obtain ⟨q0, q1, q2, _, _, _, _⟩ := B0.three
      have W1 : ∃ W, W = w1.alloc (.cells #[.int .i64 (lenF l).1, .bool (lenF l).2.1] 26) := ⟨_, rfl⟩
      obtain ⟨W1, hW1⟩ := W1
      have B1 : Blk W1 w1.heap.size 26 #[.int .i64 (lenF l).1, .bool (lenF l).2.1] := hW1 ▸ Blk.new _ _ _
      have hz2 : W1.heap.size = w1.heap.size + 1 := by rw [hW1]; simp
      have hb2 : Below (w.heap.size + 1) w1 W1 := by rw [hW1]; exact (Below.refl _ _).alloc hz1 _
      have B0' : Blk W1 w.heap.size 33 #[bstr f.name, bstr f.value, .bool f.never] := B0.below hb2 (by omega)
      have hs3 := hs2.below hb2 (by omega)
      have HW := Lib.hid hW1
      clear hW1 hs2 q0 q1 q2 B0
      go_wp2_with (first
        | (at_builtin
           rw [← HW.out]
           refine wpList_app_sl st_fields (.tmp 42) (.tmp 45) rfl rfl (v := .slice none 0 0) (base := W1.heap.size) rfl (World.ownsRow_nil _ _ _ _) rfl ?_ (hs3.take k) (fun y _ => fd_cells y) (fun _ _ => rfl) ?_ ?_ ?_ (Nat.le_refl _) ?_
           · rw [List.length_take]; omega
           · intro y _ u hu; simp [Fd.cells] at hu; rcases hu with rfl | rfl | rfl <;> rfl
           · unfold maxLen; omega
           · omega
           intro v1 w2 hown1 hg1
           have hbb := own_grown (Below.refl _ _) (World.ownsRow_nil W1 W1.heap.size 33 3) hg1 (Nat.le_refl _) (Nat.le_refl _)
           rw [Nat.zero_add, List.nil_append] at hown1
           obtain ⟨q0, q1, q2, _, _, _, _⟩ := (B0'.below hbb B0'.lt).three
           have hz3 := hbb.size
           clear hg1)
        | (at_builtin
           refine wpList_app st_fields (.tmp 47) (.tmp 49) rfl rfl (v := v1) rfl (hown1.alloc _) rfl (Blk.new _ _ _) rfl ?_ ?_ ?_ ?_ ?_
           · simp [Value.oneCell']
           · unfold maxLen; omega
           · omega
           · simp; omega
           intro v2 w3 hown2 hg2
           have hbb2 := own_grown (hbb.alloc hz3 _) (hown1.alloc _) hg2 (Nat.le_refl _) (by simp; omega)
           clear hg2
           have hz4 := hbb2.size)
        | (at_builtin
           refine wpList_app_sl st_fields (.tmp 51) (.tmp 54) rfl rfl (v := v2) rfl hown2 rfl ?_ ((hs3.below hbb2 (by omega)).drop_if k hcap) (fun y _ => fd_cells y) (fun _ _ => rfl) ?_ ?_ ?_ hz4 ?_
           · rw [List.length_drop]
           · intro y _ u hu; simp [Fd.cells] at hu; rcases hu with rfl | rfl | rfl <;> rfl
           · unfold maxLen; omega
           · omega
           intro v3 w4 hown3 hg3
           have hbb3 := own_grown hbb2 hown2 hg3 (Nat.le_refl _) hz4
           have hz5 := hbb3.size
           clear hg3))
      all_goals
        have hbd : ∀ y ∈ l.take k ++ f :: l.drop k, y.name.length ≤ maxLen ∧ y.value.length ≤ maxLen := by
          intro y hy
          rcases List.mem_append.1 hy with hy | hy
          · exact slF_bounds hs3 y (List.mem_of_mem_take hy)
          · rcases List.mem_cons.1 hy with rfl | hy
            · exact ⟨hn, hv⟩
            · exact slF_bounds hs3 y (List.mem_of_mem_drop hy)
        have hml : (l.take k ++ f :: l.drop k).length = l.length + 1 := by simp; omega
        obtain ⟨a3, cap3, rfl, hsm⟩ := own_slF (l := l.take k ++ f :: l.drop k) hown3 (by rw [hml]; omega) (by simp [Fd.cells]) hbd
        have hbb := (((Below.refl w.heap.size w).alloc (Nat.le_refl _) (.cells #[bstr f.name, bstr f.value, .bool f.never] 33)).trans (hb1.mono (by simp))).trans ((hb2.mono (by omega)).trans (hbb3.mono (by omega)))
        have C0 := B0'.below hbb3 B0'.lt
        have C1 := B1.below hbb3 B1.lt
        clear hown1 hown2 hown3
        refine (length_Of _ _ _ _ _ (by rw [hml]; unfold maxLen; omega) (Nat.le_refl _) hsm).mono ?_
        rintro e w5 ⟨rfl, hb5⟩
        have hbz := hbb.trans (hb5.mono hbb.size)
        have D0 := C0.below hb5 C0.lt
        have D1 := C1.below hb5 C1.lt
        obtain ⟨q0, q1, q2, _, _, _, _⟩ := D0.three
        obtain ⟨r0, r1, _, _, _⟩ := D1.two
        have hsp : l.take k ++ l.drop k = l := List.take_append_drop k l
        by_cases hname : f.name = contentLength
        · have t0 : (f.name == contentLength) = true := by simpa using hname
          have hmore := lenF_more (l.take k) (l.drop k) f hname
          rw [hsp] at hmore
          generalize lenF (l.take k ++ f :: l.drop k) = p at hmore ⊢
          clear hname hsp
          cases e1 : (lenF l).2.2 with
          | false =>
            have e2 := hmore.1 e1
            clear hmore
            go_wp2_with (first | (go_at_call 20; refine (law26_alive _).mono ?_; rintro e w6 ⟨rfl, hb6⟩))
            go_ret
            exact ⟨rfl, (hbz.alloc hbz.size _).trans (hb6.mono (by have := hbz.size; simp; omega))⟩
          | true =>
            cases e2 : p.2.2 with
            | false =>
              clear hmore
              go_wp2_with (first | (go_at_call 20; refine (law26_alive _).mono ?_; rintro e w6 ⟨rfl, hb6⟩))
              go_ret
              exact ⟨rfl, (hbz.alloc hbz.size _).trans (hb6.mono (by have := hbz.size; simp; omega))⟩
            | true =>
              cases e3 : (lenF l).2.1 with
              | false =>
                clear hmore
                go_wp2_with (first | (go_at_call 20; refine (law26_alive _).mono ?_; rintro e w6 ⟨rfl, hb6⟩))
                go_ret
                exact ⟨rfl, (hbz.alloc hbz.size _).trans (hb6.mono (by have := hbz.size; simp; omega))⟩
              | true =>
                have e4 := hmore.2 e1 e2 e3
                clear hmore
                subst e4
                go_wp2_with (first | (go_at_call 20; refine (law26_alive _).mono ?_; rintro e w6 ⟨rfl, hb6⟩))
                go_ret
                exact ⟨rfl, (hbz.alloc hbz.size _).trans (hb6.mono (by have := hbz.size; simp; omega))⟩
        · have t0 : (f.name == contentLength) = false := by simpa using hname
          rw [lenF_other _ _ _ hname, hsp]
          clear hname hsp
          go_wp2_with (first | (go_at_call 20; refine (law26_alive _).mono ?_; rintro e w6 ⟨rfl, hb6⟩))
          go_ret
          exact ⟨rfl, (hbz.alloc hbz.size _).trans (hb6.mono (by have := hbz.size; simp; omega))⟩
    · go_enter Try.func4, Try.ntmps4
      go_wp2_with fail
      refine (ref21_Large _ _ _ _ _ _ _ hm (hs1 _)).mono ?_
      rintro e w1 ⟨rfl, rfl⟩
      rw [hL]
      go_wp2_with (first | (go_at_call 20; refine (law26_alive _).mono ?_; rintro e w1 ⟨rfl, hb⟩))
      all_goals first
        | (exfalso; omega)
        | (go_ret
           exact ⟨rfl, ((Below.refl _ _).alloc (Nat.le_refl _) _).trans (hb.mono (by simp))⟩)
end Go.Proofs.Ytafccnkeiohlhaa
