/-
  Numbers as digits: digits up to a limit, the program's road and the document's.
-/
import Derived.Test.YtjdgkkmhlbjdnaaDoorDigQ
import Derived.Laws.RangeString
import Derived.Laws.RangeAny
namespace Go.Proofs.YtjdgkkmhlbjdnaaDoor
set_option linter.unusedSimpArgs false
set_option linter.unusedVariables false
set_option linter.unusedSectionVars false
open Go.ChangeShapes Go.WideShapes Go.ChangeAt Go.RowKit Go.Deep Go.Shelf

theorem natF_nil (most : Int) : natF [] most = (0, false) := by unfold natF; rw [if_pos (.inl rfl)]
theorem natF_neg {s : List UInt8} {most : Int} (h : most < 0) : natF s most = (0, false) := by unfold natF; rw [if_pos (.inr h)]
theorem natF_go {s : List UInt8} {most : Int} (h0 : s ≠ []) (h : ¬ most < 0) : natF s most = natE (natGo most s 0) := by unfold natF; rw [if_neg (by simp [h0, h])]
theorem natGo_at {s : List UInt8} {most n : Int} {k : Nat} (hk : k < s.length) : natGo most (s.drop k) n = if (s[k].toNat : Int) < 48 ∨ 57 < (s[k].toNat : Int) then none else if most < 10 * n + ((s[k].toNat : Int) - 48) then none else natGo most (s.drop (k + 1)) (10 * n + ((s[k].toNat : Int) - 48)) := by
  rw [List.drop_eq_getElem_cons hk, natGo]

set_option maxHeartbeats 4000000 in
set_option maxRecDepth 100000 in
theorem digits_Natural (s : List UInt8) (most : Int) (hm : s.length ≤ 1048576) (m1 : most ≤ 9223372036854775807) (w : World) :
    Calls Tryd.prog 56 #[bstr s, .int .i64 most] w fun e w' => e = .returned (.tuple #[.int .i64 (natF s most).1, .bool (natF s most).2]) ∧ ∃ j, w' = w.more j := by
  by_cases h0 : s = []
  · subst h0
    rw [natF_nil]
    go_enter Tryd.func56, Tryd.ntmps56
    go_wp2_with fail
    go_ret2
    exact ⟨rfl, Below.junk (by repeat (first | (with_reducible exact Below.refl _ _) | (with_reducible refine Below.allocS ?_ _) | (with_reducible refine Below.moreS ?_ _) | (with_reducible refine Below.drew ?_) | (with_reducible refine below_drewN ?_ _)))⟩
  have hne : s.isEmpty = false := by cases s <;> simp_all
  have hne' : (!s.isEmpty) = true := by rw [hne]; rfl
  by_cases hneg : most < 0
  · rw [natF_neg hneg]
    clear h0
    go_enter Tryd.func56, Tryd.ntmps56
    go_wp2_with fail
    go_ret2
    exact ⟨rfl, Below.junk (by repeat (first | (with_reducible exact Below.refl _ _) | (with_reducible refine Below.allocS ?_ _) | (with_reducible refine Below.moreS ?_ _) | (with_reducible refine Below.drew ?_) | (with_reducible refine below_drewN ?_ _)))⟩
  have HF := Lib.hid (natF_go h0 hneg)
  clear h0
  generalize natF s most = R at HF ⊢
  obtain ⟨r1, r2⟩ := R
  go_enter Tryd.func56, Tryd.ntmps56
  go_wp2_with fail
  go_loopw [6] (fun nv wr => ∃ (k : Nat) (n : Int), wr = w.iter ⟨s.toArray⟩ k ∧ nv = .int .i64 n ∧ k ≤ s.length ∧ 0 ≤ n ∧ n ≤ most ∧ Hid (natGo most s 0 = natGo most (s.drop k) n)) (fun _ wr => s.length - wr.iterPos w.heap.size)
  case atStart => exact ⟨0, 0, rfl, rfl, by omega, by omega, by omega, by show _ = _; rfl⟩
  case round =>
    obtain ⟨k, n, rfl, rfl, hk, hn0, hn1, HG⟩ := hrel
    by_cases hlt : k < s.length
    · have hc := s[k].toNat_lt
      have HE := Lib.hid (HG.out.trans (natGo_at hlt))
      clear HG
      by_cases ha : s[k].toNat < 128
      · have hnx : ∀ ty, (Instr.next (.pointer (some ⟨w.heap.size, 0, none⟩)) true ty).run Tryd.prog (w.iter ⟨s.toArray⟩ k) = .ok (.tuple #[.bool true, .int .i64 k, .int .i32 s[k].toNat]) (w.iter ⟨s.toArray⟩ (k + 1)) := fun ty => run_next_ascii w ⟨s.toArray⟩ k ty hlt ha
        by_cases t1 : (s[k].toNat : Int) < 48
        · have hr : (r1, r2) = (0, false) := by rw [HF.out, HE.out, if_pos (.inl t1)]; rfl
          obtain ⟨rfl, rfl⟩ := Prod.mk.inj hr
          clear hr HF HE
          go_wp2_with fail
          go_ret2
          exact ⟨rfl, Below.junk ((Below.refl _ _).alloc (Nat.le_refl _) _)⟩
        by_cases t2 : 57 < (s[k].toNat : Int)
        · have hr : (r1, r2) = (0, false) := by rw [HF.out, HE.out, if_pos (.inr t2)]; rfl
          obtain ⟨rfl, rfl⟩ := Prod.mk.inj hr
          clear hr HF HE
          go_wp2_with fail
          go_ret2
          exact ⟨rfl, Below.junk ((Below.refl _ _).alloc (Nat.le_refl _) _)⟩
        have s1 : IntKind.i32.wrap ((s[k].toNat : Int) - 48) = (s[k].toNat : Int) - 48 := IntWalk.i32_in _ (by omega)
        have s2 : IntKind.i64.wrap ((s[k].toNat : Int) - 48) = (s[k].toNat : Int) - 48 := IntWalk.i64_in _ (by omega)
        have s3 : wrap32 ((s[k].toNat : Int) - 48) = (s[k].toNat : Int) - 48 := by unfold wrap32; omega
        have s4 : wrap64 ((s[k].toNat : Int) - 48) = (s[k].toNat : Int) - 48 := by unfold wrap64; omega
        have HEN : Hid (natGo most s 0 = if most < 10 * n + ((s[k].toNat : Int) - 48) then none else natGo most (s.drop (k + 1)) (10 * n + ((s[k].toNat : Int) - 48))) := by show _ = _; rw [HE.out, if_neg (by omega)]
        clear HE
        have d0 : 0 ≤ (s[k].toNat : Int) - 48 := by omega
        have d1 : (s[k].toNat : Int) - 48 ≤ 9 := by omega
        by_cases t3 : most < (s[k].toNat : Int) - 48
        · have hr : (r1, r2) = (0, false) := by rw [HF.out, HEN.out, if_pos (by omega)]; rfl
          obtain ⟨rfl, rfl⟩ := Prod.mk.inj hr
          clear hr HF HEN
          go_wp2_with fail
          go_ret2
          exact ⟨rfl, Below.junk ((Below.refl _ _).alloc (Nat.le_refl _) _)⟩
        have e0 : 0 ≤ most - ((s[k].toNat : Int) - 48) := by omega
        have s5 : IntKind.i64.wrap (most - ((s[k].toNat : Int) - 48)) = most - ((s[k].toNat : Int) - 48) := IntWalk.i64_in _ (by omega)
        have s6 : wrap64 (most - ((s[k].toNat : Int) - 48)) = most - ((s[k].toNat : Int) - 48) := by unfold wrap64; omega
        by_cases t4 : (most - ((s[k].toNat : Int) - 48)) / 10 < n
        · have hr : (r1, r2) = (0, false) := by rw [HF.out, HEN.out, if_pos (by omega)]; rfl
          obtain ⟨rfl, rfl⟩ := Prod.mk.inj hr
          clear hr HF HEN
          go_wp2_with fail
          go_ret2
          exact ⟨rfl, Below.junk ((Below.refl _ _).alloc (Nat.le_refl _) _)⟩
        have HN : Hid (natGo most s 0 = natGo most (s.drop (k + 1)) (10 * n + ((s[k].toNat : Int) - 48))) := by show _ = _; rw [HEN.out, if_neg (by omega)]
        have s7 : IntKind.i64.wrap (10 * n) = 10 * n := IntWalk.i64_in _ (by omega)
        have s8 : IntKind.i64.wrap (10 * n + ((s[k].toNat : Int) - 48)) = 10 * n + ((s[k].toNat : Int) - 48) := IntWalk.i64_in _ (by omega)
        have s9 : wrap64 (10 * n) = 10 * n := by unfold wrap64; omega
        have s10 : wrap64 (10 * n + ((s[k].toNat : Int) - 48)) = 10 * n + ((s[k].toNat : Int) - 48) := by unfold wrap64; omega
        clear HF HEN
        go_wp2_with fail
        go_roundw
        case rel => exact ⟨k + 1, 10 * n + ((s[k].toNat : Int) - 48), rfl, by first | rfl | go_num, hlt, by omega, by omega, HN⟩
        case measure => simp; omega
      · obtain ⟨hh, hw1⟩ := decode_high ⟨s.toArray⟩ k hlt (by show 128 ≤ s[k].toNat; omega)
        have hnx : ∀ ty, (Instr.next (.pointer (some ⟨w.heap.size, 0, none⟩)) true ty).run Tryd.prog (w.iter ⟨s.toArray⟩ k) = _ := fun ty => run_next_any w ⟨s.toArray⟩ k ty hlt
        have hr : (r1, r2) = (0, false) := by rw [HF.out, HE.out, if_pos (.inr (by omega))]; rfl
        obtain ⟨rfl, rfl⟩ := Prod.mk.inj hr
        clear hr HF HE
        generalize Utf8.decode ⟨s.toArray⟩ k = D at hh hw1 hnx
        obtain ⟨dc, dw⟩ := D
        simp only at hh hw1 hnx
        have g1 : ¬ (dc : Int) < 48 := by omega
        have g2 : 57 < (dc : Int) := by omega
        go_wp2_with fail
        go_ret2
        exact ⟨rfl, Below.junk ((Below.refl _ _).alloc (Nat.le_refl _) _)⟩
    · have hnx : ∀ ty, (Instr.next (.pointer (some ⟨w.heap.size, 0, none⟩)) true ty).run Tryd.prog (w.iter ⟨s.toArray⟩ k) = _ := fun ty => run_next_end w ⟨s.toArray⟩ k ty hlt
      have hr : (r1, r2) = (n, true) := by rw [HF.out, HG.out, List.drop_of_length_le (by omega)]; rfl
      obtain ⟨rfl, rfl⟩ := Prod.mk.inj hr
      clear hr HF HG
      go_wp2_with fail
      go_ret2
      exact ⟨rfl, Below.junk ((Below.refl _ _).alloc (Nat.le_refl _) _)⟩

set_option maxHeartbeats 4000000 in
set_option maxRecDepth 100000 in
theorem ref03_Natural (s : List UInt8) (most : Int) (hm : s.length ≤ 1048576) (m1 : most ≤ 9223372036854775807) (w : World) :
    Calls Tryd.prog 57 #[bstr s, .int .i64 most] w fun e w' => e = .returned (.tuple #[.int .i64 (natF s most).1, .bool (natF s most).2]) ∧ w = w' := by
  by_cases h0 : s = []
  · subst h0
    rw [natF_nil]
    go_enter Tryd.func57, Tryd.ntmps57
    go_wp2_with fail
    go_ret2
    exact ⟨rfl, rfl⟩
  have hn0 : ((s.length : Int) == 0) = false := by rw [beq_eq_false_iff_ne]; cases s <;> simp_all; omega
  by_cases hneg : most < 0
  · rw [natF_neg hneg]
    clear h0
    go_enter Tryd.func57, Tryd.ntmps57
    go_wp2_with fail
    go_ret2
    exact ⟨rfl, rfl⟩
  have HF := Lib.hid (natF_go h0 hneg)
  clear h0
  generalize natF s most = R at HF ⊢
  obtain ⟨r1, r2⟩ := R
  go_enter Tryd.func57, Tryd.ntmps57
  go_wp2_with fail
  go_loop [6, 7] (fun nv i => ∃ (k : Nat) (n : Int), i = .int .i64 k ∧ nv = .int .i64 n ∧ k ≤ s.length ∧ 0 ≤ n ∧ n ≤ most ∧ Hid (natGo most s 0 = natGo most (s.drop k) n)) (fun _ i => s.length - (intOf i).toNat)
  case atStart => exact ⟨0, 0, rfl, rfl, by omega, by omega, by omega, by show _ = _; rfl⟩
  case round =>
    obtain ⟨k, n, rfl, rfl, hk, hn0, hn1, HG⟩ := hrel
    by_cases hlt : k < s.length
    · have hc := s[k].toNat_lt
      have HE := Lib.hid (HG.out.trans (natGo_at hlt))
      clear HG
      by_cases t1 : (s[k].toNat : Int) < 48
      · have hr : (r1, r2) = (0, false) := by rw [HF.out, HE.out, if_pos (.inl t1)]; rfl
        obtain ⟨rfl, rfl⟩ := Prod.mk.inj hr
        clear hr HF HE
        go_wp2_with fail
        go_ret2
        exact ⟨rfl, rfl⟩
      by_cases t2 : 57 < (s[k].toNat : Int)
      · have hr : (r1, r2) = (0, false) := by rw [HF.out, HE.out, if_pos (.inr t2)]; rfl
        obtain ⟨rfl, rfl⟩ := Prod.mk.inj hr
        clear hr HF HE
        go_wp2_with fail
        go_ret2
        exact ⟨rfl, rfl⟩
      have HEN : Hid (natGo most s 0 = if most < 10 * n + ((s[k].toNat : Int) - 48) then none else natGo most (s.drop (k + 1)) (10 * n + ((s[k].toNat : Int) - 48))) := by show _ = _; rw [HE.out, if_neg (by omega)]
      clear HE
      have s1 : IntKind.u8.wrap ((s[k].toNat : Int) - 48) = (s[k].toNat : Int) - 48 := IntWalk.u8_in _ (by omega)
      have s2 : IntKind.i64.wrap ((s[k].toNat : Int) - 48) = (s[k].toNat : Int) - 48 := IntWalk.i64_in _ (by omega)
      have s3 : ((s[k].toNat : Int) - 48) % 256 = (s[k].toNat : Int) - 48 := by omega
      have s4 : wrap64 ((s[k].toNat : Int) - 48) = (s[k].toNat : Int) - 48 := by unfold wrap64; omega
      have tail : most < 10 * n + ((s[k].toNat : Int) - 48) → (r1, r2) = (0, false) := fun h => by rw [HF.out, HEN.out, if_pos h]; rfl
      have HT := Lib.hid tail
      clear tail
      cases t3 : (n == most / 10)
      · by_cases t4 : most / 10 < n
        · have hr := HT.out (by omega)
          obtain ⟨rfl, rfl⟩ := Prod.mk.inj hr
          clear hr HF HEN HT
          go_wp2_with fail
          go_loop [9] (fun i => ∃ q : Nat, i = .int .i64 q ∧ q ≤ s.length) (fun i => s.length - (intOf i).toNat)
          case atStart => exact ⟨k, rfl, by omega⟩
          case round =>
            obtain ⟨q, rfl, hq⟩ := hrel
            by_cases hql : q < s.length
            · have hcq := s[q].toNat_lt
              by_cases u1 : (s[q].toNat : Int) < 48 <;> by_cases u2 : 57 < (s[q].toNat : Int)
              · exfalso; omega
              · go_wp2_with fail
                go_ret2
                exact ⟨rfl, rfl⟩
              · go_wp2_with fail
                go_ret2
                exact ⟨rfl, rfl⟩
              · go_wp2_with fail
                go_round
                case rel => exact ⟨q + 1, by go_num, hql⟩
                case measure => simp [intOf]; omega
            · go_wp2_with fail
              go_ret2
              exact ⟨rfl, rfl⟩
        · have t3' : ¬ n = most / 10 := by simpa using t3
          have HN : Hid (natGo most s 0 = natGo most (s.drop (k + 1)) (10 * n + ((s[k].toNat : Int) - 48))) := by show _ = _; rw [HEN.out, if_neg (by omega)]
          have s7 : IntKind.i64.wrap (10 * n) = 10 * n := IntWalk.i64_in _ (by omega)
          have s8 : IntKind.i64.wrap (10 * n + ((s[k].toNat : Int) - 48)) = 10 * n + ((s[k].toNat : Int) - 48) := IntWalk.i64_in _ (by omega)
          have s9 : wrap64 (10 * n) = 10 * n := by unfold wrap64; omega
          have s10 : wrap64 (10 * n + ((s[k].toNat : Int) - 48)) = 10 * n + ((s[k].toNat : Int) - 48) := by unfold wrap64; omega
          have b1 : 10 * n + ((s[k].toNat : Int) - 48) ≤ most := by omega
          clear HF HEN HT t3'
          go_wp2_with fail
          go_round
          case rel => exact ⟨k + 1, 10 * n + ((s[k].toNat : Int) - 48), by go_num, by first | rfl | go_num, hlt, by omega, b1, HN⟩
          case measure => simp [intOf]; omega
      · have t3' : n = most / 10 := by simpa using t3
        have t4 : ¬ most / 10 < n := by omega
        by_cases t5 : most % 10 < (s[k].toNat : Int) - 48
        · have hr := HT.out (by omega)
          obtain ⟨rfl, rfl⟩ := Prod.mk.inj hr
          clear hr HF HEN HT t3'
          go_wp2_with fail
          go_loop [9] (fun i => ∃ q : Nat, i = .int .i64 q ∧ q ≤ s.length) (fun i => s.length - (intOf i).toNat)
          case atStart => exact ⟨k, rfl, by omega⟩
          case round =>
            obtain ⟨q, rfl, hq⟩ := hrel
            by_cases hql : q < s.length
            · have hcq := s[q].toNat_lt
              by_cases u1 : (s[q].toNat : Int) < 48 <;> by_cases u2 : 57 < (s[q].toNat : Int)
              · exfalso; omega
              · go_wp2_with fail
                go_ret2
                exact ⟨rfl, rfl⟩
              · go_wp2_with fail
                go_ret2
                exact ⟨rfl, rfl⟩
              · go_wp2_with fail
                go_round
                case rel => exact ⟨q + 1, by go_num, hql⟩
                case measure => simp [intOf]; omega
            · go_wp2_with fail
              go_ret2
              exact ⟨rfl, rfl⟩
        · have HN : Hid (natGo most s 0 = natGo most (s.drop (k + 1)) (10 * n + ((s[k].toNat : Int) - 48))) := by show _ = _; rw [HEN.out, if_neg (by omega)]
          have s7 : IntKind.i64.wrap (10 * n) = 10 * n := IntWalk.i64_in _ (by omega)
          have s8 : IntKind.i64.wrap (10 * n + ((s[k].toNat : Int) - 48)) = 10 * n + ((s[k].toNat : Int) - 48) := IntWalk.i64_in _ (by omega)
          have s9 : wrap64 (10 * n) = 10 * n := by unfold wrap64; omega
          have s10 : wrap64 (10 * n + ((s[k].toNat : Int) - 48)) = 10 * n + ((s[k].toNat : Int) - 48) := by unfold wrap64; omega
          have b1 : 10 * n + ((s[k].toNat : Int) - 48) ≤ most := by omega
          clear HF HEN HT t3'
          go_wp2_with fail
          go_round
          case rel => exact ⟨k + 1, 10 * n + ((s[k].toNat : Int) - 48), by go_num, by first | rfl | go_num, hlt, by omega, b1, HN⟩
          case measure => simp [intOf]; omega
    · have hr : (r1, r2) = (n, true) := by rw [HF.out, HG.out, List.drop_of_length_le (by omega)]; rfl
      obtain ⟨rfl, rfl⟩ := Prod.mk.inj hr
      clear hr HF HG
      go_wp2_with fail
      go_ret2
      exact ⟨rfl, rfl⟩
end Go.Proofs.YtjdgkkmhlbjdnaaDoor
