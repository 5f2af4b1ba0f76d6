/-
  Reports: which may be: the document's. (Printed by mk_rep6.py.)
-/
import Derived.Test.YtbdmepidabnfkaaGreatDoorRep5
import Derived.Test.YtbdmepidabnfkaaGreatDoorMb
namespace Go.Proofs.YtbdmepidabnfkaaGreatDoor
set_option linter.unusedSimpArgs false
set_option linter.unusedVariables false
set_option linter.unusedSectionVars false
open Go.ChangeShapes Go.WideShapes Go.ChangeAt Go.RowKit Go.Deep Go.Shelf

theorem right_bad1 {x : Rpt} {k : Nat} (hk : k < x.l.length) (h : recR x.l[k] = false) : rightD x = false := by
  cases hr : rightD x with
  | false => rfl
  | true =>
    have := List.all_eq_true.1 (right_l hr) _ (List.getElem_mem hk)
    rw [h] at this; cases this
theorem right_bad2 {x : Rpt} {k : Nat} (hk : k + 1 < x.l.length) (h : okK x.l[k] = false) : rightD x = false := by
  have h1 : x.l.all okK = false := by
    cases ha : x.l.all okK with
    | false => rfl
    | true => have := List.all_eq_true.1 ha _ (List.getElem_mem (show k < x.l.length by omega)); rw [h] at this; cases this
  have h2 : x.l.dropLast.all okK = false := by
    cases ha : x.l.dropLast.all okK with
    | false => rfl
    | true =>
      have hm : x.l[k] ∈ x.l.dropLast := List.mem_iff_getElem.2 ⟨k, by simp; omega, by simp⟩
      have := List.all_eq_true.1 ha _ hm; rw [h] at this; cases this
  unfold rightD endD2
  rw [h1, h2]
  simp
def tailD1 (l : List Rec) (v t : Int) (fs : List Fl) (us : List Int) (f0 f1 : Int) : Bool :=
  if v = 1 then (l.isEmpty || okK (l.getLast?.getD zRec)) && (decide (t = (l.length : Int)) && (noneD fs us && (decide (0 ≤ f0) && decide (0 ≤ f1))))
  else if v = 3 ∨ v = 4 then !l.isEmpty && (decide (lastK l = v) && (decide (t = (l.length : Int) - 1) && (eq2 f0 f1 0 0 && if v = 3 then toldD fs us else noneD fs us)))
  else false
theorem right_good {x : Rpt} (hc : cfgR x.c0 x.c1 x.c2 x.c3 x.c4 x.c5 = true) (ha : ∀ k (h : k < x.l.length), recR x.l[k] = true) (hd : ∀ k (h : k + 1 < x.l.length), okK x.l[k] = true) : rightD x = tailD1 x.l x.v x.t x.fs x.us x.f0 x.f1 := by
  have h1 : x.l.all recR = true := List.all_eq_true.2 fun r hr => by
    obtain ⟨k, hk, rfl⟩ := List.mem_iff_getElem.1 hr
    exact ha k hk
  have h2 : x.l.dropLast.all okK = true := List.all_eq_true.2 fun r hr => by
    obtain ⟨k, hk, rfl⟩ := List.mem_iff_getElem.1 hr
    rw [List.getElem_dropLast]
    exact hd k (by simpa using Nat.add_lt_of_lt_sub (by simpa using hk))
  have h3 : x.l.all okK = (x.l.isEmpty || okK (x.l.getLast?.getD zRec)) := by
    cases he : x.l.isEmpty with
    | true => rw [List.isEmpty_iff.1 he]; rfl
    | false =>
      obtain ⟨n, hn, z, hz, hzl, hdl⟩ := list_snoc he
      have hsp : x.l = x.l.dropLast ++ [z] := by
        have hne : x.l ≠ [] := by intro h; rw [h] at he; cases he
        have := List.dropLast_concat_getLast hne
        rw [List.getLast?_eq_some_getLast hne] at hzl
        injection hzl with hzl
        rw [← hzl]; exact this.symm
      rw [hzl, Bool.false_or, Option.getD_some]
      conv => lhs; rw [hsp]
      rw [List.all_append, h2, Bool.true_and]
      simp
  have h4 : decide (0 ≤ min x.f0 x.f1) = (decide (0 ≤ x.f0) && decide (0 ≤ x.f1)) := by
    rw [← Bool.decide_and, decide_eq_decide]
    omega
  unfold rightD tailD1 endD2 eq2
  rw [hc, h1, h2, h3, h4]
  simp only [Bool.true_and]
  split
  · rfl
  · split
    · cases x.l.isEmpty <;> cases decide (x.t = (x.l.length : Int) - 1) <;> cases decide (lastK x.l = x.v) <;> simp
    · rfl
theorem okK_le {r : Rec} (h : recR r = true) : okK r = !decide (2 < r.kd) := by
  have := (recR_ok h).kd
  unfold okK
  by_cases h1 : r.kd = 1
  · rw [h1]; rfl
  · by_cases h2 : r.kd = 2
    · rw [h2]; rfl
    · rw [decide_eq_false h1, decide_eq_false h2, decide_eq_true (by omega)]; rfl
set_option maxHeartbeats 16000000 in
set_option maxRecDepth 100000 in
theorem ref43_Right (c0 c1 c2 c3 c4 c5 : Int) (a : Option Addr) (l : List Rec) (c : Nat) (v t : Int) (fa : Option Addr) (fs : List Fl) (fc : Nat) (ua : Option Addr) (us : List Int) (uc : Nat) (f0 f1 : Int) (hll : l.length ≤ 1000000) (hfl : fs.length ≤ 100000) (hul : us.length ≤ 100000) (w : World) (hS : SlRc w w.heap.size a l) (hF : SlFl w w.heap.size fa fs) (hU : SlI w w.heap.size ua us) :
    Calls Tryz.prog 12 #[.agg #[.int .i64 c0, .int .i64 c1, .int .i64 c2, .int .i64 c3, .int .i64 c4, .int .i64 c5, .slice a l.length c, .int .i64 v, .int .i64 t, .slice fa fs.length fc, .slice ua us.length uc, .int .i64 f0, .int .i64 f1]] w fun e w' => e = .returned (.bool (rightD ⟨c0, c1, c2, c3, c4, c5, l, v, t, fs, us, f0, f1⟩)) ∧ ∃ j, w' = w.more j := by
  have HCF : Hid (∀ W, Calls Tryz.prog 32 #[.agg #[.int .i64 c0, .int .i64 c1, .int .i64 c2, .int .i64 c3, .int .i64 c4, .int .i64 c5]] W fun e w' => e = .returned (.bool (cfgR c0 c1 c2 c3 c4 c5)) ∧ ∃ j, w' = W.more j) := ref39_Right c0 c1 c2 c3 c4 c5
  have HOF : Hid (∀ W, Below w.heap.size w W → Calls Tryz.prog 35 #[.slice fa fs.length fc] W fun e w' => ∃ a' cap', e = .returned (.slice a' (ofF fs).length cap') ∧ (ofF fs).length ≤ cap' ∧ SlFl w' w'.heap.size a' (ofF fs) ∧ Below W.heap.size W w') := fun W hW => ref09_Of fa fs fc hfl W (SlFl.keep hF hW)
  have hol := ofF_len fs
  have HSM : Hid (∀ W a1 cap1, Below w.heap.size w W → SlFl W W.heap.size a1 (ofF fs) → Calls Tryz.prog 34 #[.slice fa fs.length fc, .slice a1 (ofF fs).length cap1] W fun e w' => e = .returned (.bool (decide (fs = ofF fs))) ∧ ∃ j, w' = W.more j) := fun W a1 cap1 hW h1 => ref09_Same fa a1 fs (ofF fs) fc cap1 hfl (by omega) W (SlFl.keep hF hW) h1
  have HRO : Hid (∀ W, Below w.heap.size w W → Calls Tryz.prog 37 #[.slice ua us.length uc] W fun e w' => ∃ v, e = .returned v ∧ OwnI W.heap.size w' v (ofR us) ∧ Below W.heap.size W w') := fun W hW => ref38_Of ua us uc hul W ((hU.below hW (Nat.le_refl _)).mono hW.size (fun _ _ _ h => h))
  have hor := ofR_len us
  have hsI : sameI us (ofR us) = decide (us = ofR us) := by unfold sameI; rw [Bool.eq_iff_iff]; simp
  have HEQ : Hid (∀ W a1 cap1, Below w.heap.size w W → SlI W W.heap.size a1 (ofR us) → Calls Tryz.prog 36 #[.slice ua us.length uc, .slice a1 (ofR us).length cap1] W fun e w' => e = .returned (.bool (decide (us = ofR us))) ∧ ∃ j, w' = W.more j) := fun W a1 cap1 hW h1 => by
    have := ref03_Same ua a1 uc cap1 us (ofR us) W W (by omega) (by omega) (Below.refl _ _) ((hU.below hW (Nat.le_refl _)).mono hW.size (fun _ _ _ h => h)) h1
    rw [hsI] at this
    exact this
  have HB1 : Hid (∀ k (hk : k < l.length), recR l[k] = false → rightD ⟨c0, c1, c2, c3, c4, c5, l, v, t, fs, us, f0, f1⟩ = false) := fun k hk h => right_bad1 (x := ⟨c0, c1, c2, c3, c4, c5, l, v, t, fs, us, f0, f1⟩) hk h
  have HB2 : Hid (∀ k (hk : k + 1 < l.length), okK l[k] = false → rightD ⟨c0, c1, c2, c3, c4, c5, l, v, t, fs, us, f0, f1⟩ = false) := fun k hk h => right_bad2 (x := ⟨c0, c1, c2, c3, c4, c5, l, v, t, fs, us, f0, f1⟩) hk h
  have HGD : Hid (cfgR c0 c1 c2 c3 c4 c5 = true → (∀ k (h : k < l.length), recR l[k] = true) → (∀ k (h : k + 1 < l.length), okK l[k] = true) → rightD ⟨c0, c1, c2, c3, c4, c5, l, v, t, fs, us, f0, f1⟩ = tailD1 l v t fs us f0 f1) := fun h1 h2 h3 => right_good (x := ⟨c0, c1, c2, c3, c4, c5, l, v, t, fs, us, f0, f1⟩) h1 h2 h3
  have HCB : Hid (cfgR c0 c1 c2 c3 c4 c5 = false → rightD ⟨c0, c1, c2, c3, c4, c5, l, v, t, fs, us, f0, f1⟩ = false) := fun h => by unfold rightD; rw [h]; rfl
  have HND : Hid (noneD fs us = (decide ((fs.length : Int) = 0) && decide ((us.length : Int) = 0))) := by
    show _ = _
    unfold noneD
    cases fs <;> cases us <;> simp <;> omega
  have HTD : Hid (toldD fs us = (decide (0 < (fs.length : Int)) && (decide (0 < (us.length : Int)) && (decide (fs = ofF fs) && decide (us = ofR us))))) := by
    show _ = _
    unfold toldD
    cases fs <;> cases us <;> simp <;> omega
  have HS := Lib.hid hS
  clear hF hU hS hsI hfl hul hor hol
  unfold tailD1 at HGD
  generalize rightD ⟨c0, c1, c2, c3, c4, c5, l, v, t, fs, us, f0, f1⟩ = R at HB1 HB2 HGD HCB ⊢
  generalize cfgR c0 c1 c2 c3 c4 c5 = bc at HCF HGD HCB ⊢
  generalize noneD fs us = bn at HND HGD
  generalize toldD fs us = bt at HTD HGD
  generalize ofF fs = F at HOF HSM HTD
  generalize ofR us = RU at HRO HEQ HTD
  generalize decide (fs = F) = bF at HSM HTD
  generalize decide (us = RU) = bR at HEQ HTD
  generalize fs.length = nf at HOF HSM HND HTD ⊢
  generalize us.length = nu at HRO HEQ HND HTD ⊢
  obtain ⟨n, hn⟩ : ∃ n, n = l.length := ⟨_, rfl⟩
  rw [← hn]
  rw [← hn] at hll
  have HN := Lib.hid hn
  clear hn
  cases bc
  case false =>
    obtain rfl := HCB.out rfl
    clear HB1 HB2 HGD HCB HOF HSM HRO HEQ HND HTD HS
    go_enter Tryz.func12, Tryz.ntmps12
    go_wp2_with (go_at_call 32; (with_reducible refine (HCF.out _).mono ?_); rintro e w' ⟨rfl, j, rfl⟩)
    go_ret
    exact ⟨rfl, Below.junk (by repeat (first | (with_reducible exact Below.refl _ _) | (with_reducible refine Below.allocS ?_ _) | (with_reducible refine Below.moreS ?_ _) | (with_reducible refine Below.drew ?_) | (with_reducible refine below_drewN ?_ _)))⟩
  clear HCB
  have HGE := Lib.hid (HGD.out (by simp))
  clear HGD
  go_enter Tryz.func12, Tryz.ntmps12
  go_wp2_with (go_at_call 32; (with_reducible refine (HCF.out _).mono ?_); rintro e w' ⟨rfl, j, rfl⟩)
  clear HCF
  go_loopw [4] (fun i wr => ∃ k : Nat, k ≤ n ∧ i = .int .i64 k ∧ Hid (∀ q (h : q < l.length), q < k → recR l[q] = true ∧ (q + 1 < n → okK l[q] = true)) ∧ ∃ j, wr = (w.alloc (.cells #[.int .i64 c0, .int .i64 c1, .int .i64 c2, .int .i64 c3, .int .i64 c4, .int .i64 c5, .slice a n c, .int .i64 v, .int .i64 t, .slice fa nf fc, .slice ua nu uc, .int .i64 f0, .int .i64 f1] RpT)).more j) (fun i _ => n - (intOf i).toNat)
  case atStart => exact ⟨0, Nat.zero_le _, rfl, fun q _ h => absurd h (Nat.not_lt_zero _), _, rfl⟩
  case round =>
    obtain ⟨k, hk, rfl, HQ, jr, rfl⟩ := hrel
    by_cases hlt : k < n
    · have hl := HN.out
      obtain ⟨b, off, ha, hbb, d0, d1, d2, d3, d4, d5⟩ := SlR.atRc HS.out (k := k) (by omega)
      subst ha
      have hkl : k < l.length := by omega
      have HX1 : Hid (recR l[k] = false → R = false) := HB1.out k hkl
      have HX2 : Hid (k + 1 < n → okK l[k] = false → R = false) := fun h => HB2.out k (by omega)
      have HX3 : Hid (recR l[k] = true → (k + 1 < n → okK l[k] = true) → ∀ q (h : q < l.length), q < k + 1 → recR l[q] = true ∧ (q + 1 < n → okK l[q] = true)) := fun h1 h2 q hq hq2 => by
        by_cases e : q = k
        · subst e; exact ⟨h1, h2⟩
        · exact HQ.out q hq (by omega)
      have HX4 : Hid (recR l[k] = true → okK l[k] = !decide (2 < l[k].kd)) := okK_le
      generalize l[k] = x at d0 d1 d2 d3 d4 d5 HX1 HX2 HX3 HX4
      obtain ⟨x0, x1, x2, x3, x4, x5⟩ := x
      simp only at d0 d1 d2 d3 d4 d5 HX4
      have HRR : Hid (∀ W, Calls Tryz.prog 33 #[.agg #[.int .i64 x0, .int .i64 x1, .int .i64 x2, .int .i64 x3, .int .i64 x4, .int .i64 x5]] W fun e w' => e = .returned (.bool (recR ⟨x0, x1, x2, x3, x4, x5⟩)) ∧ ∃ j, w' = W.more j) := ref41_Right x0 x1 x2 x3 x4 x5
      generalize recR ⟨x0, x1, x2, x3, x4, x5⟩ = rr at HRR HX1 HX3 HX4
      generalize okK ⟨x0, x1, x2, x3, x4, x5⟩ = ok at HX2 HX3 HX4
      have hnw : IntKind.i64.wrap ((n : Int) - 1) = (n : Int) - 1 := IntWalk.i64_in _ (by omega)
      clear HQ HB1 HB2 HGE HOF HSM HRO HEQ HND HTD hl hkl
      cases rr
      case false =>
        obtain rfl := HX1.out rfl
        clear HX1 HX2 HX3 HX4
        go_wp2_with (go_at_call 33; (with_reducible refine (HRR.out _).mono ?_); rintro e w' ⟨rfl, j, rfl⟩)
        go_ret
        exact ⟨rfl, Below.junk (by repeat (first | (with_reducible exact Below.refl _ _) | (with_reducible refine Below.allocS ?_ _) | (with_reducible refine Below.moreS ?_ _) | (with_reducible refine Below.drew ?_) | (with_reducible refine below_drewN ?_ _)))⟩
      case true =>
        have HX5 := Lib.hid (HX4.out rfl)
        clear HX1 HX4
        by_cases hk1 : k + 1 < n
        · have hk2 : (k : Int) < (n : Int) - 1 := by omega
          by_cases h2 : 2 < x5
          · obtain rfl := HX2.out hk1 (by rw [HX5.out, decide_eq_true h2]; rfl)
            clear HX2 HX3 HX5 hk1
            go_wp2_with (go_at_call 33; (with_reducible refine (HRR.out _).mono ?_); rintro e w' ⟨rfl, j, rfl⟩)
            go_ret
            exact ⟨rfl, Below.junk (by repeat (first | (with_reducible exact Below.refl _ _) | (with_reducible refine Below.allocS ?_ _) | (with_reducible refine Below.moreS ?_ _) | (with_reducible refine Below.drew ?_) | (with_reducible refine below_drewN ?_ _)))⟩
          · have HX6 := Lib.hid (HX3.out rfl (fun _ => by rw [HX5.out, decide_eq_false h2]; rfl))
            clear HX2 HX3 HX5 hk1
            go_wp2_with (go_at_call 33; (with_reducible refine (HRR.out _).mono ?_); rintro e w' ⟨rfl, j, rfl⟩)
            go_round
            case rel => exact ⟨k + 1, hlt, by go_num, HX6.out, _, rfl⟩
            case measure => simp [intOf]; omega
        · have hk2 : ¬ (k : Int) < (n : Int) - 1 := by omega
          have HX6 := Lib.hid (HX3.out rfl (fun h => absurd h hk1))
          clear HX2 HX3 HX5 hk1
          go_wp2_with (go_at_call 33; (with_reducible refine (HRR.out _).mono ?_); rintro e w' ⟨rfl, j, rfl⟩)
          go_round
          case rel => exact ⟨k + 1, hlt, by go_num, HX6.out, _, rfl⟩
          case measure => simp [intOf]; omega
    · obtain rfl : k = n := by omega
      have HR : Hid (R = _) := HGE.out (fun q h => (HQ.out q h (by have := HN.out; omega)).1) (fun q h => (HQ.out q (by omega) (by have := HN.out; omega)).2 (by have := HN.out; omega))
      have HRA : Hid (∀ q (h : q < l.length), recR l[q] = true) := fun q h => (HQ.out q h (by have := HN.out; omega)).1
      clear HQ HGE HB1 HB2 hk hlt
      have e4 : ((nf : Int) == 0) = decide ((nf : Int) = 0) := rfl
      have e5 : ((nu : Int) == 0) = decide ((nu : Int) = 0) := rfl
      have HQ2 := fun W => neq2 f0 f1 0 0 W
      generalize eq2 f0 f1 0 0 = b2 at HQ2 HR
      cases he : l.isEmpty
      case true =>
        obtain rfl := List.isEmpty_iff.1 he
        have HR : Hid (R = if v = 1 then decide (t = 0) && (bn && (decide (0 ≤ f0) && decide (0 ≤ f1))) else false) := by
          show _ = _
          rw [HR.out]
          by_cases hv1 : v = 1
          · rw [if_pos hv1, if_pos hv1]; rfl
          · rw [if_neg hv1, if_neg hv1]
            by_cases hv : v = 3 ∨ v = 4
            · rw [if_pos hv]; rfl
            · rw [if_neg hv]
        obtain rfl : k = 0 := by have := HN.out; simpa using this
        clear HN HS HOF HSM HRO HEQ HTD HRA he
        cases g1 : decide ((nf : Int) = 0)
        case false =>
          have hbn : bn = false := by rw [HND.out, g1]; rfl
          subst hbn
          rw [g1] at e4
          have hpf : 0 < (nf : Int) := by have := of_decide_eq_false g1; omega
          have hpf2 : 0 < nf := by omega
          clear HND g1 e5
          clear HQ2
          by_cases hv1 : v = 1
          · subst hv1
            by_cases ht : t = 0
            rotate_left
            · have e6 : (t == 0) = false := by simpa using ht
              obtain rfl : R = false := by rw [HR.out]; simp [ht]
              clear HR
              go_wp2_with fail
              go_ret
              exact ⟨rfl, Below.junk (by repeat (first | (with_reducible exact Below.refl _ _) | (with_reducible refine Below.allocS ?_ _) | (with_reducible refine Below.moreS ?_ _) | (with_reducible refine Below.drew ?_) | (with_reducible refine below_drewN ?_ _)))⟩
            subst ht
            obtain rfl : R = false := by rw [HR.out]; simp
            clear HR
            go_wp2_with fail
            go_ret
            exact ⟨rfl, Below.junk (by repeat (first | (with_reducible exact Below.refl _ _) | (with_reducible refine Below.allocS ?_ _) | (with_reducible refine Below.moreS ?_ _) | (with_reducible refine Below.drew ?_) | (with_reducible refine below_drewN ?_ _)))⟩
          have e6 : (v == 1) = false := by simpa using hv1
          obtain rfl : R = false := by rw [HR.out]; rw [if_neg hv1]
          clear HR
          by_cases hv3 : v = 3
          · subst hv3
            go_wp2_with fail
            refine wp_region_more (by kernel_rfl) (by kernel_rfl) ?_
            repeat (go_big_quiet_step (first | fail))
            refine wpQuiet_nil ?_
            intro w' hw'
            obtain ⟨j, rfl⟩ := hw'
            go_wp2_with fail
            go_ret
            exact ⟨rfl, Below.junk (by repeat (first | (with_reducible exact Below.refl _ _) | (with_reducible refine Below.allocS ?_ _) | (with_reducible refine Below.moreS ?_ _) | (with_reducible refine Below.drew ?_) | (with_reducible refine below_drewN ?_ _)))⟩
          by_cases hv4 : v = 4
          · subst hv4
            go_wp2_with fail
            refine wp_region_more (by kernel_rfl) (by kernel_rfl) ?_
            repeat (go_big_quiet_step (first | fail))
            refine wpQuiet_nil ?_
            intro w' hw'
            obtain ⟨j, rfl⟩ := hw'
            go_wp2_with fail
            go_ret
            exact ⟨rfl, Below.junk (by repeat (first | (with_reducible exact Below.refl _ _) | (with_reducible refine Below.allocS ?_ _) | (with_reducible refine Below.moreS ?_ _) | (with_reducible refine Below.drew ?_) | (with_reducible refine below_drewN ?_ _)))⟩
          have e7 : (v != 3) = true := by simpa using hv3
          have e8 : (v != 4) = true := by simpa using hv4
          go_wp2_with fail
          refine wp_region_more (by kernel_rfl) (by kernel_rfl) ?_
          repeat (go_big_quiet_step (first | fail))
          refine wpQuiet_nil ?_
          intro w' hw'
          obtain ⟨j, rfl⟩ := hw'
          go_wp2_with fail
          go_ret
          exact ⟨rfl, Below.junk (by repeat (first | (with_reducible exact Below.refl _ _) | (with_reducible refine Below.allocS ?_ _) | (with_reducible refine Below.moreS ?_ _) | (with_reducible refine Below.drew ?_) | (with_reducible refine below_drewN ?_ _)))⟩
        cases g2 : decide ((nu : Int) = 0)
        case false =>
          have hbn : bn = false := by rw [HND.out, g1, g2]; rfl
          subst hbn
          rw [g2] at e5
          obtain rfl : nf = 0 := by have := of_decide_eq_true g1; omega
          clear HND g1 g2 e4
          clear HQ2
          by_cases hv1 : v = 1
          · subst hv1
            by_cases ht : t = 0
            rotate_left
            · have e6 : (t == 0) = false := by simpa using ht
              obtain rfl : R = false := by rw [HR.out]; simp [ht]
              clear HR
              go_wp2_with fail
              go_ret
              exact ⟨rfl, Below.junk (by repeat (first | (with_reducible exact Below.refl _ _) | (with_reducible refine Below.allocS ?_ _) | (with_reducible refine Below.moreS ?_ _) | (with_reducible refine Below.drew ?_) | (with_reducible refine below_drewN ?_ _)))⟩
            subst ht
            obtain rfl : R = false := by rw [HR.out]; simp
            clear HR
            go_wp2_with fail
            go_ret
            exact ⟨rfl, Below.junk (by repeat (first | (with_reducible exact Below.refl _ _) | (with_reducible refine Below.allocS ?_ _) | (with_reducible refine Below.moreS ?_ _) | (with_reducible refine Below.drew ?_) | (with_reducible refine below_drewN ?_ _)))⟩
          have e6 : (v == 1) = false := by simpa using hv1
          obtain rfl : R = false := by rw [HR.out]; rw [if_neg hv1]
          clear HR
          by_cases hv3 : v = 3
          · subst hv3
            go_wp2_with fail
            refine wp_region_more (by kernel_rfl) (by kernel_rfl) ?_
            repeat (go_big_quiet_step (first | fail))
            refine wpQuiet_nil ?_
            intro w' hw'
            obtain ⟨j, rfl⟩ := hw'
            go_wp2_with fail
            go_ret
            exact ⟨rfl, Below.junk (by repeat (first | (with_reducible exact Below.refl _ _) | (with_reducible refine Below.allocS ?_ _) | (with_reducible refine Below.moreS ?_ _) | (with_reducible refine Below.drew ?_) | (with_reducible refine below_drewN ?_ _)))⟩
          by_cases hv4 : v = 4
          · subst hv4
            go_wp2_with fail
            refine wp_region_more (by kernel_rfl) (by kernel_rfl) ?_
            repeat (go_big_quiet_step (first | fail))
            refine wpQuiet_nil ?_
            intro w' hw'
            obtain ⟨j, rfl⟩ := hw'
            go_wp2_with fail
            go_ret
            exact ⟨rfl, Below.junk (by repeat (first | (with_reducible exact Below.refl _ _) | (with_reducible refine Below.allocS ?_ _) | (with_reducible refine Below.moreS ?_ _) | (with_reducible refine Below.drew ?_) | (with_reducible refine below_drewN ?_ _)))⟩
          have e7 : (v != 3) = true := by simpa using hv3
          have e8 : (v != 4) = true := by simpa using hv4
          go_wp2_with fail
          refine wp_region_more (by kernel_rfl) (by kernel_rfl) ?_
          repeat (go_big_quiet_step (first | fail))
          refine wpQuiet_nil ?_
          intro w' hw'
          obtain ⟨j, rfl⟩ := hw'
          go_wp2_with fail
          go_ret
          exact ⟨rfl, Below.junk (by repeat (first | (with_reducible exact Below.refl _ _) | (with_reducible refine Below.allocS ?_ _) | (with_reducible refine Below.moreS ?_ _) | (with_reducible refine Below.drew ?_) | (with_reducible refine below_drewN ?_ _)))⟩
        have hbn : bn = true := by rw [HND.out, g1, g2]; rfl
        subst hbn
        obtain rfl : nf = 0 := by have := of_decide_eq_true g1; omega
        obtain rfl : nu = 0 := by have := of_decide_eq_true g2; omega
        clear HND g1 g2 e4 e5
        clear HQ2
        by_cases hv1 : v = 1
        · subst hv1
          by_cases ht : t = 0
          rotate_left
          · have e6 : (t == 0) = false := by simpa using ht
            obtain rfl : R = false := by rw [HR.out]; simp [ht]
            clear HR
            go_wp2_with fail
            go_ret
            exact ⟨rfl, Below.junk (by repeat (first | (with_reducible exact Below.refl _ _) | (with_reducible refine Below.allocS ?_ _) | (with_reducible refine Below.moreS ?_ _) | (with_reducible refine Below.drew ?_) | (with_reducible refine below_drewN ?_ _)))⟩
          subst ht
          by_cases h0 : 0 ≤ f0
          rotate_left
          · obtain rfl : R = false := by rw [HR.out]; simp [h0]
            clear HR
            go_wp2_with fail
            go_ret
            exact ⟨rfl, Below.junk (by repeat (first | (with_reducible exact Below.refl _ _) | (with_reducible refine Below.allocS ?_ _) | (with_reducible refine Below.moreS ?_ _) | (with_reducible refine Below.drew ?_) | (with_reducible refine below_drewN ?_ _)))⟩
          by_cases h1 : 0 ≤ f1
          rotate_left
          · obtain rfl : R = false := by rw [HR.out]; simp [h1]
            clear HR
            go_wp2_with fail
            go_ret
            exact ⟨rfl, Below.junk (by repeat (first | (with_reducible exact Below.refl _ _) | (with_reducible refine Below.allocS ?_ _) | (with_reducible refine Below.moreS ?_ _) | (with_reducible refine Below.drew ?_) | (with_reducible refine below_drewN ?_ _)))⟩
          obtain rfl : R = true := by rw [HR.out]; simp [h0, h1]
          clear HR
          go_wp2_with fail
          go_ret
          exact ⟨rfl, Below.junk (by repeat (first | (with_reducible exact Below.refl _ _) | (with_reducible refine Below.allocS ?_ _) | (with_reducible refine Below.moreS ?_ _) | (with_reducible refine Below.drew ?_) | (with_reducible refine below_drewN ?_ _)))⟩
        have e6 : (v == 1) = false := by simpa using hv1
        obtain rfl : R = false := by rw [HR.out]; rw [if_neg hv1]
        clear HR
        by_cases hv3 : v = 3
        · subst hv3
          go_wp2_with fail
          refine wp_region_more (by kernel_rfl) (by kernel_rfl) ?_
          repeat (go_big_quiet_step (first | fail))
          refine wpQuiet_nil ?_
          intro w' hw'
          obtain ⟨j, rfl⟩ := hw'
          go_wp2_with fail
          go_ret
          exact ⟨rfl, Below.junk (by repeat (first | (with_reducible exact Below.refl _ _) | (with_reducible refine Below.allocS ?_ _) | (with_reducible refine Below.moreS ?_ _) | (with_reducible refine Below.drew ?_) | (with_reducible refine below_drewN ?_ _)))⟩
        by_cases hv4 : v = 4
        · subst hv4
          go_wp2_with fail
          refine wp_region_more (by kernel_rfl) (by kernel_rfl) ?_
          repeat (go_big_quiet_step (first | fail))
          refine wpQuiet_nil ?_
          intro w' hw'
          obtain ⟨j, rfl⟩ := hw'
          go_wp2_with fail
          go_ret
          exact ⟨rfl, Below.junk (by repeat (first | (with_reducible exact Below.refl _ _) | (with_reducible refine Below.allocS ?_ _) | (with_reducible refine Below.moreS ?_ _) | (with_reducible refine Below.drew ?_) | (with_reducible refine below_drewN ?_ _)))⟩
        have e7 : (v != 3) = true := by simpa using hv3
        have e8 : (v != 4) = true := by simpa using hv4
        go_wp2_with fail
        refine wp_region_more (by kernel_rfl) (by kernel_rfl) ?_
        repeat (go_big_quiet_step (first | fail))
        refine wpQuiet_nil ?_
        intro w' hw'
        obtain ⟨j, rfl⟩ := hw'
        go_wp2_with fail
        go_ret
        exact ⟨rfl, Below.junk (by repeat (first | (with_reducible exact Below.refl _ _) | (with_reducible refine Below.allocS ?_ _) | (with_reducible refine Below.moreS ?_ _) | (with_reducible refine Below.drew ?_) | (with_reducible refine below_drewN ?_ _)))⟩
      case false =>
        obtain ⟨q, hq, z, hz, hzl, _⟩ := list_snoc he
        obtain rfl : k = q + 1 := by have := HN.out; omega
        obtain ⟨b, off, ha, hbb, d0, d1, d2, d3, d4, d5⟩ := SlR.atRc HS.out (k := q) (by omega)
        subst ha
        have hzz : l[q]'(by omega) = z := by
          rw [List.getElem?_eq_getElem (by omega)] at hz
          exact Option.some.inj hz
        rw [hzz] at d5
        have hrz : recR z = true := hzz ▸ (HRA.out q (by omega))
        have hkz := okK_le hrz
        have HR : Hid (R = if v = 1 then !decide (2 < z.kd) && (decide (t = (q : Int) + 1) && (bn && (decide (0 ≤ f0) && decide (0 ≤ f1)))) else if v = 3 ∨ v = 4 then (decide (z.kd = v) && (decide (t = (q : Int)) && (b2 && if v = 3 then bt else bn))) else false) := by
          show _ = _
          rw [HR.out, ← hkz]
          unfold lastK
          rw [hzl, Option.getD_some, hq, show ((q + 1 : Nat) : Int) - 1 = (q : Int) by omega, show ((q + 1 : Nat) : Int) = (q : Int) + 1 by omega]
          simp only [he, Bool.not_false, Bool.true_and, Bool.false_or]
        have hwr : IntKind.i64.wrap ((q : Int) + 1 - 1) = q := by rw [show (q : Int) + 1 - 1 = q by omega]; exact IntWalk.i64_in _ (by omega)
        have hq1 : ((q : Int) + 1 == 0) = false := by rw [beq_eq_false_iff_ne]; omega
        have hnw : IntKind.i64.wrap ((q : Int) + 1) = (q : Int) + 1 := IntWalk.i64_in _ (by omega)
        have hq0 : (0 : Int) ≤ q := by omega
        have hq9 : (q : Int) ≤ 1000000 := by omega
        have hqlt : (q : Int) < (q : Int) + 1 := by omega
        obtain ⟨z0, z1, z2, z3, z4, zk⟩ := z
        simp only at d5 HR
        clear d0 d1 d2 d3 d4 hz hzl hzz hrz hkz hq HN HS HRA he
        cases g1 : decide ((nf : Int) = 0)
        case false =>
          have hbn : bn = false := by rw [HND.out, g1]; rfl
          subst hbn
          rw [g1] at e4
          have hpf : 0 < (nf : Int) := by have := of_decide_eq_false g1; omega
          have hpf2 : 0 < nf := by omega
          clear HND g1 e5
          by_cases hv1 : v = 1
          · subst hv1
            clear HQ2 HOF HSM HRO HEQ HTD
            by_cases h2 : 2 < zk
            · have h2n : ¬ zk ≤ 2 := by omega
              obtain rfl : R = false := by rw [HR.out]; simp [h2]
              clear HR
              go_wp2_with fail
              go_ret
              exact ⟨rfl, Below.junk (by repeat (first | (with_reducible exact Below.refl _ _) | (with_reducible refine Below.allocS ?_ _) | (with_reducible refine Below.moreS ?_ _) | (with_reducible refine Below.drew ?_) | (with_reducible refine below_drewN ?_ _)))⟩
            have h2n : zk ≤ 2 := by omega
            by_cases ht : t = (q : Int) + 1
            rotate_left
            · have e9 : (t == (q : Int) + 1) = false := by simpa using ht
              obtain rfl : R = false := by rw [HR.out]; simp [ht]
              clear HR
              go_wp2_with fail
              go_ret
              exact ⟨rfl, Below.junk (by repeat (first | (with_reducible exact Below.refl _ _) | (with_reducible refine Below.allocS ?_ _) | (with_reducible refine Below.moreS ?_ _) | (with_reducible refine Below.drew ?_) | (with_reducible refine below_drewN ?_ _)))⟩
            have e9 : (t == (q : Int) + 1) = true := by simpa using ht
            have HRX : Hid (R = (false && (decide (0 ≤ f0) && decide (0 ≤ f1)))) := by show _ = _; rw [HR.out]; simp [ht, h2n]
            clear HR h2
            have HR := HRX
            clear HRX
            obtain rfl : R = false := by rw [HR.out]; simp
            clear HR
            go_wp2_with fail
            go_ret
            exact ⟨rfl, Below.junk (by repeat (first | (with_reducible exact Below.refl _ _) | (with_reducible refine Below.allocS ?_ _) | (with_reducible refine Below.moreS ?_ _) | (with_reducible refine Below.drew ?_) | (with_reducible refine below_drewN ?_ _)))⟩
          have e6 : (v == 1) = false := by simpa using hv1
          by_cases hv3 : v = 3
          · subst hv3
            clear hv1
            by_cases hk : zk = 3
            rotate_left
            · have e9 : (zk != 3) = true := by simpa using hk
              obtain rfl : R = false := by rw [HR.out]; simp [hk]
              clear HR
              go_wp2_with fail
              refine wp_region_more (by kernel_rfl) (by kernel_rfl) ?_
              repeat (go_big_quiet_step (first | fail))
              refine wpQuiet_nil ?_
              intro w' hw'
              obtain ⟨j, rfl⟩ := hw'
              go_wp2_with fail
              go_ret
              exact ⟨rfl, Below.junk (by repeat (first | (with_reducible exact Below.refl _ _) | (with_reducible refine Below.allocS ?_ _) | (with_reducible refine Below.moreS ?_ _) | (with_reducible refine Below.drew ?_) | (with_reducible refine below_drewN ?_ _)))⟩
            subst hk
            by_cases ht : t = (q : Int)
            rotate_left
            · have e9 : (t != (q : Int)) = true := by simpa using ht
              obtain rfl : R = false := by rw [HR.out]; simp [ht]
              clear HR
              go_wp2_with fail
              refine wp_region_more (by kernel_rfl) (by kernel_rfl) ?_
              repeat (go_big_quiet_step (first | fail))
              refine wpQuiet_nil ?_
              intro w' hw'
              obtain ⟨j, rfl⟩ := hw'
              go_wp2_with fail
              go_ret
              exact ⟨rfl, Below.junk (by repeat (first | (with_reducible exact Below.refl _ _) | (with_reducible refine Below.allocS ?_ _) | (with_reducible refine Below.moreS ?_ _) | (with_reducible refine Below.drew ?_) | (with_reducible refine below_drewN ?_ _)))⟩
            have e9 : (t != (q : Int)) = false := by simpa using ht
            cases b2
            case false =>
              try simp only [Bool.not_false] at HQ2
              obtain rfl : R = false := by rw [HR.out]; simp
              clear HR
              go_wp2_with fail
              refine wp_region_more (by kernel_rfl) (by kernel_rfl) ?_
              repeat (go_big_quiet_step (first | fail))
              refine wpQuiet_nil ?_
              intro w' hw'
              obtain ⟨j, rfl⟩ := hw'
              go_wp2_with fail
              go_ret
              exact ⟨rfl, Below.junk (by repeat (first | (with_reducible exact Below.refl _ _) | (with_reducible refine Below.allocS ?_ _) | (with_reducible refine Below.moreS ?_ _) | (with_reducible refine Below.drew ?_) | (with_reducible refine below_drewN ?_ _)))⟩
            try simp only [Bool.not_true] at HQ2
            have HR2 : Hid (R = bt) := by show _ = _; rw [HR.out]; simp [ht]
            clear HR
            by_cases hu0 : nu = 0
            · subst hu0
              obtain rfl : R = false := by rw [HR2.out, HTD.out]; simp
              clear HR2 HTD HOF HSM HRO HEQ
              go_wp2_with fail
              refine wp_region_more (by kernel_rfl) (by kernel_rfl) ?_
              repeat (go_big_quiet_step (first | fail))
              refine wpQuiet_nil ?_
              intro w' hw'
              obtain ⟨j, rfl⟩ := hw'
              go_wp2_with fail
              refine wp_region_more (by kernel_rfl) (by kernel_rfl) ?_
              repeat (go_big_quiet_step (first | fail))
              refine wpQuiet_nil ?_
              intro w' hw'
              obtain ⟨j, rfl⟩ := hw'
              go_wp2_with fail
              go_ret
              exact ⟨rfl, Below.junk (by repeat (first | (with_reducible exact Below.refl _ _) | (with_reducible refine Below.allocS ?_ _) | (with_reducible refine Below.moreS ?_ _) | (with_reducible refine Below.drew ?_) | (with_reducible refine below_drewN ?_ _)))⟩
            have hpu : 0 < (nu : Int) := by omega
            have hpu2 : 0 < nu := by omega
            obtain rfl : R = (bF && bR) := by rw [HR2.out, HTD.out, decide_eq_true hpf, decide_eq_true hpu]; rfl
            clear HR2 HTD hu0
            go_wp2_with fail
            refine wp_region_more (by kernel_rfl) (by kernel_rfl) ?_
            repeat (go_big_quiet_step (first | fail))
            refine wpQuiet_nil ?_
            intro wb hwb
            have c7 : wb.cell? ⟨w.heap.size, 7, none⟩ = some (.int .i64 3) := by obtain ⟨j, rfl⟩ := hwb; go_simp
            have c9 : wb.cell? ⟨w.heap.size, 9, none⟩ = some (.slice fa nf fc) := by obtain ⟨j, rfl⟩ := hwb; go_simp
            have c10 : wb.cell? ⟨w.heap.size, 10, none⟩ = some (.slice ua nu uc) := by obtain ⟨j, rfl⟩ := hwb; go_simp
            have hgb : w.heap.size < wb.heap.size := by obtain ⟨j, rfl⟩ := hwb; simp; omega
            have HBW : Hid (Below w.heap.size w wb) := by show Below _ _ _; obtain ⟨j, rfl⟩ := hwb; exact (by repeat (first | (with_reducible exact Below.refl _ _) | (with_reducible refine Below.allocS ?_ _) | (with_reducible refine Below.moreS ?_ _) | (with_reducible refine Below.drew ?_) | (with_reducible refine below_drewN ?_ _)))
            clear hwb
            go_wp2_with fail
            obtain ⟨g0, hg0⟩ : ∃ g0, g0 = w.heap.size := ⟨_, rfl⟩
            rw [← hg0] at c7 c9 c10 hgb ⊢
            clear hg0
            refine gb_start wb.heap.size (by kernel_rfl) ?_
            refine gb_take 0 (v := ?_) rfl (by kernel_rfl) (by kernel_rfl) (by kernel_rfl) (fun _ _ _ h => h) (Or.inl ⟨by first | kernel_rfl | rfl, ?_⟩) ?_
            rotate_left
            · intro wS hSw; have hSc := hSw.cell; clear hSw; go_simp; try with_reducible rfl
            try simp only [Act.put, List.getElem_toArray, List.getElem_cons_succ, List.getElem_cons_zero, List.setIfInBounds_toArray, List.set_cons_zero, List.set_cons_succ]
            refine gb_take 1 (v := ?_) rfl (by kernel_rfl) (by kernel_rfl) (by kernel_rfl) (fun _ _ _ h => h) (Or.inl ⟨by first | kernel_rfl | rfl, ?_⟩) ?_
            rotate_left
            · intro wS hSw; have hSc := hSw.cell; clear hSw; go_simp; try with_reducible rfl
            try simp only [Act.put, List.getElem_toArray, List.getElem_cons_succ, List.getElem_cons_zero, List.setIfInBounds_toArray, List.set_cons_zero, List.set_cons_succ]
            refine gb_take 2 (v := ?_) rfl (by kernel_rfl) (by kernel_rfl) (by kernel_rfl) (fun _ _ _ h => h) (Or.inl ⟨by first | kernel_rfl | rfl, ?_⟩) ?_
            rotate_left
            · intro wS hSw; have hSc := hSw.cell; clear hSw; go_simp; try with_reducible rfl
            try simp only [Act.put, List.getElem_toArray, List.getElem_cons_succ, List.getElem_cons_zero, List.setIfInBounds_toArray, List.set_cons_zero, List.set_cons_succ]
            refine gb_take 3 (v := ?_) rfl (by kernel_rfl) (by kernel_rfl) (by kernel_rfl) (fun _ _ _ h => h) (Or.inl ⟨by first | kernel_rfl | rfl, ?_⟩) ?_
            rotate_left
            · intro wS hSw; have hSc := hSw.cell; clear hSw; go_simp; try with_reducible rfl
            try simp only [Act.put, List.getElem_toArray, List.getElem_cons_succ, List.getElem_cons_zero, List.setIfInBounds_toArray, List.set_cons_zero, List.set_cons_succ]
            refine gb_take 4 (v := ?_) rfl (by kernel_rfl) (by kernel_rfl) (by kernel_rfl) (fun _ _ _ h => h) (Or.inl ⟨by first | kernel_rfl | rfl, ?_⟩) ?_
            rotate_left
            · intro wS hSw; have hSc := hSw.cell; clear hSw; go_simp; try with_reducible rfl
            try simp only [Act.put, List.getElem_toArray, List.getElem_cons_succ, List.getElem_cons_zero, List.setIfInBounds_toArray, List.set_cons_zero, List.set_cons_succ]
            refine gb_take 5 (v := ?_) rfl (by kernel_rfl) (by kernel_rfl) (by kernel_rfl) (fun _ _ _ h => h) (Or.inl ⟨by first | kernel_rfl | rfl, ?_⟩) ?_
            rotate_left
            · intro wS hSw; have hSc := hSw.cell; clear hSw; go_simp; try with_reducible rfl
            try simp only [Act.put, List.getElem_toArray, List.getElem_cons_succ, List.getElem_cons_zero, List.setIfInBounds_toArray, List.set_cons_zero, List.set_cons_succ]
            refine gb_take 6 (v := ?_) rfl (by kernel_rfl) (by kernel_rfl) (by kernel_rfl) (fun _ _ _ h => h) (Or.inl ⟨by first | kernel_rfl | rfl, ?_⟩) ?_
            rotate_left
            · intro wS hSw; have hSc := hSw.cell; clear hSw; go_simp; try with_reducible rfl
            try simp only [Act.put, List.getElem_toArray, List.getElem_cons_succ, List.getElem_cons_zero, List.setIfInBounds_toArray, List.set_cons_zero, List.set_cons_succ]
            refine gb_take 7 (v := ?_) rfl (by kernel_rfl) (by kernel_rfl) (by kernel_rfl) (fun _ _ _ h => h) (Or.inl ⟨by first | kernel_rfl | rfl, ?_⟩) ?_
            rotate_left
            · intro wS hSw; have hSc := hSw.cell; clear hSw; go_simp; try with_reducible rfl
            try simp only [Act.put, List.getElem_toArray, List.getElem_cons_succ, List.getElem_cons_zero, List.setIfInBounds_toArray, List.set_cons_zero, List.set_cons_succ]
            refine gb_take 8 (v := ?_) rfl (by kernel_rfl) (by kernel_rfl) (by kernel_rfl) (fun _ _ _ h => h) (Or.inl ⟨by first | kernel_rfl | rfl, ?_⟩) ?_
            rotate_left
            · intro wS hSw; have hSc := hSw.cell; clear hSw; go_simp; try with_reducible rfl
            try simp only [Act.put, List.getElem_toArray, List.getElem_cons_succ, List.getElem_cons_zero, List.setIfInBounds_toArray, List.set_cons_zero, List.set_cons_succ]
            refine gb_take 9 (v := ?_) rfl (by kernel_rfl) (by kernel_rfl) (by kernel_rfl) (fun _ _ _ h => h) (Or.inl ⟨by first | kernel_rfl | rfl, ?_⟩) ?_
            rotate_left
            · intro wS hSw; have hSc := hSw.cell; clear hSw; go_simp; try with_reducible rfl
            try simp only [Act.put, List.getElem_toArray, List.getElem_cons_succ, List.getElem_cons_zero, List.setIfInBounds_toArray, List.set_cons_zero, List.set_cons_succ]
            refine gb_take 10 (v := ?_) rfl (by kernel_rfl) (by kernel_rfl) (by kernel_rfl) (fun _ _ _ h => h) (Or.inl ⟨by first | kernel_rfl | rfl, ?_⟩) ?_
            rotate_left
            · intro wS hSw; have hSc := hSw.cell; clear hSw; go_simp; try with_reducible rfl
            try simp only [Act.put, List.getElem_toArray, List.getElem_cons_succ, List.getElem_cons_zero, List.setIfInBounds_toArray, List.set_cons_zero, List.set_cons_succ]
            refine gb_take 11 (v := ?_) rfl (by kernel_rfl) (by kernel_rfl) (by kernel_rfl) (fun _ _ _ h => h) (Or.inl ⟨by first | kernel_rfl | rfl, ?_⟩) ?_
            rotate_left
            · intro wS hSw; have hSc := hSw.cell; clear hSw; go_simp; try with_reducible rfl
            try simp only [Act.put, List.getElem_toArray, List.getElem_cons_succ, List.getElem_cons_zero, List.setIfInBounds_toArray, List.set_cons_zero, List.set_cons_succ]
            refine gb_take 12 (v := ?_) rfl (by kernel_rfl) (by kernel_rfl) (by kernel_rfl) (fun _ _ _ h => h) (Or.inl ⟨by first | kernel_rfl | rfl, ?_⟩) ?_
            rotate_left
            · intro wS hSw; have hSc := hSw.cell; clear hSw; go_simp; try with_reducible rfl
            try simp only [Act.put, List.getElem_toArray, List.getElem_cons_succ, List.getElem_cons_zero, List.setIfInBounds_toArray, List.set_cons_zero, List.set_cons_succ]
            refine gb_take 13 (v := ?_) rfl (by kernel_rfl) (by kernel_rfl) (by kernel_rfl) (fun _ _ _ h => h) (Or.inl ⟨by first | kernel_rfl | rfl, ?_⟩) ?_
            rotate_left
            · intro wS hSw; have hSc := hSw.cell; clear hSw; go_simp; try with_reducible rfl
            try simp only [Act.put, List.getElem_toArray, List.getElem_cons_succ, List.getElem_cons_zero, List.setIfInBounds_toArray, List.set_cons_zero, List.set_cons_succ]
            refine gb_take 14 (v := ?_) rfl (by kernel_rfl) (by kernel_rfl) (by kernel_rfl) (fun _ _ _ h => h) (Or.inl ⟨by first | kernel_rfl | rfl, ?_⟩) ?_
            rotate_left
            · intro wS hSw; have hSc := hSw.cell; clear hSw; go_simp; try with_reducible rfl
            try simp only [Act.put, List.getElem_toArray, List.getElem_cons_succ, List.getElem_cons_zero, List.setIfInBounds_toArray, List.set_cons_zero, List.set_cons_succ]
            refine gb_step 15 (by kernel_rfl) rfl (fun K hK => ?_)
            go_simp
            go_wp2_with fail
            refine (HOF.out _ (by repeat (first | exact HBW.out | (with_reducible refine Below.allocS ?_ _) | (with_reducible refine Below.moreS ?_ _) | (with_reducible refine Below.drew ?_)))).mono ?_
            rintro e w1 ⟨a1, cap1, rfl, -, hs1, hb1⟩
            have HB1 : Hid (Below wb.heap.size wb w1) := Below.trans (by repeat (first | (with_reducible exact Below.refl _ _) | (with_reducible refine Below.allocS ?_ _) | (with_reducible refine Below.moreS ?_ _) | (with_reducible refine Below.drew ?_) | (with_reducible refine below_drewN ?_ _))) hb1
            have HS1 := Lib.hid hs1
            go_wp2_with fail
            refine hK.out _ _ (show Below _ _ _ from (hb1)) ?_
            clear hK K
            try simp only [Act.put, List.getElem_toArray, List.getElem_cons_succ, List.getElem_cons_zero, List.setIfInBounds_toArray, List.set_cons_zero, List.set_cons_succ]
            clear hb1 hs1
            have HW1 : Hid (Below w.heap.size w w1) := HBW.out.trans (HB1.out.mono HBW.out.size)
            have e10 : w1.cell? ⟨g0, 10, none⟩ = some (.slice ua nu uc) := (HB1.out.cell (p := ⟨g0, 10, none⟩) hgb).trans c10
            have hg1 : g0 < w1.heap.size := Nat.lt_of_lt_of_le hgb HB1.out.size
            refine gb_step 16 (by kernel_rfl) rfl (fun K hK => ?_)
            go_simp
            go_wp2_with fail
            refine (HSM.out _ a1 cap1 (by repeat (first | exact HW1.out | (with_reducible refine Below.allocS ?_ _) | (with_reducible refine Below.moreS ?_ _) | (with_reducible refine Below.drew ?_))) (SlFl.keep HS1.out (by repeat (first | (with_reducible exact Below.refl _ _) | (with_reducible refine Below.allocS ?_ _) | (with_reducible refine Below.moreS ?_ _) | (with_reducible refine Below.drew ?_) | (with_reducible refine below_drewN ?_ _))))).mono ?_
            rintro e w' ⟨rfl, j1, rfl⟩
            go_wp2_with fail
            refine hK.out _ _ (show Below _ _ _ from (by first | exact Below.refl _ _ | (refine Below.mono (B := w1.heap.size) ?_ (by exact HB1.out.size); (repeat (first | (with_reducible exact Below.refl _ _) | (with_reducible exact grown_merge _ _ _ _) | (with_reducible exact grown_merge2 _ _ _ _ _ _) | (with_reducible exact grown_merge3 _ _ _ _ _ _ _) | (with_reducible refine Below.allocS ?_ _) | (with_reducible refine Below.moreS ?_ _) | (with_reducible refine Below.drew ?_))); done) | (refine gb_undrew (Below.mono (B := w1.heap.size) ?_ (by exact HB1.out.size)); (repeat (first | (with_reducible exact Below.refl _ _) | (with_reducible exact grown_merge _ _ _ _) | (with_reducible exact grown_merge2 _ _ _ _ _ _) | (with_reducible exact grown_merge3 _ _ _ _ _ _ _) | (with_reducible refine Below.allocS ?_ _) | (with_reducible refine Below.moreS ?_ _) | (with_reducible refine Below.drew ?_))); done))) ?_
            clear hK K
            try simp only [Act.put, List.getElem_toArray, List.getElem_cons_succ, List.getElem_cons_zero, List.setIfInBounds_toArray, List.set_cons_zero, List.set_cons_succ]
            cases bF
            case false =>
              refine gb_take 17 (v := ?_) rfl (by kernel_rfl) (by kernel_rfl) (by kernel_rfl) (fun _ _ _ h => h) (Or.inl ⟨by first | kernel_rfl | rfl, ?_⟩) ?_
              rotate_left
              · intro wS hSw; have hSc := hSw.cell; clear hSw; go_simp; try with_reducible rfl
              try simp only [Act.put, List.getElem_toArray, List.getElem_cons_succ, List.getElem_cons_zero, List.setIfInBounds_toArray, List.set_cons_zero, List.set_cons_succ]
              refine gb_take 18 (v := ?_) rfl (by kernel_rfl) (by kernel_rfl) (by kernel_rfl) (fun _ _ _ h => h) (Or.inl ⟨by first | kernel_rfl | rfl, ?_⟩) ?_
              rotate_left
              · intro wS hSw; have hSc := hSw.cell; clear hSw; go_simp; try with_reducible rfl
              try simp only [Act.put, List.getElem_toArray, List.getElem_cons_succ, List.getElem_cons_zero, List.setIfInBounds_toArray, List.set_cons_zero, List.set_cons_succ]
              refine gb_take 19 (v := undef) rfl (by kernel_rfl) (by kernel_rfl) (by kernel_rfl) (fun _ _ _ h => h) (Or.inr ⟨by kernel_rfl, rfl⟩) ?_
              try simp only [Act.put, List.getElem_toArray, List.getElem_cons_succ, List.getElem_cons_zero, List.setIfInBounds_toArray, List.set_cons_zero, List.set_cons_succ]
              refine gb_take 20 (v := undef) rfl (by kernel_rfl) (by kernel_rfl) (by kernel_rfl) (fun _ _ _ h => h) (Or.inr ⟨by kernel_rfl, rfl⟩) ?_
              try simp only [Act.put, List.getElem_toArray, List.getElem_cons_succ, List.getElem_cons_zero, List.setIfInBounds_toArray, List.set_cons_zero, List.set_cons_succ]
              refine gb_take 21 (v := undef) rfl (by kernel_rfl) (by kernel_rfl) (by kernel_rfl) (fun _ _ _ h => h) (Or.inr ⟨by kernel_rfl, rfl⟩) ?_
              try simp only [Act.put, List.getElem_toArray, List.getElem_cons_succ, List.getElem_cons_zero, List.setIfInBounds_toArray, List.set_cons_zero, List.set_cons_succ]
              refine gb_take 22 (v := undef) rfl (by kernel_rfl) (by kernel_rfl) (by kernel_rfl) (fun _ _ _ h => h) (Or.inr ⟨by kernel_rfl, rfl⟩) ?_
              try simp only [Act.put, List.getElem_toArray, List.getElem_cons_succ, List.getElem_cons_zero, List.setIfInBounds_toArray, List.set_cons_zero, List.set_cons_succ]
              refine gb_take 23 (v := undef) rfl (by kernel_rfl) (by kernel_rfl) (by kernel_rfl) (fun _ _ _ h => h) (Or.inr ⟨by kernel_rfl, rfl⟩) ?_
              try simp only [Act.put, List.getElem_toArray, List.getElem_cons_succ, List.getElem_cons_zero, List.setIfInBounds_toArray, List.set_cons_zero, List.set_cons_succ]
              refine gb_take 24 (v := undef) rfl (by kernel_rfl) (by kernel_rfl) (by kernel_rfl) (fun _ _ _ h => h) (Or.inr ⟨by kernel_rfl, rfl⟩) ?_
              try simp only [Act.put, List.getElem_toArray, List.getElem_cons_succ, List.getElem_cons_zero, List.setIfInBounds_toArray, List.set_cons_zero, List.set_cons_succ]
              refine gb_take 25 (v := ?_) rfl (by kernel_rfl) (by kernel_rfl) (by kernel_rfl) (fun _ _ _ h => h) (Or.inl ⟨by first | kernel_rfl | rfl, ?_⟩) ?_
              rotate_left
              · intro wS hSw; have hSc := hSw.cell; clear hSw; go_simp; try with_reducible rfl
              try simp only [Act.put, List.getElem_toArray, List.getElem_cons_succ, List.getElem_cons_zero, List.setIfInBounds_toArray, List.set_cons_zero, List.set_cons_succ]
              refine gb_take 26 (v := ?_) rfl (by kernel_rfl) (by kernel_rfl) (by kernel_rfl) (fun _ _ _ h => h) (Or.inl ⟨by first | kernel_rfl | rfl, ?_⟩) ?_
              rotate_left
              · intro wS hSw; have hSc := hSw.cell; clear hSw; go_simp; try with_reducible rfl
              try simp only [Act.put, List.getElem_toArray, List.getElem_cons_succ, List.getElem_cons_zero, List.setIfInBounds_toArray, List.set_cons_zero, List.set_cons_succ]
              refine wpAnyH_done (by kernel_rfl) ?_ _
              go_wp2_with fail
              go_ret
              exact ⟨rfl, Below.junk (by repeat (first | exact HW1.out | (with_reducible refine Below.allocS ?_ _) | (with_reducible refine Below.moreS ?_ _) | (with_reducible refine Below.drew ?_)))⟩
            case true =>
              refine gb_take 17 (v := ?_) rfl (by kernel_rfl) (by kernel_rfl) (by kernel_rfl) (fun _ _ _ h => h) (Or.inl ⟨by first | kernel_rfl | rfl, ?_⟩) ?_
              rotate_left
              · intro wS hSw; have hSc := hSw.cell; clear hSw; go_simp; try with_reducible rfl
              try simp only [Act.put, List.getElem_toArray, List.getElem_cons_succ, List.getElem_cons_zero, List.setIfInBounds_toArray, List.set_cons_zero, List.set_cons_succ]
              refine gb_take 18 (v := ?_) rfl (by kernel_rfl) (by kernel_rfl) (by kernel_rfl) (fun _ _ _ h => h) (Or.inl ⟨by first | kernel_rfl | rfl, ?_⟩) ?_
              rotate_left
              · intro wS hSw; have hSc := hSw.cell; clear hSw; go_simp; try with_reducible rfl
              try simp only [Act.put, List.getElem_toArray, List.getElem_cons_succ, List.getElem_cons_zero, List.setIfInBounds_toArray, List.set_cons_zero, List.set_cons_succ]
              refine gb_take 19 (v := ?_) rfl (by kernel_rfl) (by kernel_rfl) (by kernel_rfl) (fun _ _ _ h => h) (Or.inl ⟨by first | kernel_rfl | rfl, ?_⟩) ?_
              rotate_left
              · intro wS hSw; have hSc := hSw.cell; clear hSw; go_simp; try with_reducible rfl
              try simp only [Act.put, List.getElem_toArray, List.getElem_cons_succ, List.getElem_cons_zero, List.setIfInBounds_toArray, List.set_cons_zero, List.set_cons_succ]
              refine gb_take 20 (v := ?_) rfl (by kernel_rfl) (by kernel_rfl) (by kernel_rfl) (fun _ _ _ h => h) (Or.inl ⟨by first | kernel_rfl | rfl, ?_⟩) ?_
              rotate_left
              · intro wS hSw; have hSc := hSw.cell; clear hSw; go_simp; try with_reducible rfl
              try simp only [Act.put, List.getElem_toArray, List.getElem_cons_succ, List.getElem_cons_zero, List.setIfInBounds_toArray, List.set_cons_zero, List.set_cons_succ]
              refine gb_take 21 (v := ?_) rfl (by kernel_rfl) (by kernel_rfl) (by kernel_rfl) (fun _ _ _ h => h) (Or.inl ⟨by first | kernel_rfl | rfl, ?_⟩) ?_
              rotate_left
              · intro wS hSw; have hSc := hSw.cell; clear hSw; go_simp; try with_reducible rfl
              try simp only [Act.put, List.getElem_toArray, List.getElem_cons_succ, List.getElem_cons_zero, List.setIfInBounds_toArray, List.set_cons_zero, List.set_cons_succ]
              refine gb_take 22 (v := ?_) rfl (by kernel_rfl) (by kernel_rfl) (by kernel_rfl) (fun _ _ _ h => h) (Or.inl ⟨by first | kernel_rfl | rfl, ?_⟩) ?_
              rotate_left
              · intro wS hSw; have hSc := hSw.cell; clear hSw; go_simp; try with_reducible rfl
              try simp only [Act.put, List.getElem_toArray, List.getElem_cons_succ, List.getElem_cons_zero, List.setIfInBounds_toArray, List.set_cons_zero, List.set_cons_succ]
              refine gb_step 23 (by kernel_rfl) rfl (fun K hK => ?_)
              go_simp
              go_wp2_with fail
              refine (HRO.out _ (by repeat (first | exact HW1.out | (with_reducible refine Below.allocS ?_ _) | (with_reducible refine Below.moreS ?_ _) | (with_reducible refine Below.drew ?_)))).mono ?_
              rintro e w2 ⟨v2, rfl, ho2, hb2⟩
              obtain ⟨a2, cap2, rfl, hs2⟩ := ho2.readI
              have HB2 : Hid (Below w1.heap.size w1 w2) := Below.trans (by repeat (first | (with_reducible exact Below.refl _ _) | (with_reducible refine Below.allocS ?_ _) | (with_reducible refine Below.moreS ?_ _) | (with_reducible refine Below.drew ?_) | (with_reducible refine below_drewN ?_ _))) (hb2.mono (by simp))
              have HS2 := Lib.hid hs2
              go_wp2_with fail
              refine hK.out _ _ (show Below _ _ _ from (hb2.mono (by have := HB1.out.size; simp only [World.size_more]; omega))) ?_
              clear hK K
              try simp only [Act.put, List.getElem_toArray, List.getElem_cons_succ, List.getElem_cons_zero, List.setIfInBounds_toArray, List.set_cons_zero, List.set_cons_succ]
              clear hb2 hs2 ho2
              have HW2 : Hid (Below w.heap.size w w2) := HW1.out.trans (HB2.out.mono HW1.out.size)
              refine gb_step 24 (by kernel_rfl) rfl (fun K hK => ?_)
              go_simp
              go_wp2_with fail
              refine (HEQ.out _ a2 cap2 (by repeat (first | exact HW2.out | (with_reducible refine Below.allocS ?_ _) | (with_reducible refine Below.moreS ?_ _) | (with_reducible refine Below.drew ?_))) ((HS2.out.below (C := w2.heap.size) (by repeat (first | (with_reducible exact Below.refl _ _) | (with_reducible refine Below.allocS ?_ _) | (with_reducible refine Below.moreS ?_ _) | (with_reducible refine Below.drew ?_) | (with_reducible refine below_drewN ?_ _))) (Nat.le_refl _)).mono (by simp) (fun _ _ _ h => h))).mono ?_
              rintro e w' ⟨rfl, j2, rfl⟩
              go_wp2_with fail
              refine hK.out _ _ (show Below _ _ _ from (by first | exact Below.refl _ _ | (refine Below.mono (B := w2.heap.size) ?_ (by have := HB1.out.size; have := HB2.out.size; omega); (repeat (first | (with_reducible exact Below.refl _ _) | (with_reducible exact grown_merge _ _ _ _) | (with_reducible exact grown_merge2 _ _ _ _ _ _) | (with_reducible exact grown_merge3 _ _ _ _ _ _ _) | (with_reducible refine Below.allocS ?_ _) | (with_reducible refine Below.moreS ?_ _) | (with_reducible refine Below.drew ?_))); done) | (refine gb_undrew (Below.mono (B := w2.heap.size) ?_ (by have := HB1.out.size; have := HB2.out.size; omega)); (repeat (first | (with_reducible exact Below.refl _ _) | (with_reducible exact grown_merge _ _ _ _) | (with_reducible exact grown_merge2 _ _ _ _ _ _) | (with_reducible exact grown_merge3 _ _ _ _ _ _ _) | (with_reducible refine Below.allocS ?_ _) | (with_reducible refine Below.moreS ?_ _) | (with_reducible refine Below.drew ?_))); done))) ?_
              clear hK K
              try simp only [Act.put, List.getElem_toArray, List.getElem_cons_succ, List.getElem_cons_zero, List.setIfInBounds_toArray, List.set_cons_zero, List.set_cons_succ]
              refine gb_take 25 (v := ?_) rfl (by kernel_rfl) (by kernel_rfl) (by kernel_rfl) (fun _ _ _ h => h) (Or.inl ⟨by first | kernel_rfl | rfl, ?_⟩) ?_
              rotate_left
              · intro wS hSw; have hSc := hSw.cell; clear hSw; go_simp; try with_reducible rfl
              try simp only [Act.put, List.getElem_toArray, List.getElem_cons_succ, List.getElem_cons_zero, List.setIfInBounds_toArray, List.set_cons_zero, List.set_cons_succ]
              refine gb_take 26 (v := ?_) rfl (by kernel_rfl) (by kernel_rfl) (by kernel_rfl) (fun _ _ _ h => h) (Or.inl ⟨by first | kernel_rfl | rfl, ?_⟩) ?_
              rotate_left
              · intro wS hSw; have hSc := hSw.cell; clear hSw; go_simp; try with_reducible rfl
              try simp only [Act.put, List.getElem_toArray, List.getElem_cons_succ, List.getElem_cons_zero, List.setIfInBounds_toArray, List.set_cons_zero, List.set_cons_succ]
              refine wpAnyH_done (by kernel_rfl) ?_ _
              go_wp2_with fail
              go_ret
              exact ⟨rfl, Below.junk (by repeat (first | exact HW2.out | (with_reducible refine Below.allocS ?_ _) | (with_reducible refine Below.moreS ?_ _) | (with_reducible refine Below.drew ?_)))⟩

          clear HOF HSM HRO HEQ HTD
          by_cases hv4 : v = 4
          · subst hv4
            clear hv1 hv3
            by_cases hk : zk = 4
            rotate_left
            · have e9 : (zk != 4) = true := by simpa using hk
              obtain rfl : R = false := by rw [HR.out]; simp [hk]
              clear HR
              go_wp2_with fail
              refine wp_region_more (by kernel_rfl) (by kernel_rfl) ?_
              repeat (go_big_quiet_step (first | fail))
              refine wpQuiet_nil ?_
              intro w' hw'
              obtain ⟨j, rfl⟩ := hw'
              go_wp2_with fail
              go_ret
              exact ⟨rfl, Below.junk (by repeat (first | (with_reducible exact Below.refl _ _) | (with_reducible refine Below.allocS ?_ _) | (with_reducible refine Below.moreS ?_ _) | (with_reducible refine Below.drew ?_) | (with_reducible refine below_drewN ?_ _)))⟩
            subst hk
            by_cases ht : t = (q : Int)
            rotate_left
            · have e9 : (t != (q : Int)) = true := by simpa using ht
              obtain rfl : R = false := by rw [HR.out]; simp [ht]
              clear HR
              go_wp2_with fail
              refine wp_region_more (by kernel_rfl) (by kernel_rfl) ?_
              repeat (go_big_quiet_step (first | fail))
              refine wpQuiet_nil ?_
              intro w' hw'
              obtain ⟨j, rfl⟩ := hw'
              go_wp2_with fail
              go_ret
              exact ⟨rfl, Below.junk (by repeat (first | (with_reducible exact Below.refl _ _) | (with_reducible refine Below.allocS ?_ _) | (with_reducible refine Below.moreS ?_ _) | (with_reducible refine Below.drew ?_) | (with_reducible refine below_drewN ?_ _)))⟩
            have e9 : (t != (q : Int)) = false := by simpa using ht
            cases b2
            case false =>
              try simp only [Bool.not_false] at HQ2
              obtain rfl : R = false := by rw [HR.out]; simp
              clear HR
              go_wp2_with fail
              refine wp_region_more (by kernel_rfl) (by kernel_rfl) ?_
              repeat (go_big_quiet_step (first | fail))
              refine wpQuiet_nil ?_
              intro w' hw'
              obtain ⟨j, rfl⟩ := hw'
              go_wp2_with fail
              go_ret
              exact ⟨rfl, Below.junk (by repeat (first | (with_reducible exact Below.refl _ _) | (with_reducible refine Below.allocS ?_ _) | (with_reducible refine Below.moreS ?_ _) | (with_reducible refine Below.drew ?_) | (with_reducible refine below_drewN ?_ _)))⟩
            try simp only [Bool.not_true] at HQ2
            obtain rfl : R = false := by rw [HR.out]; simp [ht]
            clear HR
            go_wp2_with fail
            refine wp_region_more (by kernel_rfl) (by kernel_rfl) ?_
            repeat (go_big_quiet_step (first | fail))
            refine wpQuiet_nil ?_
            intro w' hw'
            obtain ⟨j, rfl⟩ := hw'
            go_wp2_with fail
            go_ret
            exact ⟨rfl, Below.junk (by repeat (first | (with_reducible exact Below.refl _ _) | (with_reducible refine Below.allocS ?_ _) | (with_reducible refine Below.moreS ?_ _) | (with_reducible refine Below.drew ?_) | (with_reducible refine below_drewN ?_ _)))⟩
          have e7 : (v != 3) = true := by simpa using hv3
          have e8 : (v != 4) = true := by simpa using hv4
          obtain rfl : R = false := by rw [HR.out]; rw [if_neg hv1, if_neg (by omega)]
          clear HR
          go_wp2_with fail
          refine wp_region_more (by kernel_rfl) (by kernel_rfl) ?_
          repeat (go_big_quiet_step (first | fail))
          refine wpQuiet_nil ?_
          intro w' hw'
          obtain ⟨j, rfl⟩ := hw'
          go_wp2_with fail
          go_ret
          exact ⟨rfl, Below.junk (by repeat (first | (with_reducible exact Below.refl _ _) | (with_reducible refine Below.allocS ?_ _) | (with_reducible refine Below.moreS ?_ _) | (with_reducible refine Below.drew ?_) | (with_reducible refine below_drewN ?_ _)))⟩
        cases g2 : decide ((nu : Int) = 0)
        case false =>
          have hbn : bn = false := by rw [HND.out, g1, g2]; rfl
          subst hbn
          rw [g2] at e5
          obtain rfl : nf = 0 := by have := of_decide_eq_true g1; omega
          clear HND g1 g2 e4
          by_cases hv1 : v = 1
          · subst hv1
            clear HQ2 HOF HSM HRO HEQ HTD
            by_cases h2 : 2 < zk
            · have h2n : ¬ zk ≤ 2 := by omega
              obtain rfl : R = false := by rw [HR.out]; simp [h2]
              clear HR
              go_wp2_with fail
              go_ret
              exact ⟨rfl, Below.junk (by repeat (first | (with_reducible exact Below.refl _ _) | (with_reducible refine Below.allocS ?_ _) | (with_reducible refine Below.moreS ?_ _) | (with_reducible refine Below.drew ?_) | (with_reducible refine below_drewN ?_ _)))⟩
            have h2n : zk ≤ 2 := by omega
            by_cases ht : t = (q : Int) + 1
            rotate_left
            · have e9 : (t == (q : Int) + 1) = false := by simpa using ht
              obtain rfl : R = false := by rw [HR.out]; simp [ht]
              clear HR
              go_wp2_with fail
              go_ret
              exact ⟨rfl, Below.junk (by repeat (first | (with_reducible exact Below.refl _ _) | (with_reducible refine Below.allocS ?_ _) | (with_reducible refine Below.moreS ?_ _) | (with_reducible refine Below.drew ?_) | (with_reducible refine below_drewN ?_ _)))⟩
            have e9 : (t == (q : Int) + 1) = true := by simpa using ht
            have HRX : Hid (R = (false && (decide (0 ≤ f0) && decide (0 ≤ f1)))) := by show _ = _; rw [HR.out]; simp [ht, h2n]
            clear HR h2
            have HR := HRX
            clear HRX
            obtain rfl : R = false := by rw [HR.out]; simp
            clear HR
            go_wp2_with fail
            go_ret
            exact ⟨rfl, Below.junk (by repeat (first | (with_reducible exact Below.refl _ _) | (with_reducible refine Below.allocS ?_ _) | (with_reducible refine Below.moreS ?_ _) | (with_reducible refine Below.drew ?_) | (with_reducible refine below_drewN ?_ _)))⟩
          have e6 : (v == 1) = false := by simpa using hv1
          by_cases hv3 : v = 3
          · subst hv3
            clear hv1
            by_cases hk : zk = 3
            rotate_left
            · have e9 : (zk != 3) = true := by simpa using hk
              obtain rfl : R = false := by rw [HR.out]; simp [hk]
              clear HR
              go_wp2_with fail
              refine wp_region_more (by kernel_rfl) (by kernel_rfl) ?_
              repeat (go_big_quiet_step (first | fail))
              refine wpQuiet_nil ?_
              intro w' hw'
              obtain ⟨j, rfl⟩ := hw'
              go_wp2_with fail
              go_ret
              exact ⟨rfl, Below.junk (by repeat (first | (with_reducible exact Below.refl _ _) | (with_reducible refine Below.allocS ?_ _) | (with_reducible refine Below.moreS ?_ _) | (with_reducible refine Below.drew ?_) | (with_reducible refine below_drewN ?_ _)))⟩
            subst hk
            by_cases ht : t = (q : Int)
            rotate_left
            · have e9 : (t != (q : Int)) = true := by simpa using ht
              obtain rfl : R = false := by rw [HR.out]; simp [ht]
              clear HR
              go_wp2_with fail
              refine wp_region_more (by kernel_rfl) (by kernel_rfl) ?_
              repeat (go_big_quiet_step (first | fail))
              refine wpQuiet_nil ?_
              intro w' hw'
              obtain ⟨j, rfl⟩ := hw'
              go_wp2_with fail
              go_ret
              exact ⟨rfl, Below.junk (by repeat (first | (with_reducible exact Below.refl _ _) | (with_reducible refine Below.allocS ?_ _) | (with_reducible refine Below.moreS ?_ _) | (with_reducible refine Below.drew ?_) | (with_reducible refine below_drewN ?_ _)))⟩
            have e9 : (t != (q : Int)) = false := by simpa using ht
            cases b2
            case false =>
              try simp only [Bool.not_false] at HQ2
              obtain rfl : R = false := by rw [HR.out]; simp
              clear HR
              go_wp2_with fail
              refine wp_region_more (by kernel_rfl) (by kernel_rfl) ?_
              repeat (go_big_quiet_step (first | fail))
              refine wpQuiet_nil ?_
              intro w' hw'
              obtain ⟨j, rfl⟩ := hw'
              go_wp2_with fail
              go_ret
              exact ⟨rfl, Below.junk (by repeat (first | (with_reducible exact Below.refl _ _) | (with_reducible refine Below.allocS ?_ _) | (with_reducible refine Below.moreS ?_ _) | (with_reducible refine Below.drew ?_) | (with_reducible refine below_drewN ?_ _)))⟩
            try simp only [Bool.not_true] at HQ2
            have HR2 : Hid (R = bt) := by show _ = _; rw [HR.out]; simp [ht]
            clear HR
            obtain rfl : R = false := by rw [HR2.out, HTD.out]; simp
            clear HR2 HTD HOF HSM HRO HEQ
            go_wp2_with fail
            refine wp_region_more (by kernel_rfl) (by kernel_rfl) ?_
            repeat (go_big_quiet_step (first | fail))
            refine wpQuiet_nil ?_
            intro w' hw'
            obtain ⟨j, rfl⟩ := hw'
            go_wp2_with fail
            refine wp_region_more (by kernel_rfl) (by kernel_rfl) ?_
            repeat (go_big_quiet_step (first | fail))
            refine wpQuiet_nil ?_
            intro w' hw'
            obtain ⟨j, rfl⟩ := hw'
            go_wp2_with fail
            go_ret
            exact ⟨rfl, Below.junk (by repeat (first | (with_reducible exact Below.refl _ _) | (with_reducible refine Below.allocS ?_ _) | (with_reducible refine Below.moreS ?_ _) | (with_reducible refine Below.drew ?_) | (with_reducible refine below_drewN ?_ _)))⟩
          clear HOF HSM HRO HEQ HTD
          by_cases hv4 : v = 4
          · subst hv4
            clear hv1 hv3
            by_cases hk : zk = 4
            rotate_left
            · have e9 : (zk != 4) = true := by simpa using hk
              obtain rfl : R = false := by rw [HR.out]; simp [hk]
              clear HR
              go_wp2_with fail
              refine wp_region_more (by kernel_rfl) (by kernel_rfl) ?_
              repeat (go_big_quiet_step (first | fail))
              refine wpQuiet_nil ?_
              intro w' hw'
              obtain ⟨j, rfl⟩ := hw'
              go_wp2_with fail
              go_ret
              exact ⟨rfl, Below.junk (by repeat (first | (with_reducible exact Below.refl _ _) | (with_reducible refine Below.allocS ?_ _) | (with_reducible refine Below.moreS ?_ _) | (with_reducible refine Below.drew ?_) | (with_reducible refine below_drewN ?_ _)))⟩
            subst hk
            by_cases ht : t = (q : Int)
            rotate_left
            · have e9 : (t != (q : Int)) = true := by simpa using ht
              obtain rfl : R = false := by rw [HR.out]; simp [ht]
              clear HR
              go_wp2_with fail
              refine wp_region_more (by kernel_rfl) (by kernel_rfl) ?_
              repeat (go_big_quiet_step (first | fail))
              refine wpQuiet_nil ?_
              intro w' hw'
              obtain ⟨j, rfl⟩ := hw'
              go_wp2_with fail
              go_ret
              exact ⟨rfl, Below.junk (by repeat (first | (with_reducible exact Below.refl _ _) | (with_reducible refine Below.allocS ?_ _) | (with_reducible refine Below.moreS ?_ _) | (with_reducible refine Below.drew ?_) | (with_reducible refine below_drewN ?_ _)))⟩
            have e9 : (t != (q : Int)) = false := by simpa using ht
            cases b2
            case false =>
              try simp only [Bool.not_false] at HQ2
              obtain rfl : R = false := by rw [HR.out]; simp
              clear HR
              go_wp2_with fail
              refine wp_region_more (by kernel_rfl) (by kernel_rfl) ?_
              repeat (go_big_quiet_step (first | fail))
              refine wpQuiet_nil ?_
              intro w' hw'
              obtain ⟨j, rfl⟩ := hw'
              go_wp2_with fail
              go_ret
              exact ⟨rfl, Below.junk (by repeat (first | (with_reducible exact Below.refl _ _) | (with_reducible refine Below.allocS ?_ _) | (with_reducible refine Below.moreS ?_ _) | (with_reducible refine Below.drew ?_) | (with_reducible refine below_drewN ?_ _)))⟩
            try simp only [Bool.not_true] at HQ2
            obtain rfl : R = false := by rw [HR.out]; simp [ht]
            clear HR
            go_wp2_with fail
            refine wp_region_more (by kernel_rfl) (by kernel_rfl) ?_
            repeat (go_big_quiet_step (first | fail))
            refine wpQuiet_nil ?_
            intro w' hw'
            obtain ⟨j, rfl⟩ := hw'
            go_wp2_with fail
            go_ret
            exact ⟨rfl, Below.junk (by repeat (first | (with_reducible exact Below.refl _ _) | (with_reducible refine Below.allocS ?_ _) | (with_reducible refine Below.moreS ?_ _) | (with_reducible refine Below.drew ?_) | (with_reducible refine below_drewN ?_ _)))⟩
          have e7 : (v != 3) = true := by simpa using hv3
          have e8 : (v != 4) = true := by simpa using hv4
          obtain rfl : R = false := by rw [HR.out]; rw [if_neg hv1, if_neg (by omega)]
          clear HR
          go_wp2_with fail
          refine wp_region_more (by kernel_rfl) (by kernel_rfl) ?_
          repeat (go_big_quiet_step (first | fail))
          refine wpQuiet_nil ?_
          intro w' hw'
          obtain ⟨j, rfl⟩ := hw'
          go_wp2_with fail
          go_ret
          exact ⟨rfl, Below.junk (by repeat (first | (with_reducible exact Below.refl _ _) | (with_reducible refine Below.allocS ?_ _) | (with_reducible refine Below.moreS ?_ _) | (with_reducible refine Below.drew ?_) | (with_reducible refine below_drewN ?_ _)))⟩
        have hbn : bn = true := by rw [HND.out, g1, g2]; rfl
        subst hbn
        obtain rfl : nf = 0 := by have := of_decide_eq_true g1; omega
        obtain rfl : nu = 0 := by have := of_decide_eq_true g2; omega
        clear HND g1 g2 e4 e5
        by_cases hv1 : v = 1
        · subst hv1
          clear HQ2 HOF HSM HRO HEQ HTD
          by_cases h2 : 2 < zk
          · have h2n : ¬ zk ≤ 2 := by omega
            obtain rfl : R = false := by rw [HR.out]; simp [h2]
            clear HR
            go_wp2_with fail
            go_ret
            exact ⟨rfl, Below.junk (by repeat (first | (with_reducible exact Below.refl _ _) | (with_reducible refine Below.allocS ?_ _) | (with_reducible refine Below.moreS ?_ _) | (with_reducible refine Below.drew ?_) | (with_reducible refine below_drewN ?_ _)))⟩
          have h2n : zk ≤ 2 := by omega
          by_cases ht : t = (q : Int) + 1
          rotate_left
          · have e9 : (t == (q : Int) + 1) = false := by simpa using ht
            obtain rfl : R = false := by rw [HR.out]; simp [ht]
            clear HR
            go_wp2_with fail
            go_ret
            exact ⟨rfl, Below.junk (by repeat (first | (with_reducible exact Below.refl _ _) | (with_reducible refine Below.allocS ?_ _) | (with_reducible refine Below.moreS ?_ _) | (with_reducible refine Below.drew ?_) | (with_reducible refine below_drewN ?_ _)))⟩
          have e9 : (t == (q : Int) + 1) = true := by simpa using ht
          have HRX : Hid (R = (true && (decide (0 ≤ f0) && decide (0 ≤ f1)))) := by show _ = _; rw [HR.out]; simp [ht, h2n]
          clear HR h2
          have HR := HRX
          clear HRX
          by_cases h0 : 0 ≤ f0
          rotate_left
          · obtain rfl : R = false := by rw [HR.out]; simp [h0]
            clear HR
            go_wp2_with fail
            go_ret
            exact ⟨rfl, Below.junk (by repeat (first | (with_reducible exact Below.refl _ _) | (with_reducible refine Below.allocS ?_ _) | (with_reducible refine Below.moreS ?_ _) | (with_reducible refine Below.drew ?_) | (with_reducible refine below_drewN ?_ _)))⟩
          by_cases h1 : 0 ≤ f1
          rotate_left
          · obtain rfl : R = false := by rw [HR.out]; simp [h1]
            clear HR
            go_wp2_with fail
            go_ret
            exact ⟨rfl, Below.junk (by repeat (first | (with_reducible exact Below.refl _ _) | (with_reducible refine Below.allocS ?_ _) | (with_reducible refine Below.moreS ?_ _) | (with_reducible refine Below.drew ?_) | (with_reducible refine below_drewN ?_ _)))⟩
          obtain rfl : R = true := by rw [HR.out]; simp [h0, h1]
          clear HR
          go_wp2_with fail
          go_ret
          exact ⟨rfl, Below.junk (by repeat (first | (with_reducible exact Below.refl _ _) | (with_reducible refine Below.allocS ?_ _) | (with_reducible refine Below.moreS ?_ _) | (with_reducible refine Below.drew ?_) | (with_reducible refine below_drewN ?_ _)))⟩
        have e6 : (v == 1) = false := by simpa using hv1
        by_cases hv3 : v = 3
        · subst hv3
          clear hv1
          by_cases hk : zk = 3
          rotate_left
          · have e9 : (zk != 3) = true := by simpa using hk
            obtain rfl : R = false := by rw [HR.out]; simp [hk]
            clear HR
            go_wp2_with fail
            refine wp_region_more (by kernel_rfl) (by kernel_rfl) ?_
            repeat (go_big_quiet_step (first | fail))
            refine wpQuiet_nil ?_
            intro w' hw'
            obtain ⟨j, rfl⟩ := hw'
            go_wp2_with fail
            go_ret
            exact ⟨rfl, Below.junk (by repeat (first | (with_reducible exact Below.refl _ _) | (with_reducible refine Below.allocS ?_ _) | (with_reducible refine Below.moreS ?_ _) | (with_reducible refine Below.drew ?_) | (with_reducible refine below_drewN ?_ _)))⟩
          subst hk
          by_cases ht : t = (q : Int)
          rotate_left
          · have e9 : (t != (q : Int)) = true := by simpa using ht
            obtain rfl : R = false := by rw [HR.out]; simp [ht]
            clear HR
            go_wp2_with fail
            refine wp_region_more (by kernel_rfl) (by kernel_rfl) ?_
            repeat (go_big_quiet_step (first | fail))
            refine wpQuiet_nil ?_
            intro w' hw'
            obtain ⟨j, rfl⟩ := hw'
            go_wp2_with fail
            go_ret
            exact ⟨rfl, Below.junk (by repeat (first | (with_reducible exact Below.refl _ _) | (with_reducible refine Below.allocS ?_ _) | (with_reducible refine Below.moreS ?_ _) | (with_reducible refine Below.drew ?_) | (with_reducible refine below_drewN ?_ _)))⟩
          have e9 : (t != (q : Int)) = false := by simpa using ht
          cases b2
          case false =>
            try simp only [Bool.not_false] at HQ2
            obtain rfl : R = false := by rw [HR.out]; simp
            clear HR
            go_wp2_with fail
            refine wp_region_more (by kernel_rfl) (by kernel_rfl) ?_
            repeat (go_big_quiet_step (first | fail))
            refine wpQuiet_nil ?_
            intro w' hw'
            obtain ⟨j, rfl⟩ := hw'
            go_wp2_with fail
            go_ret
            exact ⟨rfl, Below.junk (by repeat (first | (with_reducible exact Below.refl _ _) | (with_reducible refine Below.allocS ?_ _) | (with_reducible refine Below.moreS ?_ _) | (with_reducible refine Below.drew ?_) | (with_reducible refine below_drewN ?_ _)))⟩
          try simp only [Bool.not_true] at HQ2
          have HR2 : Hid (R = bt) := by show _ = _; rw [HR.out]; simp [ht]
          clear HR
          obtain rfl : R = false := by rw [HR2.out, HTD.out]; simp
          clear HR2 HTD HOF HSM HRO HEQ
          go_wp2_with fail
          refine wp_region_more (by kernel_rfl) (by kernel_rfl) ?_
          repeat (go_big_quiet_step (first | fail))
          refine wpQuiet_nil ?_
          intro w' hw'
          obtain ⟨j, rfl⟩ := hw'
          go_wp2_with fail
          refine wp_region_more (by kernel_rfl) (by kernel_rfl) ?_
          repeat (go_big_quiet_step (first | fail))
          refine wpQuiet_nil ?_
          intro w' hw'
          obtain ⟨j, rfl⟩ := hw'
          go_wp2_with fail
          go_ret
          exact ⟨rfl, Below.junk (by repeat (first | (with_reducible exact Below.refl _ _) | (with_reducible refine Below.allocS ?_ _) | (with_reducible refine Below.moreS ?_ _) | (with_reducible refine Below.drew ?_) | (with_reducible refine below_drewN ?_ _)))⟩
        clear HOF HSM HRO HEQ HTD
        by_cases hv4 : v = 4
        · subst hv4
          clear hv1 hv3
          by_cases hk : zk = 4
          rotate_left
          · have e9 : (zk != 4) = true := by simpa using hk
            obtain rfl : R = false := by rw [HR.out]; simp [hk]
            clear HR
            go_wp2_with fail
            refine wp_region_more (by kernel_rfl) (by kernel_rfl) ?_
            repeat (go_big_quiet_step (first | fail))
            refine wpQuiet_nil ?_
            intro w' hw'
            obtain ⟨j, rfl⟩ := hw'
            go_wp2_with fail
            go_ret
            exact ⟨rfl, Below.junk (by repeat (first | (with_reducible exact Below.refl _ _) | (with_reducible refine Below.allocS ?_ _) | (with_reducible refine Below.moreS ?_ _) | (with_reducible refine Below.drew ?_) | (with_reducible refine below_drewN ?_ _)))⟩
          subst hk
          by_cases ht : t = (q : Int)
          rotate_left
          · have e9 : (t != (q : Int)) = true := by simpa using ht
            obtain rfl : R = false := by rw [HR.out]; simp [ht]
            clear HR
            go_wp2_with fail
            refine wp_region_more (by kernel_rfl) (by kernel_rfl) ?_
            repeat (go_big_quiet_step (first | fail))
            refine wpQuiet_nil ?_
            intro w' hw'
            obtain ⟨j, rfl⟩ := hw'
            go_wp2_with fail
            go_ret
            exact ⟨rfl, Below.junk (by repeat (first | (with_reducible exact Below.refl _ _) | (with_reducible refine Below.allocS ?_ _) | (with_reducible refine Below.moreS ?_ _) | (with_reducible refine Below.drew ?_) | (with_reducible refine below_drewN ?_ _)))⟩
          have e9 : (t != (q : Int)) = false := by simpa using ht
          cases b2
          case false =>
            try simp only [Bool.not_false] at HQ2
            obtain rfl : R = false := by rw [HR.out]; simp
            clear HR
            go_wp2_with fail
            refine wp_region_more (by kernel_rfl) (by kernel_rfl) ?_
            repeat (go_big_quiet_step (first | fail))
            refine wpQuiet_nil ?_
            intro w' hw'
            obtain ⟨j, rfl⟩ := hw'
            go_wp2_with fail
            go_ret
            exact ⟨rfl, Below.junk (by repeat (first | (with_reducible exact Below.refl _ _) | (with_reducible refine Below.allocS ?_ _) | (with_reducible refine Below.moreS ?_ _) | (with_reducible refine Below.drew ?_) | (with_reducible refine below_drewN ?_ _)))⟩
          try simp only [Bool.not_true] at HQ2
          obtain rfl : R = true := by rw [HR.out]; simp [ht]
          clear HR
          go_wp2_with fail
          refine wp_region_more (by kernel_rfl) (by kernel_rfl) ?_
          repeat (go_big_quiet_step (first | fail))
          refine wpQuiet_nil ?_
          intro w' hw'
          obtain ⟨j, rfl⟩ := hw'
          go_wp2_with fail
          go_ret
          exact ⟨rfl, Below.junk (by repeat (first | (with_reducible exact Below.refl _ _) | (with_reducible refine Below.allocS ?_ _) | (with_reducible refine Below.moreS ?_ _) | (with_reducible refine Below.drew ?_) | (with_reducible refine below_drewN ?_ _)))⟩
        have e7 : (v != 3) = true := by simpa using hv3
        have e8 : (v != 4) = true := by simpa using hv4
        obtain rfl : R = false := by rw [HR.out]; rw [if_neg hv1, if_neg (by omega)]
        clear HR
        go_wp2_with fail
        refine wp_region_more (by kernel_rfl) (by kernel_rfl) ?_
        repeat (go_big_quiet_step (first | fail))
        refine wpQuiet_nil ?_
        intro w' hw'
        obtain ⟨j, rfl⟩ := hw'
        go_wp2_with fail
        go_ret
        exact ⟨rfl, Below.junk (by repeat (first | (with_reducible exact Below.refl _ _) | (with_reducible refine Below.allocS ?_ _) | (with_reducible refine Below.moreS ?_ _) | (with_reducible refine Below.drew ?_) | (with_reducible refine below_drewN ?_ _)))⟩
end Go.Proofs.YtbdmepidabnfkaaGreatDoor
