/-
  Records: the law RecordOf.
-/
import Derived.Test.YtjdgkkmhlbjdnaaDoorRec9
namespace Go.Proofs.YtjdgkkmhlbjdnaaDoor
set_option linter.unusedSimpArgs false
set_option linter.unusedVariables false
set_option linter.unusedSectionVars false
open Go.ChangeShapes Go.WideShapes Go.ChangeAt Go.RowKit Go.Deep Go.Shelf

set_option maxHeartbeats 4000000 in
set_option maxRecDepth 100000 in
theorem record_Of (x0 x1 x2 x3 : Int) (rs : Bool) (a : Option Addr) (n cap : Nat) (hn : n ≤ 9223372036854775807) (kd : Int) (s1 s2 s3 : Value) (w : World) :
    Calls Tryd.prog 18 #[.agg #[.int .i64 x0, .int .i64 x1, .int .i64 x2, .int .i64 x3, .bool rs, .slice a n cap], .agg #[.int .i64 kd, s1, s2, s3]] w fun e w' => e = .returned (.agg #[.int .i64 x0, .int .i64 x1, .int .i64 x2, .int .i64 x3, .int .i64 (n : Int), .int .i64 kd]) ∧ ∃ j, w' = w.more j := by
  go_enter Tryd.func18, Tryd.ntmps18
  go_wp2_with fail
  refine bodyPost_ret (res_cell (cs := #[.int .i64 x0, .int .i64 x1, .int .i64 x2, .int .i64 x3, .int .i64 (n : Int), .int .i64 kd]) rfl st_Rec rfl (by repeat (first | ((with_reducible apply Blk.at_); (simp; done)) | (with_reducible apply Blk.alloc) | (with_reducible apply Blk.more) | (with_reducible apply Blk.drew))) rfl) rfl ⟨rfl, Below.junk (by repeat (first | (with_reducible exact Below.refl _ _) | (with_reducible refine Below.allocS ?_ _) | (with_reducible refine Below.moreS ?_ _) | (with_reducible refine Below.drew ?_) | (with_reducible refine below_drewN ?_ _)))⟩

set_option maxHeartbeats 8000000 in
set_option maxRecDepth 100000 in
theorem recordOf_law (x0 x1 x2 x3 : Int) (rs : Bool) (a : Option Addr) (n cap : Nat) (kd : Int) (a1 : Option Addr) (n1 k1 : Nat) (a2 : Option Addr) (n2 k2 : Nat) (a3 : Option Addr) (n3 k3 : Nat) (w : World) (hE : EnvK0 w) (hn : n ≤ maxLen) :
    Calls Tryd.prog 3 #[.agg #[.int .i64 x0, .int .i64 x1, .int .i64 x2, .int .i64 x3, .bool rs, .slice a n cap], .agg #[.int .i64 kd, .slice a1 n1 k1, .slice a2 n2 k2, .slice a3 n3 k3]] w fun e w' => e = .returned (.bool true) ∧ ∃ j, w' = w.more j := by
  unfold maxLen at hn
  have HE := Lib.hid hE
  have HA := Lib.hid law41_alive
  clear hE
  by_cases h1 : 2000 < (n : Int)
  · go_enter Tryd.func3, Tryd.ntmps3
    go_wp2_with (go_at_call 17; (with_reducible refine (HA.out _ (HE.out.below (by repeat (first | (with_reducible exact Below.refl _ _) | (with_reducible refine Below.allocS ?_ _) | (with_reducible refine Below.moreS ?_ _) | (with_reducible refine Below.drew ?_) | (with_reducible refine below_drewN ?_ _))))).mono ?_); rintro e w' ⟨rfl, j, rfl⟩)
    go_ret
    exact ⟨rfl, Below.junk (by repeat (first | (with_reducible exact Below.refl _ _) | (with_reducible refine Below.allocS ?_ _) | (with_reducible refine Below.moreS ?_ _) | (with_reducible refine Below.drew ?_) | (with_reducible refine below_drewN ?_ _)))⟩
  have HO : Hid (∀ W, Calls Tryd.prog 18 #[.agg #[.int .i64 x0, .int .i64 x1, .int .i64 x2, .int .i64 x3, .bool rs, .slice a n cap], .agg #[.int .i64 kd, .slice a1 n1 k1, .slice a2 n2 k2, .slice a3 n3 k3]] W fun e w' => e = .returned (.agg #[.int .i64 x0, .int .i64 x1, .int .i64 x2, .int .i64 x3, .int .i64 (n : Int), .int .i64 kd]) ∧ ∃ j, w' = W.more j) := fun W => record_Of x0 x1 x2 x3 rs a n cap hn kd (.slice a1 n1 k1) (.slice a2 n2 k2) (.slice a3 n3 k3) W
  have HQ := fun W => rec_eql x0 x1 x2 x3 n kd x0 x1 x2 x3 n kd W
  rw [recEq_self] at HQ
  have HK := Lib.hid ref41_Kinds
  have side : ∃ S, sideF x0 = S ∧ ((x0 = 0 ∧ S = [99, 108, 105, 101, 110, 116]) ∨ (x0 = 1 ∧ S = [115, 101, 114, 118, 101, 114]) ∨ ((x0 == 0) = false ∧ (x0 == 1) = false ∧ S = [])) := by
    by_cases c0 : x0 = 0
    · exact ⟨_, rfl, .inl ⟨c0, by rw [c0]; rfl⟩⟩
    · by_cases c1 : x0 = 1
      · exact ⟨_, rfl, .inr (.inl ⟨c1, by rw [c1]; rfl⟩)⟩
      · exact ⟨_, rfl, .inr (.inr ⟨by simpa using c0, by simpa using c1, by unfold sideF; rw [if_neg c0, if_neg c1]⟩)⟩
  obtain ⟨S, hS, hcase⟩ := side
  have HS := Lib.hid (side_at x0 S hS)
  clear hS
  have kinds : ∃ K, kindF kd = K ∧ ((∃ q : Nat, q < 4 ∧ kd = (q : Int) + 1 ∧ K = kindN q) ∨ (kd < 1 ∧ K = []) ∨ (4 < kd ∧ K = [])) := by
    by_cases c : 1 ≤ kd ∧ kd ≤ 4
    · obtain ⟨q, rfl⟩ : ∃ q : Nat, kd = (q : Int) + 1 := ⟨(kd - 1).toNat, by omega⟩
      have hq : q < 4 := by omega
      refine ⟨_, rfl, .inl ⟨q, hq, rfl, ?_⟩⟩
      match q, hq with
      | 0, _ => rfl
      | 1, _ => rfl
      | 2, _ => rfl
      | 3, _ => rfl
    · by_cases c1 : kd < 1
      · exact ⟨_, rfl, .inr (.inl ⟨c1, kindF_no c⟩)⟩
      · exact ⟨_, rfl, .inr (.inr ⟨by omega, kindF_no c⟩)⟩
  obtain ⟨K, hK, kcase⟩ := kinds
  have HKd := Lib.hid (kind_at kd K hK)
  clear hK
  rcases kcase with ⟨q, hq, rfl, hKq⟩ | ⟨hk, rfl⟩ | ⟨hk, rfl⟩
  · have i2 : (q : Int) < 4 := by omega
    have i3 : (1 : Int) ≤ (q : Int) + 1 := by omega
    have i4 : (q : Int) + 1 ≤ 4 := by omega
    have sq : IntKind.i64.wrap (q : Int) = q := IntWalk.i64_in _ (by omega)
    have HKq := Lib.hid hKq
    have e1 : (K == K) = true := by simp
    clear hKq
    rcases hcase with ⟨rfl, rfl⟩ | ⟨rfl, rfl⟩ | ⟨z0, z1, rfl⟩
    all_goals
      go_enter Tryd.func3, Tryd.ntmps3
      go_wp2_with (go_at_call 18; (with_reducible refine (HO.out _).mono ?_); rintro e w' ⟨rfl, j, rfl⟩)
      refine grown_start (by kernel_rfl) ?_
      refine grown_take 1 (v := ?_) rfl (by kernel_rfl) (by kernel_rfl) (by kernel_rfl) (fun _ _ _ h => h) (Or.inl ⟨by rfl, ?_⟩) ?_
      rotate_left
      · intro wS hSw; have hSc := hSw.cell; clear hSw; go_simp; try with_reducible rfl
      try simp only [Act.put, List.setIfInBounds_toArray, List.set_cons_zero, List.set_cons_succ]
      refine grown_take 2 (v := ?_) rfl (by kernel_rfl) (by kernel_rfl) (by kernel_rfl) (fun _ _ _ h => h) (Or.inl ⟨by rfl, ?_⟩) ?_
      rotate_left
      · intro wS hSw; have hSc := hSw.cell; clear hSw; go_simp; try with_reducible rfl
      try simp only [Act.put, List.setIfInBounds_toArray, List.set_cons_zero, List.set_cons_succ]
      refine grown_take 3 (v := ?_) rfl (by kernel_rfl) (by kernel_rfl) (by kernel_rfl) (fun _ _ _ h => h) (Or.inl ⟨by rfl, ?_⟩) ?_
      rotate_left
      · intro wS hSw; have hSc := hSw.cell; clear hSw; go_simp; try with_reducible rfl
      try simp only [Act.put, List.setIfInBounds_toArray, List.set_cons_zero, List.set_cons_succ]
      refine grown_step 0 (by kernel_rfl) rfl (fun K hK => ?_)
      go_simp
      go_wp2_with fail
      refine (HK.out _).mono ?_
      rintro e wn ⟨g2, rfl, hc2, hg2, hb2⟩
      have c2 := hc2 q hq
      rw [← HKq.out] at c2
      obtain ⟨j2, rfl⟩ := hb2.junk
      simp only [World.more_drew] at hg2 c2
      simp only [World.size_more, World.size_alloc] at hg2
      clear hc2 hb2
      go_wp2_with fail
      refine hK.out _ _ (show Below _ _ _ from (by (try (with_reducible refine grown_undrew ?_)); repeat (first | (with_reducible exact Below.refl _ _) | (with_reducible exact grown_merge _ _ _ _) | (with_reducible exact grown_merge2 _ _ _ _ _ _) | (with_reducible exact grown_merge3 _ _ _ _ _ _ _) | (with_reducible refine Below.allocS ?_ _) | (with_reducible refine Below.moreS ?_ _) | (with_reducible refine Below.drew ?_)))) ?_
      clear hK K
      try simp only [Act.put, List.setIfInBounds_toArray, List.set_cons_zero, List.set_cons_succ]
      refine grown_take 4 (v := ?_) rfl (by kernel_rfl) (by kernel_rfl) (by kernel_rfl) (fun _ _ _ h => h) (Or.inl ⟨by rfl, ?_⟩) ?_
      rotate_left
      · intro wS hSw; have hSc := hSw.cell; clear hSw; go_simp; try with_reducible rfl
      try simp only [Act.put, List.setIfInBounds_toArray, List.set_cons_zero, List.set_cons_succ]
      refine grown_take 5 (v := ?_) rfl (by kernel_rfl) (by kernel_rfl) (by kernel_rfl) (fun _ _ _ h => h) (Or.inl ⟨by rfl, ?_⟩) ?_
      rotate_left
      · intro wS hSw; have hSc := hSw.cell; clear hSw; go_simp; try with_reducible rfl
      try simp only [Act.put, List.setIfInBounds_toArray, List.set_cons_zero, List.set_cons_succ]
      refine grown_take 6 (v := ?_) rfl (by kernel_rfl) (by kernel_rfl) (by kernel_rfl) (fun _ _ _ h => h) (Or.inl ⟨by rfl, ?_⟩) ?_
      rotate_left
      · intro wS hSw; have hSc := hSw.cell; clear hSw; go_simp; try with_reducible rfl
      try simp only [Act.put, List.setIfInBounds_toArray, List.set_cons_zero, List.set_cons_succ]
      refine wpAnyH_done (by kernel_rfl) ?_ _
      go_wp2_with (first
        | (go_at_call 20; (with_reducible refine (HS.out _).mono ?_); rintro e w' ⟨rfl, rfl⟩)
        | (go_at_call 21; (with_reducible refine (HKd.out _).mono ?_); rintro e w' ⟨rfl, rfl⟩)
        | (go_at_call 17; (with_reducible refine (HA.out _ (HE.out.below (by repeat (first | (with_reducible exact Below.refl _ _) | (with_reducible refine Below.allocS ?_ _) | (with_reducible refine Below.moreS ?_ _) | (with_reducible refine Below.drew ?_) | (with_reducible refine below_drewN ?_ _))))).mono ?_); rintro e w' ⟨rfl, j, rfl⟩))
      go_ret
      exact ⟨rfl, Below.junk (by repeat (first | (with_reducible exact Below.refl _ _) | (with_reducible refine Below.allocS ?_ _) | (with_reducible refine Below.moreS ?_ _) | (with_reducible refine Below.drew ?_) | (with_reducible refine below_drewN ?_ _)))⟩
  all_goals
    try have hk1 : (1 : Int) ≤ kd := by omega
    try have hk0 : ¬ (1 : Int) ≤ kd := by omega
    try have hk4 : ¬ kd ≤ 4 := by omega
    rcases hcase with ⟨rfl, rfl⟩ | ⟨rfl, rfl⟩ | ⟨z0, z1, rfl⟩
    all_goals
      clear HK
      go_enter Tryd.func3, Tryd.ntmps3
      go_wp2_with (first
        | (go_at_call 18; (with_reducible refine (HO.out _).mono ?_); rintro e w' ⟨rfl, j, rfl⟩)
        | (go_at_call 20; (with_reducible refine (HS.out _).mono ?_); rintro e w' ⟨rfl, rfl⟩)
        | (go_at_call 21; (with_reducible refine (HKd.out _).mono ?_); rintro e w' ⟨rfl, rfl⟩)
        | (go_at_call 17; (with_reducible refine (HA.out _ (HE.out.below (by repeat (first | (with_reducible exact Below.refl _ _) | (with_reducible refine Below.allocS ?_ _) | (with_reducible refine Below.moreS ?_ _) | (with_reducible refine Below.drew ?_) | (with_reducible refine below_drewN ?_ _))))).mono ?_); rintro e w' ⟨rfl, j, rfl⟩))
      all_goals first
        | (exfalso; omega)
        | (go_ret; exact ⟨rfl, Below.junk (by repeat (first | (with_reducible exact Below.refl _ _) | (with_reducible refine Below.allocS ?_ _) | (with_reducible refine Below.moreS ?_ _) | (with_reducible refine Below.drew ?_) | (with_reducible refine below_drewN ?_ _)))⟩)
end Go.Proofs.YtjdgkkmhlbjdnaaDoor
