/-
  The statement FaultsSets: sets of faults, both roads.
-/
import Derived.Test.YtamklaehaadiaaaDoorFlt15
import Derived.Test.YtamklaehaadiaaaDoorHeld
namespace Go.Proofs.YtamklaehaadiaaaDoor
set_option linter.unusedSimpArgs false
set_option linter.unusedVariables false
set_option linter.unusedSectionVars false
open Go.ChangeShapes Go.WideShapes Go.ChangeAt Go.RowKit Go.Deep Go.Shelf

theorem more_post {f : FuncId} {args : Array Value} {W : World} {v : Value} (h : Calls Tryd.prog f args W fun e w' => e = .returned v ∧ ∃ j, w' = W.more j) : Calls Tryd.prog f args W fun e w' => e = .returned v ∧ Below W.heap.size W w' :=
  h.mono fun e w' ⟨he, j, hj⟩ => ⟨he, by rw [hj]; exact below_more _ _⟩
def BoxAt (b : Nat) (s c : Int) (w : World) : Prop := w.cell? ⟨b, 0, none⟩ = some (.int .i64 s) ∧ w.cell? ⟨b, 1, none⟩ = some (.int .i64 c) ∧ b < w.heap.size
theorem BoxAt.keep {b : Nat} {s c : Int} {w w' : World} (h : BoxAt b s c w) (hb : Below w.heap.size w w') : BoxAt b s c w' :=
  ⟨(hb.cell (p := ⟨b, 0, none⟩) h.2.2).trans h.1, (hb.cell (p := ⟨b, 1, none⟩) h.2.2).trans h.2.1, Nat.lt_of_lt_of_le h.2.2 hb.size⟩
def OfAt (l L : List Fl) : Prop := ∀ (W : World) (a : Option Addr) (ca : Nat), SlFl W W.heap.size a l → Calls Tryd.prog 10 #[.slice a l.length ca] W (UnPost L W)
def ROfAt (l L : List Fl) : Prop := ∀ (W : World) (a : Option Addr) (ca : Nat), SlFl W W.heap.size a l → Calls Tryd.prog 11 #[.slice a l.length ca] W (UnPost L W)
def RSameAt (L : List Fl) : Prop := ∀ (W : World) (a b : Option Addr) (ca cb : Nat), SlFl W W.heap.size a L → SlFl W W.heap.size b L → Calls Tryd.prog 9 #[.slice a L.length ca, .slice b L.length cb] W fun e w' => e = .returned (.bool true) ∧ ∃ j, w' = W.more j
theorem rsameAt {L : List Fl} (h : L.length ≤ 100000) : RSameAt L := fun W a b ca cb h1 h2 => by
  have := ref09_Same a b L L ca cb h h W h1 h2
  rw [decide_eq_true (rfl : L = L)] at this
  exact this
def SameOf (f : Nat) (l m : List Fl) (r : Bool) : Prop := ∀ (W : World) (a b : Option Addr) (ca cb : Nat), SlFl W W.heap.size a l → SlFl W W.heap.size b m → Calls Tryd.prog f #[.slice a l.length ca, .slice b m.length cb] W fun e w' => e = .returned (.bool r) ∧ ∃ j, w' = W.more j
def HasOf (f : Nat) (l : List Fl) (s c : Int) (r : Bool) : Prop := ∀ (W : World) (a : Option Addr) (ca : Nat), SlFl W W.heap.size a l → Calls Tryd.prog f #[.slice a l.length ca, .agg #[.int .i64 s, .int .i64 c]] W fun e w' => e = .returned (.bool r) ∧ ∃ j, w' = W.more j
theorem own_empty (w : World) : OwnFl w.heap.size (w.alloc (.cells #[] 28)) (.slice (some ⟨w.heap.size, 0, none⟩) 0 0) [] :=
  World.ownsRow_made (base := w.heap.size) (size := 2) (e := FlT) w _ _ (Nat.le_refl _) (by unfold maxLen; omega) (by simp)
set_option maxHeartbeats 8000000 in
set_option maxRecDepth 100000 in
theorem faultsSets_law (a1 : Option Addr) (cap1 : Nat) (l1 : List Fl) (a2 : Option Addr) (cap2 : Nat) (l2 : List Fl) (s c : Int) (w : World) (hF : FN w)
    (_ : l1.length ≤ cap1) (hm1 : l1.length ≤ maxLen) (hs1 : SlFl w w.heap.size a1 l1) (_ : l2.length ≤ cap2) (hm2 : l2.length ≤ maxLen) (hs2 : SlFl w w.heap.size a2 l2) :
    Calls Tryd.prog 4 #[.slice a1 l1.length cap1, .slice a2 l2.length cap2, .agg #[.int .i64 s, .int .i64 c]] w fun e w' => e = .returned (.bool true) ∧ ∃ j, w' = w.more j := by
  have HAL : Hid (∀ W, FN W → Calls Tryd.prog 6 #[] W fun e w' => e = .returned (.bool true) ∧ ∃ j, w' = W.more j) := law09_alive
  have HF := Lib.hid hF
  have H1 := Lib.hid hs1
  have H2 := Lib.hid hs2
  unfold maxLen at hm1 hm2
  clear hF hs1 hs2
  by_cases g : 40 < l1.length ∨ 40 < l2.length
  · rcases g with g | g
    · have g1 : (40 : Int) < l1.length := by omega
      go_enter Tryd.func4, Tryd.ntmps4
      go_wp2_with (go_at_call 6; (with_reducible refine (HAL.out _ (HF.out.below (by repeat (first | (with_reducible exact Below.refl _ _) | (with_reducible refine Below.allocS ?_ _) | (with_reducible refine Below.moreS ?_ _) | (with_reducible refine Below.drew ?_) | (with_reducible refine below_drewN ?_ _))))).mono ?_); rintro e w' ⟨rfl, j, rfl⟩)
      all_goals first
        | (exfalso; omega)
        | (go_ret
           exact ⟨rfl, Below.junk (by repeat (first | (with_reducible exact Below.refl _ _) | (with_reducible refine Below.allocS ?_ _) | (with_reducible refine Below.moreS ?_ _) | (with_reducible refine Below.drew ?_) | (with_reducible refine below_drewN ?_ _)))⟩)
    · have g1 : (40 : Int) < l2.length := by omega
      go_enter Tryd.func4, Tryd.ntmps4
      go_wp2_with (go_at_call 6; (with_reducible refine (HAL.out _ (HF.out.below (by repeat (first | (with_reducible exact Below.refl _ _) | (with_reducible refine Below.allocS ?_ _) | (with_reducible refine Below.moreS ?_ _) | (with_reducible refine Below.drew ?_) | (with_reducible refine below_drewN ?_ _))))).mono ?_); rintro e w' ⟨rfl, j, rfl⟩)
      all_goals first
        | (exfalso; omega)
        | (go_ret
           exact ⟨rfl, Below.junk (by repeat (first | (with_reducible exact Below.refl _ _) | (with_reducible refine Below.allocS ?_ _) | (with_reducible refine Below.moreS ?_ _) | (with_reducible refine Below.drew ?_) | (with_reducible refine below_drewN ?_ _)))⟩)
  have g1 : ¬ (40 : Int) < l1.length := by omega
  have g2 : ¬ (40 : Int) < l2.length := by omega
  have HO1 : Hid (OfAt l1 (ofF l1)) := fun W a ca h => faults_Of a l1 ca (by omega) W h
  have HR1 : Hid (ROfAt l1 (ofF l1)) := fun W a ca h => ref09_Of a l1 ca (by omega) W h
  have hM1 := ofF_len l1
  have HS1 : Hid (RSameAt (ofF l1)) := rsameAt (by omega)
  have HU : Hid (UnAt l1 l2 (ofF (l1 ++ l2))) := unAt (by omega) (by omega) rfl
  have hll : (l1 ++ l2).length ≤ 80 := by rw [List.length_append]; omega
  have HR2 : Hid (ROfAt (l1 ++ l2) (ofF (l1 ++ l2))) := fun W a ca h => ref09_Of a (l1 ++ l2) ca (by omega) W h
  have hM2 := ofF_len (l1 ++ l2)
  have HS2 : Hid (RSameAt (ofF (l1 ++ l2))) := rsameAt (by omega)
  have HA1 : Hid (HasOf 12 l1 s c (decide (⟨s, c⟩ ∈ l1))) := fun W a ca h => faults_Has a l1 ca s c (by omega) W h
  have HA2 : Hid (HasOf 13 l1 s c (decide (⟨s, c⟩ ∈ l1))) := fun W a ca h => ref09_Has a l1 ca s c (by omega) W h
  have HQ1 : Hid (∀ W, Calls Tryd.prog 14 #[.agg #[.int .i64 s, .int .i64 c]] W fun e w' => e = .returned (.bool (flR ⟨s, c⟩)) ∧ ∃ j, w' = W.more j) := faults_Right s c
  have HQ2 : Hid (∀ W, Calls Tryd.prog 15 #[.agg #[.int .i64 s, .int .i64 c]] W fun e w' => e = .returned (.bool (flR ⟨s, c⟩)) ∧ ∃ j, w' = W.more j) := ref09_Right s c
  have HE1 : Hid (SameOf 8 l1 l2 (decide (l1 = l2))) := fun W a b ca cb h1 h2 => faults_Same a b l1 l2 ca cb (by omega) (by omega) W h1 h2
  have HE2 : Hid (SameOf 9 l1 l2 (decide (l1 = l2))) := fun W a b ca cb h1 h2 => ref09_Same a b l1 l2 ca cb (by omega) (by omega) W h1 h2
  have HE3 : Hid (SameAt l1) := sameAt (by omega)
  have HLS : Hid (∀ x y : Int, ∀ W, Calls Tryd.prog 16 #[.agg #[.int .i64 s, .int .i64 c], .agg #[.int .i64 x, .int .i64 y]] W fun e w' => e = .returned (.bool (ltFl ⟨s, c⟩ ⟨x, y⟩)) ∧ ∃ j, w' = W.more j) := fun x y => faults_Less s c x y
  have HLD : Hid (∀ x y : Int, ∀ W, Calls Tryd.prog 17 #[.agg #[.int .i64 s, .int .i64 c], .agg #[.int .i64 x, .int .i64 y]] W fun e w' => e = .returned (.bool (ltFl ⟨s, c⟩ ⟨x, y⟩)) ∧ ∃ j, w' = W.more j) := fun x y => ref09_Less s c x y
  generalize decide (l1 = l2) = r3 at HE1 HE2
  generalize decide (⟨s, c⟩ ∈ l1) = r1 at HA1 HA2
  generalize flR ⟨s, c⟩ = r2 at HQ1 HQ2
  generalize ofF (l1 ++ l2) = M2 at HU HR2 HS2
  generalize ofF l1 = M1 at HO1 HR1 HS1
  clear hM1 hM2 g
  have hb0 : Below w.heap.size w ((w.alloc (.cells #[.int .i64 s, .int .i64 c] 28)).alloc (.cells #[] 28)) := (by repeat (first | (with_reducible exact Below.refl _ _) | (with_reducible refine Below.allocS ?_ _) | (with_reducible refine Below.moreS ?_ _) | (with_reducible refine Below.drew ?_) | (with_reducible refine below_drewN ?_ _)))
  have k1 := SlFl.keep H1.out hb0
  have HK2 := Lib.hid (SlFl.keep H2.out hb0)
  have o1 := own_empty (w.alloc (.cells #[.int .i64 s, .int .i64 c] 28))
  have HB0 := Lib.hid hb0
  simp only [World.size_alloc] at o1 k1
  have HK1 := Lib.hid k1
  have HO0 := Lib.hid o1
  clear hb0 k1 o1
  go_enter Tryd.func4, Tryd.ntmps4
  go_wp2_with (first
    | (at_builtin; refine app_fls (.tmp 19) (.tmp 20) rfl rfl rfl HO0.out rfl (by simpa only [World.size_alloc] using HK1.out) (by simp; omega) (by simp only [World.size_alloc]; omega) ?_; intro v1 w1 hown1 hbw1)
    | (at_builtin; refine app_fls (.tmp 21) (.tmp 22) rfl rfl rfl hown1 rfl (SlFl.keep H2.out (HB0.out.trans (hbw1.mono (by omega)))) (by simp; omega) (by have := hbw1.size; simp only [World.size_alloc] at this; omega) ?_; intro v2 w2 hown2 hbw2))
  rw [List.nil_append] at hown2
  obtain ⟨a3, c3, rfl, hsl⟩ := hown2.read flC_len
  have hbx := hbw1.trans hbw2
  have HB2 := Lib.hid (HB0.out.trans (hbx.mono (by omega)))
  have hbox : BoxAt w.heap.size s c w2 := ⟨(hbx.cell (p := ⟨w.heap.size, 0, none⟩) (by simp)).trans (by go_simp), (hbx.cell (p := ⟨w.heap.size, 1, none⟩) (by simp)).trans (by go_simp), by have := hbx.size; simp only [World.size_alloc] at this; omega⟩
  have HD := Lib.hid hbox
  replace H1 := Lib.hid (SlFl.keep H1.out HB2.out)
  replace H2 := Lib.hid (SlFl.keep H2.out HB2.out)
  have HLA := Lib.hid hsl
  clear hown1 hown2 hbx hbw1 hbw2 hbox hsl HB0 HK1 HK2 HO0
  generalize l1 ++ l2 = LA at HR2 hll HLA
  obtain ⟨w3, hw3⟩ : ∃ w3, w3 = w2.drew := ⟨_, rfl⟩
  have hb3 : Below w2.heap.size w2 w3 := by rw [hw3]; exact (by repeat (first | (with_reducible exact Below.refl _ _) | (with_reducible refine Below.allocS ?_ _) | (with_reducible refine Below.moreS ?_ _) | (with_reducible refine Below.drew ?_) | (with_reducible refine below_drewN ?_ _)))
  replace H1 := Lib.hid (SlFl.keep H1.out hb3)
  replace H2 := Lib.hid (SlFl.keep H2.out hb3)
  replace HLA := Lib.hid (SlFl.keep HLA.out hb3)
  replace HD := Lib.hid (HD.out.keep hb3)
  have HB3 := Lib.hid (below_step HB2.out hb3)
  clear hb3
  refine grown_start (by kernel_rfl) ?_
  rw [← hw3]
  clear hw3 HB2
  refine grown_take 0 (v := ?_) rfl (by kernel_rfl) (by kernel_rfl) (by kernel_rfl) (fun _ _ _ h => h) (Or.inl ⟨by rfl, ?_⟩) ?_
  rotate_left
  · intro wS hSw; have hSc := hSw.cell; clear hSw; go_simp; try with_reducible rfl
  try simp only [Act.put, List.setIfInBounds_toArray, List.set_cons_zero, List.set_cons_succ]
  refine grown_take 2 (v := ?_) rfl (by kernel_rfl) (by kernel_rfl) (by kernel_rfl) (fun _ _ _ h => h) (Or.inl ⟨by rfl, ?_⟩) ?_
  rotate_left
  · intro wS hSw; have hSc := hSw.cell; clear hSw; go_simp; try with_reducible rfl
  try simp only [Act.put, List.setIfInBounds_toArray, List.set_cons_zero, List.set_cons_succ]
  refine grown_step 1 (by kernel_rfl) rfl (fun K hK => ?_)
  go_simp
  go_wp2_with fail
  refine (HO1.out _ _ _ H1.out).mono ?_
  rintro e w4 ⟨b1, k1, rfl, _, hs, hb⟩
  replace H1 := Lib.hid (SlFl.keep H1.out hb)
  replace H2 := Lib.hid (SlFl.keep H2.out hb)
  replace HLA := Lib.hid (SlFl.keep HLA.out hb)
  have K1 := Lib.hid hs
  clear hs
  replace HD := Lib.hid (HD.out.keep hb)
  have HB4 := Lib.hid (below_step HB3.out hb)
  have HH := Lib.hid hb
  clear hb
  go_wp2_with fail
  refine hK.out _ _ (show Below _ _ _ from HH.out) ?_
  clear hK K HH HB3
  try simp only [Act.put, List.setIfInBounds_toArray, List.set_cons_zero, List.set_cons_succ]
  refine grown_step 3 (by kernel_rfl) rfl (fun K hK => ?_)
  go_simp
  go_wp2_with fail
  refine (HR1.out _ _ _ H1.out).mono ?_
  rintro e w5 ⟨b3, k3, rfl, _, hs, hb⟩
  replace H1 := Lib.hid (SlFl.keep H1.out hb)
  replace H2 := Lib.hid (SlFl.keep H2.out hb)
  replace HLA := Lib.hid (SlFl.keep HLA.out hb)
  replace K1 := Lib.hid (SlFl.keep K1.out hb)
  have K2 := Lib.hid hs
  clear hs
  replace HD := Lib.hid (HD.out.keep hb)
  have HB5 := Lib.hid (below_step HB4.out hb)
  have HH := Lib.hid hb
  clear hb
  go_wp2_with fail
  refine hK.out _ _ (show Below _ _ _ from HH.out) ?_
  clear hK K HH HB4
  try simp only [Act.put, List.setIfInBounds_toArray, List.set_cons_zero, List.set_cons_succ]
  refine grown_step 4 (by kernel_rfl) rfl (fun K hK => ?_)
  go_simp
  go_wp2_with fail
  refine (more_post (HS1.out _ _ _ _ _ K1.out K2.out)).mono ?_
  rintro e w6 ⟨rfl, hb⟩
  replace H1 := Lib.hid (SlFl.keep H1.out hb)
  replace H2 := Lib.hid (SlFl.keep H2.out hb)
  replace HLA := Lib.hid (SlFl.keep HLA.out hb)
  replace K1 := Lib.hid (SlFl.keep K1.out hb)
  replace K2 := Lib.hid (SlFl.keep K2.out hb)
  replace HD := Lib.hid (HD.out.keep hb)
  have HB6 := Lib.hid (below_step HB5.out hb)
  have HH := Lib.hid hb
  clear hb
  go_wp2_with fail
  refine hK.out _ _ (show Below _ _ _ from HH.out) ?_
  clear hK K HH HB5
  try simp only [Act.put, List.setIfInBounds_toArray, List.set_cons_zero, List.set_cons_succ]
  clear K1 K2
  refine grown_take 5 (v := ?_) rfl (by kernel_rfl) (by kernel_rfl) (by kernel_rfl) (fun _ _ _ h => h) (Or.inl ⟨by rfl, ?_⟩) ?_
  rotate_left
  · intro wS hSw; have hSc := hSw.cell; clear hSw; go_simp; try with_reducible rfl
  try simp only [Act.put, List.setIfInBounds_toArray, List.set_cons_zero, List.set_cons_succ]
  refine grown_take 6 (v := ?_) rfl (by kernel_rfl) (by kernel_rfl) (by kernel_rfl) (fun _ _ _ h => h) (Or.inl ⟨by rfl, ?_⟩) ?_
  rotate_left
  · intro wS hSw; have hSc := hSw.cell; clear hSw; go_simp; try with_reducible rfl
  try simp only [Act.put, List.setIfInBounds_toArray, List.set_cons_zero, List.set_cons_succ]
  refine grown_take 7 (v := ?_) rfl (by kernel_rfl) (by kernel_rfl) (by kernel_rfl) (fun _ _ _ h => h) (Or.inl ⟨by rfl, ?_⟩) ?_
  rotate_left
  · intro wS hSw; have hSc := hSw.cell; clear hSw; go_simp; try with_reducible rfl
  try simp only [Act.put, List.setIfInBounds_toArray, List.set_cons_zero, List.set_cons_succ]
  refine grown_take 8 (v := ?_) rfl (by kernel_rfl) (by kernel_rfl) (by kernel_rfl) (fun _ _ _ h => h) (Or.inl ⟨by rfl, ?_⟩) ?_
  rotate_left
  · intro wS hSw; have hSc := hSw.cell; clear hSw; go_simp; try with_reducible rfl
  try simp only [Act.put, List.setIfInBounds_toArray, List.set_cons_zero, List.set_cons_succ]
  refine grown_take 10 (v := ?_) rfl (by kernel_rfl) (by kernel_rfl) (by kernel_rfl) (fun _ _ _ h => h) (Or.inl ⟨by rfl, ?_⟩) ?_
  rotate_left
  · intro wS hSw; have hSc := hSw.cell; clear hSw; go_simp; try with_reducible rfl
  try simp only [Act.put, List.setIfInBounds_toArray, List.set_cons_zero, List.set_cons_succ]
  refine grown_step 9 (by kernel_rfl) rfl (fun K hK => ?_)
  go_simp
  go_wp2_with fail
  refine (HU.out _ _ _ _ _ H1.out H2.out).mono ?_
  rintro e w7 ⟨b9, k9, rfl, _, hs, hb⟩
  replace H1 := Lib.hid (SlFl.keep H1.out hb)
  replace H2 := Lib.hid (SlFl.keep H2.out hb)
  replace HLA := Lib.hid (SlFl.keep HLA.out hb)
  have K3 := Lib.hid hs
  clear hs
  replace HD := Lib.hid (HD.out.keep hb)
  have HB7 := Lib.hid (below_step HB6.out hb)
  have HH := Lib.hid hb
  clear hb
  go_wp2_with fail
  refine hK.out _ _ (show Below _ _ _ from HH.out) ?_
  clear hK K HH HB6
  try simp only [Act.put, List.setIfInBounds_toArray, List.set_cons_zero, List.set_cons_succ]
  refine grown_step 11 (by kernel_rfl) rfl (fun K hK => ?_)
  go_simp
  go_wp2_with fail
  refine (HR2.out _ _ _ HLA.out).mono ?_
  rintro e w8 ⟨b11, k11, rfl, _, hs, hb⟩
  replace H1 := Lib.hid (SlFl.keep H1.out hb)
  replace H2 := Lib.hid (SlFl.keep H2.out hb)
  replace HLA := Lib.hid (SlFl.keep HLA.out hb)
  replace K3 := Lib.hid (SlFl.keep K3.out hb)
  have K4 := Lib.hid hs
  clear hs
  replace HD := Lib.hid (HD.out.keep hb)
  have HB8 := Lib.hid (below_step HB7.out hb)
  have HH := Lib.hid hb
  clear hb
  go_wp2_with fail
  refine hK.out _ _ (show Below _ _ _ from HH.out) ?_
  clear hK K HH HB7
  try simp only [Act.put, List.setIfInBounds_toArray, List.set_cons_zero, List.set_cons_succ]
  refine grown_step 12 (by kernel_rfl) rfl (fun K hK => ?_)
  go_simp
  go_wp2_with fail
  refine (more_post (HS2.out _ _ _ _ _ K3.out K4.out)).mono ?_
  rintro e w9 ⟨rfl, hb⟩
  replace H1 := Lib.hid (SlFl.keep H1.out hb)
  replace H2 := Lib.hid (SlFl.keep H2.out hb)
  replace HLA := Lib.hid (SlFl.keep HLA.out hb)
  replace K3 := Lib.hid (SlFl.keep K3.out hb)
  replace K4 := Lib.hid (SlFl.keep K4.out hb)
  replace HD := Lib.hid (HD.out.keep hb)
  have HB9 := Lib.hid (below_step HB8.out hb)
  have HH := Lib.hid hb
  clear hb
  go_wp2_with fail
  refine hK.out _ _ (show Below _ _ _ from HH.out) ?_
  clear hK K HH HB8
  try simp only [Act.put, List.setIfInBounds_toArray, List.set_cons_zero, List.set_cons_succ]
  clear K3 K4 HLA
  obtain ⟨d0, d1, hks⟩ := HD.out
  refine grown_take 13 (v := ?_) rfl (by kernel_rfl) (by kernel_rfl) (by kernel_rfl) (fun _ _ _ h => h) (Or.inl ⟨by rfl, ?_⟩) ?_
  rotate_left
  · intro wS hSw; have hSc := hSw.cell; clear hSw; go_simp; try with_reducible rfl
  try simp only [Act.put, List.setIfInBounds_toArray, List.set_cons_zero, List.set_cons_succ]
  refine grown_take 14 (v := ?_) rfl (by kernel_rfl) (by kernel_rfl) (by kernel_rfl) (fun _ _ _ h => h) (Or.inl ⟨by rfl, ?_⟩) ?_
  rotate_left
  · intro wS hSw; have hSc := hSw.cell; clear hSw; go_simp; try with_reducible rfl
  try simp only [Act.put, List.setIfInBounds_toArray, List.set_cons_zero, List.set_cons_succ]
  refine grown_take 15 (v := ?_) rfl (by kernel_rfl) (by kernel_rfl) (by kernel_rfl) (fun _ _ _ h => h) (Or.inl ⟨by rfl, ?_⟩) ?_
  rotate_left
  · intro wS hSw; have hSc := hSw.cell; clear hSw; go_simp; try with_reducible rfl
  try simp only [Act.put, List.setIfInBounds_toArray, List.set_cons_zero, List.set_cons_succ]
  refine grown_take 16 (v := ?_) rfl (by kernel_rfl) (by kernel_rfl) (by kernel_rfl) (fun _ _ _ h => h) (Or.inl ⟨by rfl, ?_⟩) ?_
  rotate_left
  · intro wS hSw; have hSc := hSw.cell; clear hSw; go_simp; try with_reducible rfl
  try simp only [Act.put, List.setIfInBounds_toArray, List.set_cons_zero, List.set_cons_succ]
  refine grown_take 17 (v := ?_) rfl (by kernel_rfl) (by kernel_rfl) (by kernel_rfl) (fun _ _ _ h => h) (Or.inl ⟨by rfl, ?_⟩) ?_
  rotate_left
  · intro wS hSw; have hSc := hSw.cell; clear hSw; go_simp; try with_reducible rfl
  try simp only [Act.put, List.setIfInBounds_toArray, List.set_cons_zero, List.set_cons_succ]
  refine grown_take 19 (v := ?_) rfl (by kernel_rfl) (by kernel_rfl) (by kernel_rfl) (fun _ _ _ h => h) (Or.inl ⟨by rfl, ?_⟩) ?_
  rotate_left
  · intro wS hSw; have hSc := hSw.cell; clear hSw; go_simp; try with_reducible rfl
  try simp only [Act.put, List.setIfInBounds_toArray, List.set_cons_zero, List.set_cons_succ]
  refine grown_take 20 (v := ?_) rfl (by kernel_rfl) (by kernel_rfl) (by kernel_rfl) (fun _ _ _ h => h) (Or.inl ⟨by rfl, ?_⟩) ?_
  rotate_left
  · intro wS hSw; have hSc := hSw.cell; clear hSw; go_simp; try with_reducible rfl
  try simp only [Act.put, List.setIfInBounds_toArray, List.set_cons_zero, List.set_cons_succ]
  clear d0 d1 hks
  refine grown_step 18 (by kernel_rfl) rfl (fun K hK => ?_)
  go_simp
  go_wp2_with fail
  refine (more_post (HA1.out _ _ _ H1.out)).mono ?_
  rintro e w10 ⟨rfl, hb⟩
  replace H1 := Lib.hid (SlFl.keep H1.out hb)
  replace H2 := Lib.hid (SlFl.keep H2.out hb)
  replace HD := Lib.hid (HD.out.keep hb)
  have HB10 := Lib.hid (below_step HB9.out hb)
  have HH := Lib.hid hb
  clear hb
  go_wp2_with fail
  refine hK.out _ _ (show Below _ _ _ from HH.out) ?_
  clear hK K HH HB9
  try simp only [Act.put, List.setIfInBounds_toArray, List.set_cons_zero, List.set_cons_succ]
  refine grown_step 21 (by kernel_rfl) rfl (fun K hK => ?_)
  go_simp
  go_wp2_with fail
  refine (more_post (HA2.out _ _ _ H1.out)).mono ?_
  rintro e w11 ⟨rfl, hb⟩
  replace H1 := Lib.hid (SlFl.keep H1.out hb)
  replace H2 := Lib.hid (SlFl.keep H2.out hb)
  replace HD := Lib.hid (HD.out.keep hb)
  have HB11 := Lib.hid (below_step HB10.out hb)
  have HH := Lib.hid hb
  clear hb
  go_wp2_with fail
  refine hK.out _ _ (show Below _ _ _ from HH.out) ?_
  clear hK K HH HB10
  try simp only [Act.put, List.setIfInBounds_toArray, List.set_cons_zero, List.set_cons_succ]
  obtain ⟨d0, d1, hks⟩ := HD.out
  refine grown_take 22 (v := ?_) rfl (by kernel_rfl) (by kernel_rfl) (by kernel_rfl) (fun _ _ _ h => h) (Or.inl ⟨by rfl, ?_⟩) ?_
  rotate_left
  · intro wS hSw; have hSc := hSw.cell; clear hSw; go_simp; try with_reducible rfl
  try simp only [Act.put, List.setIfInBounds_toArray, List.set_cons_zero, List.set_cons_succ]
  refine grown_take 23 (v := ?_) rfl (by kernel_rfl) (by kernel_rfl) (by kernel_rfl) (fun _ _ _ h => h) (Or.inl ⟨by rfl, ?_⟩) ?_
  rotate_left
  · intro wS hSw; have hSc := hSw.cell; clear hSw; go_simp; try with_reducible rfl
  try simp only [Act.put, List.setIfInBounds_toArray, List.set_cons_zero, List.set_cons_succ]
  refine grown_take 24 (v := ?_) rfl (by kernel_rfl) (by kernel_rfl) (by kernel_rfl) (fun _ _ _ h => h) (Or.inl ⟨by rfl, ?_⟩) ?_
  rotate_left
  · intro wS hSw; have hSc := hSw.cell; clear hSw; go_simp; try with_reducible rfl
  try simp only [Act.put, List.setIfInBounds_toArray, List.set_cons_zero, List.set_cons_succ]
  refine grown_take 25 (v := ?_) rfl (by kernel_rfl) (by kernel_rfl) (by kernel_rfl) (fun _ _ _ h => h) (Or.inl ⟨by rfl, ?_⟩) ?_
  rotate_left
  · intro wS hSw; have hSc := hSw.cell; clear hSw; go_simp; try with_reducible rfl
  try simp only [Act.put, List.setIfInBounds_toArray, List.set_cons_zero, List.set_cons_succ]
  refine grown_take 27 (v := ?_) rfl (by kernel_rfl) (by kernel_rfl) (by kernel_rfl) (fun _ _ _ h => h) (Or.inl ⟨by rfl, ?_⟩) ?_
  rotate_left
  · intro wS hSw; have hSc := hSw.cell; clear hSw; go_simp; try with_reducible rfl
  try simp only [Act.put, List.setIfInBounds_toArray, List.set_cons_zero, List.set_cons_succ]
  clear d0 d1 hks
  refine grown_step 26 (by kernel_rfl) rfl (fun K hK => ?_)
  go_simp
  go_wp2_with fail
  refine (more_post (HQ1.out _)).mono ?_
  rintro e w12 ⟨rfl, hb⟩
  replace H1 := Lib.hid (SlFl.keep H1.out hb)
  replace H2 := Lib.hid (SlFl.keep H2.out hb)
  replace HD := Lib.hid (HD.out.keep hb)
  have HB12 := Lib.hid (below_step HB11.out hb)
  have HH := Lib.hid hb
  clear hb
  go_wp2_with fail
  refine hK.out _ _ (show Below _ _ _ from HH.out) ?_
  clear hK K HH HB11
  try simp only [Act.put, List.setIfInBounds_toArray, List.set_cons_zero, List.set_cons_succ]
  refine grown_step 28 (by kernel_rfl) rfl (fun K hK => ?_)
  go_simp
  go_wp2_with fail
  refine (more_post (HQ2.out _)).mono ?_
  rintro e w13 ⟨rfl, hb⟩
  replace H1 := Lib.hid (SlFl.keep H1.out hb)
  replace H2 := Lib.hid (SlFl.keep H2.out hb)
  replace HD := Lib.hid (HD.out.keep hb)
  have HB13 := Lib.hid (below_step HB12.out hb)
  have HH := Lib.hid hb
  clear hb
  go_wp2_with fail
  refine hK.out _ _ (show Below _ _ _ from HH.out) ?_
  clear hK K HH HB12
  try simp only [Act.put, List.setIfInBounds_toArray, List.set_cons_zero, List.set_cons_succ]
  refine grown_take 29 (v := ?_) rfl (by kernel_rfl) (by kernel_rfl) (by kernel_rfl) (fun _ _ _ h => h) (Or.inl ⟨by rfl, ?_⟩) ?_
  rotate_left
  · intro wS hSw; have hSc := hSw.cell; clear hSw; go_simp; try with_reducible rfl
  try simp only [Act.put, List.setIfInBounds_toArray, List.set_cons_zero, List.set_cons_succ]
  refine grown_take 30 (v := ?_) rfl (by kernel_rfl) (by kernel_rfl) (by kernel_rfl) (fun _ _ _ h => h) (Or.inl ⟨by rfl, ?_⟩) ?_
  rotate_left
  · intro wS hSw; have hSc := hSw.cell; clear hSw; go_simp; try with_reducible rfl
  try simp only [Act.put, List.setIfInBounds_toArray, List.set_cons_zero, List.set_cons_succ]
  refine wpAnyH_done (by kernel_rfl) ?_ _
  go_wp2_with fail
  go_loopg [57] l2.length (fun q i wr => ∃ k : Nat, k + q = l2.length ∧ i = .int .i64 k ∧ Below w13.heap.size w13 wr)
  case atStart => exact ⟨0, by omega, rfl, Below.refl _ _⟩
  case round =>
    obtain ⟨k, hkq, rfl, hb⟩ := hrel
    have HB := Lib.hid hb
    have HK := Lib.hid hkq
    have HDr := Lib.hid (HD.out.keep hb)
    by_cases hlt : k < l2.length
    · obtain ⟨b, off, ha, hbb, c00, c01⟩ := SlR.atFl H2.out hlt
      subst ha
      have c0 : wr.cell? ⟨b, off + k * 2, none⟩ = some (.int .i64 l2[k].scope) := (hb.cell (p := ⟨b, off + k * 2, none⟩) hbb).trans c00
      have c1 : wr.cell? ⟨b, off + k * 2 + 1, none⟩ = some (.int .i64 l2[k].code) := (hb.cell (p := ⟨b, off + k * 2 + 1, none⟩) hbb).trans c01
      have hbx : b < wr.heap.size := Nat.lt_of_lt_of_le hbb hb.size
      generalize l2[k] = x at c0 c1
      obtain ⟨xs, xc⟩ := x
      have HL1 := Lib.hid (HLS.out xs xc)
      have HL2 := Lib.hid (HLD.out xs xc)
      generalize ltFl ⟨s, c⟩ ⟨xs, xc⟩ = r at HL1 HL2
      obtain ⟨e0, e1, hks⟩ := HDr.out
      clear c00 c01 hb hkq
      go_wp2_with fail
      obtain ⟨wk, hwk⟩ : ∃ wk, wk = wr.alloc (.cells #[.int .i64 xs, .int .i64 xc] 28) := ⟨_, rfl⟩
      have hbk : Below wr.heap.size wr wk := by rw [hwk]; exact (by repeat (first | (with_reducible exact Below.refl _ _) | (with_reducible refine Below.allocS ?_ _) | (with_reducible refine Below.moreS ?_ _) | (with_reducible refine Below.drew ?_) | (with_reducible refine below_drewN ?_ _)))
      have f0 : wk.cell? ⟨wr.heap.size, 0, none⟩ = some (.int .i64 xs) := by rw [hwk]; go_simp
      have f1 : wk.cell? ⟨wr.heap.size, 1, none⟩ = some (.int .i64 xc) := by rw [hwk]; go_simp
      have hkw : wr.heap.size < wk.heap.size := by rw [hwk]; simp
      obtain ⟨d0, d1, hkd⟩ := BoxAt.keep HDr.out hbk
      have HBK := Lib.hid hbk
      rw [← hwk]
      clear hwk hbk e0 e1 hks c0 c1
      cases r
      all_goals
        go_wp2_with fail
        refine wp_region_more (by kernel_rfl) (by kernel_rfl) ?_
        repeat (go_big_quiet_step (first | (go_at_call 16; with_reducible exact more_of (HL1.out _)) | (go_at_call 17; with_reducible exact more_of (HL2.out _))))
        refine wpQuiet_nil ?_
        intro w' hw'
        obtain ⟨j, rfl⟩ := hw'
        go_wp2_with fail
        go_roundg (l2.length - (k + 1))
        case measure => have := HK.out; omega
        case rel => exact ⟨k + 1, by have := HK.out; omega, by go_num, HB.out.trans ((HBK.out.moreS _).mono HB.out.size)⟩
    · replace H1 := Lib.hid (SlFl.keep H1.out HB.out)
      replace H2 := Lib.hid (SlFl.keep H2.out HB.out)
      have HB1 := Lib.hid (below_step HB13.out HB.out)
      clear hb hkq HDr
      go_wp2_with fail
      refine (more_post (HE1.out _ _ _ _ _ H1.out H2.out)).mono ?_
      rintro e wb ⟨rfl, hb⟩
      replace H1 := Lib.hid (SlFl.keep H1.out hb)
      replace H2 := Lib.hid (SlFl.keep H2.out hb)
      have HB2 := Lib.hid (below_step HB1.out hb)
      clear hb
      go_wp2_with fail
      refine (more_post (HE2.out _ _ _ _ _ H1.out H2.out)).mono ?_
      rintro e wc ⟨rfl, hb⟩
      replace H1 := Lib.hid (SlFl.keep H1.out hb)
      have HB3 := Lib.hid (below_step HB2.out hb)
      clear hb
      go_wp2_with fail
      refine (more_post (HE3.out _ _ _ _ _ H1.out H1.out)).mono ?_
      rintro e wd ⟨rfl, hb⟩
      have HB4 := Lib.hid (below_step HB3.out hb)
      clear hb
      go_wp2_with fail
      refine (HAL.out _ (HF.out.below HB4.out)).mono ?_
      rintro e wf ⟨rfl, j, rfl⟩
      have HB5 := Lib.hid (below_step HB4.out (below_more _ j))
      go_wp2_with fail
      go_ret
      exact ⟨rfl, HB5.out.junk⟩
end Go.Proofs.YtamklaehaadiaaaDoor
