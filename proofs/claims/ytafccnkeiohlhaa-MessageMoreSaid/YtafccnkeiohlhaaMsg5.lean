/-
  The law MessageMore.
-/
import Derived.Test.YtafccnkeiohlhaaMsg4
import Derived.Test.YtafccnkeiohlhaaLenOth
import Derived.Test.YtafccnkeiohlhaaApp2
namespace Go.Proofs.Ytafccnkeiohlhaa
open Go.ChangeShapes Go.WideShapes Go.ChangeAt Go.RowKit Go.Deep Go.Shelf

/-! The plain law. -/
theorem begF_behind (kind : Int) (l : List Fd) (f : Fd) (h : startsF f.name = false) : begF kind (l ++ [f]) = begF kind l := by
  have h1 : ∀ g ∈ [f], startsF g.name = false := by intro g hg; simp at hg; subst hg; exact h
  have h2 : trailerF (l ++ [f]) = trailerF l := by simp [trailerF, h]
  simp only [begF, refReq_behind l h1, refRes_behind l h1, h2]
theorem lenF_behind (l : List Fd) (f : Fd) (h : f.name ≠ contentLength) : lenF (l ++ [f]) = lenF l := by
  rw [lenF_other l [] f h, List.append_nil]
def oneF (f : Fd) : Int := if fieldF f = true then (if msgBar f = true then 29 else 0) else 28
theorem oneF_eq (f : Fd) : ownF [f] = oneF f := by rw [ownF_eq]; simp [oneF]
theorem chk_one (f : Fd) (h : startsF f.name = false) (hc : f.name ≠ contentLength) : chkF 2 [f] = (noMs, oneF f) := by
  have hb : begF 2 [f] = (noHd, true) := by simp [begF, trailerF, h]
  have hl : lenF [f] = (0, false, true) := by unfold lenF; rw [lenGo_skip hc]; rfl
  unfold chkF
  rw [hb, hl, oneF_eq]
  by_cases h0 : oneF f = 0
  · rw [h0, chk_ok (kind := 2) rfl rfl (by simp)]
  · rw [chk_own h0]
theorem own_more0 (l : List Fd) (f : Fd) (h : oneF f = 0) : ownF (l ++ [f]) = ownF l := by
  have h1 : fieldF f = true := by cases e : fieldF f <;> simp [oneF, e] at h ⊢
  have h2 : msgBar f = false := by cases e : msgBar f <;> simp [oneF, e, h1] at h ⊢
  rw [ownF_eq, ownF_eq]; simp [h1, h2]
theorem own_more1 (l : List Fd) (f : Fd) (h : oneF f ≠ 0) : ownF (l ++ [f]) ≠ 0 := by
  rw [ownF_eq]
  cases e1 : fieldF f
  · simp [e1]
  · cases e2 : msgBar f
    · simp [oneF, e1, e2] at h
    · rw [List.all_append, List.any_append]
      cases l.all fieldF <;> cases l.any msgBar <;> simp [e1, e2]
theorem own_more2 (l : List Fd) (f : Fd) (h : ownF l = 0) : ownF (l ++ [f]) = oneF f := by
  rw [ownF_eq] at h ⊢
  cases e3 : l.all fieldF <;> cases e4 : l.any msgBar <;> cases e1 : fieldF f <;> cases e2 : msgBar f <;> simp_all [oneF]
theorem chk_zero {kind : Int} {l : List Fd} (h : (chkF kind l).2 = 0) : ownF l = 0 := by
  by_cases h0 : ownF l = 0
  · exact h0
  · unfold chkF at h; rw [chk_own h0] at h; exact h
theorem chk_more0 (kind : Int) (l : List Fd) (f : Fd) (h : startsF f.name = false) (hc : f.name ≠ contentLength) (h0 : oneF f = 0) : chkF kind (l ++ [f]) = chkF kind l := by
  unfold chkF; rw [begF_behind kind l f h, lenF_behind l f hc, own_more0 l f h0]
theorem chk_more1 (kind : Int) (l : List Fd) (f : Fd) (h0 : oneF f ≠ 0) : ∃ d, d ≠ 0 ∧ chkF kind (l ++ [f]) = (noMs, d) ∧ ((chkF kind l).2 = 0 → d = oneF f) := by
  refine ⟨ownF (l ++ [f]), own_more1 l f h0, ?_, fun h => own_more2 l f (chk_zero h)⟩
  unfold chkF; rw [chk_own (own_more1 l f h0)]

set_option maxHeartbeats 4000000 in
set_option maxRecDepth 100000 in
theorem messageMore_law (kind : Int) (a : Option Addr) (cap : Nat) (l : List Fd) (f : Fd) (w : World) (_hlo : -9223372036854775808 ≤ kind) (_hhi : kind ≤ 9223372036854775807) (_hc : l.length ≤ cap) (hm : l.length ≤ maxLen) (hs : SlF w w.heap.size a l) (hn : f.name.length ≤ maxLen) (hv : f.value.length ≤ maxLen) :
    Calls Try.prog 14 #[.int .i64 kind, .slice a l.length cap, .agg #[bstr f.name, bstr f.value, .bool f.never]] w fun e w' => e = .returned (.bool true) ∧ Below w.heap.size w w' := by
  unfold maxLen at hn hv
  have hs1 := hs.below ((Below.refl w.heap.size w).alloc (Nat.le_refl _) (.cells #[bstr f.name, bstr f.value, .bool f.never] 33)) (Nat.le_refl _)
  have hW0 : Below w.heap.size w (w.alloc (.cells #[bstr f.name, bstr f.value, .bool f.never] 33)) := (Below.refl _ _).alloc (Nat.le_refl _) _
  have HA : ∀ W, Below w.heap.size w W → Calls Try.prog 53 #[] W fun e w' => e = .returned (.bool true) ∧ Below w.heap.size w w' := fun W h => (law28_alive W).mono fun e w' ⟨he, hb⟩ => ⟨he, h.trans (hb.mono h.size)⟩
  have HAL := Lib.hid HA
  clear HA
  by_cases hok : largeF l 60 200 = false ∧ (f.name.length : Int) ≤ 200 ∧ (f.value.length : Int) ≤ 200 ∧ (f.name.length : Int) ≠ 0 ∧ startsF f.name = false ∧ (f.name == contentLength) = false
  case neg =>
    obtain ⟨name, value, never⟩ := f
    simp only at hok hn hv hs1 hW0 ⊢
    rcases name with _ | ⟨c, r⟩
    · cases hL : largeF l 60 200 <;> by_cases o2 : (value.length : Int) ≤ 200
      all_goals
        go_enter Try.func14, Try.ntmps14
        go_wp2_with (first
          | (go_at_call 19; refine (ref21_Large _ _ _ _ _ _ _ hm hs1).mono ?_; rintro e w1 ⟨rfl, rfl⟩; rw [hL])
          | (go_at_call 53; refine (HAL.out _ hW0).mono ?_; rintro e w1 ⟨rfl, hb⟩))
        go_ret
        exact ⟨rfl, hb⟩
    · cases hL : largeF l 60 200 with
      | true =>
        go_enter Try.func14, Try.ntmps14
        go_wp2_with (first
          | (go_at_call 19; refine (ref21_Large _ _ _ _ _ _ _ hm hs1).mono ?_; rintro e w1 ⟨rfl, rfl⟩; rw [hL])
          | (go_at_call 53; refine (HAL.out _ hW0).mono ?_; rintro e w1 ⟨rfl, hb⟩))
        all_goals first
          | (exfalso; omega)
          | (go_ret
             exact ⟨rfl, hb⟩)
      | false =>
      by_cases o1 : 200 < (r.length : Int) + 1
      · skip
        go_enter Try.func14, Try.ntmps14
        go_wp2_with (first
          | (go_at_call 19; refine (ref21_Large _ _ _ _ _ _ _ hm hs1).mono ?_; rintro e w1 ⟨rfl, rfl⟩; rw [hL])
          | (go_at_call 53; refine (HAL.out _ hW0).mono ?_; rintro e w1 ⟨rfl, hb⟩))
        all_goals first
          | (exfalso; omega)
          | (go_ret
             exact ⟨rfl, hb⟩)
      by_cases o2 : 200 < (value.length : Int)
      · skip
        go_enter Try.func14, Try.ntmps14
        go_wp2_with (first
          | (go_at_call 19; refine (ref21_Large _ _ _ _ _ _ _ hm hs1).mono ?_; rintro e w1 ⟨rfl, rfl⟩; rw [hL])
          | (go_at_call 53; refine (HAL.out _ hW0).mono ?_; rintro e w1 ⟨rfl, hb⟩))
        all_goals first
          | (exfalso; omega)
          | (go_ret
             exact ⟨rfl, hb⟩)
      by_cases o4 : (c.toNat : Int) = 58
      · skip
        go_enter Try.func14, Try.ntmps14
        go_wp2_with (first
          | (go_at_call 19; refine (ref21_Large _ _ _ _ _ _ _ hm hs1).mono ?_; rintro e w1 ⟨rfl, rfl⟩; rw [hL])
          | (go_at_call 53; refine (HAL.out _ hW0).mono ?_; rintro e w1 ⟨rfl, hb⟩))
        all_goals first
          | (exfalso; omega)
          | (go_ret
             exact ⟨rfl, hb⟩)
      cases hC : ((c :: r) == contentLength) with
      | true =>
        have o4' : ((c.toNat : Int) == 58) = false := by simpa using o4
        go_enter Try.func14, Try.ntmps14
        go_wp2_with (first
          | (go_at_call 19; refine (ref21_Large _ _ _ _ _ _ _ hm hs1).mono ?_; rintro e w1 ⟨rfl, rfl⟩; rw [hL])
          | (go_at_call 53; refine (HAL.out _ hW0).mono ?_; rintro e w1 ⟨rfl, hb⟩))
        all_goals first
          | (exfalso; omega)
          | (go_ret
             exact ⟨rfl, hb⟩)
      | false => exact absurd ⟨hL, by simp; omega, by omega, by simp; omega, by simpa [startsF] using o4, hC⟩ hok
  obtain ⟨hL, o1, o2, o3, hst, hC⟩ := hok
  have hlen := small_of hL
  have hvs := small_vals hL
  have hcn : f.name ≠ contentLength := by simpa using hC
  have hbl := slF_bounds hs
  have hml : (l ++ [f]).length = l.length + 1 := by simp
  have hbd : ∀ y ∈ l ++ [f], y.name.length ≤ maxLen ∧ y.value.length ≤ maxLen := by
    intro y hy
    rcases List.mem_append.1 hy with hy | hy
    · exact hbl y hy
    · simp at hy; subst hy; exact ⟨hn, hv⟩
  have hvs2 : ∀ y ∈ l ++ [f], y.value.length ≤ 1048576 := by
    intro y hy
    rcases List.mem_append.1 hy with hy | hy
    · exact hvs y hy
    · simp at hy; subst hy; omega
  have T1 : Calls Try.prog 54 #[.int .i64 kind, .slice a l.length cap] (w.alloc (.cells #[bstr f.name, bstr f.value, .bool f.never] 33)) fun e w' => e = .returned (.tuple #[msVal (chkF kind l).1, .int .i64 (chkF kind l).2]) ∧ Below (w.alloc (.cells #[bstr f.name, bstr f.value, .bool f.never] 33)).heap.size (w.alloc (.cells #[bstr f.name, bstr f.value, .bool f.never] 33)) w' := message_Check kind a cap w.heap.size l _ hm hW0.size hs1 hvs
  have T3 : ∀ (a' : Option Addr) (cap' B : Nat) (W : World), B ≤ W.heap.size → SlF W B a' (l ++ [f]) → Calls Try.prog 54 #[.int .i64 kind, .slice a' (l.length + 1) cap'] W fun e w' => e = .returned (.tuple #[msVal (chkF kind (l ++ [f])).1, .int .i64 (chkF kind (l ++ [f])).2]) ∧ Below W.heap.size W w' := fun a' cap' B W hB hs' => by
    have := message_Check kind a' cap' B (l ++ [f]) W (by rw [hml]; unfold maxLen; omega) hB hs' hvs2
    rw [hml] at this
    exact this
  have T5 : ∀ (W : World) (B : Nat) (a' : Option Addr), B ≤ W.heap.size → SlF W B a' [f] → Calls Try.prog 55 #[.int .i64 2, .slice a' 1 1] W fun e w' => e = .returned (.tuple #[msVal noMs, .int .i64 (oneF f)]) ∧ Below W.heap.size W w' := fun W B a' hB hs' => (ref28_Check 2 a' 1 B [f] W (by simp) hB hs' (by intro y hy; simp at hy; subst hy; omega)).mono fun e w' ⟨he, hb⟩ => ⟨by rw [he, chk_one f hst hcn], hb⟩
  have sp0 : oneF f = 0 → chkF kind (l ++ [f]) = chkF kind l := chk_more0 kind l f hst hcn
  have sp1 : oneF f ≠ 0 → ∃ d, d ≠ 0 ∧ chkF kind (l ++ [f]) = (noMs, d) ∧ ((chkF kind l).2 = 0 → d = oneF f) := chk_more1 kind l f
  generalize chkF kind l = p at T1 sp0 sp1
  generalize chkF kind (l ++ [f]) = q at T3 sp0 sp1
  generalize oneF f = o at T5 sp0 sp1
  have H1 := Lib.hid T1
  have H3 := Lib.hid T3
  have H5 := Lib.hid T5
  have S0 := Lib.hid sp0
  have S1 := Lib.hid sp1
  have HBD := Lib.hid hbd
  have HN := Lib.hid (And.intro hn hv)
  have HML := Lib.hid hml
  have ob : ∀ (y : Fd), ∀ u ∈ y.cells, u.oneCell' = true := by intro y u hu; simp [Fd.cells] at hu; rcases hu with rfl | rfl | rfl <;> rfl
  have OB := Lib.hid ob
  have hstn : f.name = [] → False := fun h => o3 (by rw [h]; rfl)
  obtain ⟨name, value, never⟩ := f
  rcases name with _ | ⟨c, r⟩
  · exact absurd rfl hstn
  have hc58 : ((c.toNat : Int) == 58) = false := by simpa [startsF] using hst
  have o1' : (r.length : Int) + 1 ≤ 200 := by simpa using o1
  have o3' : ((r.length : Int) + 1 == 0) = false := by simp; omega
  obtain ⟨h, r0⟩ := p
  clear T1 T3 T5 sp0 sp1 hbd hvs hvs2 hbl hcn hml ob hstn hst o3 o1
  simp only at o2 hC hs1 hW0 ⊢
  go_enter Try.func14, Try.ntmps14
  go_wp2_with fail
  refine (ref21_Large _ _ _ _ _ _ _ hm hs1).mono ?_
  rintro e w1 ⟨rfl, rfl⟩
  rw [hL]
  go_wp2_with fail
  refine H1.out.mono ?_
  rintro e y1 ⟨rfl, hby1⟩
  have zy1 := hby1.size
  obtain ⟨X1, hX1⟩ : ∃ X, X = y1.alloc (.cells #[bstr h.method, .int .i64 h.status, .int .i64 h.n, .bool h.told] 68) := ⟨_, rfl⟩
  have B1 : Blk X1 y1.heap.size 68 #[bstr h.method, .int .i64 h.status, .int .i64 h.n, .bool h.told] := hX1 ▸ Blk.new _ _ _
  have hpx1 : Below (w.alloc (.cells #[bstr (c :: r), bstr value, .bool never] 33)).heap.size (w.alloc (.cells #[bstr (c :: r), bstr value, .bool never] 33)) X1 := hX1 ▸ hby1.alloc zy1 _
  have BF := (Blk.new w 33 #[bstr (c :: r), bstr value, .bool never]).below hpx1 (by simp)
  have hbX1 := hW0.trans (hpx1.mono hW0.size)
  have zX1 := hbX1.size
  have hsX := hs.below hbX1 (Nat.le_refl _)
  have HX1 := Lib.hid hX1
  clear hX1 hby1 hpx1 hs1 H1
  obtain ⟨p0, p1, p2, _, _, _, _⟩ := BF.three
  go_wp2_with fail
  rw [← HX1.out]
  have hbLA : Below X1.heap.size X1 (X1.alloc (.cells #[] 33)).drew := ((Below.refl X1.heap.size X1).alloc (Nat.le_refl _) _).drew
  have hoLA : (X1.alloc (.cells #[] 33)).drew.ownsRow X1.heap.size 33 3 (.slice (some ⟨X1.heap.size, 0, none⟩) 0 0) 0 [] := World.ownsRow_lit (base := X1.heap.size) (e := 33) (size := 3) X1 #[] 0 (Nat.le_refl _) (by decide) rfl
  have hbLB : Below X1.heap.size X1 ((X1.alloc (.cells #[] 33)).alloc (.cells #[bstr (c :: r), bstr value, .bool never] 33)).drew := (((Below.refl X1.heap.size X1).alloc (Nat.le_refl _) _).alloc (by simp) _).drew
  have hoLB : ((X1.alloc (.cells #[] 33)).alloc (.cells #[bstr (c :: r), bstr value, .bool never] 33)).drew.ownsRow X1.heap.size 33 3 (.slice (some ⟨X1.heap.size, 0, none⟩) 0 0) 0 [] := (World.ownsRow_lit (base := X1.heap.size) (e := 33) (size := 3) X1 #[] 0 (Nat.le_refl _) (by decide) rfl).alloc _
  have BNB : Blk ((X1.alloc (.cells #[] 33)).alloc (.cells #[bstr (c :: r), bstr value, .bool never] 33)).drew (X1.heap.size + 1) 33 #[bstr (c :: r), bstr value, .bool never] := (Blk.at_ _ _ _ (by simp)).drew
  have hbLC : Below X1.heap.size X1 ((X1.alloc (.cells #[bstr (c :: r), bstr value, .bool never] 33)).alloc (.cells #[] 33)).drew := (((Below.refl X1.heap.size X1).alloc (Nat.le_refl _) _).alloc (by simp) _).drew
  have hoLC : ((X1.alloc (.cells #[bstr (c :: r), bstr value, .bool never] 33)).alloc (.cells #[] 33)).drew.ownsRow X1.heap.size 33 3 (.slice (some ⟨X1.heap.size + 1, 0, none⟩) 0 0) 0 [] := by
    have := World.ownsRow_lit (base := X1.heap.size) (e := 33) (size := 3) (X1.alloc (.cells #[bstr (c :: r), bstr value, .bool never] 33)) #[] 0 (by simp) (by decide) rfl
    rw [World.size_alloc] at this
    exact this
  have BNC : Blk ((X1.alloc (.cells #[bstr (c :: r), bstr value, .bool never] 33)).alloc (.cells #[] 33)).drew X1.heap.size 33 #[bstr (c :: r), bstr value, .bool never] := ((Blk.new _ _ _).alloc _).drew
  go_region_held3 (fun w' => w'.cell? ⟨w.heap.size, 0, none⟩ = some (bstr (c :: r)) ∧ w'.cell? ⟨w.heap.size, 1, none⟩ = some (bstr value) ∧ w'.cell? ⟨w.heap.size, 2, none⟩ = some (.bool never)) (go_keep)
    (first
      | (refine step_app_sl st_fields (.tmp 52) (.tmp 53) rfl rfl (base := X1.heap.size) (v := .slice (some ⟨X1.heap.size, 0, none⟩) 0 0) rfl hoLA rfl rfl (hsX.below hbLA zX1) (fun y _ => fd_cells y) (fun _ _ => rfl) (fun y _ => OB.out y) ?_ ?_ ?_ ?_
         · unfold maxLen; omega
         · omega
         · simp only [World.size_drew, World.size_alloc]; omega
         intro v2 w2 hown2 hg2
         have hb2 := own_grown hbLA hoLA hg2 (Nat.le_refl _) (by simp only [World.size_drew, World.size_alloc]; omega)
         have BN := hbLA
         have hz2 := hb2.size
         obtain ⟨q0, q1, q2, _, _, _, _⟩ := (BF.below hb2 BF.lt).three
         clear hg2)
      | (refine step_app_sl st_fields (.tmp 52) (.tmp 53) rfl rfl (base := X1.heap.size) (v := .slice (some ⟨X1.heap.size, 0, none⟩) 0 0) rfl hoLB rfl rfl (hsX.below hbLB zX1) (fun y _ => fd_cells y) (fun _ _ => rfl) (fun y _ => OB.out y) ?_ ?_ ?_ ?_
         · unfold maxLen; omega
         · omega
         · simp only [World.size_drew, World.size_alloc]; omega
         intro v2 w2 hown2 hg2
         have hb2 := own_grown hbLB hoLB hg2 (Nat.le_refl _) (by simp only [World.size_drew, World.size_alloc]; omega)
         have BN := BNB.grown hg2 (by simp [Value.ownBlock])
         have hz2 := hb2.size
         obtain ⟨q0, q1, q2, _, _, _, _⟩ := (BF.below hb2 BF.lt).three
         clear hg2)
      | (refine step_app_sl st_fields (.tmp 52) (.tmp 53) rfl rfl (base := X1.heap.size) (v := .slice (some ⟨X1.heap.size + 1, 0, none⟩) 0 0) rfl hoLC rfl rfl (hsX.below hbLC zX1) (fun y _ => fd_cells y) (fun _ _ => rfl) (fun y _ => OB.out y) ?_ ?_ ?_ ?_
         · unfold maxLen; omega
         · omega
         · simp only [World.size_drew, World.size_alloc]; omega
         intro v2 w2 hown2 hg2
         have hb2 := own_grown hbLC hoLC hg2 (Nat.le_refl _) (by simp only [World.size_drew, World.size_alloc]; omega)
         have BN := BNC.grown hg2 (by simp [Value.ownBlock])
         have hz2 := hb2.size
         obtain ⟨q0, q1, q2, _, _, _, _⟩ := (BF.below hb2 BF.lt).three
         clear hg2)
      | (refine step_app st_fields (.tmp 54) (.tmp 56) rfl rfl rfl (hown2.alloc _) rfl (Blk.new _ _ _) rfl (by simp [Value.oneCell']) ?_ ?_ ?_ ?_
         · unfold maxLen; omega
         · omega
         · simp; omega
         intro v3 w3 hown3 hg3
         have hb3 := own_grown (hb2.alloc hz2 _) (hown2.alloc _) hg3 (Nat.le_refl _) (by simp; omega)
         obtain ⟨q0, q1, q2, _, _, _, _⟩ := (BF.below hb3 BF.lt).three
         clear hg3)
      | (refine step_app st_fields (.tmp 54) (.tmp 56) rfl rfl rfl hown2 rfl BN rfl (by simp [Value.oneCell']) ?_ ?_ ?_ ?_
         · unfold maxLen; omega
         · omega
         · omega
         intro v3 w3 hown3 hg3
         have hb3 := own_grown hb2 hown2 hg3 (Nat.le_refl _) (by omega)
         obtain ⟨q0, q1, q2, _, _, _, _⟩ := (BF.below hb3 BF.lt).three
         clear hg3))
  all_goals
    have hown3' : w3.ownsRow X1.heap.size 33 3 v3 (l ++ [(⟨c :: r, value, never⟩ : Fd)]).length ((l ++ [(⟨c :: r, value, never⟩ : Fd)]).flatMap Fd.cells) := by simpa [Fd.cells] using hown3
    obtain ⟨a3, cap3, hv3, hs3⟩ := own_slF hown3' rfl rfl HBD.out
    rw [HML.out] at hv3
    subst hv3
    have hbw3 := hbX1.trans (hb3.mono zX1)
    have BF3 := BF.below hb3 BF.lt
    have B13 := B1.below hb3 B1.lt
    have z3 := hbw3.size
    clear hown3 hown3' hown2 hb2 hb3 hbLA hbLB hbLC hoLA hoLB hoLC BNB BNC
    go_wp2_with fail
    refine (H3.out a3 cap3 w3.heap.size w3 (Nat.le_refl _) hs3).mono ?_
    rintro e w4 ⟨rfl, hb4⟩
    have hbw4 := hbw3.trans (hb4.mono z3)
    have BF4 := BF3.below hb4 BF3.lt
    have B14 := B13.below hb4 B13.lt
    have z4 := hbw4.size
    clear hb4 BF3 B13 hs3
    have cases4 : (o = 0 ∧ r0 = 0 ∧ q = (h, 0)) ∨ (o = 0 ∧ r0 ≠ 0 ∧ q = (h, r0)) ∨ (o ≠ 0 ∧ r0 = 0 ∧ q = (noMs, o)) ∨ (o ≠ 0 ∧ r0 ≠ 0 ∧ ∃ d, d ≠ 0 ∧ q = (noMs, d)) := by
      by_cases ho : o = 0 <;> by_cases hr : r0 = 0
      · exact .inl ⟨ho, hr, hr ▸ S0.out ho⟩
      · exact .inr (.inl ⟨ho, hr, S0.out ho⟩)
      · obtain ⟨d, hd, e1, e2⟩ := S1.out ho
        exact .inr (.inr (.inl ⟨ho, hr, by rw [e1, e2 hr]⟩))
      · obtain ⟨d, hd, e1, _⟩ := S1.out ho
        exact .inr (.inr (.inr ⟨ho, hr, d, hd, e1⟩))
    clear S0 S1 H3
    rcases cases4 with ⟨rfl, rfl, rfl⟩ | ⟨rfl, hr, rfl⟩ | ⟨ho, rfl, rfl⟩ | ⟨ho, hr, d, hd, rfl⟩
    · have BFq := BF4.alloc (.cells #[bstr h.method, .int .i64 h.status, .int .i64 h.n, .bool h.told] 68)
      obtain ⟨q0, q1, q2, _, _, _, _⟩ := BFq.three
      have hbq := hbw4.alloc z4 (.cells #[bstr h.method, .int .i64 h.status, .int .i64 h.n, .bool h.told] 68)
      have zq := hbq.size
      have hs5 : SlF ((w4.alloc (.cells #[bstr h.method, .int .i64 h.status, .int .i64 h.n, .bool h.told] 68)).alloc (.cells #[bstr (c :: r), bstr value, .bool never] 33)) (w4.heap.size + 2) (some ⟨w4.heap.size + 1, 0, none⟩) [(⟨c :: r, value, never⟩ : Fd)] := slF_new (Blk.at_ _ _ _ (by simp)) rfl (by simp only [List.all_cons, List.all_nil, Bool.and_true, decide_eq_true_eq, Bool.and_eq_true]; exact HN.out)
      go_wp2_with fail
      refine (H5.out _ _ _ (by simp) hs5).mono ?_
      rintro e w5 ⟨rfl, hb5⟩
      have hb5' : Below w4.heap.size w4 w5 := (((Below.refl w4.heap.size w4).alloc (Nat.le_refl _) _).alloc (by simp) _).trans (hb5.mono (by simp; omega))
      have hbw5 := hbw4.trans (hb5'.mono z4)
      have BQ5 := ((Blk.new w4 68 #[bstr h.method, .int .i64 h.status, .int .i64 h.n, .bool h.told]).alloc (.cells #[bstr (c :: r), bstr value, .bool never] 33)).below hb5 (by simp; omega)
      have B15 := (B14.below hb5' B14.lt).alloc (.cells #[bstr [], .int .i64 0, .int .i64 0, .bool false] 72)
      have hbw6 := hbw5.alloc hbw5.size (.cells #[bstr [], .int .i64 0, .int .i64 0, .bool false] 72)
      obtain ⟨⟨k0, k1, k2, k3⟩, _, _⟩ := B15.all4
      obtain ⟨⟨j0, j1, j2, j3⟩, _, _⟩ := (BQ5.alloc (.cells #[bstr [], .int .i64 0, .int .i64 0, .bool false] 72)).all4
      clear q0 q1 q2 hs5 BFq hb5 hb5'
      go_wp2_with (go_at_call 53; refine (HAL.out _ hbw6).mono ?_; rintro e w6 ⟨rfl, hb6⟩)
      go_ret
      exact ⟨rfl, hb6⟩
    · have BFq := BF4.alloc (.cells #[bstr h.method, .int .i64 h.status, .int .i64 h.n, .bool h.told] 68)
      obtain ⟨q0, q1, q2, _, _, _, _⟩ := BFq.three
      have hbq := hbw4.alloc z4 (.cells #[bstr h.method, .int .i64 h.status, .int .i64 h.n, .bool h.told] 68)
      have zq := hbq.size
      have hs5 : SlF ((w4.alloc (.cells #[bstr h.method, .int .i64 h.status, .int .i64 h.n, .bool h.told] 68)).alloc (.cells #[bstr (c :: r), bstr value, .bool never] 33)) (w4.heap.size + 2) (some ⟨w4.heap.size + 1, 0, none⟩) [(⟨c :: r, value, never⟩ : Fd)] := slF_new (Blk.at_ _ _ _ (by simp)) rfl (by simp only [List.all_cons, List.all_nil, Bool.and_true, decide_eq_true_eq, Bool.and_eq_true]; exact HN.out)
      go_wp2_with fail
      refine (H5.out _ _ _ (by simp) hs5).mono ?_
      rintro e w5 ⟨rfl, hb5⟩
      have hb5' : Below w4.heap.size w4 w5 := (((Below.refl w4.heap.size w4).alloc (Nat.le_refl _) _).alloc (by simp) _).trans (hb5.mono (by simp; omega))
      have hbw5 := hbw4.trans (hb5'.mono z4)
      have BQ5 := ((Blk.new w4 68 #[bstr h.method, .int .i64 h.status, .int .i64 h.n, .bool h.told]).alloc (.cells #[bstr (c :: r), bstr value, .bool never] 33)).below hb5 (by simp; omega)
      have B15 := (B14.below hb5' B14.lt).alloc (.cells #[bstr [], .int .i64 0, .int .i64 0, .bool false] 72)
      have hbw6 := hbw5.alloc hbw5.size (.cells #[bstr [], .int .i64 0, .int .i64 0, .bool false] 72)
      obtain ⟨⟨k0, k1, k2, k3⟩, _, _⟩ := B15.all4
      obtain ⟨⟨j0, j1, j2, j3⟩, _, _⟩ := (BQ5.alloc (.cells #[bstr [], .int .i64 0, .int .i64 0, .bool false] 72)).all4
      clear q0 q1 q2 hs5 BFq hb5 hb5'
      go_wp2_with (go_at_call 53; refine (HAL.out _ hbw6).mono ?_; rintro e w6 ⟨rfl, hb6⟩)
      go_ret
      exact ⟨rfl, hb6⟩
    · have BFq := BF4.alloc (.cells #[bstr [], .int .i64 0, .int .i64 0, .bool false] 68)
      obtain ⟨q0, q1, q2, _, _, _, _⟩ := BFq.three
      have hbq := hbw4.alloc z4 (.cells #[bstr [], .int .i64 0, .int .i64 0, .bool false] 68)
      have zq := hbq.size
      have hs5 : SlF ((w4.alloc (.cells #[bstr [], .int .i64 0, .int .i64 0, .bool false] 68)).alloc (.cells #[bstr (c :: r), bstr value, .bool never] 33)) (w4.heap.size + 2) (some ⟨w4.heap.size + 1, 0, none⟩) [(⟨c :: r, value, never⟩ : Fd)] := slF_new (Blk.at_ _ _ _ (by simp)) rfl (by simp only [List.all_cons, List.all_nil, Bool.and_true, decide_eq_true_eq, Bool.and_eq_true]; exact HN.out)
      go_wp2_with fail
      refine (H5.out _ _ _ (by simp) hs5).mono ?_
      rintro e w5 ⟨rfl, hb5⟩
      have hb5' : Below w4.heap.size w4 w5 := (((Below.refl w4.heap.size w4).alloc (Nat.le_refl _) _).alloc (by simp) _).trans (hb5.mono (by simp; omega))
      have hbw5 := hbw4.trans (hb5'.mono z4)
      have BQ5 := ((Blk.new w4 68 #[bstr [], .int .i64 0, .int .i64 0, .bool false]).alloc (.cells #[bstr (c :: r), bstr value, .bool never] 33)).below hb5 (by simp; omega)
      have B15 := (B14.below hb5' B14.lt).alloc (.cells #[bstr [], .int .i64 0, .int .i64 0, .bool false] 72)
      have hbw6 := hbw5.alloc hbw5.size (.cells #[bstr [], .int .i64 0, .int .i64 0, .bool false] 72)
      obtain ⟨⟨k0, k1, k2, k3⟩, _, _⟩ := B15.all4
      obtain ⟨⟨j0, j1, j2, j3⟩, _, _⟩ := (BQ5.alloc (.cells #[bstr [], .int .i64 0, .int .i64 0, .bool false] 72)).all4
      clear q0 q1 q2 hs5 BFq hb5 hb5'
      go_wp2_with (go_at_call 53; refine (HAL.out _ hbw6).mono ?_; rintro e w6 ⟨rfl, hb6⟩)
      go_ret
      exact ⟨rfl, hb6⟩
    · have BFq := BF4.alloc (.cells #[bstr [], .int .i64 0, .int .i64 0, .bool false] 68)
      obtain ⟨q0, q1, q2, _, _, _, _⟩ := BFq.three
      have hbq := hbw4.alloc z4 (.cells #[bstr [], .int .i64 0, .int .i64 0, .bool false] 68)
      have zq := hbq.size
      have hs5 : SlF ((w4.alloc (.cells #[bstr [], .int .i64 0, .int .i64 0, .bool false] 68)).alloc (.cells #[bstr (c :: r), bstr value, .bool never] 33)) (w4.heap.size + 2) (some ⟨w4.heap.size + 1, 0, none⟩) [(⟨c :: r, value, never⟩ : Fd)] := slF_new (Blk.at_ _ _ _ (by simp)) rfl (by simp only [List.all_cons, List.all_nil, Bool.and_true, decide_eq_true_eq, Bool.and_eq_true]; exact HN.out)
      go_wp2_with fail
      refine (H5.out _ _ _ (by simp) hs5).mono ?_
      rintro e w5 ⟨rfl, hb5⟩
      have hb5' : Below w4.heap.size w4 w5 := (((Below.refl w4.heap.size w4).alloc (Nat.le_refl _) _).alloc (by simp) _).trans (hb5.mono (by simp; omega))
      have hbw5 := hbw4.trans (hb5'.mono z4)
      have BQ5 := ((Blk.new w4 68 #[bstr [], .int .i64 0, .int .i64 0, .bool false]).alloc (.cells #[bstr (c :: r), bstr value, .bool never] 33)).below hb5 (by simp; omega)
      have B15 := (B14.below hb5' B14.lt).alloc (.cells #[bstr [], .int .i64 0, .int .i64 0, .bool false] 72)
      have hbw6 := hbw5.alloc hbw5.size (.cells #[bstr [], .int .i64 0, .int .i64 0, .bool false] 72)
      obtain ⟨⟨k0, k1, k2, k3⟩, _, _⟩ := B15.all4
      obtain ⟨⟨j0, j1, j2, j3⟩, _, _⟩ := (BQ5.alloc (.cells #[bstr [], .int .i64 0, .int .i64 0, .bool false] 72)).all4
      clear q0 q1 q2 hs5 BFq hb5 hb5'
      go_wp2_with (go_at_call 53; refine (HAL.out _ hbw6).mono ?_; rintro e w6 ⟨rfl, hb6⟩)
      go_ret
      exact ⟨ret1d (show Value.bool (d != 0) = Value.bool true by rw [show (d != 0) = true by simpa using hd]), hb6⟩
