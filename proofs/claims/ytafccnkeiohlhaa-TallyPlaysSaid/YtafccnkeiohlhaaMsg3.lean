/-
  What fields say as a message: the document's Check.
-/
import Derived.Test.YtafccnkeiohlhaaMsg2
namespace Go.Proofs.Ytafccnkeiohlhaa
open Go.ChangeShapes Go.WideShapes Go.ChangeAt Go.RowKit Go.Deep Go.Shelf

theorem st_Message28 : StructTy Try.prog 72 4 := ⟨_, Try.underlying72, rfl, by kernel_rfl⟩
theorem chkF_field {kind : Int} {l : List Fd} (h : l.all fieldF = false) : chkF kind l = (noMs, 28) := by
  unfold chkF; rw [ownF_eq, h]; rfl
theorem chkF_bar {kind : Int} {l : List Fd} (h : l.all fieldF = true) (h2 : l.any msgBar = true) : chkF kind l = (noMs, 29) := by
  unfold chkF; rw [ownF_eq, h, h2]; rfl
theorem chkF_zero {kind : Int} {l : List Fd} (h : l.all fieldF = true) (h2 : l.any msgBar = false) : chkF kind l = chkOf kind 0 (begF kind l) (lenF l) := by
  unfold chkF; rw [ownF_eq, h, h2]; rfl

set_option maxHeartbeats 8000000 in
set_option maxRecDepth 100000 in
theorem ref28_Check (kind : Int) (a : Option Addr) (cap B : Nat) (l : List Fd) (w : World) (hm0 : l.length ≤ 1048576) (hB : B ≤ w.heap.size) (hs : SlF w B a l) (hv : ∀ f ∈ l, f.value.length ≤ 1048576) :
    Calls Try.prog 55 #[.int .i64 kind, .slice a l.length cap] w fun e w' => e = .returned (.tuple #[msVal (chkF kind l).1, .int .i64 (chkF kind l).2]) ∧ Below w.heap.size w w' := by
  have hm : l.length ≤ maxLen := by unfold maxLen; omega
  have T1 : ∀ W, Below w.heap.size w W → Calls Try.prog 87 #[.slice a l.length cap] W fun e w' => e = .returned (.bool (l.all fieldF)) ∧ Below W.heap.size W w' := fun W h => ref28_fields a cap B l W hm (Nat.le_trans hB h.size) (hs.below h hB)
  have T2 : ∀ W, Below w.heap.size w W → Calls Try.prog 88 #[.slice a l.length cap] W fun e w' => e = .returned (.bool (l.any msgBar)) ∧ Below W.heap.size W w' := fun W h => ref28_barred a cap B l W hm (Nat.le_trans hB h.size) (hs.below h hB) hv
  have T3 : ∀ W, Below w.heap.size w W → Calls Try.prog 51 #[.slice a l.length cap] W fun e w' => e = .returned (.bool (trailerF l)) ∧ Below W.heap.size W w' := fun W h => ref27_Trailer a cap B l W hm (Nat.le_trans hB h.size) (hs.below h hB)
  have T4 : ∀ W, Below w.heap.size w W → Calls Try.prog 43 #[.slice a l.length cap] W fun e w' => e = .returned (.tuple #[hdVal (refReq l).1, .bool (refReq l).2]) ∧ Below W.heap.size W w' := fun W h => ref27_Request a cap B l W hm0 (Nat.le_trans hB h.size) (hs.below h hB)
  have T5 : ∀ W, Below w.heap.size w W → Calls Try.prog 46 #[.slice a l.length cap] W fun e w' => e = .returned (.tuple #[hdVal (refRes l).1, .bool (refRes l).2]) ∧ Below W.heap.size W w' := fun W h => ref27_Response a cap B l W hm (Nat.le_trans hB h.size) (hs.below h hB)
  have T6 : ∀ W, Below w.heap.size w W → Calls Try.prog 22 #[.slice a l.length cap] W fun e w' => e = .returned (.tuple #[.int .i64 (lenF l).1, .bool (lenF l).2.1, .bool (lenF l).2.2]) ∧ Below W.heap.size W w' := fun W h => (ref26_Of a cap B l W hm0 (Nat.le_trans hB h.size) (hs.below h hB)).mono fun e w' ⟨he, hb⟩ => ⟨by rw [he, lenF_ref], hb⟩
  have HE1 : l.all fieldF = false → chkF kind l = (noMs, 28) := chkF_field
  have HE2 : l.all fieldF = true → l.any msgBar = true → chkF kind l = (noMs, 29) := chkF_bar
  have HE3 : l.all fieldF = true → l.any msgBar = false → chkF kind l = chkOf kind 0 (begF kind l) (lenF l) := chkF_zero
  have K03 : kind = 0 ∨ kind = 3 → begF kind l = refReq l := begF_req
  have K1 : kind = 1 → begF kind l = refRes l := fun h => h ▸ begF_res
  have KT : kind ≠ 0 → kind ≠ 3 → kind ≠ 1 → begF kind l = (noHd, trailerF l) := begF_tr
  generalize refReq l = pq at T4 K03
  generalize refRes l = ps at T5 K1
  generalize trailerF l = pt at T3 KT
  generalize lenF l = n at T6 HE3
  generalize begF kind l = pb at K03 K1 KT HE3
  generalize l.all fieldF = o1 at T1 HE1 HE2 HE3
  generalize l.any msgBar = o2 at T2 HE2 HE3
  generalize chkF kind l = R at HE1 HE2 HE3 ⊢
  have H1 := Lib.hid T1
  have H2 := Lib.hid T2
  have H3 := Lib.hid T3
  have H4 := Lib.hid T4
  have H5 := Lib.hid T5
  have H6 := Lib.hid T6
  have HE1' := Lib.hid HE1
  have HE2' := Lib.hid HE2
  have HE3' := Lib.hid HE3
  have K03' := Lib.hid K03
  have K1' := Lib.hid K1
  have KT' := Lib.hid KT
  have hW0 : Below w.heap.size w (w.alloc (.cells #[bstr [], .int .i64 0, .int .i64 0, .bool false] 72)) := (Below.refl _ _).alloc (Nat.le_refl _) _
  have B00 := Blk.new w 72 #[bstr [], .int .i64 0, .int .i64 0, .bool false]
  clear T1 T2 T3 T4 T5 T6 hs hv HE1 HE2 HE3 K03 K1 KT
  go_enter Try.func55, Try.ntmps55
  go_wp2_with fail
  refine (H1.out _ hW0).mono ?_
  rintro e w1 ⟨rfl, hb1⟩
  have B0 := B00.below hb1 (by simp)
  have hW1 := hW0.trans (hb1.mono hW0.size)
  clear B00 hb1 hW0 H1
  obtain ⟨⟨q0, q1, q2, q3⟩, ⟨f0, f1, f2, f3⟩, hz⟩ := B0.all4
  cases o1 with
  | false =>
    have HR := Lib.hid (HE1'.out (by simp))
    go_wp2_with fail
    refine bodyPost_ret (res_cell_tmp rfl st_Message28 rfl B0.put4 rfl rfl) rfl ⟨by rw [HR.out]; rfl, below_put4 hW1 (Nat.le_refl _)⟩
  | true =>
  clear q0 q1 q2 q3 f0 f1 f2 f3 hz
  go_wp2_with fail
  refine (H2.out _ hW1).mono ?_
  rintro e w2 ⟨rfl, hb2⟩
  have B01 := B0.below hb2 B0.lt
  have hW2 := hW1.trans (hb2.mono hW1.size)
  clear B0 hb2 hW1 H2
  obtain ⟨⟨q0, q1, q2, q3⟩, ⟨f0, f1, f2, f3⟩, hz⟩ := B01.all4
  cases o2 with
  | true =>
    have HR := Lib.hid (HE2'.out (by simp) (by simp))
    go_wp2_with fail
    refine bodyPost_ret (res_cell_tmp rfl st_Message28 rfl B01.put4 rfl rfl) rfl ⟨by rw [HR.out]; rfl, below_put4 hW2 (Nat.le_refl _)⟩
  | false =>
  clear q0 q1 q2 q3 f0 f1 f2 f3 hz
  have HF := Lib.hid (HE3'.out (by simp) (by simp))
  have hW3 : Below w.heap.size w (w2.alloc (.cells #[bstr [], bstr [], bstr [], bstr [], .int .i64 0] 61)) := hW2.alloc hW2.size _
  have B02 := B01.alloc (.cells #[bstr [], bstr [], bstr [], bstr [], .int .i64 0] 61)
  have B60 := Blk.new w2 61 #[bstr [], bstr [], bstr [], bstr [], .int .i64 0]
  have hg6 : w.heap.size < w2.heap.size := B01.lt
  go_wp2_with fail
  refine (H3.out _ hW3).mono ?_
  rintro e w4 ⟨rfl, hb4⟩
  have B04 := B02.below hb4 B02.lt
  have B64 := B60.below hb4 B60.lt
  have hW4 := hW3.trans (hb4.mono hW3.size)
  have hg7 := hW2.size
  clear B02 B60 hb4 hW3 H3 HE1' HE2' HE3' B01
  by_cases k0 : kind = 0
  · subst k0
    have HB := Lib.hid (K03'.out (.inl rfl))
    obtain ⟨⟨r0, r1, r2, r3, r4⟩, ⟨f0, f1, f2, f3, f4⟩, hzr⟩ := B64.all5
    go_wp2_with fail
    refine (H4.out _ hW4).mono ?_
    rintro e w5 ⟨rfl, hb5⟩
    have B05 := (B04.below hb5 B04.lt).far5 (g := w2.heap.size) (by omega) (y0 := bstr pq.1.method) (y1 := bstr pq.1.scheme) (y2 := bstr pq.1.authority) (y3 := bstr pq.1.path) (y4 := .int .i64 pq.1.status)
    have hW5 := below_put5 (hW4.trans (hb5.mono hW4.size)) (g := w2.heap.size) hg7 (y0 := bstr pq.1.method) (y1 := bstr pq.1.scheme) (y2 := bstr pq.1.authority) (y3 := bstr pq.1.path) (y4 := .int .i64 pq.1.status)
    have B65 := (B64.below hb5 B64.lt).put5 (y0 := bstr pq.1.method) (y1 := bstr pq.1.scheme) (y2 := bstr pq.1.authority) (y3 := bstr pq.1.path) (y4 := .int .i64 pq.1.status)
    clear r0 r1 r2 r3 r4 f0 f1 f2 f3 f4 hzr
    obtain ⟨⟨r0, r1, r2, r3, r4⟩, ⟨f0, f1, f2, f3, f4⟩, hzr⟩ := (B64.below hb5 B64.lt).all5
    have HG := Lib.hid (HF.out.trans (by rw [HB.out]))
    obtain ⟨⟨q0, q1, q2, q3⟩, ⟨f0, f1, f2, f3⟩, hz⟩ := B05.all4
    obtain ⟨⟨r0, r1, r2, r3, r4⟩, _, hzr⟩ := B65.all5
    cases h2 : pq.2 with
    | false =>
      have HR := Lib.hid (HG.out.trans (chk_beg h2))
      go_wp2_with fail
      refine bodyPost_ret (res_cell_tmp rfl st_Message28 rfl B05.put4 rfl rfl) rfl ⟨by rw [HR.out]; rfl, below_put4 hW5 (Nat.le_refl _)⟩
    | true =>
    go_wp2_with fail
    refine (H6.out _ hW5).mono ?_
    rintro e w6 ⟨rfl, hb6⟩
    have B06 := B05.below hb6 B05.lt
    have B66 := B65.below hb6 B65.lt
    have hW6 := hW5.trans (hb6.mono hW5.size)
    clear q0 q1 q2 q3 f0 f1 f2 f3 hz r0 r1 r2 r3 r4 hzr
    obtain ⟨⟨q0, q1, q2, q3⟩, ⟨f0, f1, f2, f3⟩, hz⟩ := B06.all4
    obtain ⟨⟨r0, r1, r2, r3, r4⟩, _, hzr⟩ := B66.all5
    cases h3 : n.2.2 with
    | false =>
      have HR := Lib.hid (HG.out.trans (chk_len h2 h3))
      go_wp2_with fail
      refine bodyPost_ret (res_cell_tmp rfl st_Message28 rfl B06.put4 rfl rfl) rfl ⟨by rw [HR.out]; rfl, below_put4 hW6 (Nat.le_refl _)⟩
    | true =>
    have HR := Lib.hid (HG.out.trans (chk_ok h2 h3 (fun h => absurd h.1 (by decide))))
    go_wp2_with fail
    refine bodyPost_ret (res_cell_tmp rfl st_Message28 rfl B06.put4 rfl rfl) rfl ⟨by rw [HR.out]; rfl, below_put4 hW6 (Nat.le_refl _)⟩
  by_cases k3 : kind = 3
  · subst k3
    have HB := Lib.hid (K03'.out (.inr rfl))
    obtain ⟨⟨r0, r1, r2, r3, r4⟩, ⟨f0, f1, f2, f3, f4⟩, hzr⟩ := B64.all5
    go_wp2_with fail
    refine (H4.out _ hW4).mono ?_
    rintro e w5 ⟨rfl, hb5⟩
    have B05 := (B04.below hb5 B04.lt).far5 (g := w2.heap.size) (by omega) (y0 := bstr pq.1.method) (y1 := bstr pq.1.scheme) (y2 := bstr pq.1.authority) (y3 := bstr pq.1.path) (y4 := .int .i64 pq.1.status)
    have hW5 := below_put5 (hW4.trans (hb5.mono hW4.size)) (g := w2.heap.size) hg7 (y0 := bstr pq.1.method) (y1 := bstr pq.1.scheme) (y2 := bstr pq.1.authority) (y3 := bstr pq.1.path) (y4 := .int .i64 pq.1.status)
    have B65 := (B64.below hb5 B64.lt).put5 (y0 := bstr pq.1.method) (y1 := bstr pq.1.scheme) (y2 := bstr pq.1.authority) (y3 := bstr pq.1.path) (y4 := .int .i64 pq.1.status)
    clear r0 r1 r2 r3 r4 f0 f1 f2 f3 f4 hzr
    obtain ⟨⟨r0, r1, r2, r3, r4⟩, ⟨f0, f1, f2, f3, f4⟩, hzr⟩ := (B64.below hb5 B64.lt).all5
    have HG := Lib.hid (HF.out.trans (by rw [HB.out]))
    obtain ⟨⟨q0, q1, q2, q3⟩, ⟨f0, f1, f2, f3⟩, hz⟩ := B05.all4
    obtain ⟨⟨r0, r1, r2, r3, r4⟩, _, hzr⟩ := B65.all5
    cases h2 : pq.2 with
    | false =>
      have HR := Lib.hid (HG.out.trans (chk_beg h2))
      go_wp2_with fail
      refine bodyPost_ret (res_cell_tmp rfl st_Message28 rfl B05.put4 rfl rfl) rfl ⟨by rw [HR.out]; rfl, below_put4 hW5 (Nat.le_refl _)⟩
    | true =>
    go_wp2_with fail
    refine (H6.out _ hW5).mono ?_
    rintro e w6 ⟨rfl, hb6⟩
    have B06 := B05.below hb6 B05.lt
    have B66 := B65.below hb6 B65.lt
    have hW6 := hW5.trans (hb6.mono hW5.size)
    clear q0 q1 q2 q3 f0 f1 f2 f3 hz r0 r1 r2 r3 r4 hzr
    obtain ⟨⟨q0, q1, q2, q3⟩, ⟨f0, f1, f2, f3⟩, hz⟩ := B06.all4
    obtain ⟨⟨r0, r1, r2, r3, r4⟩, _, hzr⟩ := B66.all5
    cases h3 : n.2.2 with
    | false =>
      have HR := Lib.hid (HG.out.trans (chk_len h2 h3))
      go_wp2_with fail
      refine bodyPost_ret (res_cell_tmp rfl st_Message28 rfl B06.put4 rfl rfl) rfl ⟨by rw [HR.out]; rfl, below_put4 hW6 (Nat.le_refl _)⟩
    | true =>
    cases h4 : (pq.1.method == vGet) <;> cases h5 : (pq.1.method == vHead)
    all_goals first
      | (have HR := Lib.hid (HG.out.trans (chk_safe h2 h3 (by simp only [safeF, h4, h5]; rfl)))
         go_wp2_with fail
         refine bodyPost_ret (res_cell_tmp rfl st_Message28 rfl B06.put4 rfl rfl) rfl ⟨by rw [HR.out]; rfl, below_put4 hW6 (Nat.le_refl _)⟩)
      | (have HR := Lib.hid (HG.out.trans (chk_ok h2 h3 (by simp only [safeF, h4, h5]; decide)))
         go_wp2_with fail
         refine bodyPost_ret (res_cell_tmp rfl st_Message28 rfl B06.put4 rfl rfl) rfl ⟨by rw [HR.out]; rfl, below_put4 hW6 (Nat.le_refl _)⟩)
  by_cases k1 : kind = 1
  · subst k1
    have HB := Lib.hid (K1'.out rfl)
    obtain ⟨⟨r0, r1, r2, r3, r4⟩, ⟨f0, f1, f2, f3, f4⟩, hzr⟩ := B64.all5
    go_wp2_with fail
    refine (H5.out _ hW4).mono ?_
    rintro e w5 ⟨rfl, hb5⟩
    have B05 := (B04.below hb5 B04.lt).far5 (g := w2.heap.size) (by omega) (y0 := bstr ps.1.method) (y1 := bstr ps.1.scheme) (y2 := bstr ps.1.authority) (y3 := bstr ps.1.path) (y4 := .int .i64 ps.1.status)
    have hW5 := below_put5 (hW4.trans (hb5.mono hW4.size)) (g := w2.heap.size) hg7 (y0 := bstr ps.1.method) (y1 := bstr ps.1.scheme) (y2 := bstr ps.1.authority) (y3 := bstr ps.1.path) (y4 := .int .i64 ps.1.status)
    have B65 := (B64.below hb5 B64.lt).put5 (y0 := bstr ps.1.method) (y1 := bstr ps.1.scheme) (y2 := bstr ps.1.authority) (y3 := bstr ps.1.path) (y4 := .int .i64 ps.1.status)
    clear r0 r1 r2 r3 r4 f0 f1 f2 f3 f4 hzr
    obtain ⟨⟨r0, r1, r2, r3, r4⟩, ⟨f0, f1, f2, f3, f4⟩, hzr⟩ := (B64.below hb5 B64.lt).all5
    have HG := Lib.hid (HF.out.trans (by rw [HB.out]))
    obtain ⟨⟨q0, q1, q2, q3⟩, ⟨f0, f1, f2, f3⟩, hz⟩ := B05.all4
    obtain ⟨⟨r0, r1, r2, r3, r4⟩, _, hzr⟩ := B65.all5
    cases h2 : ps.2 with
    | false =>
      have HR := Lib.hid (HG.out.trans (chk_beg h2))
      go_wp2_with fail
      refine bodyPost_ret (res_cell_tmp rfl st_Message28 rfl B05.put4 rfl rfl) rfl ⟨by rw [HR.out]; rfl, below_put4 hW5 (Nat.le_refl _)⟩
    | true =>
    go_wp2_with fail
    refine (H6.out _ hW5).mono ?_
    rintro e w6 ⟨rfl, hb6⟩
    have B06 := B05.below hb6 B05.lt
    have B66 := B65.below hb6 B65.lt
    have hW6 := hW5.trans (hb6.mono hW5.size)
    clear q0 q1 q2 q3 f0 f1 f2 f3 hz r0 r1 r2 r3 r4 hzr
    obtain ⟨⟨q0, q1, q2, q3⟩, ⟨f0, f1, f2, f3⟩, hz⟩ := B06.all4
    obtain ⟨⟨r0, r1, r2, r3, r4⟩, _, hzr⟩ := B66.all5
    cases h3 : n.2.2 with
    | false =>
      have HR := Lib.hid (HG.out.trans (chk_len h2 h3))
      go_wp2_with fail
      refine bodyPost_ret (res_cell_tmp rfl st_Message28 rfl B06.put4 rfl rfl) rfl ⟨by rw [HR.out]; rfl, below_put4 hW6 (Nat.le_refl _)⟩
    | true =>
    have HR := Lib.hid (HG.out.trans (chk_ok h2 h3 (fun h => absurd h.1 (by decide))))
    go_wp2_with fail
    refine bodyPost_ret (res_cell_tmp rfl st_Message28 rfl B06.put4 rfl rfl) rfl ⟨by rw [HR.out]; rfl, below_put4 hW6 (Nat.le_refl _)⟩
  have HB := Lib.hid (KT'.out k0 k3 k1)
  have d0 : (kind == 0) = false := by simpa using k0
  have d3 : (kind == 3) = false := by simpa using k3
  have d1 : (kind == 1) = false := by simpa using k1
  have HG := Lib.hid (HF.out.trans (by rw [HB.out]))
  obtain ⟨⟨q0, q1, q2, q3⟩, ⟨f0, f1, f2, f3⟩, hz⟩ := B04.all4
  obtain ⟨⟨r0, r1, r2, r3, r4⟩, _, hzr⟩ := B64.all5
  cases h2 : (noHd, pt).2 with
  | false =>
    have HR := Lib.hid (HG.out.trans (chk_beg h2))
    go_wp2_with fail
    refine bodyPost_ret (res_cell_tmp rfl st_Message28 rfl B04.put4 rfl rfl) rfl ⟨by rw [HR.out]; rfl, below_put4 hW4 (Nat.le_refl _)⟩
  | true =>
  go_wp2_with fail
  refine (H6.out _ hW4).mono ?_
  rintro e w6 ⟨rfl, hb6⟩
  have B06 := B04.below hb6 B04.lt
  have B66 := B64.below hb6 B64.lt
  have hW6 := hW4.trans (hb6.mono hW4.size)
  clear q0 q1 q2 q3 f0 f1 f2 f3 hz r0 r1 r2 r3 r4 hzr
  obtain ⟨⟨q0, q1, q2, q3⟩, ⟨f0, f1, f2, f3⟩, hz⟩ := B06.all4
  obtain ⟨⟨r0, r1, r2, r3, r4⟩, _, hzr⟩ := B66.all5
  cases h3 : n.2.2 with
  | false =>
    have HR := Lib.hid (HG.out.trans (chk_len h2 h3))
    go_wp2_with fail
    refine bodyPost_ret (res_cell_tmp rfl st_Message28 rfl B06.put4 rfl rfl) rfl ⟨by rw [HR.out]; rfl, below_put4 hW6 (Nat.le_refl _)⟩
  | true =>
  have HR := Lib.hid (HG.out.trans (chk_ok h2 h3 (fun h => absurd h.1 (k3))))
  go_wp2_with fail
  refine bodyPost_ret (res_cell_tmp rfl st_Message28 rfl B06.put4 rfl rfl) rfl ⟨by rw [HR.out]; rfl, below_put4 hW6 (Nat.le_refl _)⟩
