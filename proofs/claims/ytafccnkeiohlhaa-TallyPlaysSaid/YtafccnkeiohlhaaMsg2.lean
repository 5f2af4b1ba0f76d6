/-
  What fields say as a message: the program's begin and Check.
-/
import Derived.Test.YtafccnkeiohlhaaMsg1
namespace Go.Proofs.Ytafccnkeiohlhaa
open Go.ChangeShapes Go.WideShapes Go.ChangeAt Go.RowKit Go.Deep Go.Shelf

def begF (kind : Int) (l : List Fd) : Hd × Bool := if kind = 0 ∨ kind = 3 then refReq l else if kind = 1 then refRes l else (noHd, trailerF l)
theorem begF_req {kind : Int} {l : List Fd} (h : kind = 0 ∨ kind = 3) : begF kind l = refReq l := by simp [begF, h]
theorem begF_res {l : List Fd} : begF 1 l = refRes l := by simp [begF]
theorem begF_tr {kind : Int} {l : List Fd} (h0 : kind ≠ 0) (h3 : kind ≠ 3) (h1 : kind ≠ 1) : begF kind l = (noHd, trailerF l) := by simp [begF, h0, h1, h3]

set_option maxHeartbeats 2000000 in
set_option maxRecDepth 100000 in
theorem message_begin (kind : Int) (a : Option Addr) (cap B : Nat) (l : List Fd) (w : World) (hm : l.length ≤ maxLen) (hB : B ≤ w.heap.size) (hs : SlF w B a l) :
    Calls Try.prog 85 #[.int .i64 kind, .slice a l.length cap] w fun e w' => e = .returned (.tuple #[hdVal (begF kind l).1, .bool (begF kind l).2]) ∧ Below w.heap.size w w' := by
  have HQ : ∀ W, Below w.heap.size w W → Calls Try.prog 42 #[.slice a l.length cap] W fun e w' => e = .returned (.tuple #[hdVal (refReq l).1, .bool (refReq l).2]) ∧ Below W.heap.size W w' := fun W h => (pseudo_Request a cap B l W hm (Nat.le_trans hB h.size) (hs.below h hB)).mono fun e w' ⟨he, hb⟩ => ⟨by rw [he, progReq_eq], hb⟩
  have HS : ∀ W, Below w.heap.size w W → Calls Try.prog 45 #[.slice a l.length cap] W fun e w' => e = .returned (.tuple #[hdVal (refRes l).1, .bool (refRes l).2]) ∧ Below W.heap.size W w' := fun W h => (pseudo_Response a cap B l W hm (Nat.le_trans hB h.size) (hs.below h hB) (valF_le hs)).mono fun e w' ⟨he, hb⟩ => ⟨by rw [he, progRes_eq], hb⟩
  have HT : ∀ W, Below w.heap.size w W → Calls Try.prog 52 #[.slice a l.length cap] W fun e w' => e = .returned (.bool (trailerF l)) ∧ Below W.heap.size W w' := fun W h => pseudo_Trailer a cap B l W hm (Nat.le_trans hB h.size) (hs.below h hB)
  have H1 := Lib.hid HQ
  have H2 := Lib.hid HS
  have H3 := Lib.hid HT
  have hW : Below w.heap.size w (w.alloc (.cells #[bstr [], bstr [], bstr [], bstr [], .int .i64 0] 58)) := (Below.refl _ _).alloc (Nat.le_refl _) _
  have B00 := Blk.new w 58 #[bstr [], bstr [], bstr [], bstr [], .int .i64 0]
  clear HQ HS HT hs
  by_cases k0 : kind = 0
  · subst k0
    have HR : Hid (begF 0 l = refReq l) := begF_req (.inl rfl)
    generalize refReq l = p at HR H1
    go_enter Try.func85, Try.ntmps85
    go_wp2_with (go_at_call 42; refine (H1.out _ hW).mono ?_; rintro e w1 ⟨rfl, hb1⟩; have B0 := B00.below hb1 (by simp); obtain ⟨⟨q0, q1, q2, q3, q4⟩, ⟨f0, f1, f2, f3, f4⟩, hz⟩ := B0.all5)
    refine bodyPost_ret (res_cell_tmp rfl st_Head rfl B0.put5 rfl rfl) rfl ⟨by rw [HR.out]; rfl, below_put5 (hW.trans (hb1.mono hW.size)) (Nat.le_refl _)⟩
  by_cases k3 : kind = 3
  · subst k3
    have HR : Hid (begF 3 l = refReq l) := begF_req (.inr rfl)
    generalize refReq l = p at HR H1
    go_enter Try.func85, Try.ntmps85
    go_wp2_with (go_at_call 42; refine (H1.out _ hW).mono ?_; rintro e w1 ⟨rfl, hb1⟩; have B0 := B00.below hb1 (by simp); obtain ⟨⟨q0, q1, q2, q3, q4⟩, ⟨f0, f1, f2, f3, f4⟩, hz⟩ := B0.all5)
    refine bodyPost_ret (res_cell_tmp rfl st_Head rfl B0.put5 rfl rfl) rfl ⟨by rw [HR.out]; rfl, below_put5 (hW.trans (hb1.mono hW.size)) (Nat.le_refl _)⟩
  by_cases k1 : kind = 1
  · subst k1
    have HR : Hid (begF 1 l = refRes l) := begF_res
    generalize refRes l = p at HR H2
    go_enter Try.func85, Try.ntmps85
    go_wp2_with (go_at_call 45; refine (H2.out _ hW).mono ?_; rintro e w1 ⟨rfl, hb1⟩; have B0 := B00.below hb1 (by simp); obtain ⟨⟨q0, q1, q2, q3, q4⟩, ⟨f0, f1, f2, f3, f4⟩, hz⟩ := B0.all5)
    refine bodyPost_ret (res_cell_tmp rfl st_Head rfl B0.put5 rfl rfl) rfl ⟨by rw [HR.out]; rfl, below_put5 (hW.trans (hb1.mono hW.size)) (Nat.le_refl _)⟩
  · have HR := Lib.hid (begF_tr (l := l) k0 k3 k1)
    go_enter Try.func85, Try.ntmps85
    go_wp2_with (go_at_call 52; refine (H3.out _ hW).mono ?_; rintro e w1 ⟨rfl, hb1⟩; have B0 := B00.below hb1 (by simp); obtain ⟨⟨q0, q1, q2, q3, q4⟩, ⟨f0, f1, f2, f3, f4⟩, hz⟩ := B0.all5)
    refine bodyPost_ret (res_cell_tmp rfl st_Head rfl B0.put5 rfl rfl) rfl ⟨by rw [HR.out]; rfl, below_put5 (hW.trans (hb1.mono hW.size)) (Nat.le_refl _)⟩

structure Ms where
  method : List UInt8
  status : Int
  n : Int
  told : Bool
abbrev msVal (m : Ms) : Value := .agg #[bstr m.method, .int .i64 m.status, .int .i64 m.n, .bool m.told]
abbrev noMs : Ms := ⟨[], 0, 0, false⟩
def chkEnd (kind : Int) (h : Hd × Bool) (n : Int × Bool × Bool) : Ms × Int :=
  if h.2 = false then (noMs, 30) else if n.2.2 = false then (noMs, 31) else if kind = 3 ∧ safeF h.1.method = false then (noMs, 34) else (⟨h.1.method, h.1.status, n.1, n.2.1⟩, 0)
def chkOf (kind o : Int) (h : Hd × Bool) (n : Int × Bool × Bool) : Ms × Int := if o = 0 then chkEnd kind h n else (noMs, o)
def chkF (kind : Int) (l : List Fd) : Ms × Int := chkOf kind (ownF l) (begF kind l) (lenF l)
theorem chk_own {kind o : Int} {h : Hd × Bool} {n : Int × Bool × Bool} (h0 : o ≠ 0) : chkOf kind o h n = (noMs, o) := by simp [chkOf, h0]
theorem chk_beg {kind : Int} {h : Hd × Bool} {n : Int × Bool × Bool} (h0 : h.2 = false) : chkOf kind 0 h n = (noMs, 30) := by simp [chkOf, chkEnd, h0]
theorem chk_len {kind : Int} {h : Hd × Bool} {n : Int × Bool × Bool} (h0 : h.2 = true) (h1 : n.2.2 = false) : chkOf kind 0 h n = (noMs, 31) := by simp [chkOf, chkEnd, h0, h1]
theorem chk_safe {h : Hd × Bool} {n : Int × Bool × Bool} (h0 : h.2 = true) (h1 : n.2.2 = true) (h2 : safeF h.1.method = false) : chkOf 3 0 h n = (noMs, 34) := by simp [chkOf, chkEnd, h0, h1, h2]
theorem chk_ok {kind : Int} {h : Hd × Bool} {n : Int × Bool × Bool} (h0 : h.2 = true) (h1 : n.2.2 = true) (h2 : ¬ (kind = 3 ∧ safeF h.1.method = false)) : chkOf kind 0 h n = (⟨h.1.method, h.1.status, n.1, n.2.1⟩, 0) := by
  simp only [chkOf, chkEnd, h0, h1, if_true]
  rw [if_neg (by decide), if_neg (by decide), if_neg h2]
theorem st_Message : StructTy Try.prog 68 4 := ⟨_, Try.underlying68, rfl, by kernel_rfl⟩

set_option maxHeartbeats 4000000 in
set_option maxRecDepth 100000 in
theorem message_Check (kind : Int) (a : Option Addr) (cap B : Nat) (l : List Fd) (w : World) (hm : l.length ≤ maxLen) (hB : B ≤ w.heap.size) (hs : SlF w B a l) (hv : ∀ f ∈ l, f.value.length ≤ 1048576) :
    Calls Try.prog 54 #[.int .i64 kind, .slice a l.length cap] w fun e w' => e = .returned (.tuple #[msVal (chkF kind l).1, .int .i64 (chkF kind l).2]) ∧ Below w.heap.size w w' := by
  have T1 : ∀ W, Below w.heap.size w W → Calls Try.prog 84 #[.slice a l.length cap] W fun e w' => e = .returned (.int .i64 (ownF l)) ∧ Below W.heap.size W w' := fun W h => message_own a cap B l W hm (Nat.le_trans hB h.size) (hs.below h hB) hv
  have T2 : ∀ W, Below w.heap.size w W → Calls Try.prog 85 #[.int .i64 kind, .slice a l.length cap] W fun e w' => e = .returned (.tuple #[hdVal (begF kind l).1, .bool (begF kind l).2]) ∧ Below W.heap.size W w' := fun W h => message_begin kind a cap B l W hm (Nat.le_trans hB h.size) (hs.below h hB)
  have T3 : ∀ W, Below w.heap.size w W → Calls Try.prog 21 #[.slice a l.length cap] W fun e w' => e = .returned (lenVal (lenF l)) ∧ Below W.heap.size W w' := fun W h => length_Of a cap B l W hm (Nat.le_trans hB h.size) (hs.below h hB)
  have HF : Hid (chkF kind l = chkOf kind (ownF l) (begF kind l) (lenF l)) := rfl
  generalize begF kind l = p at T2 HF
  generalize lenF l = n at T3 HF
  generalize ownF l = o at T1 HF
  generalize chkF kind l = R at HF ⊢
  have H1 := Lib.hid T1
  have H2 := Lib.hid T2
  have H3 := Lib.hid T3
  have hW0 : Below w.heap.size w (w.alloc (.cells #[bstr [], .int .i64 0, .int .i64 0, .bool false] 68)) := (Below.refl _ _).alloc (Nat.le_refl _) _
  have B00 := Blk.new w 68 #[bstr [], .int .i64 0, .int .i64 0, .bool false]
  clear T1 T2 T3 hs hv
  go_enter Try.func54, Try.ntmps54
  go_wp2_with fail
  refine (H1.out _ hW0).mono ?_
  rintro e w1 ⟨rfl, hb1⟩
  have B0 := B00.below hb1 (by simp)
  have hW1 := hW0.trans (hb1.mono hW0.size)
  clear B00 hb1 hW0 H1
  by_cases ho : o = 0
  case neg =>
    obtain ⟨⟨q0, q1, q2, q3⟩, ⟨f0, f1, f2, f3⟩, hz⟩ := B0.all4
    have HR := Lib.hid (HF.out.trans (chk_own ho))
    go_wp2_with fail
    refine bodyPost_ret (res_cell_tmp rfl st_Message rfl B0.put4 rfl rfl) rfl ⟨by rw [HR.out]; rfl, below_put4 hW1 (Nat.le_refl _)⟩
  subst ho
  go_wp2_with fail
  refine (H2.out _ hW1).mono ?_
  rintro e y2 ⟨rfl, hby2⟩
  have zy2 := hby2.size
  have B2 : Blk (y2.alloc (.cells #[bstr p.1.method, bstr p.1.scheme, bstr p.1.authority, bstr p.1.path, .int .i64 p.1.status] 58)) y2.heap.size 58 #[bstr p.1.method, bstr p.1.scheme, bstr p.1.authority, bstr p.1.path, .int .i64 p.1.status] := Blk.new _ _ _
  have hpx2 : Below w1.heap.size w1 (y2.alloc (.cells #[bstr p.1.method, bstr p.1.scheme, bstr p.1.authority, bstr p.1.path, .int .i64 p.1.status] 58)) := hby2.alloc zy2 _
  have hW2 := hW1.trans (hpx2.mono hW1.size)
  have B01 := B0.below hpx2 B0.lt
  clear hby2 B0
  obtain ⟨⟨q0, q1, q2, q3⟩, ⟨f0, f1, f2, f3⟩, hz⟩ := B01.all4
  cases h2 : p.2 with
  | false =>
    have HR := Lib.hid (HF.out.trans (chk_beg h2))
    go_wp2_with fail
    refine bodyPost_ret (res_cell_tmp rfl st_Message rfl B01.put4 rfl rfl) rfl ⟨by rw [HR.out]; rfl, below_put4 hW2 (Nat.le_refl _)⟩
  | true =>
  go_wp2_with fail
  refine (H3.out _ hW2).mono ?_
  rintro e y3 ⟨rfl, hby3⟩
  have zy3 := hby3.size
  have B3 : Blk (y3.alloc (.cells #[.int .i64 n.1, .bool n.2.1] 26)) y3.heap.size 26 #[.int .i64 n.1, .bool n.2.1] := Blk.new _ _ _
  have hpx3 : Below (y2.alloc (.cells #[bstr p.1.method, bstr p.1.scheme, bstr p.1.authority, bstr p.1.path, .int .i64 p.1.status] 58)).heap.size (y2.alloc (.cells #[bstr p.1.method, bstr p.1.scheme, bstr p.1.authority, bstr p.1.path, .int .i64 p.1.status] 58)) (y3.alloc (.cells #[.int .i64 n.1, .bool n.2.1] 26)) := hby3.alloc zy3 _
  have hW3 := hW2.trans (hpx3.mono hW2.size)
  have B02 := B01.below hpx3 B01.lt
  have B22 := B2.below hpx3 B2.lt
  clear hby3 B01 B2 q0 q1 q2 q3 f0 f1 f2 f3 hz
  obtain ⟨⟨q0, q1, q2, q3⟩, ⟨f0, f1, f2, f3⟩, hz⟩ := B02.all4
  obtain ⟨⟨r0, r1, r2, r3, r4⟩, _, hzr⟩ := B22.all5
  obtain ⟨s0, s1, _, _, hzs⟩ := B3.two
  cases h3 : n.2.2 with
  | false =>
    have HR := Lib.hid (HF.out.trans (chk_len h2 h3))
    go_wp2_with fail
    refine bodyPost_ret (res_cell_tmp rfl st_Message rfl B02.put4 rfl rfl) rfl ⟨by rw [HR.out]; rfl, below_put4 hW3 (Nat.le_refl _)⟩
  | true =>
  by_cases hk : kind = 3
  · subst hk
    cases h4 : safeF p.1.method with
    | false =>
      have HR := Lib.hid (HF.out.trans (chk_safe h2 h3 h4))
      go_wp2_with (go_at_call 86; refine (message_safe _ _).mono ?_; rintro e w' ⟨rfl, rfl⟩)
      refine bodyPost_ret (res_cell_tmp rfl st_Message rfl B02.put4 rfl rfl) rfl ⟨by rw [HR.out]; rfl, below_put4 hW3 (Nat.le_refl _)⟩
    | true =>
      have HR := Lib.hid (HF.out.trans (chk_ok h2 h3 (by rw [h4]; simp)))
      go_wp2_with (go_at_call 86; refine (message_safe _ _).mono ?_; rintro e w' ⟨rfl, rfl⟩)
      refine bodyPost_ret (res_cell_tmp rfl st_Message rfl B02.put4 rfl rfl) rfl ⟨by rw [HR.out]; rfl, below_put4 hW3 (Nat.le_refl _)⟩
  · have HR := Lib.hid (HF.out.trans (chk_ok (kind := kind) h2 h3 (fun h => hk h.1)))
    go_wp2_with fail
    refine bodyPost_ret (res_cell_tmp rfl st_Message rfl B02.put4 rfl rfl) rfl ⟨by rw [HR.out]; rfl, below_put4 hW3 (Nat.le_refl _)⟩
