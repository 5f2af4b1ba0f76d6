/-
  What begins a request, as the program says it.
-/
import Derived.Test.YtafccnkeiohlhaaPse5
import Derived.Test.YtafccnkeiohlhaaBlk
import Derived.Deep.RegionHeld3
import Derived.Deep.QuietTactic
import Derived.BigQuiet
namespace Go.Proofs.Ytafccnkeiohlhaa
open Go.ChangeShapes Go.WideShapes Go.ChangeAt Go.RowKit Go.Deep

set_option maxRecDepth 100000 in
theorem pseudo_connects (h : Hd) (w : World) :
    Calls Try.prog 75 #[hdVal h] w fun e w' => e = .returned (.bool (h.method == vConnect)) ∧ Below w.heap.size w w' := by
  go_enter Try.func75, Try.ntmps75
  go_wp2_with fail
  go_ret
  exact ⟨rfl, (Below.refl _ _).alloc (Nat.le_refl _) _⟩
theorem st_Head : StructTy Try.prog 58 5 := ⟨_, Try.underlying58, rfl, by kernel_rfl⟩
def progOk (h : Hd) (m1 m3 : Int) : Bool := if (h.method == vConnect) = true then (m1 + m3 == 0) && !h.authority.isEmpty else !h.method.isEmpty && !h.scheme.isEmpty && !h.path.isEmpty
def progReq (l : List Fd) : Hd × Bool :=
  match valF l reqNames with
  | some ([o0, o1, o2, o3], [_, m1, _, m3]) => if progOk ⟨o0, o1, o2, o3, 0⟩ m1 m3 = true then (⟨o0, o1, o2, o3, 0⟩, true) else (noHd, false)
  | _ => (noHd, false)
theorem progReq_none {l : List Fd} (h : valF l reqNames = none) : progReq l = (noHd, false) := by unfold progReq; rw [h]
theorem progReq_bad {l : List Fd} {o0 o1 o2 o3 : List UInt8} {m0 m1 m2 m3 : Int} (h : valF l reqNames = some ([o0, o1, o2, o3], [m0, m1, m2, m3])) (h2 : progOk ⟨o0, o1, o2, o3, 0⟩ m1 m3 = false) : progReq l = (noHd, false) := by unfold progReq; rw [h]; simp [h2]
theorem progReq_ok {l : List Fd} {o0 o1 o2 o3 : List UInt8} {m0 m1 m2 m3 : Int} (h : valF l reqNames = some ([o0, o1, o2, o3], [m0, m1, m2, m3])) (h2 : progOk ⟨o0, o1, o2, o3, 0⟩ m1 m3 = true) : progReq l = (⟨o0, o1, o2, o3, 0⟩, true) := by unfold progReq; rw [h]; simp [h2]
theorem valGo_small {names : List (List UInt8)} : ∀ (l : List Fd) (out : List (List UInt8)) (many : List Int) (over : Bool), (∀ m ∈ many, 0 ≤ m ∧ m ≤ 1) → ∀ p, valGo names l out many over = some p → ∀ m ∈ p.2, 0 ≤ m ∧ m ≤ 1
  | [], out, many, over, h, p, hp => by
    simp [valGo] at hp
    subst hp
    exact h
  | f :: r, out, many, over, h, p, hp => by
    cases h1 : startsF f.name with
    | false => rw [valGo_over h1] at hp; exact valGo_small r out many true h p hp
    | true =>
      cases over with
      | true => rw [valGo_late h1] at hp; cases hp
      | false =>
        cases h2 : fndGo names many f.name 0 with
        | none => rw [valGo_none h1 h2] at hp; cases hp
        | some i =>
          rw [valGo_some h1 h2] at hp
          refine valGo_small r _ _ false ?_ p hp
          intro m hm
          rcases List.mem_or_eq_of_mem_set hm with hm | rfl
          · exact h m hm
          · omega
theorem valF_small {l : List Fd} {names : List (List UInt8)} {p : List (List UInt8) × List Int} (h : valF l names = some p) : ∀ m ∈ p.2, 0 ≤ m ∧ m ≤ 1 :=
  valGo_small l _ _ false (by simp) p h

set_option maxRecDepth 100000 in
set_option maxHeartbeats 2000000 in
theorem pseudo_Request (a : Option Addr) (cap B : Nat) (l : List Fd) (w : World) (hm : l.length ≤ maxLen) (hB : B ≤ w.heap.size) (hs : SlF w B a l) :
    Calls Try.prog 42 #[.slice a l.length cap] w fun e w' => e = .returned (.tuple #[hdVal (progReq l).1, .bool (progReq l).2]) ∧ Below w.heap.size w w' := by
  go_enter Try.func42, Try.ntmps42
  go_wp2_with fail
  have hbW : Below w.heap.size w ((w.alloc (.cells #[bstr [], bstr [], bstr [], bstr [], .int .i64 0] 58)).alloc (.cells #[bstr nMethod, bstr nScheme, bstr nAuthority, bstr nPath] 9)) := ((Below.refl _ _).alloc (Nat.le_refl _) _).alloc (by simp) _
  have hsn : SlS ((w.alloc (.cells #[bstr [], bstr [], bstr [], bstr [], .int .i64 0] 58)).alloc (.cells #[bstr nMethod, bstr nScheme, bstr nAuthority, bstr nPath] 9)) (w.heap.size + 2) (some ⟨w.heap.size + 1, 0, none⟩) reqNames := slS_new (Blk.at_ _ _ _ (by simp)) rfl (by decide)
  refine (pseudo_values a (some ⟨w.heap.size + 1, 0, none⟩) cap 4 B _ l reqNames _ hm (by simp; omega) (hs.below hbW hB) (by decide) (by simp) hsn).mono ?_
  intro e w1 hp
  obtain ⟨hb1, hp⟩ := hp
  have hb2 := hbW.trans (hb1.mono hbW.size)
  have B0 := ((Blk.new w 58 #[bstr [], bstr [], bstr [], bstr [], .int .i64 0]).alloc (.cells #[bstr nMethod, bstr nScheme, bstr nAuthority, bstr nPath] 9)).below hb1 (by simp; omega)
  obtain ⟨⟨q0, q1, q2, q3, q4⟩, ⟨f0, f1, f2, f3, f4⟩, hz⟩ := B0.all5
  clear hsn hs hb1
  cases hv : valF l reqNames with
  | none =>
    rw [hv] at hp
    have HR := Lib.hid (progReq_none hv)
    subst hp
    clear hv
    go_wp2_with fail
    refine bodyPost_ret (res_cell_tmp rfl st_Head rfl B0.put5 rfl rfl) rfl ⟨by rw [HR.out]; rfl, below_put5 hb2 (Nat.le_refl _)⟩
  | some p =>
    rw [hv] at hp
    have hsm := valF_small hv
    obtain ⟨out, many⟩ := p
    obtain ⟨gO, gM, n4, hn4, rfl, hlo, hlm, hgO, hgM, BO, BM⟩ := hp
    obtain rfl : n4 = 4 := hn4
    simp only [World.size_alloc] at hgO hgM
    match out, hlo, many, hlm with
    | [o0, o1, o2, o3], _, [m0, m1, m2, m3], _ =>
    have hm1 := hsm m1 (by simp)
    have hm3 := hsm m3 (by simp)
    have HV := Lib.hid hv
    obtain ⟨⟨a0, a1, a2, a3⟩, _, hzo⟩ := Blk.all4 (x0 := bstr o0) (x1 := bstr o1) (x2 := bstr o2) (x3 := bstr o3) BO
    obtain ⟨⟨b0, b1, b2, b3⟩, _, hzm⟩ := Blk.all4 (x0 := .int .i64 m0) (x1 := .int .i64 m1) (x2 := .int .i64 m2) (x3 := .int .i64 m3) BM
    clear hv hsm
    go_wp2_with fail
    go_region_held3 (fun w' => w'.cell? ⟨gO, 0, none⟩ = some (bstr o0) ∧ w'.cell? ⟨gO, 1, none⟩ = some (bstr o1) ∧ w'.cell? ⟨gO, 2, none⟩ = some (bstr o2) ∧ w'.cell? ⟨gO, 3, none⟩ = some (bstr o3)) (go_keep) (fail)
    go_wp2_with fail
    refine (pseudo_connects ⟨o0, o1, o2, o3, 0⟩ _).mono ?_
    rintro e w2 ⟨rfl, hbc⟩
    have B7 := ((Blk.new w1 58 #[bstr o0, bstr o1, bstr o2, bstr o3, .int .i64 0]).drew).below hbc (by simp)
    have B0' := (((B0.alloc (.cells #[bstr o0, bstr o1, bstr o2, bstr o3, .int .i64 0] 58)).drew).below hbc (by simp; omega))
    have BM' := (((BM.alloc (.cells #[bstr o0, bstr o1, bstr o2, bstr o3, .int .i64 0] 58)).drew).below hbc (by simp; omega))
    have hb3 := (((hb2.alloc hb2.size (.cells #[bstr o0, bstr o1, bstr o2, bstr o3, .int .i64 0] 58)).drew).trans (hbc.mono (by have := hb2.size; simp; omega)))
    clear a0 a1 a2 a3 b0 b1 b2 b3 q0 q1 q2 q3 q4 f0 f1 f2 f3 f4 hbc BO BM B0
    obtain ⟨⟨a0, a1, a2, a3, a4⟩, _, hz7⟩ := B7.all5
    obtain ⟨⟨b0, b1, b2, b3⟩, _, hzm⟩ := Blk.all4 (x0 := .int .i64 m0) (x1 := .int .i64 m1) (x2 := .int .i64 m2) (x3 := .int .i64 m3) BM'
    obtain ⟨⟨q0, q1, q2, q3, q4⟩, ⟨f0, f1, f2, f3, f4⟩, hz⟩ := B0'.all5
    cases hc : (o0 == vConnect) with
    | true =>
      cases hs0 : (m1 + m3 == 0) with
      | false =>
        have HR := Lib.hid (progReq_bad HV.out (by simp only [progOk, hc, if_true, hs0]; rfl))
        go_wp2_with fail
        go_quiet (fail)
        go_wp2_with fail
        refine bodyPost_ret (res_cell_tmp rfl st_Head rfl (Blk.put5 (B0'.drewN _)) rfl rfl) rfl ⟨by rw [HR.out]; rfl, below_put5 (below_drewN hb3 _) (Nat.le_refl _)⟩
      | true =>
        cases ha : o2.isEmpty with
        | true =>
          have HR := Lib.hid (progReq_bad HV.out (by simp only [progOk, hc, if_true, hs0, ha]; rfl))
          go_wp2_with fail
          go_quiet (fail)
          go_wp2_with fail
          refine bodyPost_ret (res_cell_tmp rfl st_Head rfl (Blk.put5 (B0'.drewN _)) rfl rfl) rfl ⟨by rw [HR.out]; rfl, below_put5 (below_drewN hb3 _) (Nat.le_refl _)⟩
        | false =>
          have HR := Lib.hid (progReq_ok HV.out (by simp only [progOk, hc, if_true, hs0, ha]; rfl))
          go_wp2_with fail
          go_quiet (fail)
          go_wp2_with fail
          refine bodyPost_ret (res_cell_tmp rfl st_Head rfl (Blk.put5 (B0'.drewN _)) rfl rfl) rfl ⟨by rw [HR.out]; rfl, below_put5 (below_drewN hb3 _) (Nat.le_refl _)⟩
    | false =>
      cases h1 : o0.isEmpty
      case true =>
        have HR := Lib.hid (progReq_bad HV.out (by simp only [progOk, hc, h1]; rfl))
        go_wp2_with fail
        refine bodyPost_ret (res_cell_tmp rfl st_Head rfl B0'.put5 rfl rfl) rfl ⟨by rw [HR.out]; rfl, below_put5 hb3 (Nat.le_refl _)⟩
      cases h2 : o1.isEmpty
      case true =>
        have HR := Lib.hid (progReq_bad HV.out (by simp only [progOk, hc, h1, h2]; rfl))
        go_wp2_with fail
        refine bodyPost_ret (res_cell_tmp rfl st_Head rfl B0'.put5 rfl rfl) rfl ⟨by rw [HR.out]; rfl, below_put5 hb3 (Nat.le_refl _)⟩
      cases h3 : o3.isEmpty
      case true =>
        have HR := Lib.hid (progReq_bad HV.out (by simp only [progOk, hc, h1, h2, h3]; rfl))
        go_wp2_with fail
        refine bodyPost_ret (res_cell_tmp rfl st_Head rfl B0'.put5 rfl rfl) rfl ⟨by rw [HR.out]; rfl, below_put5 hb3 (Nat.le_refl _)⟩
      case false =>
        have HR := Lib.hid (progReq_ok HV.out (by simp only [progOk, hc, h1, h2, h3]; rfl))
        go_wp2_with fail
        refine bodyPost_ret (res_cell_tmp rfl st_Head rfl B0'.put5 rfl rfl) rfl ⟨by rw [HR.out]; rfl, below_put5 hb3 (Nat.le_refl _)⟩
end Go.Proofs.Ytafccnkeiohlhaa
