/-
  What begins a response, as the program says it.
-/
import Derived.Test.YtafccnkeiohlhaaPse6
import Derived.Test.YtafccnkeiohlhaaPse4
namespace Go.Proofs.Ytafccnkeiohlhaa
open Go.ChangeShapes Go.WideShapes Go.ChangeAt Go.RowKit Go.Deep

def resOf (p : Int × Bool) : Hd × Bool := if (!p.2 || decide (p.1 < 100) || p.1 == 101) = true then (noHd, false) else (⟨[], [], [], [], p.1⟩, true)
def progRes (l : List Fd) : Hd × Bool :=
  match valF l stNames with
  | some ([o0], [_]) => if ((o0.length : Int) != 3) = true then (noHd, false) else resOf (natF o0 999)
  | _ => (noHd, false)
theorem progRes_none {l : List Fd} (h : valF l stNames = none) : progRes l = (noHd, false) := by unfold progRes; rw [h]
theorem progRes_len {l : List Fd} {o0 : List UInt8} {m0 : Int} (h : valF l stNames = some ([o0], [m0])) (h2 : ((o0.length : Int) != 3) = true) : progRes l = (noHd, false) := by unfold progRes; rw [h]; simp only [h2, if_true]
theorem progRes_ok {l : List Fd} {o0 : List UInt8} {m0 : Int} (h : valF l stNames = some ([o0], [m0])) (h2 : ((o0.length : Int) != 3) = false) : progRes l = resOf (natF o0 999) := by unfold progRes; rw [h]; simp only [h2]; rfl

set_option maxRecDepth 100000 in
set_option maxHeartbeats 2000000 in
theorem pseudo_Response (a : Option Addr) (cap B : Nat) (l : List Fd) (w : World) (hm : l.length ≤ maxLen) (hB : B ≤ w.heap.size) (hs : SlF w B a l) (hlen : ∀ p, valF l stNames = some p → ∀ s ∈ p.1, s.length ≤ maxLen) :
    Calls Try.prog 45 #[.slice a l.length cap] w fun e w' => e = .returned (.tuple #[hdVal (progRes l).1, .bool (progRes l).2]) ∧ Below w.heap.size w w' := by
  have HLen := Lib.hid hlen
  clear hlen
  go_enter Try.func45, Try.ntmps45
  go_wp2_with fail
  have hbW : Below w.heap.size w ((w.alloc (.cells #[bstr [], bstr [], bstr [], bstr [], .int .i64 0] 58)).alloc (.cells #[bstr nStatus] 9)) := ((Below.refl _ _).alloc (Nat.le_refl _) _).alloc (by simp) _
  have hsn : SlS ((w.alloc (.cells #[bstr [], bstr [], bstr [], bstr [], .int .i64 0] 58)).alloc (.cells #[bstr nStatus] 9)) (w.heap.size + 2) (some ⟨w.heap.size + 1, 0, none⟩) stNames := slS_new (Blk.at_ _ _ _ (by simp)) rfl (by decide)
  refine (pseudo_values a (some ⟨w.heap.size + 1, 0, none⟩) cap 1 B _ l stNames _ hm (by simp; omega) (hs.below hbW hB) (by decide) (by simp) hsn).mono ?_
  intro e w1 hp
  obtain ⟨hb1, hp⟩ := hp
  have hb2 := hbW.trans (hb1.mono hbW.size)
  have B0 := ((Blk.new w 58 #[bstr [], bstr [], bstr [], bstr [], .int .i64 0]).alloc (.cells #[bstr nStatus] 9)).below hb1 (by simp; omega)
  obtain ⟨⟨q0, q1, q2, q3, q4⟩, ⟨f0, f1, f2, f3, f4⟩, hz⟩ := B0.all5
  clear hsn hs hb1
  cases hv : valF l stNames with
  | none =>
    rw [hv] at hp
    have HR := Lib.hid (progRes_none hv)
    subst hp
    clear hv
    go_wp2_with fail
    refine bodyPost_ret (res_cell_tmp rfl st_Head rfl B0.put5 rfl rfl) rfl ⟨by rw [HR.out]; rfl, below_put5 hb2 (Nat.le_refl _)⟩
  | some p =>
    rw [hv] at hp
    have hl0 := HLen.out p hv
    obtain ⟨out, many⟩ := p
    obtain ⟨gO, gM, n4, hn4, rfl, hlo, hlm, hgO, hgM, BO, BM⟩ := hp
    obtain rfl : n4 = 1 := hn4
    simp only [World.size_alloc] at hgO hgM
    match out, hlo, many, hlm with
    | [o0], _, [m0], _ =>
    have hol := hl0 o0 (by simp)
    have hol' := hol
    unfold maxLen at hol'
    have HV := Lib.hid hv
    obtain ⟨a0, _, hzo⟩ := Blk.one (x := bstr o0) BO
    clear hv hl0
    cases h3 : ((o0.length : Int) != 3) with
    | true =>
      have HR := Lib.hid (progRes_len HV.out h3)
      go_wp2_with fail
      refine bodyPost_ret (res_cell_tmp rfl st_Head rfl B0.put5 rfl rfl) rfl ⟨by rw [HR.out]; rfl, below_put5 hb2 (Nat.le_refl _)⟩
    | false =>
      have HR0 := Lib.hid (progRes_ok HV.out h3)
      have h3' : (o0.length : Int) = 3 := by simpa using h3
      have hl3 : (o0.length : Int) ≤ 3 := by omega
      clear h3'
      go_wp2_with fail
      refine (digits_Natural o0 999 hol (by omega) _).mono ?_
      rintro e w2 ⟨rfl, hbc⟩
      have B0' := B0.below hbc hz
      have hb3 := hb2.trans (hbc.mono hb2.size)
      clear q0 q1 q2 q3 q4 f0 f1 f2 f3 f4 hbc
      obtain ⟨⟨q0, q1, q2, q3, q4⟩, ⟨f0, f1, f2, f3, f4⟩, hz⟩ := B0'.all5
      generalize natF o0 999 = p at HR0 ⊢
      cases hp2 : p.2 with
      | false =>
        have HR : Hid (progRes l = (noHd, false)) := HR0.out.trans (by simp only [resOf, hp2]; rfl)
        go_wp2_with fail
        refine bodyPost_ret (res_cell_tmp rfl st_Head rfl B0'.put5 rfl rfl) rfl ⟨by rw [HR.out]; rfl, below_put5 hb3 (Nat.le_refl _)⟩
      | true =>
        by_cases t1 : p.1 < 100
        · have HR : Hid (progRes l = (noHd, false)) := HR0.out.trans (by simp only [resOf, hp2, decide_eq_true t1]; rfl)
          go_wp2_with fail
          refine bodyPost_ret (res_cell_tmp rfl st_Head rfl B0'.put5 rfl rfl) rfl ⟨by rw [HR.out]; rfl, below_put5 hb3 (Nat.le_refl _)⟩
        cases t2 : (p.1 == 101) with
        | true =>
          have HR : Hid (progRes l = (noHd, false)) := HR0.out.trans (by simp only [resOf, hp2, decide_eq_false t1, t2]; rfl)
          go_wp2_with fail
          refine bodyPost_ret (res_cell_tmp rfl st_Head rfl B0'.put5 rfl rfl) rfl ⟨by rw [HR.out]; rfl, below_put5 hb3 (Nat.le_refl _)⟩
        | false =>
          have HR : Hid (progRes l = (⟨[], [], [], [], p.1⟩, true)) := HR0.out.trans (by simp only [resOf, hp2, decide_eq_false t1, t2]; rfl)
          go_wp2_with fail
          refine bodyPost_ret (res_cell_tmp rfl st_Head rfl B0'.put5 rfl rfl) rfl ⟨by rw [HR.out]; rfl, below_put5 hb3 (Nat.le_refl _)⟩
end Go.Proofs.Ytafccnkeiohlhaa
