/-
  What begins a response, as the document says it.
-/
import Derived.Test.YtafccnkeiohlhaaPse3
namespace Go.Proofs.Ytafccnkeiohlhaa
open Go.ChangeShapes Go.WideShapes Go.ChangeAt Go.RowKit Go.Deep

def dGo : List UInt8 → Int → Option Int
  | [], n => some n
  | c :: r, n => if (c.toNat : Int) < 48 ∨ 57 < (c.toNat : Int) then none else dGo r (10 * n + ((c.toNat : Int) - 48))
def resNum (n : Int) : Hd × Bool := if n < 100 ∨ n = 101 then (noHd, false) else (⟨[], [], [], [], n⟩, true)
def refRes (l : List Fd) : Hd × Bool :=
  if orderedF l stNames = true then (if ((valueR l nStatus).length : Int) = 3 then (match dGo (valueR l nStatus) 0 with
    | none => (noHd, false)
    | some n => resNum n) else (noHd, false)) else (noHd, false)
theorem refRes_no {l : List Fd} (h : orderedF l stNames = false) : refRes l = (noHd, false) := by simp [refRes, h]
theorem refRes_len {l : List Fd} (h : ¬ ((valueR l nStatus).length : Int) = 3) : refRes l = (noHd, false) := by simp [refRes, h]
theorem refRes_none {l : List Fd} (h : dGo (valueR l nStatus) 0 = none) : refRes l = (noHd, false) := by simp [refRes, h]
theorem refRes_some {l : List Fd} {n : Int} (h0 : orderedF l stNames = true) (h1 : ((valueR l nStatus).length : Int) = 3) (h : dGo (valueR l nStatus) 0 = some n) : refRes l = resNum n := by
  unfold refRes; rw [if_pos h0, if_pos h1, h]
theorem dGo_bad {c : UInt8} {r : List UInt8} {n : Int} (h : (c.toNat : Int) < 48 ∨ 57 < (c.toNat : Int)) : dGo (c :: r) n = none := by simp [dGo, h]
theorem dGo_ok {c : UInt8} {r : List UInt8} {n : Int} (h : ¬ ((c.toNat : Int) < 48 ∨ 57 < (c.toNat : Int))) : dGo (c :: r) n = dGo r (10 * n + ((c.toNat : Int) - 48)) := by rw [dGo, if_neg h]
theorem resNum_101 {m : Int} (h : (m == 101) = true) : resNum m = (noHd, false) := by
  have : m = 101 := by simpa using h
  simp [resNum, this]
theorem resNum_ok {m : Int} (h1 : ¬ m < 100) (h : (m == 101) = false) : resNum m = (⟨[], [], [], [], m⟩, true) := by
  have : ¬ m = 101 := by simpa using h
  simp [resNum, this, h1]
theorem p10_le {k : Nat} (h : k ≤ 3) : (10 : Int) ^ k ≤ 1000 := by
  rcases k with _ | _ | _ | _ | k
  · decide
  · decide
  · decide
  · decide
  · omega

set_option maxRecDepth 100000 in
set_option maxHeartbeats 2000000 in
theorem ref27_Response (a : Option Addr) (cap B : Nat) (l : List Fd) (w : World) (hm : l.length ≤ maxLen) (hB : B ≤ w.heap.size) (hs : SlF w B a l) :
    Calls Try.prog 46 #[.slice a l.length cap] w fun e w' => e = .returned (.tuple #[hdVal (refRes l).1, .bool (refRes l).2]) ∧ Below w.heap.size w w' := by
  have hsl := valueR_le hs [58, 115, 116, 97, 116, 117, 115]
  unfold maxLen at hsl
  have hbW1 : Below w.heap.size w (w.alloc (.cells #[bstr [], bstr [], bstr [], bstr [], .int .i64 0] 61)) := (Below.refl _ _).alloc (Nat.le_refl _) _
  go_enter Try.func46, Try.ntmps46
  go_wp2_with (go_at_call 77; refine (ref27_value _ _ _ _ _ _ hm (hs.below hbW1 hB)).mono ?_; rintro e w' ⟨rfl, rfl⟩)
  have hbW : Below w.heap.size w ((w.alloc (.cells #[bstr [], bstr [], bstr [], bstr [], .int .i64 0] 61)).alloc (.cells #[bstr nStatus] 9)) := hbW1.alloc (by simp) _
  have hsn : SlS ((w.alloc (.cells #[bstr [], bstr [], bstr [], bstr [], .int .i64 0] 61)).alloc (.cells #[bstr nStatus] 9)) (w.heap.size + 2) (some ⟨w.heap.size + 1, 0, none⟩) stNames := slS_new (Blk.at_ _ _ _ (by simp)) rfl (by decide)
  refine (ref27_ordered a (some ⟨w.heap.size + 1, 0, none⟩) cap 1 B _ l stNames _ hm (by simp; omega) (hs.below hbW hB) (by decide) (by simp) hsn).mono ?_
  rintro e w1 ⟨rfl, hb1⟩
  have hb2 := hbW.trans (hb1.mono hbW.size)
  have B0 := ((Blk.new w 61 #[bstr [], bstr [], bstr [], bstr [], .int .i64 0]).alloc (.cells #[bstr nStatus] 9)).below hb1 (by simp; omega)
  obtain ⟨⟨q0, q1, q2, q3, q4⟩, ⟨f0, f1, f2, f3, f4⟩, hz⟩ := B0.all5
  clear hbW hb1 hs hbW1 hsn
  cases ho : orderedF l stNames with
  | false =>
    have HR := Lib.hid (refRes_no ho)
    go_wp2_with fail
    refine bodyPost_ret (res_cell_tmp rfl st_RefHead rfl B0.put5 rfl rfl) rfl ⟨by rw [HR.out]; rfl, below_put5 hb2 (Nat.le_refl _)⟩
  | true =>
    have HO := Lib.hid ho
    clear ho
    by_cases h3 : ((valueR l [58, 115, 116, 97, 116, 117, 115]).length : Int) = 3
    · have t3 : (((valueR l [58, 115, 116, 97, 116, 117, 115]).length : Int) != 3) = false := by rw [h3]; rfl
      have H3 := Lib.hid h3
      have hlen : (valueR l [58, 115, 116, 97, 116, 117, 115]).length = 3 := by omega
      have HR0 : Hid (dGo (valueR l nStatus) 0 = dGo ((valueR l nStatus).drop 0) 0) := rfl
      have HRS : ∀ n, dGo (valueR l nStatus) 0 = some n → refRes l = resNum n := fun n h => refRes_some HO.out H3.out h
      have HRN : dGo (valueR l nStatus) 0 = none → refRes l = (noHd, false) := fun h => refRes_none h
      have HS := Lib.hid HRS
      have HN := Lib.hid HRN
      clear h3 HRS HRN HO H3
      go_wp2_with fail
      generalize valueR l [58, 115, 116, 97, 116, 117, 115] = s at *
      have hle : 3 ≤ s.length := by omega
      have HL := Lib.hid hlen
      clear hlen
      go_loop [6, 5] (fun i n => ∃ (k : Nat) (m : Int), k ≤ 3 ∧ i = .int .i64 k ∧ n = .int .i64 m ∧ 0 ≤ m ∧ m < 10 ^ k ∧ Hid (dGo s 0 = dGo (s.drop k) m)) (fun i _ => 3 - (intOf i).toNat)
      case atStart => exact ⟨0, 0, by omega, rfl, rfl, by omega, by decide, HR0⟩
      case round =>
        clear HR0
        obtain ⟨k, m, hk, rfl, rfl, hm0, hm1, HF⟩ := hrel
        have hp := p10_le hk
        have hmm : m < 1000 := by omega
        have HM := Lib.hid hm1
        clear hm1 hp
        by_cases hlt : k < 3
        · have hks : k < s.length := by omega
          have hb := s[k].toNat_lt
          have hdrop := List.drop_eq_getElem_cons hks
          have HF2 : Hid (dGo s 0 = dGo (s[k] :: s.drop (k + 1)) m) := HF.out.trans (by rw [hdrop])
          clear HF hdrop
          by_cases t1 : (s[k].toNat : Int) < 48
          · have HR := Lib.hid (HN.out (HF2.out.trans (dGo_bad (by omega))))
            go_wp2_with fail
            refine bodyPost_ret (res_cell_tmp rfl st_RefHead rfl B0.put5 rfl rfl) rfl ⟨by rw [HR.out]; rfl, below_put5 hb2 (Nat.le_refl _)⟩
          by_cases t2 : 57 < (s[k].toNat : Int)
          · have HR := Lib.hid (HN.out (HF2.out.trans (dGo_bad (by omega))))
            go_wp2_with fail
            refine bodyPost_ret (res_cell_tmp rfl st_RefHead rfl B0.put5 rfl rfl) rfl ⟨by rw [HR.out]; rfl, below_put5 hb2 (Nat.le_refl _)⟩
          · have HF3 : Hid (dGo s 0 = dGo (s.drop (k + 1)) (10 * m + ((s[k].toNat : Int) - 48))) := HF2.out.trans (dGo_ok (by omega))
            clear HF2
            go_wp2_with fail
            go_round
            case rel => exact ⟨k + 1, _, hlt, by go_num, rfl, by omega, by have := HM.out; rw [Int.pow_succ]; omega, HF3⟩
            case measure => simp [intOf]; omega
        · have HF2 : Hid (dGo s 0 = some m) := HF.out.trans (by rw [List.drop_of_length_le (by have := HL.out; omega)]; rfl)
          have HR0 := HS.out m HF2.out
          by_cases t1 : m < 100
          · have HR : Hid (refRes l = (noHd, false)) := HR0.trans (by simp [resNum, t1])
            clear HR0 HF HF2
            go_wp2_with fail
            refine bodyPost_ret (res_cell_tmp rfl st_RefHead rfl B0.put5 rfl rfl) rfl ⟨by rw [HR.out]; rfl, below_put5 hb2 (Nat.le_refl _)⟩
          cases t2 : (m == 101) with
          | true =>
            have HR : Hid (refRes l = (noHd, false)) := HR0.trans (resNum_101 t2)
            clear HR0 HF HF2
            go_wp2_with fail
            refine bodyPost_ret (res_cell_tmp rfl st_RefHead rfl B0.put5 rfl rfl) rfl ⟨by rw [HR.out]; rfl, below_put5 hb2 (Nat.le_refl _)⟩
          | false =>
            have HR : Hid (refRes l = (⟨[], [], [], [], m⟩, true)) := HR0.trans (resNum_ok t1 t2)
            clear HR0 HF HF2
            go_wp2_with fail
            refine bodyPost_ret (res_cell_tmp rfl st_RefHead rfl B0.put5 rfl rfl) rfl ⟨by rw [HR.out]; rfl, below_put5 hb2 (Nat.le_refl _)⟩
    · have t3 : (((valueR l [58, 115, 116, 97, 116, 117, 115]).length : Int) != 3) = true := by simpa using h3
      have HR := Lib.hid (refRes_len h3)
      clear h3
      go_wp2_with fail
      refine bodyPost_ret (res_cell_tmp rfl st_RefHead rfl B0.put5 rfl rfl) rfl ⟨by rw [HR.out]; rfl, below_put5 hb2 (Nat.le_refl _)⟩
end Go.Proofs.Ytafccnkeiohlhaa
