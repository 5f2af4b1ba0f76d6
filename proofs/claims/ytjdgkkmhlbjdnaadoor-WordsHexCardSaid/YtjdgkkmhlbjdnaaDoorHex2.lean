/-
  Digits of base sixteen: the program's, from bytes.
-/
import Derived.Test.YtjdgkkmhlbjdnaaDoorHex1
import Derived.Test.YtjdgkkmhlbjdnaaDoorWord3
import Derived.OwnWalk
namespace Go.Proofs.YtjdgkkmhlbjdnaaDoor
set_option linter.unusedSimpArgs false
set_option linter.unusedVariables false
open Go.ChangeShapes Go.WideShapes Go.ChangeAt Go.RowKit Go.Deep Go.Shelf

theorem uint8_parts : ∃ i, Tryd.prog.info? 5 = some i ∧ i.zero = some (.int .u8 0) ∧ i.size = 1 ∧ i.bytes = 1 := info_parts (by kernel_rfl)
theorem own_made {base n : Nat} {w w' : World} (h : w'.ownsRow base 5 1 (.slice (some ⟨w.heap.size, 0, none⟩) 0 n) 0 []) : OwnB base w' (.slice (some ⟨w.heap.size, 0, none⟩) 0 n) [] := h
theorem step_byte2 {ops : Array Oper} {o : Oper} {a : Act} {K : Act → World → Prop} {Q : Exit → Act → World → Prop} {E : Prop} {w : World}
    (s x : Operand) (hgd : o.guard = none) (ho : o.op = .call { callee := .builtin .append, args := #[s, x], argTypes := #[22, 22] })
    {B : Nat} {v : Value} {l : List UInt8} {c d : UInt8} (hs : a.eval s = v) (hown : OwnB B w v l)
    {g cc : Nat} {e' : TypeId} (hx : a.eval x = .slice (some ⟨g, 0, none⟩) 2 cc) (hb : Blk w g e' #[.int .u8 (c.toNat : Int), .int .u8 (d.toNat : Int)])
    (hl : l.length + 2 ≤ 140737488355328) (hB : B ≤ w.heap.size)
    (h : ∀ v' w', OwnB B w' v' (l ++ [c, d]) → Below B w w' → K (a.put o.dst v') w') : if Region.wanted o (yielded ops a.tmps) = true then Oper.wp Tryd.prog o a w K Q else E := by
  refine step_app st_bytes s x hgd ho hs hown hx hb rfl (by intro u hu; simp at hu; rcases hu with rfl | rfl <;> rfl) (by unfold maxLen; omega) (by omega) hB (fun v' w' h1 h2 => h v' w' ?_ (own_grown (Below.refl B w) hown h2 (Nat.le_refl _) hB))
  unfold OwnB
  rw [show l ++ [c, d] = (l ++ [c]) ++ [d] by simp, byteCells_snoc, byteCells_snoc, List.length_append, List.length_append, List.append_assoc]
  exact h1

theorem and15 (c : UInt8) : bits .and .u8 (c.toNat : Int) 15 = ((c.toNat % 16 : Nat) : Int) := all_bytes (P := fun c => bits .and .u8 (c.toNat : Int) 15 = ((c.toNat % 16 : Nat) : Int)) (by decide +kernel) c
set_option maxHeartbeats 4000000 in
set_option maxRecDepth 100000 in
theorem words_Hex (a : Option Addr) (cap : Nat) (b : List UInt8) (w0 w : World) (hm : b.length ≤ 1048576) (hb : Below w0.heap.size w0 w) (hs0 : SlB w0 w0.heap.size a b) :
    Calls Tryd.prog 34 #[.slice a b.length cap] w fun e w' => e = .returned (bstr (hexF b)) ∧ ∃ j, w' = w.more j := by
  obtain ⟨i0, hi, hz0, hz1, hz2⟩ := uint8_parts
  have hs := hs0.below hb (Nat.le_refl _)
  have hz := hb.size
  clear hs0 hb
  have s0 : IntKind.i64.wrap (2 * (b.length : Int)) = 2 * (b.length : Int) := IntWalk.i64_in _ (by omega)
  go_enter Tryd.func34, Tryd.ntmps34
  go_wp2_with (at_make; refine wpList_make_own _ rfl _ _ 22 rfl w.heap.size 5 i0 (.int .u8 0) 1 Tryd.underlying22 hi hz0 hz1 .i64 .i64 _ (2 * b.length) rfl rfl (by first | omega | (rw [s0]; omega) | simp) (by rw [hz2]; omega) (by unfold maxLen; omega) (Nat.le_refl _) ?_; intro w1 hown1 hgrow1)
  have HO1 := Lib.hid (own_made hown1)
  have hb1 : Below w.heap.size w w1 := (Below.refl _ _).grown hgrow1 (Nat.le_refl _) (fun k h => by cases h)
  clear hown1 hgrow1 s0
  have HM : Hid (b.length ≤ 1048576) := hm
  go_loopg [3, 12] b.length (fun g v i wr => ∃ (k : Nat) (acc : List UInt8), k + g = b.length ∧ i = .int .i64 k ∧ acc.length ≤ 2 * k ∧ OwnB w.heap.size wr v acc ∧ Below w.heap.size w wr ∧ Hid (acc = (b.take k).flatMap pairB))
  case atStart => exact ⟨0, [], by omega, rfl, by simp, HO1.out, hb1, by show _ = _; simp⟩
  case round =>
    obtain ⟨k, acc, hkg, rfl, hlen, HO, hbw, HA⟩ := hrel
    by_cases hlt : k < b.length
    · have HK := Lib.hid hkg
      have HO' := Lib.hid HO
      have HB := Lib.hid hbw
      have hzb := hbw.size
      have hs2 := hs.below (hbw.mono (by omega)) (Nat.le_refl _)
      obtain ⟨bx, ox, rfl, hbx, cx⟩ := hs2.atB hlt
      have hbx' : bx < wr.heap.size := by omega
      have hc := b[k].toNat_lt
      obtain ⟨q, hq⟩ : ∃ q, b[k].toNat / 16 = q := ⟨_, rfl⟩
      obtain ⟨r, hr⟩ : ∃ r, b[k].toNat % 16 = r := ⟨_, rfl⟩
      have hq16 : q < 16 := by omega
      have hr16 : r < 16 := by omega
      have HS : Hid ((b.take (k + 1)).flatMap pairB = acc ++ [hexD[q]'hq16, hexD[r]'hr16]) := by
        show _ = _
        rw [HA.out, List.take_succ_eq_append_getElem hlt, List.flatMap_append]
        subst hq hr
        simp
        exact pairB_get _
      have f1 : (b[k].toNat : Int) / 16 = (q : Int) := by omega
      have f2 : bits .and .u8 (b[k].toNat : Int) 15 = (r : Int) := by rw [and15, hr]
      have i1 : (q : Int) < 16 := by omega
      have i2 : (r : Int) < 16 := by omega
      have i3 : (0 : Int) ≤ q := by omega
      have i4 : (0 : Int) ≤ r := by omega
      have i5 : (q : Int).toNat = q := by omega
      have i6 : (r : Int).toNat = r := by omega
      clear hq hr
      clear hkg HO hbw hs2 hb1
      go_wp2_with fail
      go_region_law (refine step_byte2 (.tmp 16) (.tmp 23) rfl rfl rfl (HO'.out.alloc _).drew rfl (Blk.new _ _ _).drew (by omega) (by rw [World.size_drew, World.size_alloc]; omega) ?_; intro v' w2 hown hbw)
      all_goals
        have hb2 := HB.out.trans (((Below.refl w.heap.size wr).alloc HB.out.size _).drew.trans hbw)
        clear hbw
        go_wp2_with fail
        go_roundg (b.length - (k + 1))
        case measure => have := HK.out; omega
        case rel => exact ⟨k + 1, _, by omega, by go_num, by simp; omega, hown, hb2, HS.out.symm⟩
    · have HH : Hid (hexF b = acc) := by show _ = _; rw [HA.out, List.take_of_length_le (by omega)]; rfl
      have ht := HO.text
      obtain ⟨av, cap', rfl⟩ := HO.len
      go_wp2_with fail
      go_ret
      exact ⟨ret1d (by rw [HH.out]; rfl), hbw.junk⟩
