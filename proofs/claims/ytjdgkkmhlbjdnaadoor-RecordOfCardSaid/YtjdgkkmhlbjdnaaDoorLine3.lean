/-
  Lines of words: the document's parts.
-/
import Derived.Test.YtjdgkkmhlbjdnaaDoorLine2
namespace Go.Proofs.YtjdgkkmhlbjdnaaDoor
set_option linter.unusedSimpArgs false
set_option linter.unusedVariables false
set_option linter.unusedSectionVars false
open Go.ChangeShapes Go.WideShapes Go.ChangeAt Go.RowKit Go.Deep Go.Shelf

theorem st_texts : SliceTy Tryd.prog 34 9 (.string .empty) 1 16 := .mk' Tryd.underlying34 (by kernel_rfl) rfl (by omega)
def OwnX (B : Nat) (w : World) (v : Value) (l : List (List UInt8)) : Prop := w.ownsRow B 9 1 v l.length (l.map bstr)
theorem OwnX.nil (B : Nat) (w : World) : OwnX B w (.slice none 0 0) [] := World.ownsRow_nil _ _ _ _
theorem OwnX.alloc {B : Nat} {w : World} {v : Value} {l : List (List UInt8)} (h : OwnX B w v l) (o : Obj) : OwnX B (w.alloc o) v l := World.ownsRow.alloc h o
theorem OwnX.below {B C : Nat} {w w' : World} {v : Value} {l : List (List UInt8)} (h : OwnX B w v l) (hb : Below C w w') (hC : w.heap.size ≤ C) : OwnX B w' v l := own_below h hb hC
theorem OwnX.read {B : Nat} {w : World} {v : Value} {l : List (List UInt8)} (h : OwnX B w v l) (hl : ∀ x ∈ l, x.length ≤ maxLen) : ∃ a cap, v = .slice a l.length cap ∧ SlX w w.heap.size a l := by
  have e : l.map bstr = l.flatMap (fun s => [bstr s]) := by clear h hl; induction l <;> simp_all
  unfold OwnX at h
  rw [e] at h
  obtain ⟨a, cap, hv, hs⟩ := own_slr h (fun _ _ => rfl)
  exact ⟨a, cap, hv, hs.mono (Nat.le_refl _) (fun x hx cs hc => ⟨hc, hl x hx⟩)⟩
theorem app_text {ops : Array Oper} {rest : List Oper} {o : Oper} {a : Act} {Q : Exit → Act → World → Prop} {w : World}
    (s x : Operand) (hgd : o.guard = none) (ho : o.op = .call { callee := .builtin .append, args := #[s, x], argTypes := #[34, 34] })
    {B : Nat} {v : Value} {l : List (List UInt8)} {c : List UInt8} (hs : a.eval s = v) (hown : OwnX B w v l)
    {g cc : Nat} {e' : TypeId} (hx : a.eval x = .slice (some ⟨g, 0, none⟩) 1 cc) (hb : Blk w g e' #[bstr c])
    (hl : l.length + 1 ≤ 1048576) (hB : B ≤ w.heap.size)
    (h : ∀ v' w', OwnX B w' v' (l ++ [c]) → Below B w w' → wpList Tryd.prog ops Q rest (a.put o.dst v') w') : wpList Tryd.prog ops Q (o :: rest) a w := by
  refine wpList_app st_texts s x hgd ho hs hown hx hb rfl (by intro u hu; simp at hu; subst hu; rfl) (by unfold maxLen; omega) (by omega) hB (fun v' w' h1 h2 => h v' w' ?_ (own_grown (Below.refl B w) hown h2 (Nat.le_refl _) hB))
  unfold OwnX
  rw [List.map_append, List.length_append]
  exact h1
theorem pre_pre (p q : List UInt8) (l : List (List UInt8)) : preF p (preF q l) = preF (p ++ q) l := by cases l <;> simp [preF]

set_option maxHeartbeats 4000000 in
set_option maxRecDepth 100000 in
theorem ref04_parts (s : List UInt8) (c : UInt8) (hm : s.length ≤ 100000) (w : World) :
    Calls Tryd.prog 76 #[bstr s, .int .u8 (c.toNat : Int)] w fun e w' => ∃ v, e = .returned v ∧ OwnX w.heap.size w' v (cutF c s) ∧ Below w.heap.size w w' := by
  go_enter Tryd.func76, Tryd.ntmps76
  go_wp2_with fail
  go_loopg [5, 6, 7] s.length (fun g v f i wr => ∃ (k fr : Nat) (out : List (List UInt8)), k + g = s.length ∧ i = .int .i64 k ∧ f = .int .i64 fr ∧ fr ≤ k ∧ out.length ≤ k ∧ OwnX w.heap.size wr v out ∧ Below w.heap.size w wr ∧ Hid (cutF c s = out ++ preF ((s.drop fr).take (k - fr)) (cutF c (s.drop k))))
  case atStart =>
    refine ⟨0, 0, [], by omega, rfl, rfl, Nat.le_refl _, by simp, OwnX.nil _ _, Below.refl _ _, ?_⟩
    show _ = _
    obtain ⟨a, t, e⟩ := cut_ne c s
    simp [e, preF]
  case round =>
    obtain ⟨k, fr, out, hkg, rfl, rfl, hfk, hlen, HO, hb, HC⟩ := hrel
    have hzb := hb.size
    have HO' := Lib.hid HO
    have HB := Lib.hid hb
    have HK := Lib.hid hkg
    clear HO hb
    by_cases hlt : k < s.length
    · have hd : s.drop k = s[k] :: s.drop (k + 1) := List.drop_eq_getElem_cons hlt
      have hE : cutF c (s.drop k) = if s[k] = c then [] :: cutF c (s.drop (k + 1)) else preF [s[k]] (cutF c (s.drop (k + 1))) := by rw [hd, cutF]
      have hT : (s.drop fr).take (k + 1 - fr) = (s.drop fr).take (k - fr) ++ [s[k]] := by
        rw [show k + 1 - fr = (k - fr) + 1 by omega, List.take_succ_eq_append_getElem (by simp; omega)]
        simp [show fr + (k - fr) = k by omega]
      have hce : (s[k] = c) ↔ ((s[k].toNat : Int) == (c.toNat : Int)) = true := by
        rw [beq_iff_eq, ← UInt8.toNat_inj]
        omega
      have HE := Lib.hid hE
      have HT := Lib.hid hT
      clear hd hE hT
      cases hq : ((s[k].toNat : Int) == (c.toNat : Int)) with
      | true =>
        have HC2 : Hid (cutF c s = (out ++ [(s.drop fr).take (k - fr)]) ++ preF ((s.drop (k + 1)).take (k + 1 - (k + 1))) (cutF c (s.drop (k + 1)))) := by
          show _ = _
          rw [HC.out, HE.out, if_pos (hce.2 hq)]
          obtain ⟨a, t, e⟩ := cut_ne c (s.drop (k + 1))
          simp [e, preF]
        have i1 : (fr : Int) ≤ k := by omega
        have i2 : (k : Int) ≤ s.length := by omega
        have i3 : (k : Int) < s.length := by omega
        clear hce hkg
        go_wp2_with (at_builtin; refine app_text (.tmp 19) (.tmp 24) rfl rfl rfl (HO'.out.alloc _) rfl (Blk.new _ _ _) (by omega) (by rw [World.size_alloc]; omega) ?_; intro v' w1 hown hbw)
        have hb2 := HB.out.trans (((Below.refl w.heap.size wr).alloc HB.out.size _).trans hbw)
        clear hbw
        go_wp2_with fail
        go_roundg (s.length - (k + 1))
        case measure => have := HK.out; omega
        case rel => exact ⟨k + 1, k + 1, out ++ [(s.drop fr).take (k - fr)], by omega, by go_num, by go_num, Nat.le_refl _, by simp; omega, hown, hb2, HC2⟩
      | false =>
        have HC2 : Hid (cutF c s = out ++ preF ((s.drop fr).take (k + 1 - fr)) (cutF c (s.drop (k + 1)))) := by
          show _ = _
          rw [HC.out, HE.out, if_neg (fun h => by rw [hce.1 h] at hq; cases hq), pre_pre, HT.out]
        have i3 : (k : Int) < s.length := by omega
        clear hce hkg
        go_wp2_with fail
        go_roundg (s.length - (k + 1))
        case measure => have := HK.out; omega
        case rel => exact ⟨k + 1, fr, out, by omega, by go_num, rfl, by omega, by omega, HO'.out, HB.out, HC2⟩
    · have hk : k = s.length := by omega
      have HC2 : Hid (cutF c s = out ++ [(s.drop fr).take (s.length - fr)]) := by
        show _ = _
        rw [HC.out, hk, List.drop_of_length_le (Nat.le_refl _)]
        simp [cutF, preF]
      have i1 : (fr : Int) ≤ s.length := by omega
      have hlen' : out.length ≤ 100000 := by omega
      clear hk HC
      go_wp2_with (at_builtin; refine app_text (.tmp 28) (.tmp 32) rfl rfl rfl (HO'.out.alloc _) rfl (Blk.new _ _ _) (by omega) (by rw [World.size_alloc]; omega) ?_; intro v' w1 hown hbw)
      have hb2 := HB.out.trans (((Below.refl w.heap.size wr).alloc HB.out.size _).trans hbw)
      clear hbw
      go_wp2_with fail
      go_ret
      exact ⟨_, rfl, by rw [HC2.out]; exact hown, hb2⟩
