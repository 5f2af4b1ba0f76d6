/-
  Scenarios: the document's fields of a line.
-/
import Derived.Test.YtfcgdfcekpbliaaGreatDoorScv7
import Derived.Test.YtfcgdfcekpbliaaGreatDoorMk
namespace Go.Proofs.YtfcgdfcekpbliaaGreatDoor
set_option linter.unusedSimpArgs false
set_option linter.unusedVariables false
set_option linter.unusedSectionVars false
open Go.ChangeShapes Go.WideShapes Go.ChangeAt Go.RowKit Go.Deep Go.Shelf

theorem OwnF.below {B : Nat} {w w' : World} {v : Value} {l : List Fd} (h : OwnF B w v l) (hb : Below w.heap.size w w') : OwnF B w' v l := own_below (show w.ownsRow _ _ _ _ _ _ from h) hb (Nat.le_refl _)
theorem OwnG.below {B : Nat} {w w' : World} {v : Value} {l : List (Int × Int)} (h : OwnG B w v l) (hb : Below w.heap.size w w') : OwnG B w' v l := own_below (show w.ownsRow _ _ _ _ _ _ from h) hb (Nat.le_refl _)
theorem app_fd {ops : Array Oper} {rest : List Oper} {o : Oper} {a : Act} {Q : Exit → Act → World → Prop} {w : World}
    (s x : Operand) (hgd : o.guard = none) (ho : o.op = .call { callee := .builtin .append, args := #[s, x], argTypes := #[46, 46] })
    {B : Nat} {v : Value} {l : List Fd} {f : Fd} (hs : a.eval s = v) (hown : OwnF B w v l)
    {g cc : Nat} {e' : TypeId} (hx : a.eval x = .slice (some ⟨g, 0, none⟩) 1 cc) (hb : Blk w g e' #[bstr f.name, bstr f.value, .bool f.never])
    (hl : l.length + 1 ≤ 1048576) (hB : B ≤ w.heap.size)
    (h : ∀ v' w', OwnF B w' v' (l ++ [f]) → Below B w w' → wpList Tryz.prog ops Q rest (a.put o.dst v') w') : wpList Tryz.prog ops Q (o :: rest) a w := by
  refine wpList_app st_fl s x hgd ho hs (show w.ownsRow _ _ _ _ _ _ from hown) hx hb rfl (by intro u hu; simp at hu; rcases hu with rfl | rfl | rfl <;> rfl) (by unfold maxLen; omega) (by omega) hB (fun v' w' h1 h2 => h v' w' ?_ (own_grown (Below.refl B w) (show w.ownsRow _ _ _ _ _ _ from hown) h2 (Nat.le_refl _) hB))
  show w'.ownsRow _ _ _ _ _ _
  rw [List.length_append, List.flatMap_append]
  simpa [fdC] using h1
theorem flds_step {l : List (List UInt8)} {p : Nat} (h : p + 2 < l.length) : fldsR (l.drop p) = ⟨(unquoteF l[p + 1]).1, (unquoteF l[p + 2]).1, l[p] == [33]⟩ :: fldsR (l.drop (p + 3)) := by
  rw [List.drop_eq_getElem_cons (show p < l.length by omega), List.drop_eq_getElem_cons (show p + 1 < l.length by omega), List.drop_eq_getElem_cons (show p + 1 + 1 < l.length by omega)]
  rfl
theorem flds_end {l : List (List UInt8)} {p : Nat} (h : ¬ p + 2 < l.length) : fldsR (l.drop p) = [] := by
  have hn : (l.drop p).length ≤ 2 := by rw [List.length_drop]; omega
  match hd : l.drop p, hn with
  | [], _ => rfl
  | [_], _ => rfl
  | [_, _], _ => rfl
  | _ :: _ :: _ :: _, h => simp at h
set_option maxHeartbeats 8000000 in
set_option maxRecDepth 100000 in
theorem ref51_fields (a : Option Addr) (cap : Nat) (l : List (List UInt8)) (hl : l.length ≤ 100000) (hll : ∀ x ∈ l, x.length ≤ 90000) (w : World) (hS : SlX w w.heap.size a l) :
    Calls Tryz.prog 66 #[.slice a l.length cap, .int .i64 3] w fun e w' => ∃ v, e = .returned v ∧ OwnF w.heap.size w' v (fldsR (l.drop 3)) ∧ Below w.heap.size w w' := by
  obtain ⟨R, hR⟩ : ∃ R, R = fldsR (l.drop 3) := ⟨_, rfl⟩
  rw [← hR]
  have HR := Lib.hid hR
  have HS := Lib.hid hS
  have HLL := Lib.hid hll
  clear hR hS hll
  go_enter Tryz.func66, Tryz.ntmps66
  go_wp2_with fail
  go_loopg [5, 6] (l.length + 3) (fun q v i wr => ∃ (p : Nat) (acc : List Fd), i = .int .i64 p ∧ l.length + 3 - p ≤ q ∧ p ≤ l.length + 3 ∧ acc.length ≤ p ∧ OwnF w.heap.size wr v acc ∧ Below w.heap.size w wr ∧ Hid (R = acc ++ fldsR (l.drop p)))
  case atStart => exact ⟨3, [], rfl, by omega, by omega, by simp, World.ownsRow_nil _ _ _ _, Below.refl _ _, HR⟩
  case round =>
    obtain ⟨p, acc, rfl, hpq, hp3, hap, ho, hb, HF⟩ := hrel
    have HPQ := Lib.hid hpq
    have HAP := Lib.hid hap
    have HO := Lib.hid ho
    have HB := Lib.hid hb
    have hzr := hb.size
    have s2 : IntKind.i64.wrap ((p : Int) + 2) = (p : Int) + 2 := IntWalk.i64_in _ (by omega)
    have s1 : IntKind.i64.wrap ((p : Int) + 1) = (p : Int) + 1 := IntWalk.i64_in _ (by omega)
    have s3 : IntKind.i64.wrap ((p : Int) + 3) = (p : Int) + 3 := IntWalk.i64_in _ (by omega)
    clear hpq hap ho hb
    by_cases hlt : p + 2 < l.length
    · have HU : Hid (R = (acc ++ [⟨(unquoteF l[p + 1]).1, (unquoteF l[p + 2]).1, l[p] == [33]⟩]) ++ fldsR (l.drop (p + 3))) := by
        show _ = _
        rw [HF.out, flds_step hlt]
        simp
      obtain ⟨b, off, ha, hbb, c0, _⟩ := SlR.atX HS.out (k := p) (by omega)
      subst ha
      obtain ⟨b1, off1, ha1, _, c1, _⟩ := SlR.atX HS.out (k := p + 1) (by omega)
      injection ha1 with ha1
      injection ha1 with e1 e2
      subst e1 e2
      obtain ⟨b1, off1, ha1, _, c2, _⟩ := SlR.atX HS.out (k := p + 2) (by omega)
      injection ha1 with ha1
      injection ha1 with e1 e2
      subst e1 e2
      have d0 := (HB.out.cell (p := ⟨b, off + p, none⟩) hbb).trans c0
      have d1 := (HB.out.cell (p := ⟨b, off + (p + 1), none⟩) hbb).trans c1
      have d2 := (HB.out.cell (p := ⟨b, off + (p + 2), none⟩) hbb).trans c2
      have hbz : b < wr.heap.size := by omega
      have l1 := HLL.out _ (List.getElem_mem (show p + 1 < l.length by omega))
      have l2 := HLL.out _ (List.getElem_mem hlt)
      have HQ1 : Hid (∀ W, Calls Tryz.prog 83 #[bstr l[p + 1]] W fun e w' => e = .returned (.tuple #[bstr (unquoteF l[p + 1]).1, .bool (unquoteF l[p + 1]).2]) ∧ ∃ j, w' = W.more j) := fun W => by rw [unquote_eq]; exact ref04_Unquote _ (by omega) W
      have HQ2 : Hid (∀ W, Calls Tryz.prog 83 #[bstr l[p + 2]] W fun e w' => e = .returned (.tuple #[bstr (unquoteF l[p + 2]).1, .bool (unquoteF l[p + 2]).2]) ∧ ∃ j, w' = W.more j) := fun W => by rw [unquote_eq]; exact ref04_Unquote _ (by omega) W
      have t1 : ((p : Int) + 1).toNat = p + 1 := by omega
      have t2 : ((p : Int) + 2).toNat = p + 2 := by omega
      have i1 : (0 : Int) ≤ (p : Int) + 1 := by omega
      have i2 : (0 : Int) ≤ (p : Int) + 2 := by omega
      have j0 : (p : Int) < (l.length : Int) := by omega
      have j1 : (p : Int) + 1 < (l.length : Int) := by omega
      have j2 : (p : Int) + 2 < (l.length : Int) := by omega
      have hal : acc.length ≤ 100003 := by have := HAP.out; omega
      generalize unquoteF l[p + 1] = U1 at HU HQ1
      generalize unquoteF l[p + 2] = U2 at HU HQ2
      generalize l[p] = x0 at HU d0
      generalize l[p + 1] = x1 at HQ1 d1
      generalize l[p + 2] = x2 at HQ2 d2
      obtain ⟨nm, k1⟩ := U1
      obtain ⟨vl, k2⟩ := U2
      simp only at HU HQ1 HQ2
      clear c0 c1 c2 l1 l2 HF
      go_wp2_with (first | (go_at_call 83; (with_reducible refine (HQ1.out _).mono ?_); rintro e w' ⟨rfl, j, rfl⟩) | (go_at_call 83; (with_reducible refine (HQ2.out _).mono ?_); rintro e w' ⟨rfl, j, rfl⟩) | (at_builtin; refine app_fd (.tmp 37) (.tmp 46) (f := ⟨nm, vl, x0 == [33]⟩) rfl rfl rfl (HO.out.below bel) rfl blk (by omega) (by simp only [World.size_alloc, World.size_more]; omega) ?_; intro v' w5 ho5 hb5))
      go_roundg (l.length - p)
      case measure => have := HPQ.out; omega
      case rel => exact ⟨p + 3, acc ++ [⟨nm, vl, x0 == [33]⟩], by go_num, by omega, by omega, by have := HAP.out; simp; omega, ho5, HB.out.trans (Below.trans (Below.mono (B := wr.heap.size) bel hzr) hb5), HU⟩
    · have j2 : ¬ (p : Int) + 2 < (l.length : Int) := by omega
      have HE : Hid (R = acc) := by show _ = _; rw [HF.out, flds_end hlt]; simp
      clear HF
      go_wp2_with fail
      go_ret
      exact ⟨_, rfl, by rw [HE.out]; exact HO.out, HB.out⟩
end Go.Proofs.YtfcgdfcekpbliaaGreatDoor
