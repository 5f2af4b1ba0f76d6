/-
  Scenarios: the document's road back from a text: plain.
-/
import Derived.Test.YtfcgdfcekpbliaaGreatDoorSdo1
import Derived.Test.YtfcgdfcekpbliaaGreatDoorScr2
import Derived.Test.YtfcgdfcekpbliaaGreatDoorMh
import Derived.Test.YtfcgdfcekpbliaaGreatDoorMk
namespace Go.Proofs.YtfcgdfcekpbliaaGreatDoor
set_option linter.unusedSimpArgs false
set_option linter.unusedVariables false
set_option linter.unusedSectionVars false
open Go.ChangeShapes Go.WideShapes Go.ChangeAt Go.RowKit Go.Deep Go.Shelf

def ReadD (r : Scn × Bool) (w : World) (e : Ending) (w' : World) : Prop :=
  ∃ a c, e = .returned (.tuple #[.agg #[.int .i64 r.1.sd, .slice a r.1.xs.length c, .int .i64 r.1.wk, .int .i64 r.1.ws], .bool r.2]) ∧ SlSt w' w' w'.heap.size a r.1.xs ∧ (∀ x ∈ r.1.xs, StLt x) ∧ Below w.heap.size w w'
theorem OwnSt.gm {e : TypeId} {B g : Nat} {w w' : World} {v : Value} {xs : List St} {t : TypeId} {cs : Array Value} (h : OwnSt e B w v xs) (hb : Blk w g t cs) (h0 : t ≠ e) (h1 : t ≠ FlT3) (h2 : t ≠ SgT3) (hg : Gm g w w') : OwnSt e B w' v xs :=
  h.keep (fun g2 t2 cs2 hb2 ht => hb2.grown hg (fun e2 => by
    have e2 : g2 = g := by injection e2
    subst e2
    have h3 : w.heap[g2]? = some (.cells cs2 t2 (0, 0)) := hb2
    have h4 : w.heap[g2]? = some (.cells cs t (0, 0)) := hb
    rw [h3] at h4
    injection h4 with h4
    injection h4 with _ h5 _
    rcases ht with e | e
    · exact h1 (h5 ▸ e)
    · exact h2 (h5 ▸ e))) (fun _ _ ho => own_gm ho hb h0 hg)
theorem flds_small : ∀ (l : List (List UInt8)), (∀ x ∈ l, x.length ≤ 90000) → (fldsR l).length ≤ l.length ∧ ∀ f ∈ fldsR l, f.name.length ≤ 90000 ∧ f.value.length ≤ 90000
  | [], _ => by simp [fldsR]
  | [_], _ => by simp [fldsR]
  | [_, _], _ => by simp [fldsR]
  | a :: b :: c :: r, h => by
    obtain ⟨h1, h2⟩ := flds_small r (fun x hx => h x (by simp [hx]))
    have hb := h b (by simp)
    have hc := h c (by simp)
    have ub := unquoteF_len b
    have uc := unquoteF_len c
    refine ⟨by simp only [fldsR, List.length_cons]; omega, fun f hf => ?_⟩
    simp only [fldsR, List.mem_cons] at hf
    rcases hf with rfl | hf
    · exact ⟨Nat.le_trans ub hb, Nat.le_trans uc hc⟩
    · exact h2 f hf
theorem sets_small : ∀ (l : List (List UInt8)), (setsR l).length ≤ l.length
  | [] => by simp [setsR]
  | [_] => by simp [setsR]
  | a :: b :: r => by
    have := sets_small r
    simp only [setsR, List.length_cons]
    omega
theorem stepD_small {l : List (List UInt8)} (hl : l.length ≤ 100000) (hll : ∀ x ∈ l, x.length ≤ 90000) : StLt (stepD l) := by
  have hz : ∀ (k s n : Int) (e : Bool), StLt ⟨k, s, n, e, [], []⟩ := fun k s n e => ⟨⟨Nat.zero_le _, Nat.zero_le _⟩, fun f hf => by simp at hf⟩
  unfold stepD
  split
  · obtain ⟨h1, h2⟩ := flds_small (l.drop 3) (fun x hx => hll x (List.mem_of_mem_drop hx))
    rw [List.length_drop] at h1
    exact ⟨⟨by show (fldsR _).length ≤ _; omega, Nat.zero_le _⟩, fun f hf => by have := h2 f hf; omega⟩
  split
  · exact hz _ _ _ _
  split
  · have h1 := sets_small (l.drop 1)
    rw [List.length_drop] at h1
    exact ⟨⟨Nat.zero_le _, by show (setsR _).length ≤ _; omega⟩, fun f hf => by simp at hf⟩
  repeat' split
  all_goals exact hz _ _ _ _
theorem gpw_grown {bx : Nat} {v : Value} {w w' : World} (h : w.grownBy w' v.ownBlock) : Gp (Pv bx v) w w' := gpv_grown h
theorem step_stepO {ops : Array Oper} {o : Oper} {a : Act} {K : Act → World → Prop} {Q : Exit → Act → World → Prop} {E : Prop} {w : World} {ty e : TypeId} {z : Value} (hT : SliceTy Tryz.prog ty e z 6 80)
    (s x : Operand) (hgd : o.guard = none) (ho : o.op = .call { callee := .builtin .append, args := #[s, x], argTypes := #[ty, ty] })
    {B : Nat} {v : Value} {xs : List St} {y : St} (hs : a.eval s = v) (hown : OwnSt e B w v xs) (he1 : e ≠ FlT3) (he2 : e ≠ SgT3) {cs : Array Value} (hy : StO w y cs.toList)
    {g cc : Nat} {e' : TypeId} (hx : a.eval x = .slice (some ⟨g, 0, none⟩) 1 cc) (hb : Blk w g e' cs)
    (hl : xs.length + 1 ≤ 1048576) (hB : B ≤ w.heap.size)
    (h : ∀ v' w', OwnSt e B w' v' (xs ++ [y]) → Below B w w' → (∀ g t cs, Blk w g t cs → t ≠ e → Blk w' g t cs) → w.grownBy w' v.ownBlock → K (a.put o.dst v') w') : if Region.wanted o (yielded ops a.tmps) = true then Oper.wp Tryz.prog o a w K Q else E := by
  obtain ⟨ps, h1, h2, h3⟩ := hown.st
  obtain ⟨hn, h1c⟩ := step_one hy
  exact step_app hT s x hgd ho hs h2 hx hb (by simpa using hn) h1c (by unfold maxLen; omega) (by omega) hB (fun v' w' h4 h5 => h v' w' (OwnSt.snoc h1 h3 hy (KeepT.row h2 h5 he1 he2) h4) (own_grown (Below.refl B w) h2 h5 (Nat.le_refl _) hB) (fun g t cs hbk ht => hbk.grown h5 (own_ne_ty h2 hbk ht)) h5)
/-- The steps that the first lines say. -/
def accD (L : List (List UInt8)) (p : Nat) : List St := ((L.drop 1).take (min (p - 1) (L.length - 2))).map fun x => stepD (splitF x).1
theorem acc_end {L : List (List UInt8)} (h : 2 ≤ L.length) : accD L L.length = (midL L).map fun x => stepD (splitF x).1 := by
  unfold accD midL
  rw [Nat.min_eq_right (by omega)]
theorem acc_step {L : List (List UInt8)} {p : Nat} (h1 : 1 ≤ p) (h2 : p < L.length - 1) : accD L (p + 1) = accD L p ++ [stepD (splitF (L[p]'(by omega))).1] := by
  unfold accD
  rw [Nat.min_eq_left (by omega), Nat.min_eq_left (by omega)]
  obtain ⟨q, rfl⟩ : ∃ q, p = q + 1 := ⟨p - 1, by omega⟩
  have hq : q < (L.drop 1).length := by rw [List.length_drop]; omega
  simp only [Nat.add_sub_cancel]
  rw [List.take_succ_eq_append_getElem hq, List.map_append]
  have e2 : (L.drop 1)[q] = L[q + 1]'(by omega) := by rw [List.getElem_drop]; congr 1; omega
  rw [e2]
  rfl
theorem acc_last {L : List (List UInt8)} (h : 2 ≤ L.length) : accD L (L.length - 1) = accD L L.length := by
  unfold accD
  congr 2
  omega
theorem acc_len (L : List (List UInt8)) (p : Nat) : (accD L p).length ≤ L.length := by
  unfold accD
  rw [List.length_map, List.length_take, List.length_drop]
  omega
theorem acc_small {L : List (List UInt8)} (hL : ∀ s ∈ L, s.length ≤ 90000) (p : Nat) : ∀ x ∈ accD L p, StLt x := by
  intro x hx
  unfold accD at hx
  obtain ⟨s, hs, rfl⟩ := List.mem_map.1 hx
  have hs2 := hL s (List.mem_of_mem_drop (List.mem_of_mem_take hs))
  have := split_short hs2
  exact stepD_small this.1 this.2
theorem names_idx {l : List (List UInt8)} (q : Nat) (hq : q < 26) (h : 1 < l.length) : (injW.getD q [] == l[1]) = decide (idxX injW (atD l 1) = (q : Int)) := by
  have e : atD l 1 = l[1] := by unfold atD; rw [List.getD_eq_getElem?_getD, List.getElem?_eq_getElem h]; rfl
  rw [e]
  have := inj_eq l[1] q hq
  by_cases hh : injW.getD q [] = l[1]
  · rw [hh]; simp [this.1 hh]
  · have h2 : ¬ idxX injW l[1] = (q : Int) := fun h => hh (this.2 h)
    have h1 : (injW.getD q [] == l[1]) = false := by simpa using hh
    rw [h1, decide_eq_false h2]
theorem idx_lo (s : List UInt8) : -1 ≤ idxX injW s := by
  have hb := seekX_lo s injW 0
  unfold idxX
  omega
theorem sc_nt {s k n : Int} {a1 : Option Addr} {n1 c1 : Nat} : ∀ (j : Nat) (x : ByteArray), (#[.int .i64 s, .slice a1 n1 c1, .int .i64 k, .int .i64 n] : Array Value)[j]? ≠ some (Value.string x) := by
  intro j x
  match j with
  | 0 => simp
  | 1 => simp
  | 2 => simp
  | 3 => simp
  | j + 4 => simp
theorem idx_hi (s : List UInt8) : idxX injW s < 26 := by
  have hb := seekX_lo s injW 0
  have hlen : injW.length = 26 := rfl
  rw [hlen] at hb
  unfold idxX
  omega
theorem linesF_short {t : List UInt8} (ht : t.length ≤ 3000) : (linesF t).1.length ≤ 3001 ∧ ∀ x ∈ (linesF t).1, x.length ≤ 90000 := by
  unfold linesF
  split
  · refine ⟨by have := cut_len 10 t; simp only [List.length_dropLast]; omega, fun x hx => ?_⟩
    have := cut_short 10 t x ((List.dropLast_sublist _).subset hx)
    omega
  · simp
end Go.Proofs.YtfcgdfcekpbliaaGreatDoor
