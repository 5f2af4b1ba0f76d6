/-
  Scenarios: which are too much to be looked at; a scenario handed from one side to the other.
-/
import Derived.Test.YtfcgdfcekpbliaaGreatDoorSds
import Derived.Test.YtfcgdfcekpbliaaGreatDoorSdv2
import Derived.Test.YtfcgdfcekpbliaaGreatDoorScv8
namespace Go.Proofs.YtfcgdfcekpbliaaGreatDoor
set_option linter.unusedSimpArgs false
set_option linter.unusedVariables false
set_option linter.unusedSectionVars false
open Go.ChangeShapes Go.WideShapes Go.ChangeAt Go.RowKit Go.Deep Go.Shelf

theorem st_Qd : StructTy Tryz.prog QdT 4 := ⟨_, Tryz.underlying26, rfl, by kernel_rfl⟩
theorem st_qsteps : SliceTy Tryz.prog 22 QtT (.agg #[.int .i64 0, .int .i64 0, .int .i64 0, .bool false, .slice none 0 0, .slice none 0 0]) 6 80 := .mk' Tryz.underlying22 (by kernel_rfl) rfl (by omega)
/-! Rows of steps whose own rows lie in a world before. -/
structure OwnW (W0 : World) (e : TypeId) (B : Nat) (w : World) (v : Value) (xs : List St) : Prop where
  st : ∃ ps : List (List Value), ps.length = xs.length ∧ w.ownsRow B e 6 v xs.length (ps.flatMap fun p => p) ∧ ∀ k (h : k < xs.length) (h2 : k < ps.length), stIs W0 xs[k] ps[k]
section
variable {W0 : World} {e : TypeId} {B : Nat} {w w' : World} {v : Value} {xs : List St}
theorem OwnW.nil : OwnW W0 e B w (.slice none 0 0) [] := ⟨[], rfl, World.ownsRow_nil _ _ _ _, fun k h _ => by simp at h⟩
theorem OwnW.keep (h : OwnW W0 e B w v xs) (ho : ∀ n ps, w.ownsRow B e 6 v n ps → w'.ownsRow B e 6 v n ps) : OwnW W0 e B w' v xs := by
  obtain ⟨ps, h1, h2, h3⟩ := h.st
  exact ⟨ps, h1, ho _ _ h2, h3⟩
theorem OwnW.below (h : OwnW W0 e B w v xs) (hb : Below w.heap.size w w') : OwnW W0 e B w' v xs := h.keep (fun _ _ ho => own_below ho hb (Nat.le_refl _))
theorem OwnW.far {u : Value} {g i : Nat} {t : TypeId} {cs : Array Value} (h : OwnW W0 e B w v xs) (hb : Blk w g t cs) (h0 : t ≠ e) : OwnW W0 e B (w.setCell ⟨g, i, none⟩ u) v xs := h.keep (fun _ _ ho => own_far ho hb h0)
theorem OwnW.slice (h : OwnW W0 e B w v xs) : ∃ a c, v = .slice a xs.length c := by
  obtain ⟨ps, h1, h2, h3⟩ := h.st
  obtain ⟨a, c, h4, _⟩ := own_slice h2
  exact ⟨a, c, h4⟩
theorem st_one {x : St} {p : List Value} (h : stIs w x p) : p.length = 6 ∧ ∀ u ∈ p, u.oneCell' = true := by
  obtain ⟨fa, fc, sa, sc, rfl, _⟩ := h
  refine ⟨rfl, fun u hu => ?_⟩
  simp only [List.mem_cons, List.not_mem_nil, or_false] at hu
  rcases hu with rfl | rfl | rfl | rfl | rfl | rfl <;> rfl
theorem OwnW.read {a : Option Addr} {n c : Nat} (h : OwnW W0 e B w (.slice a n c) xs) (hW : Below W0.heap.size W0 w) : SlSt w w w.heap.size a xs := by
  obtain ⟨ps, h1, h2, h3⟩ := h.st
  rw [← h1] at h2
  have hl : ∀ p ∈ ps, p.length = 6 := fun p hp => by
    obtain ⟨k, hk, rfl⟩ := List.getElem_of_mem hp
    exact (st_one (h3 k (by omega) hk)).1
  obtain ⟨a2, c2, e2, hr⟩ := own_slr (c := fun p : List Value => p) h2 hl
  injection e2 with e2 _ _
  subst e2
  intro k hk
  obtain ⟨b, off, cs, ha, hb, hcs, hc⟩ := hr k (by omega)
  exact ⟨b, off, cs, ha, hb, by rw [hcs]; exact (h3 k hk (by omega)).low hW, hc⟩
theorem OwnW.snoc {v' : Value} {x : St} {ps : List (List Value)} {p : List Value} (h1 : ps.length = xs.length) (h3 : ∀ k (h : k < xs.length) (h2 : k < ps.length), stIs W0 xs[k] ps[k]) (hp : stIs W0 x p) (h : w'.ownsRow B e 6 v' (xs.length + 1) (ps.flatMap (fun p => p) ++ p)) : OwnW W0 e B w' v' (xs ++ [x]) := by
  refine ⟨ps ++ [p], by simp [h1], ?_, fun k a b => ?_⟩
  · rw [List.length_append, List.flatMap_append]
    simpa using h
  · by_cases hlt : k < xs.length
    · rw [List.getElem_append_left hlt, List.getElem_append_left (show k < ps.length by omega)]
      exact h3 k hlt (by omega)
    · have e : k = xs.length := by simp at a; omega
      subst e
      have e2 : (ps ++ [p])[xs.length] = p := by
        rw [List.getElem_append_right (by omega)]
        simp [h1]
      have e3 : (xs ++ [x])[xs.length] = x := by simp
      rw [e2, e3]
      exact hp
end
theorem app_stepW {ops : Array Oper} {rest : List Oper} {o : Oper} {a : Act} {Q : Exit → Act → World → Prop} {w W0 : World} {ty e : TypeId} {z : Value} (hT : SliceTy Tryz.prog ty e z 6 80)
    (s x : Operand) (hgd : o.guard = none) (ho : o.op = .call { callee := .builtin .append, args := #[s, x], argTypes := #[ty, ty] })
    {B : Nat} {v : Value} {xs : List St} {y : St} (hs : a.eval s = v) (hown : OwnW W0 e B w v xs) {cs : Array Value} (hy : stIs W0 y cs.toList)
    {g cc : Nat} {e' : TypeId} (hx : a.eval x = .slice (some ⟨g, 0, none⟩) 1 cc) (hb : Blk w g e' cs)
    (hl : xs.length + 1 ≤ 1048576) (hB : B ≤ w.heap.size)
    (h : ∀ v' w', OwnW W0 e B w' v' (xs ++ [y]) → Below B w w' → (∀ g t cs, Blk w g t cs → t ≠ e → Blk w' g t cs) → wpList Tryz.prog ops Q rest (a.put o.dst v') w') : wpList Tryz.prog ops Q (o :: rest) a w := by
  obtain ⟨ps, h1, h2, h3⟩ := hown.st
  obtain ⟨hn, h1c⟩ := st_one hy
  exact wpList_app hT s x hgd ho hs h2 hx hb (by simpa using hn) h1c (by unfold maxLen; omega) (by omega) hB (fun v' w' h4 h5 => h v' w' (OwnW.snoc h1 h3 hy h4) (own_grown (Below.refl B w) h2 h5 (Nat.le_refl _) hB) (fun g t cs hbk ht => hbk.grown h5 (own_ne_ty h2 hbk ht)))
end Go.Proofs.YtfcgdfcekpbliaaGreatDoor
