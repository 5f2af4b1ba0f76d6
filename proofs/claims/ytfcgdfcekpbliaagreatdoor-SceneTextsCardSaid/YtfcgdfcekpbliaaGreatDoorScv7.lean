/-
  Scenarios: rows of steps that the call itself has built.
-/
import Derived.Test.YtfcgdfcekpbliaaGreatDoorScv6
import Derived.Test.YtfcgdfcekpbliaaGreatDoorScr1
namespace Go.Proofs.YtfcgdfcekpbliaaGreatDoor
set_option linter.unusedSimpArgs false
set_option linter.unusedVariables false
set_option linter.unusedSectionVars false
open Go.ChangeShapes Go.WideShapes Go.ChangeAt Go.RowKit Go.Deep Go.Shelf

/-! What is read of a line is small. -/
theorem many_small {α : Type} {one : List (List UInt8) → Bool → α × List (List UInt8) × Bool} {P : α → Prop} {Q : List UInt8 → Prop} (h2 : ∀ l b, (one l b).2.1.length ≤ l.length - 1) (hP : ∀ l b, (∀ x ∈ l, Q x) → P (one l b).1 ∧ ∀ x ∈ (one l b).2.1, Q x) :
    ∀ (n : Nat) (l : List (List UInt8)) (b : Bool), (∀ x ∈ l, Q x) → (manyP one n l b).1.length ≤ l.length ∧ ∀ y ∈ (manyP one n l b).1, P y
  | 0, l, b, _ => ⟨Nat.zero_le _, fun y hy => by simp [manyP] at hy⟩
  | n + 1, l, b, hl => by
    rw [manyP]
    split
    · rename_i hc
      have hp := List.length_pos_iff.2 hc.1
      have h3 := h2 l b
      obtain ⟨p1, p2⟩ := hP l b hl
      obtain ⟨i1, i2⟩ := many_small h2 hP n (one l b).2.1 (one l b).2.2 p2
      refine ⟨by simp only [List.length_cons]; omega, fun y hy => ?_⟩
      simp only [List.mem_cons] at hy
      rcases hy with rfl | hy
      · exact p1
      · exact i2 y hy
    · exact ⟨Nat.zero_le _, fun y hy => by simp at hy⟩
theorem rdW_mem (l : List (List UInt8)) (b : Bool) : ∀ x ∈ (rdW l b).2.1, x ∈ l := rdW_sub (p1 := (rdW l b).1) (p3 := (rdW l b).2.2) rfl
theorem oneF_small (l : List (List UInt8)) (b : Bool) (hl : ∀ x ∈ l, x.length ≤ 90000) : ((oneF l b).1.name.length ≤ 90000 ∧ (oneF l b).1.value.length ≤ 90000) ∧ ∀ x ∈ (oneF l b).2.1, x.length ≤ 90000 := by
  have e1 : ∀ x ∈ (rdE [33] [43] l b).2.1, x.length ≤ 90000 := fun x hx => hl x (rdW_mem l b x hx)
  have e2 : ∀ x ∈ (rdT (rdE [33] [43] l b).2.1 (rdE [33] [43] l b).2.2).2.1, x.length ≤ 90000 := fun x hx => e1 x (rdW_mem _ _ x hx)
  have e3 : ∀ x ∈ (oneF l b).2.1, x.length ≤ 90000 := fun x hx => e2 x (rdW_mem _ _ x hx)
  refine ⟨⟨?_, ?_⟩, e3⟩
  · have h := unquoteF_len (rdW (rdE [33] [43] l b).2.1 (rdE [33] [43] l b).2.2).1
    have h2 := rdW_short (b := (rdE [33] [43] l b).2.2) e1
    exact Nat.le_trans h h2
  · have h := unquoteF_len (rdW (rdT (rdE [33] [43] l b).2.1 (rdE [33] [43] l b).2.2).2.1 (rdT (rdE [33] [43] l b).2.1 (rdE [33] [43] l b).2.2).2.2).1
    have h2 := rdW_short (b := (rdT (rdE [33] [43] l b).2.1 (rdE [33] [43] l b).2.2).2.2) e2
    exact Nat.le_trans h h2
/-- A step that is read of words that are few and short. -/
structure StLt (x : St) : Prop where
  sm : StSm x
  nm : ∀ f ∈ x.fs, f.name.length ≤ 9223372036854775807 ∧ f.value.length ≤ 9223372036854775807
theorem step_small {L : List (List UInt8)} {b : Bool} (hL : L.length ≤ 100000) (hLl : ∀ x ∈ L, x.length ≤ 90000) : StLt (stepP L b).1 := by
  have hz : ∀ (k s n : Int) (e : Bool), StLt ⟨k, s, n, e, [], []⟩ := fun k s n e => ⟨⟨Nat.zero_le _, Nat.zero_le _⟩, fun f hf => by simp at hf⟩
  have hw := rdW_mem L b
  have hwl := rdW_len L b
  unfold stepP
  simp only
  generalize rdW L b = p at hw hwl ⊢
  have hn := rdW_mem p.2.1 (p.2.2 || decide (kindW p.1 = 0))
  have hnl := rdW_len p.2.1 (p.2.2 || decide (kindW p.1 = 0))
  split
  · have he := rdW_mem (rdN p.2.1 (p.2.2 || decide (kindW p.1 = 0))).2.1 (rdN p.2.1 (p.2.2 || decide (kindW p.1 = 0))).2.2
    have hel := rdW_len (rdN p.2.1 (p.2.2 || decide (kindW p.1 = 0))).2.1 (rdN p.2.1 (p.2.2 || decide (kindW p.1 = 0))).2.2
    have hq : ∀ x ∈ (rdE [101, 110, 100] [111, 112, 101, 110] (rdN p.2.1 (p.2.2 || decide (kindW p.1 = 0))).2.1 (rdN p.2.1 (p.2.2 || decide (kindW p.1 = 0))).2.2).2.1, x.length ≤ 90000 := fun x hx => hLl x (hw x (hn x (he x hx)))
    have hql : (rdE [101, 110, 100] [111, 112, 101, 110] (rdN p.2.1 (p.2.2 || decide (kindW p.1 = 0))).2.1 (rdN p.2.1 (p.2.2 || decide (kindW p.1 = 0))).2.2).2.1.length ≤ 100000 := by
      have e1 : (rdE [101, 110, 100] [111, 112, 101, 110] (rdN p.2.1 (p.2.2 || decide (kindW p.1 = 0))).2.1 (rdN p.2.1 (p.2.2 || decide (kindW p.1 = 0))).2.2).2.1 = (rdW (rdN p.2.1 (p.2.2 || decide (kindW p.1 = 0))).2.1 (rdN p.2.1 (p.2.2 || decide (kindW p.1 = 0))).2.2).2.1 := rfl
      have e2 : (rdN p.2.1 (p.2.2 || decide (kindW p.1 = 0))).2.1 = (rdW p.2.1 (p.2.2 || decide (kindW p.1 = 0))).2.1 := rfl
      rw [e1]
      rw [e2] at hel
      rw [e2]
      omega
    generalize rdE [101, 110, 100] [111, 112, 101, 110] (rdN p.2.1 (p.2.2 || decide (kindW p.1 = 0))).2.1 (rdN p.2.1 (p.2.2 || decide (kindW p.1 = 0))).2.2 = E at hq hql ⊢
    obtain ⟨m1, m2⟩ := many_small (one := oneF) (P := fun f => f.name.length ≤ 90000 ∧ f.value.length ≤ 90000) (Q := fun x => x.length ≤ 90000) oneF_len oneF_small E.2.1.length E.2.1 E.2.2 hq
    exact ⟨⟨by show (manyP oneF _ _ _).1.length ≤ _; omega, Nat.zero_le _⟩, fun f hf => by have := m2 f hf; omega⟩
  split
  · exact hz _ _ _ _
  split
  · obtain ⟨m1, _⟩ := many_small (one := oneS) (P := fun _ => True) (Q := fun _ => True) oneS_len (fun _ _ _ => ⟨trivial, fun _ _ => trivial⟩) p.2.1.length p.2.1 (p.2.2 || decide (kindW p.1 = 0)) (fun _ _ => trivial)
    exact ⟨⟨Nat.zero_le _, by show (manyP oneS _ _ _).1.length ≤ _; omega⟩, fun f hf => by simp at hf⟩
  split
  · exact hz _ _ _ _
  split
  · exact hz _ _ _ _
  · exact hz _ _ _ _

/-! Rows of steps. -/
/-- Rows of fields and of settings stay. -/
def KeepT (w w' : World) : Prop := ∀ (g : Nat) (t : TypeId) (cs : Array Value), Blk w g t cs → t = FlT3 ∨ t = SgT3 → Blk w' g t cs
theorem KeepT.below {w w' : World} (hb : Below w.heap.size w w') : KeepT w w' := fun g t cs h _ => h.below hb h.lt
theorem KeepT.far {w : World} {g i : Nat} {t : TypeId} {cs : Array Value} {u : Value} (hb : Blk w g t cs) (h1 : t ≠ FlT3) (h2 : t ≠ SgT3) : KeepT w (w.setCell ⟨g, i, none⟩ u) := fun g2 t2 cs2 h ht => by
  refine h.far (p := ⟨g, i, none⟩) (fun e => ?_) u
  have e : g2 = g := e
  subst e
  have h3 : w.heap[g2]? = some (.cells cs2 t2 (0, 0)) := h
  have h4 : w.heap[g2]? = some (.cells cs t (0, 0)) := hb
  rw [h3] at h4
  injection h4 with h4
  injection h4 with _ h5 _
  rcases ht with e | e
  · exact h1 (h5 ▸ e)
  · exact h2 (h5 ▸ e)
theorem KeepT.row {B n size : Nat} {w w' : World} {e : TypeId} {v : Value} {xs : List Value} (h : w.ownsRow B e size v n xs) (hg : w.grownBy w' v.ownBlock) (h1 : e ≠ FlT3) (h2 : e ≠ SgT3) : KeepT w w' := fun g t cs hb ht =>
  hb.grown hg (own_ne_ty h hb (fun e2 => by rcases ht with e | e <;> simp_all))
theorem KeepT.own {B n size : Nat} {w w' : World} {e : TypeId} {v : Value} {xs : List Value} (h : w.ownsRow B e size v n xs) (hk : KeepT w w') (he : e = FlT3 ∨ e = SgT3) : w'.ownsRow B e size v n xs := by
  refine ⟨h.1, ?_⟩
  rcases h.2 with h2 | ⟨g, cap, cur, rfl, hg, hh, h3⟩
  · exact .inl h2
  · exact .inr ⟨g, cap, cur, rfl, hg, hk g e cur hh he, h3⟩
/-- A step's cells, whose rows are of the call's own. -/
def StO (w : World) (x : St) (cs : List Value) : Prop :=
  ∃ fa fc sa sc, cs = [.int .i64 x.kd, .int .i64 x.sm, .int .i64 x.nn, .bool x.fin, .slice fa x.fs.length fc, .slice sa x.ss.length sc] ∧ OwnF 0 w (.slice fa x.fs.length fc) x.fs ∧ OwnG 0 w (.slice sa x.ss.length sc) x.ss
theorem StO.keep {w w' : World} {x : St} {cs : List Value} (h : StO w x cs) (hk : KeepT w w') : StO w' x cs := by
  obtain ⟨fa, fc, sa, sc, e, h1, h2⟩ := h
  exact ⟨fa, fc, sa, sc, e, KeepT.own h1 hk (.inl rfl), KeepT.own h2 hk (.inr rfl)⟩
/-- A row of steps of the call's own; e: whose steps they are. -/
structure OwnSt (e : TypeId) (B : Nat) (w : World) (v : Value) (xs : List St) : Prop where
  st : ∃ ps : List (List Value), ps.length = xs.length ∧ w.ownsRow B e 6 v xs.length (ps.flatMap fun p => p) ∧ ∀ k (h : k < xs.length) (h2 : k < ps.length), StO w xs[k] ps[k]
theorem OwnSt.nil (e : TypeId) (B : Nat) (w : World) : OwnSt e B w (.slice none 0 0) [] := ⟨[], rfl, World.ownsRow_nil _ _ _ _, fun k h _ => by simp at h⟩
theorem OwnSt.keep {e : TypeId} {B : Nat} {w w' : World} {v : Value} {xs : List St} (h : OwnSt e B w v xs) (hk : KeepT w w') (ho : ∀ n ps, w.ownsRow B e 6 v n ps → w'.ownsRow B e 6 v n ps) : OwnSt e B w' v xs := by
  obtain ⟨ps, h1, h2, h3⟩ := h.st
  exact ⟨ps, h1, ho _ _ h2, fun k a b => (h3 k a b).keep hk⟩
theorem OwnSt.below {e : TypeId} {B : Nat} {w w' : World} {v : Value} {xs : List St} (h : OwnSt e B w v xs) (hb : Below w.heap.size w w') : OwnSt e B w' v xs :=
  h.keep (KeepT.below hb) (fun _ _ ho => own_below ho hb (Nat.le_refl _))
theorem OwnSt.far {e : TypeId} {B : Nat} {w : World} {v u : Value} {xs : List St} {g i : Nat} {t : TypeId} {cs : Array Value} (h : OwnSt e B w v xs) (hb : Blk w g t cs) (h0 : t ≠ e) (h1 : t ≠ FlT3) (h2 : t ≠ SgT3) : OwnSt e B (w.setCell ⟨g, i, none⟩ u) v xs :=
  h.keep (KeepT.far hb h1 h2) (fun _ _ ho => own_far ho hb h0)
theorem OwnSt.slice {e : TypeId} {B : Nat} {w : World} {v : Value} {xs : List St} (h : OwnSt e B w v xs) : ∃ a c, v = .slice a xs.length c := by
  obtain ⟨ps, h1, h2, h3⟩ := h.st
  obtain ⟨a, c, h4, _⟩ := own_slice h2
  exact ⟨a, c, h4⟩
theorem OwnSt.read {e : TypeId} {B : Nat} {w : World} {a : Option Addr} {n c : Nat} {xs : List St} (h : OwnSt e B w (.slice a n c) xs) (hs : ∀ x ∈ xs, StLt x) : SlSt w w w.heap.size a xs := by
  obtain ⟨ps, h1, h2, h3⟩ := h.st
  rw [← h1] at h2
  have hl : ∀ p ∈ ps, p.length = 6 := fun p hp => by
    obtain ⟨k, hk, rfl⟩ := List.getElem_of_mem hp
    obtain ⟨fa, fc, sa, sc, e, _⟩ := h3 k (by omega) hk
    rw [e]; rfl
  obtain ⟨a2, c2, e2, hr⟩ := own_slr (c := fun p : List Value => p) h2 hl
  injection e2 with e2 _ _
  subst e2
  intro k hk
  obtain ⟨b, off, cs, ha, hb, hcs, hc⟩ := hr k (by omega)
  obtain ⟨fa, fc, sa, sc, e, hf, hg⟩ := h3 k hk (by omega)
  have hlt := hs _ (List.getElem_mem hk)
  exact ⟨b, off, cs, ha, hb, ⟨fa, fc, sa, sc, by rw [hcs, e], hf.read hlt.nm, hg.read⟩, hc⟩
theorem OwnSt.snoc {e : TypeId} {B : Nat} {w w' : World} {v' : Value} {xs : List St} {x : St} {ps : List (List Value)} {p : List Value} (h1 : ps.length = xs.length) (h3 : ∀ k (h : k < xs.length) (h2 : k < ps.length), StO w xs[k] ps[k]) (hp : StO w x p) (hk : KeepT w w') (h : w'.ownsRow B e 6 v' (xs.length + 1) (ps.flatMap (fun p => p) ++ p)) : OwnSt e B w' v' (xs ++ [x]) := by
  refine ⟨ps ++ [p], by simp [h1], ?_, fun k a b => ?_⟩
  · rw [List.length_append, List.flatMap_append]
    simpa using h
  · by_cases hlt : k < xs.length
    · rw [List.getElem_append_left hlt, List.getElem_append_left (show k < ps.length by omega)]
      exact (h3 k hlt (by omega)).keep hk
    · have e : k = xs.length := by simp at a; omega
      subst e
      have e2 : (ps ++ [p])[xs.length] = p := by
        rw [List.getElem_append_right (by omega)]
        simp [h1]
      have e3 : (xs ++ [x])[xs.length] = x := by simp
      rw [e2, e3]
      exact hp.keep hk
theorem st_steps : SliceTy Tryz.prog 32 PtT (.agg #[.int .i64 0, .int .i64 0, .int .i64 0, .bool false, .slice none 0 0, .slice none 0 0]) 6 80 := .mk' Tryz.underlying32 (by kernel_rfl) rfl (by omega)
theorem step_one {x : St} {w : World} {p : List Value} (h : StO w x p) : p.length = 6 ∧ ∀ u ∈ p, u.oneCell' = true := by
  obtain ⟨fa, fc, sa, sc, rfl, _⟩ := h
  refine ⟨rfl, fun u hu => ?_⟩
  simp only [List.mem_cons, List.not_mem_nil, or_false] at hu
  rcases hu with rfl | rfl | rfl | rfl | rfl | rfl <;> rfl
theorem app_step {ops : Array Oper} {rest : List Oper} {o : Oper} {a : Act} {Q : Exit → Act → World → Prop} {w : World} {ty e : TypeId} {z : Value} (hT : SliceTy Tryz.prog ty e z 6 80)
    (s x : Operand) (hgd : o.guard = none) (ho : o.op = .call { callee := .builtin .append, args := #[s, x], argTypes := #[ty, ty] })
    {B : Nat} {v : Value} {xs : List St} {y : St} (hs : a.eval s = v) (hown : OwnSt e B w v xs) (he1 : e ≠ FlT3) (he2 : e ≠ SgT3) {cs : Array Value} (hy : StO w y cs.toList)
    {g cc : Nat} {e' : TypeId} (hx : a.eval x = .slice (some ⟨g, 0, none⟩) 1 cc) (hb : Blk w g e' cs)
    (hl : xs.length + 1 ≤ 1048576) (hB : B ≤ w.heap.size)
    (h : ∀ v' w', OwnSt e B w' v' (xs ++ [y]) → Below B w w' → (∀ g t cs, Blk w g t cs → t ≠ e → Blk w' g t cs) → wpList Tryz.prog ops Q rest (a.put o.dst v') w') : wpList Tryz.prog ops Q (o :: rest) a w := by
  obtain ⟨ps, h1, h2, h3⟩ := hown.st
  obtain ⟨hn, h1c⟩ := step_one hy
  exact wpList_app hT s x hgd ho hs h2 hx hb (by simpa using hn) h1c (by unfold maxLen; omega) (by omega) hB (fun v' w' h4 h5 => h v' w' (OwnSt.snoc h1 h3 hy (KeepT.row h2 h5 he1 he2) h4) (own_grown (Below.refl B w) h2 h5 (Nat.le_refl _) hB) (fun g t cs hbk ht => hbk.grown h5 (own_ne_ty h2 hbk ht)))
end Go.Proofs.YtfcgdfcekpbliaaGreatDoor
