/-
  Scenarios: the program's words of any step that may be; rows of rows of words.
-/
import Derived.Test.YtfcgdfcekpbliaaGreatDoorScu3
import Derived.Test.YtfcgdfcekpbliaaGreatDoorWs
namespace Go.Proofs.YtfcgdfcekpbliaaGreatDoor
set_option linter.unusedSimpArgs false
set_option linter.unusedVariables false
set_option linter.unusedSectionVars false
open Go.ChangeShapes Go.WideShapes Go.ChangeAt Go.RowKit Go.Deep Go.Shelf

theorem scene_step (x : St) (h : StOk x) (fa sa : Option Addr) (fc sc : Nat) (w : World) (hd : Hd w) (hE : EnvP w) (hF : SlF w w.heap.size fa x.fs) (hS : SlSe w w.heap.size sa x.ss) :
    Calls Tryz.prog 18 #[.agg #[.int .i64 x.kd, .int .i64 x.sm, .int .i64 x.nn, .bool x.fin, .slice fa x.fs.length fc, .slice sa x.ss.length sc]] w (WdsP (wordsS x) w) := by
  cases h with
  | headers s e fs h hf hl => exact scene_step_headers s e fs h hf hl fa sa fc sc w hd hE hF
  | data s n e h h2 => exact scene_step_data s n e h h2 fa sa fc sc w hd hE
  | set ss h hl => exact scene_step_set ss h hl fa sa fc sc w hd hE hS
  | two k s n hk h h2 =>
    have := scene_step_two k s n hk h h2 fa sa fc sc w hd hE
    rcases hk with rfl | rfl <;> exact this
  | one k n hk h2 =>
    have := scene_step_one k n hk h2 fa sa fc sc w hd hE
    rcases hk with rfl | rfl | rfl <;> exact this
theorem st_lines : SliceTy Tryz.prog 54 WsT (.slice none 0 0) 1 24 := .mk' Tryz.underlying54 (by kernel_rfl) rfl (by omega)
/-- A row of the call's own whose elements are rows of words. -/
structure OwnL (B : Nat) (w : World) (v : Value) (ls : List (List (List UInt8))) : Prop where
  st : ∃ us : List Value, us.length = ls.length ∧ w.ownsRow B WsT 1 v ls.length us ∧ ∀ k (h : k < ls.length) (h2 : k < us.length), OwnX 0 w us[k] ls[k]
theorem ownX_blk {B g : Nat} {w : World} {v : Value} {l : List (List UInt8)} (h : OwnX B w v l) (hg : v.ownBlock = some g) : ∃ cur, w.heap[g]? = some (.cells cur 9 (0, 0)) := by
  have h0 : w.ownsRow B 9 1 v l.length (l.map bstr) := h
  rcases h0.2 with ⟨rfl, hn⟩ | ⟨g', cap, cur, rfl, hg', hh, h3⟩
  · simp [Value.ownBlock] at hg
  · simp only [Value.ownBlock, Option.some.injEq] at hg
    subst hg
    exact ⟨cur, hh⟩
theorem ownL_blk {B n g : Nat} {w : World} {v : Value} {us : List Value} (h : w.ownsRow B WsT 1 v n us) (hg : v.ownBlock = some g) : ∃ cur, w.heap[g]? = some (.cells cur WsT (0, 0)) := by
  rcases h.2 with ⟨rfl, hn⟩ | ⟨g', cap, cur, rfl, hg', hh, h3⟩
  · simp [Value.ownBlock] at hg
  · simp only [Value.ownBlock, Option.some.injEq] at hg
    subst hg
    exact ⟨cur, hh⟩
theorem OwnX.besides {B C n : Nat} {w w' : World} {u v : Value} {l : List (List UInt8)} {us : List Value} (h : OwnX B w u l) (hv : w.ownsRow C WsT 1 v n us) (hg : w.grownBy w' v.ownBlock) : OwnX B w' u l := by
  refine World.ownsRow.kept h hg ?_
  cases hu : u.ownBlock with
  | none => exact .inl rfl
  | some g =>
    refine .inr (fun e => ?_)
    obtain ⟨c1, h1⟩ := ownX_blk h hu
    obtain ⟨c2, h2⟩ := ownL_blk hv e.symm
    rw [h1] at h2
    injection h2 with h2
    injection h2 with _ h3 _
    exact absurd h3 (by decide)
theorem OwnL.below {B C : Nat} {w w' : World} {v : Value} {ls : List (List (List UInt8))} (h : OwnL B w v ls) (hb : Below C w w') (hC : w.heap.size ≤ C) : OwnL B w' v ls := by
  obtain ⟨us, h1, h2, h3⟩ := h.st
  exact ⟨us, h1, own_below h2 hb hC, fun k hk hk2 => (h3 k hk hk2).below hb hC⟩
theorem OwnL.drew {B : Nat} {w : World} {v : Value} {ls : List (List (List UInt8))} (h : OwnL B w v ls) : OwnL B w.drew v ls := ⟨h.st⟩
theorem OwnL.snoc {B : Nat} {w w' : World} {v v' u : Value} {ls : List (List (List UInt8))} {l : List (List UInt8)} {us : List Value} (h1 : us.length = ls.length) (h2 : w.ownsRow B WsT 1 v ls.length us) (h3 : ∀ k (h : k < ls.length) (h2 : k < us.length), OwnX 0 w us[k] ls[k])
    (hu : OwnX 0 w u l) (hg : w.grownBy w' v.ownBlock) (h : w'.ownsRow B WsT 1 v' (ls.length + 1) (us ++ [u])) : OwnL B w' v' (ls ++ [l]) := by
  refine ⟨us ++ [u], by simp [h1], by rw [List.length_append]; exact h, fun k hk hk2 => ?_⟩
  by_cases hlt : k < ls.length
  · rw [List.getElem_append_left (by omega), List.getElem_append_left hlt]
    exact (h3 k hlt (by omega)).besides h2 hg
  · have e : k = ls.length := by simp at hk; omega
    subst e
    have e2 : (us ++ [u])[ls.length] = u := by
      rw [List.getElem_append_right (by omega)]
      simp [h1]
    have e3 : (ls ++ [l])[ls.length] = l := by simp
    rw [e2, e3]
    exact hu.besides h2 hg
theorem ownX_one {B : Nat} {w : World} {v : Value} {l : List (List UInt8)} (h : OwnX B w v l) : v.oneCell' = true := by
  obtain ⟨a, c, rfl, _⟩ := h.cap
  rfl
theorem app_line {ops : Array Oper} {rest : List Oper} {o : Oper} {a : Act} {Q : Exit → Act → World → Prop} {w : World}
    (s x : Operand) (hgd : o.guard = none) (ho : o.op = .call { callee := .builtin .append, args := #[s, x], argTypes := #[54, 54] })
    {B : Nat} {v u : Value} {ls : List (List (List UInt8))} {l : List (List UInt8)} (hs : a.eval s = v) (hown : OwnL B w v ls) (hu : OwnX 0 w u l)
    {g cc : Nat} {e' : TypeId} (hx : a.eval x = .slice (some ⟨g, 0, none⟩) 1 cc) (hb : Blk w g e' #[u])
    (hl : ls.length + 1 ≤ 1048576) (hB : B ≤ w.heap.size)
    (h : ∀ v' w', OwnL B w' v' (ls ++ [l]) → Below B w w' → wpList Tryz.prog ops Q rest (a.put o.dst v') w') : wpList Tryz.prog ops Q (o :: rest) a w := by
  obtain ⟨us, h1, h2, h3⟩ := hown.st
  exact wpList_app st_lines s x hgd ho hs h2 hx hb rfl (by intro y hy; simp at hy; subst hy; exact ownX_one hu) (by unfold maxLen; omega) (by omega) hB (fun v' w' h4 h5 => h v' w' (OwnL.snoc h1 h2 h3 hu h5 h4) (own_grown (Below.refl B w) h2 h5 (Nat.le_refl _) hB))
theorem step_line {ops : Array Oper} {o : Oper} {a : Act} {K : Act → World → Prop} {Q : Exit → Act → World → Prop} {E : Prop} {w : World} (s x : Operand) (hgd : o.guard = none) (ho : o.op = .call { callee := .builtin .append, args := #[s, x], argTypes := #[54, 54] })
    {B : Nat} {v u : Value} {ls : List (List (List UInt8))} {l : List (List UInt8)} (hs : a.eval s = v) (hown : OwnL B w v ls) (hu : OwnX 0 w u l)
    {g cc : Nat} {e' : TypeId} (hx : a.eval x = .slice (some ⟨g, 0, none⟩) 1 cc) (hb : Blk w g e' #[u])
    (hl : ls.length + 1 ≤ 1048576) (hB : B ≤ w.heap.size)
    (h : ∀ v' w', OwnL B w' v' (ls ++ [l]) → Below B w w' → K (a.put o.dst v') w') : if Region.wanted o (yielded ops a.tmps) = true then Oper.wp Tryz.prog o a w K Q else E := by
  obtain ⟨us, h1, h2, h3⟩ := hown.st
  exact step_app st_lines s x hgd ho hs h2 hx hb rfl (by intro y hy; simp at hy; subst hy; exact ownX_one hu) (by unfold maxLen; omega) (by omega) hB (fun v' w' h4 h5 => h v' w' (OwnL.snoc h1 h2 h3 hu h5 h4) (own_grown (Below.refl B w) h2 h5 (Nat.le_refl _) hB))
/-- Some words, laid as a literal. -/
theorem OwnX.of_lit {w : World} {B g n : Nat} {l : List (List UInt8)} (h : Blk w g 9 (l.map bstr).toArray) (hn : l.length = n) (hB : B ≤ g) (hm : n ≤ 1000) : OwnX B w (.slice (some ⟨g, 0, none⟩) n n) l := by
  subst hn
  exact ⟨by simp, .inr ⟨g, l.length, (l.map bstr).toArray, rfl, hB, h, Nat.le_refl _, by unfold maxLen; omega, by simp, by simp [List.take_of_length_le]⟩⟩
theorem OwnL.of_one {w : World} {B g : Nat} {u : Value} {l : List (List UInt8)} (h : Blk w g WsT #[u]) (hu : OwnX 0 w u l) (hB : B ≤ g) : OwnL B w (.slice (some ⟨g, 0, none⟩) 1 1) [l] :=
  ⟨[u], rfl, ⟨rfl, .inr ⟨g, 1, #[u], rfl, hB, h, Nat.le_refl _, by unfold maxLen; omega, rfl, rfl⟩⟩, fun k hk hk2 => by
    have e : k = 0 := by simp at hk; omega
    subst e
    exact hu⟩
/-- A row of rows is read. -/
theorem OwnL.at_ {B : Nat} {w : World} {v : Value} {ls : List (List (List UInt8))} (h : OwnL B w v ls) : ∃ a c, v = .slice a ls.length c ∧ ∀ k (hk : k < ls.length), ∃ b u, a = some ⟨b, 0, none⟩ ∧ b < w.heap.size ∧ w.cell? ⟨b, k, none⟩ = some u ∧ OwnX 0 w u ls[k] := by
  obtain ⟨us, h1, h2, h3⟩ := h.st
  rcases h2.2 with ⟨rfl, hn⟩ | ⟨g', cap, cur, rfl, hg', hh, h4⟩
  · exact ⟨none, 0, by rw [hn], fun k hk => by omega⟩
  · refine ⟨_, cap, rfl, fun k hk => ⟨g', us[k]'(by omega), rfl, (World.ownsRow.lt h2 g' rfl).2, ?_, h3 k hk (by omega)⟩⟩
    have := World.ownsRow.cells h2 (g := g') rfl k (us[k]'(by omega)) (by simp)
    have e1 : (⟨g', 0, none⟩ : Addr).add k = ⟨g', k, none⟩ := by unfold Addr.add; by_cases hj : k = 0 <;> simp [hj]
    rw [e1] at this
    exact this
theorem OwnX.full {B : Nat} {w : World} {v : Value} {l : List (List UInt8)} (h : OwnX B w v l) (hl : ∀ x ∈ l, x.length ≤ maxLen) : ∃ a c, v = .slice a l.length c ∧ l.length ≤ c ∧ SlX w w.heap.size a l := by
  obtain ⟨a, c, h1, h2⟩ := h.read hl
  obtain ⟨a2, c2, h3, h4⟩ := h.cap
  rw [h1] at h3
  injection h3 with e1 e2 e3
  exact ⟨a, c, h1, by omega, h2⟩
end Go.Proofs.YtfcgdfcekpbliaaGreatDoor
