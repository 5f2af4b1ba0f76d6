/-
  Scenarios: the program's words of a step: a row that is kept in a variable, and grows.
-/
import Derived.Test.YtfcgdfcekpbliaaGreatDoorMj
import Derived.Test.YtfcgdfcekpbliaaGreatDoorMb
import Derived.Test.YtfcgdfcekpbliaaGreatDoorMi
import Derived.Test.YtfcgdfcekpbliaaGreatDoorMg
namespace Go.Proofs.YtfcgdfcekpbliaaGreatDoor
set_option linter.unusedSimpArgs false
set_option linter.unusedVariables false
set_option linter.unusedSectionVars false
open Go.ChangeShapes Go.WideShapes Go.ChangeAt Go.RowKit Go.Deep Go.Shelf

abbrev WsT : TypeId := 53
/-- Blocks that do not hold texts stay. -/
def StayX (w w' : World) : Prop := ∀ (g : Nat) (t : TypeId) (cs : Array Value), Blk w g t cs → t ≠ 9 → Blk w' g t cs
theorem ownX_ne {B g : Nat} {w : World} {v : Value} {l : List (List UInt8)} {t : TypeId} {cs : Array Value} (h : OwnX B w v l) (hb : Blk w g t cs) (ht : t ≠ 9) : some g ≠ v.ownBlock := by
  have h0 : w.ownsRow B 9 1 v l.length (l.map bstr) := h
  rcases h0.2 with ⟨rfl, hn⟩ | ⟨g', cap, cur, rfl, hg, hh, h3⟩
  · simp [Value.ownBlock]
  · intro e
    simp only [Value.ownBlock, Option.some.injEq] at e
    subst e
    have h1 : w.heap[g]? = some (.cells cs t (0, 0)) := hb
    rw [h1] at hh
    injection hh with hh
    injection hh with _ h2 _
    exact ht h2
theorem OwnX.far {B g i : Nat} {w : World} {v u : Value} {l : List (List UInt8)} {t : TypeId} {cs : Array Value} (h : OwnX B w v l) (hb : Blk w g t cs) (ht : t ≠ 9) : OwnX B (w.setCell ⟨g, i, none⟩ u) v l := by
  have hne := ownX_ne h hb ht
  have h0 : w.ownsRow B 9 1 v l.length (l.map bstr) := h
  refine World.ownsRow.kept (row := some g) h0 ⟨rfl, rfl, rfl, by simp, fun k hk hkg => ?_⟩ (.inr (fun e => hne e.symm))
  exact Below.heap_setCell w ⟨g, i, none⟩ u k (fun e => hkg (by rw [e]))
theorem step_wds {ops : Array Oper} {o : Oper} {a : Act} {K : Act → World → Prop} {Q : Exit → Act → World → Prop} {E : Prop} {w : World} (s x : Operand) (hgd : o.guard = none) (ho : o.op = .call { callee := .builtin .append, args := #[s, x], argTypes := #[53, 53] })
    {B : Nat} {v : Value} {l m : List (List UInt8)} (hs : a.eval s = v) (hown : OwnX B w v l) {g n cc : Nat} {e' : TypeId} (hx : a.eval x = .slice (some ⟨g, 0, none⟩) n cc) (hn : m.length = n) (hb : Blk w g e' (m.map bstr).toArray) (hl : l.length + n ≤ 1048576) (hB : B ≤ w.heap.size)
    (h : ∀ v' w', OwnX B w' v' (l ++ m) → Below B w w' → StayX w w' ∧ w.grownBy w' v.ownBlock → K (a.put o.dst v') w') : if Region.wanted o (yielded ops a.tmps) = true then Oper.wp Tryz.prog o a w K Q else E := by
  refine step_app st_texts s x hgd ho hs hown hx hb (by simp [hn]) (by intro u hu; simp at hu; obtain ⟨y, _, rfl⟩ := hu; rfl) (by unfold maxLen; omega) (by omega) hB (fun v' w' h1 h2 => h v' w' ?_ (own_grown (Below.refl B w) hown h2 (Nat.le_refl _) hB) ⟨fun g t cs hbk ht => hbk.grown h2 (ownX_ne hown hbk ht), h2⟩)
  unfold OwnX
  rw [List.map_append, List.length_append, hn]
  exact h1
/-- The block of the variable, or that of the row that it holds. -/
def Pq (gc : Nat) (v : Value) (k : Nat) : Prop := k = gc ∨ some k = v.ownBlock
theorem gp_grown {gc : Nat} {v : Value} {w w' : World} (h : w.grownBy w' v.ownBlock) : Gp (Pq gc v) w w' := ⟨h.os, h.tape, h.output, h.size, fun k hk hp => h.block k hk (fun e => hp (.inr e))⟩
theorem gp_two {P : Program} {ops : Array Oper} {Q : Exit → Act → World → Prop} {md : Region.Mode} {p : Nat → Prop} (i j : Nat) {o q : Oper} {fuel : Nat} {listed : Array Bool} {a : Act} {w : World} (hr : Region.ready md ops listed = [i, j]) (ho : ops[i]? = some o) (hq : ops[j]? = some q)
    (h : ∀ K' : Act → World → Prop, Shut (∀ a' w', Gp p w w' → wpAnyH P md ops Q (Gp p w') fuel (listed.setIfInBounds i true) a' w' → K' a' w') → if Region.wanted o (yielded ops a.tmps) = true then Oper.wp P o a w K' Q else K' (a.put o.dst undef) w)
    (h2 : ∀ K' : Act → World → Prop, Shut (∀ a' w', Gp p w w' → wpAnyH P md ops Q (Gp p w') fuel (listed.setIfInBounds j true) a' w' → K' a' w') → if Region.wanted q (yielded ops a.tmps) = true then Oper.wp P q a w K' Q else K' (a.put q.dst undef) w) :
    wpAnyH P md ops Q (Gp p w) (fuel + 1) listed a w :=
  wpAnyH_ready hr (by simp) (gp_one ho h (gp_one hq h2 AllReadyH.nil))
theorem OwnX.of_new {w : World} {B g : Nat} {c : List UInt8} (h : Blk w g 9 #[bstr c]) (hB : B ≤ g) : OwnX B w (.slice (some ⟨g, 0, none⟩) 1 1) [c] :=
  ⟨rfl, .inr ⟨g, 1, #[bstr c], rfl, hB, h, Nat.le_refl _, by unfold maxLen; omega, rfl, rfl⟩⟩
theorem StayX.trans {a b c : World} (h : StayX a b) (h2 : StayX b c) : StayX a c := fun g t cs hb ht => h2 g t cs (h g t cs hb ht) ht
/-- The row of words that is kept in the variable at a block. -/
structure OutS (B gc : Nat) (w : World) (l : List (List UInt8)) : Prop where
  st : ∃ v, OwnX B w v l ∧ Blk w gc WsT #[v]
theorem OutS.grow {B gc : Nat} {w w' : World} {l : List (List UInt8)} (h : OutS B gc w l) (hb : Below w.heap.size w w') : OutS B gc w' l := by
  obtain ⟨v, h1, h2⟩ := h.st
  exact ⟨v, h1.below hb (Nat.le_refl _), h2.below hb h2.lt⟩
theorem wsT_ne : WsT ≠ 9 := by decide
theorem OutS.store {B gc : Nat} {w : World} {v v' u : Value} {l : List (List UInt8)} (h : OwnX B w v' l) (hb : Blk w gc WsT #[v]) (hv : u = v') : OutS B gc (w.setCell ⟨gc, 0, none⟩ u) l := by
  subst hv
  exact ⟨_, h.far hb wsT_ne, hb.set_ 0 _⟩
/-- Blocks that do not hold texts stay, but for one. -/
def StayG (gc : Nat) (w w' : World) : Prop := ∀ (g : Nat) (t : TypeId) (cs : Array Value), Blk w g t cs → t ≠ 9 → g ≠ gc → Blk w' g t cs
/-- What a word more leaves. -/
def NumP (B gc : Nat) (l : List (List UInt8)) (w : World) (e : Ending) (w' : World) : Prop := e = .returned (.tuple #[]) ∧ OutS B gc w' l ∧ Below B w w' ∧ StayG gc w w'
set_option maxHeartbeats 4000000 in
set_option maxRecDepth 100000 in
theorem scene_number (n : Int) (hn : goodI n) (B gc : Nat) (l : List (List UInt8)) (hl : l.length ≤ 100000) (w : World) (hB : B ≤ gc) (hBw : B ≤ w.heap.size) (hO : OutS B gc w l) (hE : EnvP w) :
    Calls Tryz.prog 44 #[.int .i64 n, .pointer (some ⟨gc, 0, none⟩)] w (NumP B gc (l ++ [Lib.itoa n]) w) := by
  obtain ⟨v, ho, hb⟩ := hO.st
  have HO := Lib.hid ho
  have HC := Lib.hid hb
  have hgl := hb.lt
  have k0 : w.cell? ⟨gc, 0, none⟩ = some v := hb.cell 0
  have HD := Lib.hid (fun W (hW : EnvP W) => digits_Text0 n hn.1 hn.2 W hW)
  have HE := Lib.hid hE
  have HBW := Lib.hid hBw
  have hlen := itoa_len hn.1 hn.2
  generalize Lib.itoa n = T at HD hlen ⊢
  clear hO ho hb hE hBw
  go_enter Tryz.func44, Tryz.ntmps44
  go_wp2_with fail
  go_region_law (first
    | (refine step_wds (.tmp 3) (.tmp 6) rfl rfl rfl (HO.out.below (C := w.heap.size) bel (Nat.le_refl _)) (n := 1) (m := [T]) rfl rfl (show Blk _ _ 9 #[bstr T] from blk) (by omega) (by have := HBW.out; simp only [World.size_drew, World.size_more, World.size_alloc]; omega) ?_; intro v' w2 hown hbw ⟨hst, _⟩; obtain ⟨a2, c2, rfl, _⟩ := hown.cap; have hb2 := hst gc WsT #[v] (HC.out.below (B := w.heap.size) bel hgl) wsT_ne; have hgl2 := hb2.lt; have k2 : w2.cell? ⟨gc, 0, none⟩ = some v := hb2.cell 0; have f2 : w2.frozen? ⟨gc, 0, none⟩ = false := hb2.frozen 0; have HO2 := Lib.hid hown; have HB2 := Lib.hid hbw; have HC2 := Lib.hid hb2; have HST : Hid (StayG gc w w2) := (fun g t cs hg ht _ => hst g t cs (hg.below (B := w.heap.size) bel hg.lt) ht); clear hown hbw hst hb2)
    | (go_simp; (first | (go_at_call 20; (with_reducible refine (HD.out _ (HE.out.below bel)).mono ?_); rintro e w' ⟨rfl, j, rfl⟩))))
  all_goals
    go_wp2_with fail
    refine bodyPost_ret (results_none rfl _ _ _) rfl ?_
    exact ⟨rfl, OutS.store HO2.out HC2.out (by simp), (Below.trans (Below.mono (B := w.heap.size) bel HBW.out) HB2.out).setCell (p := ⟨gc, 0, none⟩) hB _, fun g t cs hg ht hne => (HST.out g t cs hg ht hne).far (p := ⟨gc, 0, none⟩) hne _⟩
end Go.Proofs.YtfcgdfcekpbliaaGreatDoor
