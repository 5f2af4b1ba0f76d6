/-
  Parts of the proof, one behind the other: contracts of the program and plain laws; no condition of their own.
-/
import Derived.Test.YtfcgdfcekpbliaaGreatDoorProg
import Derived.WalkKit
import Derived.WalkLawsBesides
import Derived.WalkSpells
import Derived.ProofKit
import Derived.OpenShut
import Derived.Lib.Hide
import Derived.Deep.Slices
import Derived.Deep.Fields
import Derived.ChangeSame
import Derived.Maps.AppendAt
import Derived.Deep.AppendLies
import Derived.Deep.RegionHeld3
import Derived.Test.YtfcgdfcekpbliaaGreatDoorShelf
import Derived.Lib.SlBytesRow
import Derived.Lib.BufferRead
import Derived.Deep.QuietTactic
import Derived.BigQuiet
import Derived.Lib.Bytealg
import Derived.Deep.LoopGhost
import Derived.BigGuardPart
import Derived.Lib.SplitLaws
import Derived.Lib.AtoiAllCases
import Derived.Lib.ItoaLen
import Derived.Lib.Join
import Derived.Lib.SlicesCompact
import Derived.OrdersHeld
/-
  Plain lemmas that serve every walk: texts as lists of bytes, slices whose cells are known element by element, the closing step of a law. No program's code stands here.
-/
namespace Go.Proofs.YtfcgdfcekpbliaaGreatDoor
set_option linter.unusedSimpArgs false
set_option linter.unusedVariables false
set_option linter.unusedSectionVars false
open Go.ChangeShapes Go.WideShapes Go.ChangeAt Go.RowKit Go.Deep
open Go.ChangeMaps (open_string shut_string)

abbrev bstr (l : List UInt8) : Value := .string ⟨l.toArray⟩
theorem ba_get (l : List UInt8) (k : Nat) (h : k < (ByteArray.mk l.toArray).size) : (ByteArray.mk l.toArray)[k]'h = l[k]'h := rfl
attribute [simp] ba_get
theorem ba_extract (l : List UInt8) (a b : Nat) : (ByteArray.mk l.toArray).extract a b = ByteArray.mk ((l.drop a).take (b - a)).toArray := ByteArray.extract_mk l a b
theorem ba_append (x y : List UInt8) : (ByteArray.mk x.toArray ++ ByteArray.mk y.toArray) = ByteArray.mk (x ++ y).toArray := ByteArray.mk_append_mk x y
attribute [simp] ba_extract ba_append
theorem bstr_of (s : ByteArray) : Value.string s = bstr s.data.toList := rfl

theorem bcell {W w1 : World} (hb : Below W.heap.size W w1) : (∀ b o, b < W.heap.size → w1.cell? ⟨b, o, none⟩ = W.cell? ⟨b, o, none⟩) ∧ (∀ b o, b < W.heap.size → w1.frozen? ⟨b, o, none⟩ = W.frozen? ⟨b, o, none⟩) :=
  ⟨fun b o h => hb.cell (p := ⟨b, o, none⟩) h, fun b o h => hb.frozen (p := ⟨b, o, none⟩) h⟩

theorem ret1d {v v' : Value} (h : v = v') : Ending.returned v = .returned v' := by rw [h]


/-! A block that is known whole. -/
def Blk (w : World) (g : Nat) (t : TypeId) (cs : Array Value) : Prop := w.heap[g]? = some (.cells cs t (0, 0))
section
variable {w w' : World} {g : Nat} {t : TypeId} {cs : Array Value}
theorem Blk.lt (h : Blk w g t cs) : g < w.heap.size := by
  rcases Nat.lt_or_ge g w.heap.size with hlt | hge
  · exact hlt
  · unfold Blk at h; rw [Array.getElem?_eq_none hge] at h; cases h
theorem Blk.cell (h : Blk w g t cs) (i : Nat) : w.cell? ⟨g, i, none⟩ = cs[i]? := cell_of_row w g i cs t (0, 0) h
theorem Blk.frozen (h : Blk w g t cs) (i : Nat) : w.frozen? ⟨g, i, none⟩ = false := by
  unfold Blk at h
  simp [World.frozen?, h]
theorem Blk.new (w : World) (t : TypeId) (cs : Array Value) : Blk (w.alloc (.cells cs t)) w.heap.size t cs := heap_alloc_new w _
theorem Blk.drew (h : Blk w g t cs) : Blk w.drew g t cs := h
theorem Blk.drewN (h : Blk w g t cs) (n : Nat) : Blk (w.drewN n) g t cs := h
theorem Blk.alloc (h : Blk w g t cs) (o : Obj) : Blk (w.alloc o) g t cs := (Below.heap_alloc w o g h.lt).trans h
theorem Blk.set_ (h : Blk w g t cs) (i : Nat) (u : Value) : Blk (w.setCell ⟨g, i, none⟩ u) g t (cs.setIfInBounds i u) := by
  unfold Blk at h ⊢
  simp [World.setCell, Array.getElem?_modify, h]
theorem Blk.far (h : Blk w g t cs) {p : Addr} (hp : g ≠ p.block) (u : Value) : Blk (w.setCell p u) g t cs := (Below.heap_setCell w p u g hp).trans h
theorem Blk.one {x : Value} (h : Blk w g t #[x]) : w.cell? ⟨g, 0, none⟩ = some x ∧ w.frozen? ⟨g, 0, none⟩ = false ∧ g < w.heap.size := ⟨h.cell 0, h.frozen 0, h.lt⟩
theorem Blk.two {x y : Value} (h : Blk w g t #[x, y]) : w.cell? ⟨g, 0, none⟩ = some x ∧ w.cell? ⟨g, 1, none⟩ = some y ∧ w.frozen? ⟨g, 0, none⟩ = false ∧ w.frozen? ⟨g, 1, none⟩ = false ∧ g < w.heap.size := ⟨h.cell 0, h.cell 1, h.frozen 0, h.frozen 1, h.lt⟩
theorem Blk.three {x y z : Value} (h : Blk w g t #[x, y, z]) : w.cell? ⟨g, 0, none⟩ = some x ∧ w.cell? ⟨g, 1, none⟩ = some y ∧ w.cell? ⟨g, 2, none⟩ = some z ∧ w.frozen? ⟨g, 0, none⟩ = false ∧ w.frozen? ⟨g, 1, none⟩ = false ∧ w.frozen? ⟨g, 2, none⟩ = false ∧ g < w.heap.size :=
  ⟨h.cell 0, h.cell 1, h.cell 2, h.frozen 0, h.frozen 1, h.frozen 2, h.lt⟩
theorem Blk.set0 {x y u : Value} (h : Blk w g t #[x, y]) : Blk (w.setCell ⟨g, 0, none⟩ u) g t #[u, y] := h.set_ 0 u
theorem Blk.set1 {x y u : Value} (h : Blk w g t #[x, y]) : Blk (w.setCell ⟨g, 1, none⟩ u) g t #[x, u] := h.set_ 1 u
theorem Blk.at_ (w : World) (t : TypeId) (cs : Array Value) {g : Nat} (hg : g = w.heap.size) : Blk (w.alloc (.cells cs t)) g t cs := hg ▸ Blk.new w t cs
theorem Blk.below {B : Nat} (h : Blk w g t cs) (hb : Below B w w') (hg : g < B) : Blk w' g t cs := (hb.block g hg).trans h
end
theorem below_drewN {B : Nat} {a w : World} (h : Below B a w) (n : Nat) : Below B a (w.drewN n) := ⟨h.os, h.tape, h.output, h.size, h.block⟩

/-! Results that lie in memory. -/
def StructTy (P : Program) (ty n : Nat) : Prop := ∃ d, P.underlying ty = some d ∧ (match d with | .struct _ | .array _ _ => true | _ => false) = true ∧ (P.info? ty).map (·.size) = some n
theorem StructTy.load {P : Program} {ty n g : Nat} {t : TypeId} {cs : Array Value} {w : World} (h : StructTy P ty n) (hb : Blk w g t cs) (hn : cs.size = n) : (loadVar ty ⟨g, 0, none⟩).run P w = .ok (.agg cs) w := by
  obtain ⟨d, h1, h2, h3⟩ := h
  exact run_loadVar_row w g t ty cs (0, 0) d hb h1 (by cases d <;> simp_all) (by rw [h3, hn])
section
variable {P : Program} {fn : Func} {p q u : Tmp} {ty ty' n n' g g' : Nat} {t t' : TypeId} {cs cs' : Array Value} {w : World} {tmps : Array Value} {v : Value}
theorem res_cell (h : fn.results = #[.cell p ty]) (hs : StructTy P ty n) (hp : tmps.getD p undef = .pointer (some ⟨g, 0, none⟩)) (hb : Blk w g t cs) (hn : cs.size = n) : (results fn tmps).run P w = .ok (.agg cs) w := by
  have hp' : tmps[p]?.getD undef = .pointer (some ⟨g, 0, none⟩) := by simpa using hp
  simp [results, h, hp', asAddr, hs.load hb hn]
theorem res_cell_tmp (h : fn.results = #[.cell p ty, .tmp u]) (hs : StructTy P ty n) (hp : tmps.getD p undef = .pointer (some ⟨g, 0, none⟩)) (hb : Blk w g t cs) (hn : cs.size = n) (hv : tmps.getD u undef = v) :
    (results fn tmps).run P w = .ok (.tuple #[.agg cs, v]) w := by
  have hp' : tmps[p]?.getD undef = .pointer (some ⟨g, 0, none⟩) := by simpa using hp
  have hv' : tmps[u]?.getD undef = v := by simpa using hv
  simp [results, h, hp', hv', asAddr, hs.load hb hn]
theorem res_cell_cell_tmp (h : fn.results = #[.cell p ty, .cell q ty', .tmp u]) (hs : StructTy P ty n) (hp : tmps.getD p undef = .pointer (some ⟨g, 0, none⟩)) (hb : Blk w g t cs) (hn : cs.size = n)
    (hs' : StructTy P ty' n') (hq : tmps.getD q undef = .pointer (some ⟨g', 0, none⟩)) (hb' : Blk w g' t' cs') (hn' : cs'.size = n') (hv : tmps.getD u undef = v) :
    (results fn tmps).run P w = .ok (.tuple #[.agg cs, .agg cs', v]) w := by
  have hp' : tmps[p]?.getD undef = .pointer (some ⟨g, 0, none⟩) := by simpa using hp
  have hq' : tmps[q]?.getD undef = .pointer (some ⟨g', 0, none⟩) := by simpa using hq
  have hv' : tmps[u]?.getD undef = v := by simpa using hv
  simp [results, h, hp', hq', hv', asAddr, hs.load hb hn, hs'.load hb' hn']
end

/-! A struct of one-cell fields, cell by cell. -/
theorem cells_struct {H : Type} {enc : TypeId × Value → H} {P : Program} {w : World} {sp : Nat → Bool} {e : TypeId} {fs : Array Field} {n : Nat} {cs : List Value} {x : DataW H × List MemPlace} (tys : List TypeId)
    (he : P.underlying e = some (.struct fs)) (hone : oneCellFields P fs = true) (htys : fs.toList.map (·.type) = tys) (h : DataW.trod enc P w 0 sp true n e cs = some x) (hl : cs.length = tys.length) :
    ∃ m, ∀ (j : Nat) (t : TypeId), tys[j]? = some t → ∃ (v : Value) (y : DataW H × List MemPlace), cs[j]? = some v ∧ DataW.trod enc P w 0 sp true m t [v] = some y := by
  obtain ⟨ys, m, _, _, _, hyl, hf⟩ := DataW.trod_struct he h
  refine ⟨m, fun j t hj => ?_⟩
  subst htys
  obtain ⟨f, hfj, rfl⟩ : ∃ f, fs[j]? = some f ∧ f.type = t := by
    rw [List.getElem?_map] at hj
    cases hq : fs.toList[j]? with
    | none => simp [hq] at hj
    | some f => exact ⟨f, by simpa using hq, by simpa [hq] using hj⟩
  obtain ⟨ho, hk⟩ := hone_of hone j f hfj
  have hjl : j < fs.size := (Array.getElem?_eq_some_iff.1 hfj).1
  have hjc : j < cs.length := by rw [hl]; simpa using hjl
  have h1 := hf j f hfj
  rw [ho, hk, List.drop_eq_getElem_cons hjc] at h1
  have hys : ys[j]? = some (ys[j]'(by omega)) := List.getElem?_eq_getElem (by omega)
  exact ⟨cs[j], _, List.getElem?_eq_getElem hjc, h1.trans hys⟩

/-! Slices, element by element: 'R x cs': the cells cs are those of x. -/
def SlR {α : Type} (w : World) (B size : Nat) (R : α → List Value → Prop) (a : Option Addr) (l : List α) : Prop :=
  ∀ k (h : k < l.length), ∃ b off cs, a = some ⟨b, off, none⟩ ∧ b < B ∧ R l[k] cs ∧ ∀ j u, cs[j]? = some u → w.cell? ⟨b, off + k * size + j, none⟩ = some u

theorem SlR.below {α : Type} {w w' : World} {B C size : Nat} {R : α → List Value → Prop} {a : Option Addr} {l : List α} (h : SlR w B size R a l) (hb : Below C w w') (hB : B ≤ C) : SlR w' B size R a l := by
  intro k hk
  obtain ⟨b, off, cs, ha, hlt, hr, hc⟩ := h k hk
  exact ⟨b, off, cs, ha, hlt, hr, fun j u hu => (hb.cell (p := ⟨b, _, none⟩) (by show b < C; omega)).trans (hc j u hu)⟩

theorem SlR.mono {α : Type} {w : World} {B C size : Nat} {R R' : α → List Value → Prop} {a : Option Addr} {l : List α} (h : SlR w B size R a l) (hB : B ≤ C) (hR : ∀ x ∈ l, ∀ cs, R x cs → R' x cs) : SlR w C size R' a l := by
  intro k hk
  obtain ⟨b, off, cs, ha, hlt, hr, hc⟩ := h k hk
  exact ⟨b, off, cs, ha, by omega, hR _ (List.getElem_mem hk) _ hr, hc⟩

theorem SlR.nil {α : Type} {w : World} {B size : Nat} {R : α → List Value → Prop} {a : Option Addr} : SlR w B size R a [] := by
  intro k hk; simp at hk

theorem exists_list {α : Type} {Q : Nat → α → Prop} : ∀ n, (∀ i, i < n → ∃ x, Q i x) → ∃ l : List α, l.length = n ∧ ∀ i (h : i < l.length), Q i l[i]
  | 0, _ => ⟨[], rfl, fun i h => absurd h (by simp)⟩
  | n + 1, hq => by
    obtain ⟨l, hl, h⟩ := exists_list n (fun i hi => hq i (by omega))
    obtain ⟨x, hx⟩ := hq n (by omega)
    refine ⟨l ++ [x], by simp [hl], fun i hi => ?_⟩
    by_cases hin : i < l.length
    · rw [List.getElem_append_left hin]; exact h i hin
    · have hi' : i = n := by simp at hi; omega
      subst hi'
      have : (l ++ [x])[i] = x := by simp [← hl]
      rw [this]; exact hx

/-- A slice that came in, element by element. -/
theorem slr_of_trod {α H : Type} {enc : TypeId × Value → H} {P : Program} {w : World} {R : α → List Value → Prop} {t e : TypeId} {fuel : Nat} {cs : List Value} {x : DataW H × List MemPlace} {sp : Nat → Bool}
    (ht : P.underlying t = some (.slice e)) (hpos : 0 < P.cellsOf e) (hE : ∀ n cs y, cs.length = P.cellsOf e → DataW.trod enc P w 0 sp true n e cs = some y → ∃ x : α, R x cs) (h : DataW.trod enc P w 0 sp true fuel t cs = some x) :
    ∃ (a : Option Addr) (len cap : Nat) (l : List α), cs = [.slice a len cap] ∧ l.length = len ∧ len ≤ cap ∧ cap ≤ maxLen ∧ SlR w w.heap.size (P.cellsOf e) R a l := by
  rcases open_slice ht h with ⟨rfl, _⟩ | ⟨a, len, cap, m, n, D, Pl, rfl, _, hl, hm, hmm, _, hi⟩
  · exact ⟨none, 0, 0, [], rfl, rfl, Nat.le_refl _, Nat.zero_le _, .nil⟩
  · have hlm : len ≤ m := by rw [hmm]; split <;> omega
    have each : ∀ i, i < len → ∃ x : α, ∃ b off cs, some a = some ⟨b, off, none⟩ ∧ b < w.heap.size ∧ R x cs ∧ ∀ j u, cs[j]? = some u → w.cell? ⟨b, off + i * P.cellsOf e + j, none⟩ = some u := by
      intro i hi'
      obtain ⟨cs', h1, h2⟩ := hi i (by omega)
      obtain ⟨_, hlen, hcell⟩ := World.cells?_some h1
      obtain ⟨x, hx⟩ := hE _ _ _ hlen h2
      obtain ⟨ab, ao, asp⟩ := a
      have h0 := hcell 0 hpos
      have hv0 : cs'[0]? = some (cs'[0]'(by omega)) := List.getElem?_eq_getElem (by omega)
      rw [hv0] at h0
      have hsp : asp = none := by
        cases asp with
        | none => rfl
        | some s =>
          exfalso
          rcases open_slice ht h with ⟨he, _⟩ | ⟨a', len', cap', m', n', D', Pl', hcs', _, hl', hm', hmm', _, hj'⟩
          · cases he
          · obtain ⟨rfl, rfl, rfl⟩ : a' = ⟨ab, ao, some s⟩ ∧ len' = len ∧ cap' = cap := by
              injection hcs' with h1 _; injection h1 with h1 h2 h3; injection h1 with h1; exact ⟨h1.symm, h2.symm, h3.symm⟩
            obtain ⟨cs'', h1', h2'⟩ := hj' 0 (by have : len' ≤ m' := by rw [hmm']; split <;> omega
                                                 omega)
            obtain ⟨_, hlen', hcell'⟩ := World.cells?_some h1'
            have h00 := hcell' 0 hpos
            simp only [Nat.zero_mul, Addr.add, if_true] at h00
            have hv0' : cs''[0]? = some (cs''[0]'(by omega)) := List.getElem?_eq_getElem (by omega)
            rw [hv0'] at h00
            unfold World.cell? at h00
            split at h00 <;> simp at h00
      subst hsp
      have eq1 : ∀ j, ((⟨ab, ao, none⟩ : Addr).add (i * P.cellsOf e)).add j = ⟨ab, ao + i * P.cellsOf e + j, none⟩ := by
        intro j
        unfold Addr.add
        by_cases h1 : i * P.cellsOf e = 0 <;> by_cases h2 : j = 0 <;> simp [h1, h2]
      refine ⟨x, ab, ao, cs', rfl, ?_, hx, ?_⟩
      · rcases Nat.lt_or_ge ab w.heap.size with hlt | hge
        · exact hlt
        · exfalso
          rw [eq1] at h0
          unfold World.cell? at h0
          rw [Array.getElem?_eq_none hge] at h0
          cases h0
      · intro j u hu
        have hj : j < cs'.length := (List.getElem?_eq_some_iff.1 hu).1
        have := hcell j (by omega)
        rw [eq1, hu] at this
        exact this
    obtain ⟨l, hl1, hl2⟩ := exists_list len each
    exact ⟨some a, len, cap, l, rfl, hl1, hl, hm, hl2⟩

/-! Slices of a call's own, appended to. -/
def SliceTy (P : Program) (t e : TypeId) (z : Value) (size bytes : Nat) : Prop := ∃ i, P.underlying t = some (.slice e) ∧ P.info? e = some i ∧ i.zero = some z ∧ i.size = size ∧ i.bytes = bytes ∧ z.cells.size = size ∧ 0 < size
theorem SliceTy.mk' {P : Program} {t e : TypeId} {z : Value} {size bytes : Nat} (ht : P.underlying t = some (.slice e)) (hi : (P.info? e).map (fun i => (i.zero, i.size, i.bytes)) = some (some z, size, bytes)) (hz : z.cells.size = size) (h0 : 0 < size) : SliceTy P t e z size bytes := by
  obtain ⟨i, h1, h2, h3, h4⟩ := info_parts hi
  exact ⟨i, ht, h1, h2, h3, h4, hz, h0⟩

theorem wpList_app {P : Program} {ops : Array Oper} {rest : List Oper} {o : Oper} {a : Act} {Q : Exit → Act → World → Prop} {w : World} {t e : TypeId} {z : Value} {size bytes : Nat} (hT : SliceTy P t e z size bytes)
    (s x : Operand) (hgd : o.guard = none) (ho : o.op = .call { callee := .builtin .append, args := #[s, x], argTypes := #[t, t] })
    {base n : Nat} {v : Value} {xs : List Value} (hs : a.eval s = v) (hown : w.ownsRow base e size v n xs)
    {g m c : Nat} {e' : TypeId} {news : Array Value} (hx : a.eval x = .slice (some ⟨g, 0, none⟩) m c) (hb : Blk w g e' news) (hl : news.size = m * size) (h1 : ∀ u ∈ news.toList, u.oneCell' = true)
    (h63 : n + m ≤ maxLen) (hbytes : (n + m) * bytes ≤ 140737488355328) (hbase : base ≤ w.heap.size)
    (h : ∀ v' w', w'.ownsRow base e size v' (n + m) (xs ++ news.toList) → w.grownBy w' v.ownBlock → wpList P ops Q rest (a.put o.dst v') w') : wpList P ops Q (o :: rest) a w := by
  obtain ⟨i, ht, hi, hz, hsz, hby, hzs, h0⟩ := hT
  refine wpList_append_own w hgd s x t ho base e i z size bytes ht hi hz hsz hby hzs h0 v n xs hs hown ⟨g, 0, none⟩ m c news.toList hx (by simpa using hl) ?_ h1 h63 hbytes hbase (fun v' w' h2 h3 _ => h v' w' h2 h3)
  intro j u hu
  have e1 : (⟨g, 0, none⟩ : Addr).add j = ⟨g, j, none⟩ := by unfold Addr.add; by_cases hj : j = 0 <;> simp [hj]
  rw [e1, hb.cell j]
  simpa using hu

theorem own_grown {w0 w w' : World} {base B n size : Nat} {e : TypeId} {v : Value} {xs : List Value} (h : Below B w0 w) (hown : w.ownsRow base e size v n xs) (hg : w.grownBy w' v.ownBlock) (hB : B ≤ base) (hB' : B ≤ w.heap.size) : Below B w0 w' :=
  h.grown hg hB' (fun k hk => by have := (hown.lt k hk).1; omega)
theorem own_below {w w' : World} {base C n size : Nat} {e : TypeId} {v : Value} {xs : List Value} (hown : w.ownsRow base e size v n xs) (h : Below C w w') (hC : w.heap.size ≤ C) : w'.ownsRow base e size v n xs :=
  hown.kept (row := none) ⟨h.os, h.tape, h.output, h.size, fun k hk _ => h.block k (by omega)⟩ (by cases h : v.ownBlock <;> simp)
theorem Blk.grown {w w' : World} {g : Nat} {t : TypeId} {cs : Array Value} {row : Option Nat} (h : Blk w g t cs) (hb : w.grownBy w' row) (hg : some g ≠ row) : Blk w' g t cs := (hb.block g h.lt hg).trans h
theorem own_ne {w : World} {base n size g : Nat} {e : TypeId} {v : Value} {xs : List Value} (h : w.ownsRow base e size v n xs) (hg : g < base) : some g ≠ v.ownBlock := by
  intro he
  have := (h.lt g he.symm).1
  omega
theorem flat_get {α : Type} {c : α → List Value} {size : Nat} : ∀ (l : List α), (∀ x ∈ l, (c x).length = size) → ∀ (k : Nat) (hk : k < l.length) (j : Nat) (u : Value), (c l[k])[j]? = some u → (l.flatMap c)[k * size + j]? = some u
  | [], _, k, hk, _, _, _ => by simp at hk
  | x :: r, hc, 0, _, j, u, hu => by
    have hj : j < (c x).length := (List.getElem?_eq_some_iff.1 hu).1
    simp only [List.flatMap_cons, Nat.zero_mul, Nat.zero_add]
    rw [List.getElem?_append_left hj]
    exact hu
  | x :: r, hc, k + 1, hk, j, u, hu => by
    have hx := hc x (by simp)
    simp only [List.flatMap_cons]
    rw [List.getElem?_append_right (by rw [hx, Nat.succ_mul]; omega)]
    have := flat_get r (fun y hy => hc y (by simp [hy])) k (by simpa using hk) j u (by simpa using hu)
    rw [hx]
    have e2 : (k + 1) * size + j - size = k * size + j := by rw [Nat.succ_mul]; omega
    rw [e2]; exact this
theorem own_slr {α : Type} {w : World} {base size : Nat} {e : TypeId} {v : Value} {c : α → List Value} {l : List α} (h : w.ownsRow base e size v l.length (l.flatMap c)) (hc : ∀ x ∈ l, (c x).length = size) :
    ∃ a cap, v = .slice a l.length cap ∧ SlR w w.heap.size size (fun x cs => cs = c x) a l := by
  rcases h.2 with ⟨rfl, hn⟩ | ⟨g, cap, cur, rfl, hg, hh, h3, h4, h5, h6⟩
  · have : l = [] := List.eq_nil_of_length_eq_zero hn
    subst this
    exact ⟨none, 0, rfl, .nil⟩
  · refine ⟨some ⟨g, 0, none⟩, cap, rfl, ?_⟩
    intro k hk
    refine ⟨g, 0, c l[k], rfl, (h.lt g rfl).2, rfl, ?_⟩
    intro j u hu
    have := h.cells (g := g) rfl (k * size + j) u (flat_get l hc k hk j u hu)
    have e1 : (⟨g, 0, none⟩ : Addr).add (k * size + j) = ⟨g, 0 + k * size + j, none⟩ := by unfold Addr.add; by_cases hj : k * size + j = 0 <;> simp [hj] <;> omega
    rw [e1] at this
    exact this
theorem SlR.of_blk {α : Type} {w : World} {g size : Nat} {t : TypeId} {cs : Array Value} {c : α → List Value} {R : α → List Value → Prop} {l : List α} (h : Blk w g t cs) (hl : cs.toList = l.flatMap c) (hc : ∀ x ∈ l, (c x).length = size) (hR : ∀ x ∈ l, R x (c x)) :
    SlR w (g + 1) size R (some ⟨g, 0, none⟩) l := by
  intro k hk
  refine ⟨g, 0, c l[k], rfl, by omega, hR _ (List.getElem_mem hk), ?_⟩
  intro j u hu
  have := flat_get l hc k hk j u hu
  rw [← hl] at this
  rw [h.cell, Nat.zero_add]
  simpa using this

/-! Slices of numbers. -/
def intIs (x : Int) (cs : List Value) : Prop := cs = [.int .i64 x]
abbrev SlI (w : World) (B : Nat) (a : Option Addr) (l : List Int) : Prop := SlR w B 1 intIs a l
theorem SlR.atI {w : World} {B : Nat} {a : Option Addr} {l : List Int} (h : SlR w B 1 intIs a l) {k : Nat} (hk : k < l.length) : ∃ b off, a = some ⟨b, off, none⟩ ∧ b < B ∧ w.cell? ⟨b, off + k, none⟩ = some (.int .i64 l[k]) := by
  obtain ⟨b, off, cs, ha, hb, rfl, hc⟩ := h k hk
  have := hc 0 _ rfl
  rw [Nat.mul_one, Nat.add_zero] at this
  exact ⟨b, off, ha, hb, this⟩

/-! A field: two texts and a mark. -/
structure Fd where
  name : List UInt8
  value : List UInt8
  never : Bool
def Fd.cells (f : Fd) : List Value := [bstr f.name, bstr f.value, .bool f.never]
def Fd.Is (f : Fd) (cs : List Value) : Prop := cs = f.cells ∧ f.name.length ≤ maxLen ∧ f.value.length ≤ maxLen
abbrev SlF (w : World) (B : Nat) (a : Option Addr) (l : List Fd) : Prop := SlR w B 3 Fd.Is a l

theorem SlR.atF {w : World} {B : Nat} {a : Option Addr} {l : List Fd} (h : SlR w B 3 Fd.Is a l) {k : Nat} (hk : k < l.length) :
    ∃ b off, a = some ⟨b, off, none⟩ ∧ b < B ∧ w.cell? ⟨b, off + k * 3, none⟩ = some (bstr l[k].name) ∧ w.cell? ⟨b, off + k * 3 + 1, none⟩ = some (bstr l[k].value) ∧ w.cell? ⟨b, off + k * 3 + 2, none⟩ = some (.bool l[k].never) ∧
      l[k].name.length ≤ 9223372036854775807 ∧ l[k].value.length ≤ 9223372036854775807 := by
  obtain ⟨b, off, cs, ha, hb, ⟨rfl, h1, h2⟩, hc⟩ := h k hk
  unfold maxLen at h1 h2
  exact ⟨b, off, ha, hb, hc 0 _ rfl, hc 1 _ rfl, hc 2 _ rfl, h1, h2⟩

theorem slF_new {w : World} {g : Nat} {t : TypeId} {cs : Array Value} {l : List Fd} (h : Blk w g t cs) (hl : cs.toList = l.flatMap Fd.cells) (hR : (l.all fun f => decide (f.name.length ≤ maxLen) && decide (f.value.length ≤ maxLen)) = true) : SlF w (g + 1) (some ⟨g, 0, none⟩) l :=
  SlR.of_blk h hl (fun _ _ => rfl) (fun x hx => by
    have := List.all_eq_true.1 hR x hx
    simp only [Bool.and_eq_true, decide_eq_true_eq] at this
    exact ⟨rfl, this.1, this.2⟩)

/-! The closing step of a law: the arguments read as they did; the answer is true. -/
section
variable {H : Type} {enc : TypeId × Value → H} {P : Program}
theorem trodAll_later (hl : laidOutB P = true) {W W' : World} (hb : Below W.heap.size W W') {sp : Nat → Bool} :
    ∀ (ts : List TypeId) (vs : List Value) (ds : List (DataW H)) (ps : List MemPlace), (∀ t ∈ ts, P.readableRec t = true ∧ t < P.types.size) → (∀ p ∈ ps, p.block < W.heap.size) → (∀ p ∈ ps, sp p.block = true) →
      DataW.TrodAll enc P W 0 (fun _ => true) true ts vs ds ps → DataW.TrodAll enc P W' 0 sp true ts vs ds ps
  | [], vs, ds, ps, _, _, _, h => by
    obtain ⟨rfl, rfl, rfl⟩ := trodAll_nil h
    exact rfl
  | t :: ts, vs, ds, ps, ht, hlt, hsp, h => by
    obtain ⟨v, vs', d, ds', p, q, rfl, rfl, rfl, h1, h2⟩ := trodAll_cons h
    have a1 := ht t (by simp)
    refine ⟨p, q, WideElems.Trod_stays hl a1.1 a1.2 h1 (fun x hx => hb.same (hlt x (by simp [hx]))) (fun x hx => hsp x (by simp [hx])), ?_, rfl⟩
    exact trodAll_later hl hb ts vs' ds' q (fun t' h' => ht t' (by simp [h'])) (fun x hx => hlt x (by simp [hx])) (fun x hx => hsp x (by simp [hx])) h2

theorem law_post {f : Func} {s : ChangeSpec} {apart fresh handsOn again : Bool} {W W' : World} {args : Array Value} {v : Value} {ds : List (DataW H)} {before : List MemPlace} {tb : TypeId}
    (hW : DataW.Whole enc P f.params.toList s.vars apart W args.toList ds [] before) (hvs : s.vars = []) (hl : laidOutB P = true) (hts : ∀ t ∈ f.params.toList, P.readableRec t = true ∧ t < P.types.size)
    (hr : f.resultTypes = #[tb]) (htb : P.underlying tb = some .bool) (hfn : s.fn H (ds ++ []) = { results := [.lit (.bool true)], args := ds }) (hv : v = .bool true) (hb : Below W.heap.size W W') :
    s.post enc P f apart fresh handsOn again W args v W' := by
  subst hv
  have hW' := hW
  obtain ⟨p, q, hA, hV, hpq, hz, hn⟩ := hW
  have hq : q = [] := by rw [hvs] at hV; exact hV
  subst hq
  have hps : before = p := by rw [hpq, List.append_nil]
  subst hps
  have hlt : ∀ x ∈ before, x.block < W.heap.size := fun x hx => hW'.lt x hx
  have hold : ∀ x ∈ before, (fun b => decide (b < W.heap.size)) x.block = true := fun x hx => by simpa using hlt x hx
  have hres : ∀ (b : Nat) (sp : Nat → Bool) (hd : Bool), DataW.TrodAll enc P W' b sp hd f.resultTypes.toList ((Value.bool true).resultList f.resultTypes.size) (s.fn H (ds ++ [])).results [] := by
    intro b sp hd
    rw [hfn, hr]
    exact trodAll_cons_mk (shut_bool htb _) trodAll_mk0
  have hargs : ∀ sp : Nat → Bool, (∀ x ∈ before, sp x.block = true) → DataW.TrodAll enc P W' 0 sp true f.params.toList args.toList (s.fn H (ds ++ [])).args before := by
    intro sp hsp
    rw [hfn]
    exact trodAll_later hl hb _ _ _ _ hts hlt hsp hA
  have hvars : ∀ sp : Nat → Bool, DataW.TrodVars enc P W' sp s.vars (s.fn H (ds ++ [])).vars [] := by
    intro sp
    rw [hvs, hfn]
    exact rfl
  refine ⟨ds, [], before, [], before, [], hW', hres _ _ _, hargs _ hold, hvars _, World.keptBut_mono (fun x hx => ⟨hx, .inr (.inl hx)⟩) (hb.frame (· ∈ before)), fun _ => ?_⟩
  refine ⟨?_, _, _, ([] ++ before) ++ [], ⟨[] ++ before, [], trodAll_append (hargs _ (fun _ _ => rfl)) (hres _ _ _), hvars _, rfl, ?_, ?_⟩, ?_⟩
  · exact ok_one hr rfl (okWide_bool_mk htb _)
  · intro b off hp
    have hin : MemPlace.cell b off ∈ before := by simpa using hp
    rw [hb.frozen (hlt _ hin)]
    exact hz b off hin
  · intro ha
    have := hn ha
    simpa using this
  · intro x hx _
    simpa using hx
end
end Go.Proofs.YtfcgdfcekpbliaaGreatDoor
/-
  A world that has grown: what a callee leaves behind that only makes memory. With these rules the walk keeps the blocks of its own written out across calls.
-/
namespace Go
structure Junk where
  heap : Array Obj
  drawn : Nat
def World.more (w : World) (j : Junk) : World := { w with heap := w.heap ++ j.heap, drawn := j.drawn }
section
variable {w : World} {j k : Junk}
@[simp, go_sem] theorem World.size_more : (w.more j).heap.size = w.heap.size + j.heap.size := by simp [World.more]
@[simp, go_sem] theorem World.tape_more : (w.more j).tape = w.tape := rfl
theorem World.heap_more (n : Nat) (hn : n < w.heap.size) : (w.more j).heap[n]? = w.heap[n]? := by
  show (w.heap ++ j.heap)[n]? = _
  rw [Array.getElem?_append_left hn]
@[go_sem] theorem World.cell?_more (n i : Nat) (s : Option Nat) (hn : n < w.heap.size) : (w.more j).cell? ⟨n, i, s⟩ = w.cell? ⟨n, i, s⟩ := by
  unfold World.cell?; rw [World.heap_more n hn]
@[go_sem] theorem World.frozen?_more (n i : Nat) (s : Option Nat) (hn : n < w.heap.size) : (w.more j).frozen? ⟨n, i, s⟩ = w.frozen? ⟨n, i, s⟩ := by
  unfold World.frozen?; rw [World.heap_more n hn]
@[go_sem] theorem World.setCell_more (n i : Nat) (s : Option Nat) (v : Value) (hn : n < w.heap.size) : (w.more j).setCell ⟨n, i, s⟩ v = (w.setCell ⟨n, i, s⟩ v).more j := by
  unfold World.setCell World.more
  congr 1
  apply Array.ext_getElem?
  intro q
  simp only [Array.getElem?_modify, Array.getElem?_append, Array.size_modify]
  by_cases hq : n = q
  · subst hq; simp [hn]
  · simp [hq]
@[go_sem] theorem World.more_drew : w.drew.more j = w.more j := rfl
@[go_sem] theorem World.more_drewN (n : Nat) : (w.drewN n).more j = w.more j := rfl
@[go_sem] theorem World.more_more : (w.more j).more k = w.more ⟨j.heap ++ k.heap, k.drawn⟩ := by
  simp [World.more, Array.append_assoc]
@[go_sem] theorem lt_new1 {a c0 : Nat} : (a < a + 1 + c0) = True := eq_true (by omega)
@[go_sem] theorem lt_old1 {a b c0 : Nat} (h : a < b) : (a < b + c0) = True := eq_true (by omega)
@[go_sem] theorem lt_new2 {a c0 c1 : Nat} : (a < a + 1 + c0 + c1) = True := eq_true (by omega)
@[go_sem] theorem lt_old2 {a b c0 c1 : Nat} (h : a < b) : (a < b + c0 + c1) = True := eq_true (by omega)
@[go_sem] theorem lt_new3 {a c0 c1 c2 : Nat} : (a < a + 1 + c0 + c1 + c2) = True := eq_true (by omega)
@[go_sem] theorem lt_old3 {a b c0 c1 c2 : Nat} (h : a < b) : (a < b + c0 + c1 + c2) = True := eq_true (by omega)
@[go_sem] theorem lt_new4 {a c0 c1 c2 c3 : Nat} : (a < a + 1 + c0 + c1 + c2 + c3) = True := eq_true (by omega)
@[go_sem] theorem lt_old4 {a b c0 c1 c2 c3 : Nat} (h : a < b) : (a < b + c0 + c1 + c2 + c3) = True := eq_true (by omega)
@[go_sem] theorem lt_new5 {a c0 c1 c2 c3 c4 : Nat} : (a < a + 1 + c0 + c1 + c2 + c3 + c4) = True := eq_true (by omega)
@[go_sem] theorem lt_old5 {a b c0 c1 c2 c3 c4 : Nat} (h : a < b) : (a < b + c0 + c1 + c2 + c3 + c4) = True := eq_true (by omega)
@[go_sem] theorem lt_new6 {a c0 c1 c2 c3 c4 c5 : Nat} : (a < a + 1 + c0 + c1 + c2 + c3 + c4 + c5) = True := eq_true (by omega)
@[go_sem] theorem lt_old6 {a b c0 c1 c2 c3 c4 c5 : Nat} (h : a < b) : (a < b + c0 + c1 + c2 + c3 + c4 + c5) = True := eq_true (by omega)
@[go_sem] theorem lt_new7 {a c0 c1 c2 c3 c4 c5 c6 : Nat} : (a < a + 1 + c0 + c1 + c2 + c3 + c4 + c5 + c6) = True := eq_true (by omega)
@[go_sem] theorem lt_old7 {a b c0 c1 c2 c3 c4 c5 c6 : Nat} (h : a < b) : (a < b + c0 + c1 + c2 + c3 + c4 + c5 + c6) = True := eq_true (by omega)
@[go_sem] theorem lt_new8 {a c0 c1 c2 c3 c4 c5 c6 c7 : Nat} : (a < a + 1 + c0 + c1 + c2 + c3 + c4 + c5 + c6 + c7) = True := eq_true (by omega)
@[go_sem] theorem lt_old8 {a b c0 c1 c2 c3 c4 c5 c6 c7 : Nat} (h : a < b) : (a < b + c0 + c1 + c2 + c3 + c4 + c5 + c6 + c7) = True := eq_true (by omega)
@[go_sem] theorem lt_new9 {a c0 c1 c2 c3 c4 c5 c6 c7 c8 : Nat} : (a < a + 1 + c0 + c1 + c2 + c3 + c4 + c5 + c6 + c7 + c8) = True := eq_true (by omega)
@[go_sem] theorem lt_old9 {a b c0 c1 c2 c3 c4 c5 c6 c7 c8 : Nat} (h : a < b) : (a < b + c0 + c1 + c2 + c3 + c4 + c5 + c6 + c7 + c8) = True := eq_true (by omega)
@[go_sem] theorem lt_new10 {a c0 c1 c2 c3 c4 c5 c6 c7 c8 c9 : Nat} : (a < a + 1 + c0 + c1 + c2 + c3 + c4 + c5 + c6 + c7 + c8 + c9) = True := eq_true (by omega)
@[go_sem] theorem lt_old10 {a b c0 c1 c2 c3 c4 c5 c6 c7 c8 c9 : Nat} (h : a < b) : (a < b + c0 + c1 + c2 + c3 + c4 + c5 + c6 + c7 + c8 + c9) = True := eq_true (by omega)
@[go_sem] theorem lt_new11 {a c0 c1 c2 c3 c4 c5 c6 c7 c8 c9 c10 : Nat} : (a < a + 1 + c0 + c1 + c2 + c3 + c4 + c5 + c6 + c7 + c8 + c9 + c10) = True := eq_true (by omega)
@[go_sem] theorem lt_old11 {a b c0 c1 c2 c3 c4 c5 c6 c7 c8 c9 c10 : Nat} (h : a < b) : (a < b + c0 + c1 + c2 + c3 + c4 + c5 + c6 + c7 + c8 + c9 + c10) = True := eq_true (by omega)
@[go_sem] theorem lt_new12 {a c0 c1 c2 c3 c4 c5 c6 c7 c8 c9 c10 c11 : Nat} : (a < a + 1 + c0 + c1 + c2 + c3 + c4 + c5 + c6 + c7 + c8 + c9 + c10 + c11) = True := eq_true (by omega)
@[go_sem] theorem lt_old12 {a b c0 c1 c2 c3 c4 c5 c6 c7 c8 c9 c10 c11 : Nat} (h : a < b) : (a < b + c0 + c1 + c2 + c3 + c4 + c5 + c6 + c7 + c8 + c9 + c10 + c11) = True := eq_true (by omega)
@[go_sem] theorem lt_new13 {a c0 c1 c2 c3 c4 c5 c6 c7 c8 c9 c10 c11 c12 : Nat} : (a < a + 1 + c0 + c1 + c2 + c3 + c4 + c5 + c6 + c7 + c8 + c9 + c10 + c11 + c12) = True := eq_true (by omega)
@[go_sem] theorem lt_old13 {a b c0 c1 c2 c3 c4 c5 c6 c7 c8 c9 c10 c11 c12 : Nat} (h : a < b) : (a < b + c0 + c1 + c2 + c3 + c4 + c5 + c6 + c7 + c8 + c9 + c10 + c11 + c12) = True := eq_true (by omega)
@[go_sem] theorem lt_new14 {a c0 c1 c2 c3 c4 c5 c6 c7 c8 c9 c10 c11 c12 c13 : Nat} : (a < a + 1 + c0 + c1 + c2 + c3 + c4 + c5 + c6 + c7 + c8 + c9 + c10 + c11 + c12 + c13) = True := eq_true (by omega)
@[go_sem] theorem lt_old14 {a b c0 c1 c2 c3 c4 c5 c6 c7 c8 c9 c10 c11 c12 c13 : Nat} (h : a < b) : (a < b + c0 + c1 + c2 + c3 + c4 + c5 + c6 + c7 + c8 + c9 + c10 + c11 + c12 + c13) = True := eq_true (by omega)
@[go_sem] theorem lt_new15 {a c0 c1 c2 c3 c4 c5 c6 c7 c8 c9 c10 c11 c12 c13 c14 : Nat} : (a < a + 1 + c0 + c1 + c2 + c3 + c4 + c5 + c6 + c7 + c8 + c9 + c10 + c11 + c12 + c13 + c14) = True := eq_true (by omega)
@[go_sem] theorem lt_old15 {a b c0 c1 c2 c3 c4 c5 c6 c7 c8 c9 c10 c11 c12 c13 c14 : Nat} (h : a < b) : (a < b + c0 + c1 + c2 + c3 + c4 + c5 + c6 + c7 + c8 + c9 + c10 + c11 + c12 + c13 + c14) = True := eq_true (by omega)
@[go_sem] theorem lt_new16 {a c0 c1 c2 c3 c4 c5 c6 c7 c8 c9 c10 c11 c12 c13 c14 c15 : Nat} : (a < a + 1 + c0 + c1 + c2 + c3 + c4 + c5 + c6 + c7 + c8 + c9 + c10 + c11 + c12 + c13 + c14 + c15) = True := eq_true (by omega)
@[go_sem] theorem lt_old16 {a b c0 c1 c2 c3 c4 c5 c6 c7 c8 c9 c10 c11 c12 c13 c14 c15 : Nat} (h : a < b) : (a < b + c0 + c1 + c2 + c3 + c4 + c5 + c6 + c7 + c8 + c9 + c10 + c11 + c12 + c13 + c14 + c15) = True := eq_true (by omega)
end
namespace RowKit
theorem Below.ofMore {B : Nat} {a w : World} (h : Below B a w) (hB : B ≤ w.heap.size) (j : Junk) : Below B a (w.more j) :=
  h.trans ⟨rfl, rfl, rfl, by simp, fun k hk => World.heap_more k (by omega)⟩
theorem Below.junk {w w' : World} (h : Below w.heap.size w w') : ∃ j, w' = w.more j := by
  refine ⟨⟨w'.heap.extract w.heap.size w'.heap.size, w'.drawn⟩, ?_⟩
  have e : w'.heap = w.heap ++ w'.heap.extract w.heap.size w'.heap.size := by
    apply Array.ext_getElem?
    intro k
    rw [Array.getElem?_append]
    split
    · rename_i hk; exact h.block k hk
    · rename_i hk
      rw [Array.getElem?_extract]
      have := h.size
      by_cases hk2 : k < w'.heap.size
      · rw [if_pos (by omega)]; congr 1; omega
      · rw [if_neg (by omega), Array.getElem?_eq_none (by omega)]
  cases w'
  cases w
  obtain ⟨h1, h2, h3, h4, h5⟩ := h
  simp only at h1 h2 h3 e
  subst h1 h2 h3
  simp only [World.more]
  exact congrArg (fun x => ({ heap := x, tape := _, drawn := _, os := _, output := _ } : World)) e
theorem Below.allocS {a w : World} (h : Below a.heap.size a w) (o : Obj) : Below a.heap.size a (w.alloc o) := h.alloc h.size o
theorem Below.moreS {a w : World} (h : Below a.heap.size a w) (j : Junk) : Below a.heap.size a (w.more j) := h.ofMore h.size j
theorem outs {P : Program} {f : Nat} {args : Array Value} {w : World} {v : Value} (h : Calls P f args w fun e w' => e = .returned v ∧ Below w.heap.size w w') : Calls P f args w fun e w' => e = .returned v ∧ ∃ j, w' = w.more j :=
  h.mono fun _ _ ⟨he, hb⟩ => ⟨he, hb.junk⟩
end RowKit
end Go
namespace Go.Proofs.YtfcgdfcekpbliaaGreatDoor
set_option linter.unusedSimpArgs false
set_option linter.unusedVariables false
set_option linter.unusedSectionVars false
open Go.ChangeShapes Go.WideShapes Go.ChangeAt Go.RowKit Go.Deep
theorem Blk.more {w : World} {g : Nat} {t : TypeId} {cs : Array Value} (h : Blk w g t cs) (j : Junk) : Blk (w.more j) g t cs := (World.heap_more g h.lt).trans h
/-! Short words: what a walk asks of a grown world. -/
theorem bel {B : Nat} {a w : World} (h : Below B a w := by repeat (first | (with_reducible exact Below.refl _ _) | (with_reducible refine Below.allocS ?_ _) | (with_reducible refine Below.moreS ?_ _) | (with_reducible refine Below.drew ?_) | (with_reducible refine below_drewN ?_ _))) : Below B a w := h
theorem blk {w : World} {g : Nat} {t : TypeId} {cs : Array Value} (h : Blk w g t cs := by repeat (first | ((with_reducible apply Blk.at_); (simp; done)) | (with_reducible apply Blk.alloc) | (with_reducible apply Blk.more) | (with_reducible apply Blk.drew))) : Blk w g t cs := h
theorem mo {P : Program} {f : FuncId} {args : Array Value} {w : World} {v : Value} {Q : Ending → World → Prop} (h : Calls P f args w fun e w' => e = .returned v ∧ ∃ j, w' = w.more j) (k : ∀ j, Q (.returned v) (w.more j)) : Calls P f args w Q :=
  h.mono fun _ _ ⟨he, j, hj⟩ => he ▸ hj ▸ k j
theorem mq {P : Program} {f : FuncId} {args : Array Value} {w : World} {v : Value} {Q : Ending → World → Prop} (h : Calls P f args w fun e w' => e = .returned v ∧ w = w') (k : Q (.returned v) w) : Calls P f args w Q :=
  h.mono fun _ _ ⟨he, hj⟩ => he ▸ hj ▸ k
end Go.Proofs.YtfcgdfcekpbliaaGreatDoor
/-
  An append whose source is a slice that is known element by element; slices of slices.
-/
namespace Go.Proofs.YtfcgdfcekpbliaaGreatDoor
set_option linter.unusedSimpArgs false
set_option linter.unusedVariables false
set_option linter.unusedSectionVars false
open Go.ChangeShapes Go.WideShapes Go.ChangeAt Go.RowKit Go.Deep

theorem run_append_nil {P : Program} (w : World) (base : Nat) (t ty e : TypeId) (i : TypeInfo) (size : Nat) (ht : P.underlying t = some (.slice e)) (hi : P.info? e = some i)
    (v : Value) (n : Nat) (xs : List Value) (hown : w.ownsRow base e size v n xs) (A : Option Addr) (c : Nat) (hA : A = none) : (Builtin.append_ #[t, t] ty #[v, .slice A 0 c]).run P w = .ok v w := by
  subst hA
  rcases hown.2 with ⟨rfl, rfl⟩ | ⟨g, cap, cur, rfl, _, _, hnc, _⟩
  · simp [Builtin.append_, run_underlying ht, sizeOf, typeInfo, hi, Builtin.lenOf, Builtin.firstCells]
  · simp [Builtin.append_, run_underlying ht, sizeOf, typeInfo, hi, Builtin.lenOf, Builtin.firstCells, hnc, storeCells]

/-- One append: onto a row of the call's own, from a slice that reads as ms. -/
theorem wpList_app_sl {α : Type} {P : Program} {ops : Array Oper} {rest : List Oper} {o : Oper} {a : Act} {Q : Exit → Act → World → Prop} {w : World} {t e : TypeId} {z : Value} {size bytes : Nat} (hT : SliceTy P t e z size bytes)
    (s x : Operand) (hgd : o.guard = none) (ho : o.op = .call { callee := .builtin .append, args := #[s, x], argTypes := #[t, t] })
    {base n : Nat} {v : Value} {xs : List Value} (hs : a.eval s = v) (hown : w.ownsRow base e size v n xs)
    {A : Option Addr} {m c B : Nat} {R : α → List Value → Prop} {cf : α → List Value} {ms : List α} (hx : a.eval x = .slice A m c) (hm : ms.length = m) (hr : SlR w B size R A ms) (hR : ∀ y ∈ ms, ∀ cs, R y cs → cs = cf y) (hc : ∀ y ∈ ms, (cf y).length = size) (h1 : ∀ y ∈ ms, ∀ u ∈ cf y, u.oneCell' = true)
    (h63 : n + m ≤ maxLen) (hbytes : (n + m) * bytes ≤ 140737488355328) (hbase : base ≤ w.heap.size)
    (h : ∀ v' w', w'.ownsRow base e size v' (n + m) (xs ++ ms.flatMap cf) → w.grownBy w' v.ownBlock → wpList P ops Q rest (a.put o.dst v') w') : wpList P ops Q (o :: rest) a w := by
  subst hm
  obtain ⟨i, ht, hi, hz, hsz, hby, hzs, h0⟩ := hT
  rcases A with _ | ad
  · have hms : ms = [] := by
      rcases Nat.eq_zero_or_pos ms.length with hn | hp
      · exact List.eq_nil_of_length_eq_zero hn
      · obtain ⟨_, _, _, hA, _⟩ := hr 0 hp
        cases hA
    subst hms
    refine wpList_plain hgd fun _ hK => ?_
    unfold Oper.wp execOp
    simp only [ho, resolve, invoke, builtin, Sem.run_bind, Sem.run_pure, Result.andThen_ok, List.map_toArray, List.map_cons, List.map_nil, hs, hx, run_append_nil (P := P) w base t o.type e i size ht hi v n xs hown none c rfl, List.length_nil]
    exact hK _ _ (h v w (by simpa using hown) (World.grownBy.refl w _))
  · have hlen : (ms.flatMap cf).length = ms.length * size := by
      clear h hr hR h1 h63 hbytes hx
      induction ms with
      | nil => simp
      | cons y r ih =>
        simp only [List.flatMap_cons, List.length_append, List.length_cons, Nat.add_mul, Nat.one_mul]
        rw [ih (fun z hz => hc z (by simp [hz])), hc y (by simp)]
        omega
    refine wpList_append_own w hgd s x t ho base e i z size bytes ht hi hz hsz hby hzs h0 v n xs hs hown ad ms.length c (ms.flatMap cf) hx hlen ?_ ?_ h63 hbytes hbase (fun v' w' h2 h3 _ => h v' w' h2 h3)
    · intro j u hu
      have hj : j < ms.length * size := by rw [← hlen]; exact (List.getElem?_eq_some_iff.1 hu).1
      have hk : j / size < ms.length := Nat.div_lt_of_lt_mul (by rw [Nat.mul_comm]; exact hj)
      obtain ⟨b, off, cs, hA, _, hRk, hcell⟩ := hr _ hk
      injection hA with hA
      subst hA
      have hcs := hR _ (List.getElem_mem hk) _ hRk
      subst hcs
      have hjr : j % size < (cf ms[j / size]).length := by rw [hc _ (List.getElem_mem hk)]; exact Nat.mod_lt _ h0
      have hj2 : j / size * size + j % size = j := by rw [Nat.mul_comm]; exact Nat.div_add_mod j size
      have hu2 := flat_get ms hc _ hk _ _ (List.getElem?_eq_getElem hjr)
      rw [hj2, hu] at hu2
      have := hcell (j % size) _ (List.getElem?_eq_getElem hjr)
      rw [Nat.add_assoc, hj2] at this
      have e1 : (⟨b, off, none⟩ : Addr).add j = ⟨b, off + j, none⟩ := by unfold Addr.add; by_cases hz : j = 0 <;> simp [hz]
      rw [e1, this, hu2]
    · intro u hu
      obtain ⟨y, hy, hu⟩ := List.mem_flatMap.1 hu
      exact h1 y hy u hu

theorem SlR.take {α : Type} {w : World} {B size : Nat} {R : α → List Value → Prop} {a : Option Addr} {l : List α} (h : SlR w B size R a l) (n : Nat) : SlR w B size R a (l.take n) := by
  intro k hk
  have hk' : k < l.length := by simp at hk; omega
  obtain ⟨b, off, cs, ha, hb, hr, hc⟩ := h k hk'
  exact ⟨b, off, cs, ha, hb, by simpa using hr, hc⟩
theorem SlR.drop {α : Type} {w : World} {B size : Nat} {R : α → List Value → Prop} {a : Option Addr} {l : List α} (h : SlR w B size R a l) (n : Nat) : SlR w B size R (a.map (·.add (n * size))) (l.drop n) := by
  intro k hk
  have hk' : n + k < l.length := by simp at hk; omega
  obtain ⟨b, off, cs, ha, hb, hr, hc⟩ := h (n + k) hk'
  subst ha
  have e1 : (⟨b, off, none⟩ : Addr).add (n * size) = ⟨b, off + n * size, none⟩ := by unfold Addr.add; by_cases hz : n * size = 0 <;> simp [hz]
  refine ⟨b, off + n * size, cs, by simp [e1], hb, by simpa using hr, fun j u hu => ?_⟩
  have := hc j u hu
  rw [Nat.add_mul] at this
  rw [← this]
  congr 2
  omega
theorem SlR.drop_if {α : Type} {w : World} {B size cap : Nat} {R : α → List Value → Prop} {a : Option Addr} {l : List α} (h : SlR w B size R a l) (n : Nat) (hc : l.length ≤ cap) : SlR w B size R (if cap = n then a else a.map (·.add (n * size))) (l.drop n) := by
  split
  · rename_i hn
    rw [List.drop_of_length_le (by omega)]
    exact .nil
  · exact h.drop n
theorem fd_cells : ∀ (y : Fd) (cs : List Value), y.Is cs → cs = y.cells := fun _ _ h => h.1
end Go.Proofs.YtfcgdfcekpbliaaGreatDoor
/-
  An append as one step of a region that draws its order.
-/
namespace Go.Proofs.YtfcgdfcekpbliaaGreatDoor
set_option linter.unusedSimpArgs false
set_option linter.unusedVariables false
set_option linter.unusedSectionVars false
open Go.ChangeShapes Go.WideShapes Go.ChangeAt Go.RowKit Go.Deep

theorem step_core {P : Program} {ops : Array Oper} {o : Oper} {a : Act} {K : Act → World → Prop} {Q : Exit → Act → World → Prop} {E : Prop} {w w' : World} {t : TypeId} {v V v' : Value} (hgd : o.guard = none) (s x : Operand)
    (ho : o.op = .call { callee := .builtin .append, args := #[s, x], argTypes := #[t, t] }) (hs : a.eval s = v) (hx : a.eval x = V)
    (hrun : (Builtin.append_ #[t, t] o.type #[v, V]).run P w = .ok v' w') (h : K (a.put o.dst v') w') : if Region.wanted o (yielded ops a.tmps) = true then Oper.wp P o a w K Q else E := by
  have hw : Region.wanted o (yielded ops a.tmps) = true := by simp [Region.wanted, hgd]
  rw [if_pos hw]
  unfold Oper.wp
  simp [execOp, ho, resolve, invoke, builtin, hs, hx, hrun, Result.andThen]
  exact h

theorem run_app_sl {α : Type} {P : Program} {w : World} {t e ty : TypeId} {z : Value} {size bytes : Nat} (hT : SliceTy P t e z size bytes)
    {base n : Nat} {v : Value} {xs : List Value} (hown : w.ownsRow base e size v n xs)
    {A : Option Addr} {c B : Nat} {R : α → List Value → Prop} {cf : α → List Value} {ms : List α} (hr : SlR w B size R A ms) (hR : ∀ y ∈ ms, ∀ cs, R y cs → cs = cf y) (hc : ∀ y ∈ ms, (cf y).length = size) (h1 : ∀ y ∈ ms, ∀ u ∈ cf y, u.oneCell' = true)
    (h63 : n + ms.length ≤ maxLen) (hbytes : (n + ms.length) * bytes ≤ 140737488355328) (hbase : base ≤ w.heap.size) :
    ∃ v' w', (Builtin.append_ #[t, t] ty #[v, .slice A ms.length c]).run P w = .ok v' w' ∧ w'.ownsRow base e size v' (n + ms.length) (xs ++ ms.flatMap cf) ∧ w.grownBy w' v.ownBlock := by
  obtain ⟨i, ht, hi, hz, hsz, hby, hzs, h0⟩ := hT
  rcases A with _ | ad
  · have hms : ms = [] := by
      rcases Nat.eq_zero_or_pos ms.length with hn | hp
      · exact List.eq_nil_of_length_eq_zero hn
      · obtain ⟨_, _, _, hA, _⟩ := hr 0 hp
        cases hA
    subst hms
    exact ⟨v, w, run_append_nil (P := P) w base t ty e i size ht hi v n xs hown none c rfl, by simpa using hown, World.grownBy.refl w _⟩
  · have hlen : (ms.flatMap cf).length = ms.length * size := by
      clear hr hR h1 h63 hbytes
      induction ms with
      | nil => simp
      | cons y r ih =>
        simp only [List.flatMap_cons, List.length_append, List.length_cons, Nat.add_mul, Nat.one_mul]
        rw [ih (fun z hz => hc z (by simp [hz])), hc y (by simp)]
        omega
    obtain ⟨v', w', e1, e2, e3, _⟩ := run_append_own w base t ty e i z size bytes ht hi hz hsz hby hzs h0 v n xs hown ad ms.length c (ms.flatMap cf) hlen (by
      intro j u hu
      have hj : j < ms.length * size := by rw [← hlen]; exact (List.getElem?_eq_some_iff.1 hu).1
      have hk : j / size < ms.length := Nat.div_lt_of_lt_mul (by rw [Nat.mul_comm]; exact hj)
      obtain ⟨b, off, cs, hA, _, hRk, hcell⟩ := hr _ hk
      injection hA with hA
      subst hA
      have hcs := hR _ (List.getElem_mem hk) _ hRk
      subst hcs
      have hjr : j % size < (cf ms[j / size]).length := by rw [hc _ (List.getElem_mem hk)]; exact Nat.mod_lt _ h0
      have hj2 : j / size * size + j % size = j := by rw [Nat.mul_comm]; exact Nat.div_add_mod j size
      have hu2 := flat_get ms hc _ hk _ _ (List.getElem?_eq_getElem hjr)
      rw [hj2, hu] at hu2
      have := hcell (j % size) _ (List.getElem?_eq_getElem hjr)
      rw [Nat.add_assoc, hj2] at this
      have e1 : (⟨b, off, none⟩ : Addr).add j = ⟨b, off + j, none⟩ := by unfold Addr.add; by_cases hz : j = 0 <;> simp [hz]
      rw [e1, this, hu2]) (by
      intro u hu
      obtain ⟨y, hy, hu⟩ := List.mem_flatMap.1 hu
      exact h1 y hy u hu) h63 hbytes hbase
    exact ⟨v', w', e1, e2, e3⟩

/-- One append, from a slice that reads as ms. -/
theorem step_app_sl {α : Type} {P : Program} {ops : Array Oper} {o : Oper} {a : Act} {K : Act → World → Prop} {Q : Exit → Act → World → Prop} {E : Prop} {w : World} {t e : TypeId} {z : Value} {size bytes : Nat} (hT : SliceTy P t e z size bytes)
    (s x : Operand) (hgd : o.guard = none) (ho : o.op = .call { callee := .builtin .append, args := #[s, x], argTypes := #[t, t] })
    {base n : Nat} {v : Value} {xs : List Value} (hs : a.eval s = v) (hown : w.ownsRow base e size v n xs)
    {A : Option Addr} {m c B : Nat} {R : α → List Value → Prop} {cf : α → List Value} {ms : List α} (hx : a.eval x = .slice A m c) (hm : ms.length = m) (hr : SlR w B size R A ms) (hR : ∀ y ∈ ms, ∀ cs, R y cs → cs = cf y) (hc : ∀ y ∈ ms, (cf y).length = size) (h1 : ∀ y ∈ ms, ∀ u ∈ cf y, u.oneCell' = true)
    (h63 : n + m ≤ maxLen) (hbytes : (n + m) * bytes ≤ 140737488355328) (hbase : base ≤ w.heap.size)
    (h : ∀ v' w', w'.ownsRow base e size v' (n + m) (xs ++ ms.flatMap cf) → w.grownBy w' v.ownBlock → K (a.put o.dst v') w') : if Region.wanted o (yielded ops a.tmps) = true then Oper.wp P o a w K Q else E := by
  subst hm
  obtain ⟨v', w', e1, e2, e3⟩ := run_app_sl (ty := o.type) (c := c) hT hown hr hR hc h1 h63 hbytes hbase
  exact step_core hgd s x ho hs hx e1 (h v' w' e2 e3)

/-- One append, from a block. -/
theorem step_app {P : Program} {ops : Array Oper} {o : Oper} {a : Act} {K : Act → World → Prop} {Q : Exit → Act → World → Prop} {E : Prop} {w : World} {t e : TypeId} {z : Value} {size bytes : Nat} (hT : SliceTy P t e z size bytes)
    (s x : Operand) (hgd : o.guard = none) (ho : o.op = .call { callee := .builtin .append, args := #[s, x], argTypes := #[t, t] })
    {base n : Nat} {v : Value} {xs : List Value} (hs : a.eval s = v) (hown : w.ownsRow base e size v n xs)
    {g m c : Nat} {e' : TypeId} {news : Array Value} (hx : a.eval x = .slice (some ⟨g, 0, none⟩) m c) (hb : Blk w g e' news) (hl : news.size = m * size) (h1 : ∀ u ∈ news.toList, u.oneCell' = true)
    (h63 : n + m ≤ maxLen) (hbytes : (n + m) * bytes ≤ 140737488355328) (hbase : base ≤ w.heap.size)
    (h : ∀ v' w', w'.ownsRow base e size v' (n + m) (xs ++ news.toList) → w.grownBy w' v.ownBlock → K (a.put o.dst v') w') : if Region.wanted o (yielded ops a.tmps) = true then Oper.wp P o a w K Q else E := by
  obtain ⟨i, ht, hi, hz, hsz, hby, hzs, h0⟩ := hT
  obtain ⟨v', w', e1, e2, e3, _⟩ := run_append_own w base t o.type e i z size bytes ht hi hz hsz hby hzs h0 v n xs hown ⟨g, 0, none⟩ m c news.toList (by simpa using hl) (by
    intro j u hu
    have e1 : (⟨g, 0, none⟩ : Addr).add j = ⟨g, j, none⟩ := by unfold Addr.add; by_cases hj : j = 0 <;> simp [hj]
    rw [e1, hb.cell j]
    simpa using hu) h1 h63 hbytes hbase
  exact step_core hgd s x ho hs hx e1 (h v' w' e2 e3)
end Go.Proofs.YtfcgdfcekpbliaaGreatDoor
/-
  Bytes of a call's own: appended to, read, turned into a text.
-/
namespace Go.Proofs.YtfcgdfcekpbliaaGreatDoor
set_option linter.unusedSimpArgs false
set_option linter.unusedVariables false
set_option linter.unusedSectionVars false
open Go.ChangeShapes Go.WideShapes Go.ChangeAt Go.RowKit Go.Deep

theorem byteCells_snoc (l : List UInt8) (c : UInt8) : Lib.byteCells (l ++ [c]) = Lib.byteCells l ++ [.int .u8 (c.toNat : Int)] := by
  rw [Lib.byteCells, Lib.byteCells, List.map_append]; rfl
theorem byteCells_len (l : List UInt8) : (Lib.byteCells l).length = l.length := by simp [Lib.byteCells]
theorem st_bytes : SliceTy Tryz.prog 57 5 (.int .u8 0) 1 1 := .mk' Tryz.underlying57 (by kernel_rfl) rfl (by omega)
def OwnB (B : Nat) (w : World) (v : Value) (l : List UInt8) : Prop := w.ownsRow B 5 1 v l.length (Lib.byteCells l)
theorem OwnB.nil (B : Nat) (w : World) : OwnB B w (.slice none 0 0) [] := World.ownsRow_nil _ _ _ _
theorem OwnB.alloc {B : Nat} {w : World} {v : Value} {l : List UInt8} (h : OwnB B w v l) (o : Obj) : OwnB B (w.alloc o) v l := World.ownsRow.alloc h o
theorem OwnB.below {B C : Nat} {w w' : World} {v : Value} {l : List UInt8} (h : OwnB B w v l) (hb : Below C w w') (hC : w.heap.size ≤ C) : OwnB B w' v l := own_below h hb hC
theorem OwnB.more {B : Nat} {w : World} {v : Value} {l : List UInt8} (h : OwnB B w v l) (j : Junk) : OwnB B (w.more j) v l := h.below (C := w.heap.size) (Below.moreS (Below.refl _ _) j) (Nat.le_refl _)
theorem app_byte {ops : Array Oper} {rest : List Oper} {o : Oper} {a : Act} {Q : Exit → Act → World → Prop} {w : World}
    (s x : Operand) (hgd : o.guard = none) (ho : o.op = .call { callee := .builtin .append, args := #[s, x], argTypes := #[57, 57] })
    {B : Nat} {v : Value} {l : List UInt8} {c : UInt8} (hs : a.eval s = v) (hown : OwnB B w v l)
    {g cc : Nat} {e' : TypeId} (hx : a.eval x = .slice (some ⟨g, 0, none⟩) 1 cc) (hb : Blk w g e' #[.int .u8 (c.toNat : Int)])
    (hl : l.length + 1 ≤ 140737488355328) (hB : B ≤ w.heap.size)
    (h : ∀ v' w', OwnB B w' v' (l ++ [c]) → Below B w w' → wpList Tryz.prog ops Q rest (a.put o.dst v') w') : wpList Tryz.prog ops Q (o :: rest) a w := by
  refine wpList_app st_bytes s x hgd ho hs hown hx hb rfl (by intro u hu; simp at hu; subst hu; rfl) (by unfold maxLen; omega) (by omega) hB (fun v' w' h1 h2 => h v' w' ?_ (own_grown (Below.refl B w) hown h2 (Nat.le_refl _) hB))
  unfold OwnB
  rw [byteCells_snoc, List.length_append]
  exact h1
theorem OwnB.bytes {B : Nat} {w : World} {v : Value} {l : List UInt8} (h : OwnB B w v l) : (v = .slice none 0 0 ∧ l = []) ∨ ∃ g cap, v = .slice (some ⟨g, 0, none⟩) l.length cap ∧ B ≤ g ∧ g < w.heap.size ∧ Lib.Bytes w g 0 ⟨l.toArray⟩ := by
  rcases h.2 with ⟨rfl, hn⟩ | ⟨g, cap, cur, rfl, hg, hh, h3, h4, h5, h6⟩
  · exact .inl ⟨rfl, List.eq_nil_of_length_eq_zero hn⟩
  · refine .inr ⟨g, cap, rfl, hg, (World.ownsRow.lt h g rfl).2, fun i hi => ?_⟩
    have hi' : i < l.length := hi
    have := World.ownsRow.cells h (g := g) rfl i (.int .u8 (l[i].toNat : Int)) (by simp [Lib.byteCells, hi'])
    have e1 : (⟨g, 0, none⟩ : Addr).add i = ⟨g, 0 + i, none⟩ := by unfold Addr.add; by_cases hj : i = 0 <;> simp [hj]
    rw [e1] at this
    exact this
theorem OwnB.text {B : Nat} {w : World} {v : Value} {l : List UInt8} (h : OwnB B w v l) : (convert 57 9 v).run Tryz.prog w = .ok (bstr l) w := by
  rcases h.bytes with ⟨rfl, rfl⟩ | ⟨g, cap, rfl, _, _, hb⟩
  · exact Lib.run_convert_nil_bytes w _ _ _ 0 Tryz.underlying57 Tryz.underlying5 Tryz.underlying9
  · exact Lib.run_convert_whole w _ _ _ Tryz.underlying57 Tryz.underlying5 Tryz.underlying9 g 0 ⟨l.toArray⟩ hb cap
theorem OwnB.len {B : Nat} {w : World} {v : Value} {l : List UInt8} (h : OwnB B w v l) : ∃ a cap, v = .slice a l.length cap := by
  rcases h.bytes with ⟨rfl, rfl⟩ | ⟨g, cap, rfl, _⟩
  · exact ⟨none, 0, rfl⟩
  · exact ⟨_, cap, rfl⟩

/-! Bytes that are read. -/
def byteIs (x : UInt8) (cs : List Value) : Prop := cs = [.int .u8 (x.toNat : Int)]
abbrev SlB (w : World) (B : Nat) (a : Option Addr) (l : List UInt8) : Prop := SlR w B 1 byteIs a l
theorem SlR.atB {w : World} {B : Nat} {a : Option Addr} {l : List UInt8} (h : SlR w B 1 byteIs a l) {k : Nat} (hk : k < l.length) : ∃ b off, a = some ⟨b, off, none⟩ ∧ b < B ∧ w.cell? ⟨b, off + k, none⟩ = some (.int .u8 (l[k].toNat : Int)) := by
  obtain ⟨b, off, cs, ha, hb, rfl, hc⟩ := h k hk
  have := hc 0 _ rfl
  rw [Nat.mul_one, Nat.add_zero] at this
  exact ⟨b, off, ha, hb, this⟩
theorem OwnB.read {B : Nat} {w : World} {v : Value} {l : List UInt8} (h : OwnB B w v l) : ∃ a cap, v = .slice a l.length cap ∧ SlB w w.heap.size a l := by
  rcases h.bytes with ⟨rfl, rfl⟩ | ⟨g, cap, rfl, _, hlt, hb⟩
  · exact ⟨none, 0, rfl, .nil⟩
  · refine ⟨_, cap, rfl, fun k hk => ⟨g, 0, _, rfl, hlt, rfl, fun j u hu => ?_⟩⟩
    match j, hu with
    | 0, hu =>
      simp at hu
      subst hu
      rw [Nat.mul_one, Nat.add_zero]
      exact hb k hk

theorem OwnB.drew {B : Nat} {w : World} {v : Value} {l : List UInt8} (h : OwnB B w v l) : OwnB B w.drew v l := h
/-- An appended byte as a step of a region that draws its order. -/
theorem step_byte {ops : Array Oper} {o : Oper} {a : Act} {K : Act → World → Prop} {Q : Exit → Act → World → Prop} {E : Prop} {w : World}
    (s x : Operand) (hgd : o.guard = none) (ho : o.op = .call { callee := .builtin .append, args := #[s, x], argTypes := #[57, 57] })
    {B : Nat} {v : Value} {l : List UInt8} {c : UInt8} (hs : a.eval s = v) (hown : OwnB B w v l)
    {g cc : Nat} {e' : TypeId} (hx : a.eval x = .slice (some ⟨g, 0, none⟩) 1 cc) (hb : Blk w g e' #[.int .u8 (c.toNat : Int)])
    (hl : l.length + 1 ≤ 140737488355328) (hB : B ≤ w.heap.size)
    (h : ∀ v' w', OwnB B w' v' (l ++ [c]) → Below B w w' → K (a.put o.dst v') w') : if Region.wanted o (yielded ops a.tmps) = true then Oper.wp Tryz.prog o a w K Q else E := by
  refine step_app st_bytes s x hgd ho hs hown hx hb rfl (by intro u hu; simp at hu; subst hu; rfl) (by unfold maxLen; omega) (by omega) hB (fun v' w' h1 h2 => h v' w' ?_ (own_grown (Below.refl B w) hown h2 (Nat.le_refl _) hB))
  unfold OwnB
  rw [byteCells_snoc, List.length_append]
  exact h1
end Go.Proofs.YtfcgdfcekpbliaaGreatDoor
/-
  A region that draws its order, whose operations read, or call what only makes memory: walked once, over grown worlds.
-/
namespace Go.Proofs.YtfcgdfcekpbliaaGreatDoor
set_option linter.unusedSimpArgs false
set_option linter.unusedVariables false
set_option linter.unusedSectionVars false
open Go.ChangeShapes Go.WideShapes Go.ChangeAt Go.RowKit Go.Deep

instance : Inhabited Junk := ⟨⟨#[], 0⟩⟩
theorem more_self (w : World) : w = w.more ⟨#[], w.drawn⟩ := by simp [World.more]
theorem wp_region_more {P : Program} {id : Nat} {Q : Exit → Act → World → Prop} {a : Act} {w : World} {l : List Oper} (hm : P.follows .mixedOrders = true) (hB : Region.lexB .any l.toArray = true)
    (h : wpQuiet P l.toArray (fun w' => ∃ j : Junk, w' = w.more j) (fun a' => ∀ w', (∃ j : Junk, w' = w.more j) → Q .normal a' w') l a) : (Code.region id l.toArray true).wp P Q a w :=
  wp_region_quiet (C := fun w' => ∃ j : Junk, w' = w.more j) hm hB ⟨⟨#[], w.drawn + 1⟩, by simp [World.more]⟩ (by simpa using h)
theorem more_of {P : Program} {f : FuncId} {args : Array Value} {w : World} {j : Junk} {v : Value}
    (h : Calls P f args (w.more j) fun e w' => e = .returned v ∧ ∃ k, w' = (w.more j).more k) : Calls P f args (w.more j) fun e w'' => e = .returned v ∧ ∃ k, w'' = w.more k :=
  h.mono fun _ _ ⟨he, k, hk⟩ => ⟨he, ⟨j.heap ++ k.heap, k.drawn⟩, by rw [hk, World.more_more]⟩
theorem more_of_same {P : Program} {f : FuncId} {args : Array Value} {w : World} {j : Junk} {v : Value}
    (h : Calls P f args (w.more j) fun e w' => e = .returned v ∧ w.more j = w') : Calls P f args (w.more j) fun e w'' => e = .returned v ∧ ∃ k, w'' = w.more k :=
  h.mono fun _ _ ⟨he, hk⟩ => ⟨he, j, hk.symm⟩
end Go.Proofs.YtfcgdfcekpbliaaGreatDoor
/-
  Words: plain laws.
-/
namespace Go.Proofs.YtfcgdfcekpbliaaGreatDoor
set_option linter.unusedSimpArgs false
set_option linter.unusedVariables false
set_option linter.unusedSectionVars false
open Go.ChangeShapes Go.WideShapes Go.ChangeAt Go.RowKit Go.Deep

theorem all_bytes {P : UInt8 → Prop} (h : ∀ n : Fin 256, P (UInt8.ofNat n.val)) (c : UInt8) : P c := by
  have := h ⟨c.toNat, c.toNat_lt⟩
  simpa using this
abbrev hexD : List UInt8 := [48, 49, 50, 51, 52, 53, 54, 55, 56, 57, 97, 98, 99, 100, 101, 102]
def plB (c : UInt8) : Bool := decide (32 < c.toNat) && decide (c.toNat < 127) && !(c == 37)
def pairB (c : UInt8) : List UInt8 := [hexD.getD (c.toNat / 16) 0, hexD.getD (c.toNat % 16) 0]
def quB (c : UInt8) : List UInt8 := if plB c = true then [c] else 37 :: pairB c
def quoteF (l : List UInt8) : List UInt8 := if l = [] then [37] else l.flatMap quB
def hexI (c : UInt8) : Int := Lib.indexByte hexD c
def byteOf (h l : UInt8) : UInt8 := UInt8.ofNat (16 * (hexI h).toNat + (hexI l).toNat)
theorem hexI_bd (c : UInt8) : -1 ≤ hexI c ∧ hexI c ≤ 15 := all_bytes (P := fun c => -1 ≤ hexI c ∧ hexI c ≤ 15) (by decide +kernel) c
theorem hexI_back (c : UInt8) : 0 ≤ hexI c → hexD.getD (hexI c).toNat 0 = c := all_bytes (P := fun c => 0 ≤ hexI c → hexD.getD (hexI c).toNat 0 = c) (by decide +kernel) c
theorem hexI_of (n : Nat) (h : n < 16) : hexI (hexD.getD n 0) = n := by
  have : ∀ m : Fin 16, hexI (hexD.getD m.val 0) = m.val := by decide +kernel
  exact this ⟨n, h⟩
theorem byteOf_nat {h l : UInt8} (hh : 0 ≤ hexI h) (hl : 0 ≤ hexI l) : (byteOf h l).toNat = 16 * (hexI h).toNat + (hexI l).toNat := by
  have := hexI_bd h
  have := hexI_bd l
  unfold byteOf
  rw [UInt8.toNat_ofNat', Nat.mod_eq_of_lt (by omega)]
theorem pairB_byteOf {h l : UInt8} (hh : 0 ≤ hexI h) (hl : 0 ≤ hexI l) : pairB (byteOf h l) = [h, l] := by
  have b1 := hexI_bd h
  have b2 := hexI_bd l
  unfold pairB
  rw [byteOf_nat hh hl, show (16 * (hexI h).toNat + (hexI l).toNat) / 16 = (hexI h).toNat by omega, show (16 * (hexI h).toNat + (hexI l).toNat) % 16 = (hexI l).toNat by omega, hexI_back h hh, hexI_back l hl]
theorem byteOf_pair (c : UInt8) : byteOf (hexD.getD (c.toNat / 16) 0) (hexD.getD (c.toNat % 16) 0) = c := by
  have := c.toNat_lt
  unfold byteOf
  rw [hexI_of _ (by omega), hexI_of _ (by omega)]
  simp only [Int.toNat_natCast]
  rw [Nat.div_add_mod]
  simp
theorem pl_37 {c : UInt8} (h : plB c = true) : c ≠ 37 := by
  intro he; subst he; simp [plB] at h

/-! There and back. -/
def unqP : List UInt8 → Option (List UInt8)
  | [] => some []
  | [c] => if plB c = true then some [c] else none
  | [c, d] => if plB c = true then (if plB d = true then some [c, d] else none) else none
  | c :: h :: l :: r => if plB c = true then (unqP (h :: l :: r)).map (c :: ·) else if (c == 37) = true ∧ 0 ≤ hexI h ∧ 0 ≤ hexI l ∧ plB (byteOf h l) = false then (unqP r).map (byteOf h l :: ·) else none
def unqR : List UInt8 → Option (List UInt8)
  | [] => some []
  | [c] => if (c == 37) = false then some [c] else none
  | [c, d] => if (c == 37) = false then (if (d == 37) = false then some [c, d] else none) else none
  | c :: h :: l :: r => if (c == 37) = false then (unqR (h :: l :: r)).map (c :: ·) else if 0 ≤ hexI h ∧ 0 ≤ hexI l then (unqR r).map (byteOf h l :: ·) else none
theorem unqP_plain {c : UInt8} {r : List UInt8} (h : plB c = true) : unqP (c :: r) = (unqP r).map (c :: ·) := by
  match r with
  | [] => simp [unqP, h]
  | [d] => by_cases hd : plB d = true <;> simp [unqP, h, hd]
  | a :: b :: r => simp [unqP, h]
theorem unqR_plain {c : UInt8} {r : List UInt8} (h : (c == 37) = false) : unqR (c :: r) = (unqR r).map (c :: ·) := by
  match r with
  | [] => simp only [unqR, h, if_true]; rfl
  | [d] => cases hd : (d == 37) <;> simp only [unqR, h, hd, if_true] <;> rfl
  | a :: b :: r => simp only [unqR, h, if_true]
theorem unqP_R : ∀ (n : Nat) (w o : List UInt8), w.length ≤ n → unqP w = some o → unqR w = some o ∧ o.flatMap quB = w
  | _, [], o, _, h => by simp [unqP] at h; subst h; exact ⟨rfl, rfl⟩
  | 0, c :: r, _, hn, _ => by simp at hn
  | n + 1, c :: r, o, hn, h => by
    by_cases hc : plB c = true
    · rw [unqP_plain hc] at h
      obtain ⟨o', h1, rfl⟩ := Option.map_eq_some_iff.1 h
      have ih := unqP_R n r o' (by simpa using hn) h1
      have h37 : (c == 37) = false := by simpa using pl_37 hc
      rw [unqR_plain h37, ih.1]
      refine ⟨rfl, ?_⟩
      rw [List.flatMap_cons, ih.2]
      simp [quB, hc]
    · match r, h with
      | [], h => simp [unqP, hc] at h
      | [d], h => simp [unqP, hc] at h
      | a :: b :: r', h =>
        simp only [unqP, if_neg hc] at h
        by_cases hg : (c == 37) = true ∧ 0 ≤ hexI a ∧ 0 ≤ hexI b ∧ plB (byteOf a b) = false
        · rw [if_pos hg] at h
          obtain ⟨o', h1, rfl⟩ := Option.map_eq_some_iff.1 h
          have ih := unqP_R n r' o' (by simp at hn; omega) h1
          obtain ⟨g1, g2, g3, g4⟩ := hg
          simp only [unqR, g1]
          rw [if_neg (by simp), if_pos ⟨g2, g3⟩, ih.1]
          refine ⟨rfl, ?_⟩
          rw [List.flatMap_cons, ih.2]
          have hc37 : c = 37 := by simpa using g1
          simp only [quB, g4, Bool.false_eq_true, if_false, pairB_byteOf g2 g3, hc37]
          rfl
        · rw [if_neg hg] at h; cases h
theorem unqR_P : ∀ (n : Nat) (w o : List UInt8), w.length ≤ n → unqR w = some o → o.flatMap quB = w → unqP w = some o
  | _, [], o, _, h, _ => by simp [unqR] at h; subst h; rfl
  | 0, c :: r, _, hn, _, _ => by simp at hn
  | n + 1, c :: r, o, hn, h, hq => by
    cases h37 : (c == 37) with
    | false =>
      rw [unqR_plain h37] at h
      obtain ⟨o', h1, rfl⟩ := Option.map_eq_some_iff.1 h
      rw [List.flatMap_cons] at hq
      by_cases hc : plB c = true
      · have e : quB c = [c] := by simp [quB, hc]
        rw [e] at hq
        have := unqR_P n r o' (by simpa using hn) h1 (by simpa using hq)
        rw [unqP_plain hc, this]
        rfl
      · exfalso
        have e : quB c = 37 :: pairB c := by simp [quB, hc]
        rw [e] at hq
        simp only [List.cons_append, List.cons.injEq] at hq
        have := hq.1
        subst this
        simp at h37
    | true =>
      have hc37 : c = 37 := by simpa using h37
      match r, h with
      | [], h => simp [unqR, h37] at h
      | [d], h => simp [unqR, h37] at h
      | a :: b :: r', h =>
        simp only [unqR, h37] at h
        rw [if_neg (by simp)] at h
        by_cases hg : 0 ≤ hexI a ∧ 0 ≤ hexI b
        · rw [if_pos hg] at h
          obtain ⟨o', h1, rfl⟩ := Option.map_eq_some_iff.1 h
          rw [List.flatMap_cons] at hq
          by_cases hp : plB (byteOf a b) = true
          · exfalso
            have e : quB (byteOf a b) = [byteOf a b] := by simp [quB, hp]
            rw [e] at hq
            simp only [List.cons_append, List.cons.injEq] at hq
            exact pl_37 hp (hq.1.trans hc37)
          · have hp' : plB (byteOf a b) = false := by simpa using hp
            have e : quB (byteOf a b) = [37, a, b] := by simp only [quB, hp', Bool.false_eq_true, if_false, pairB_byteOf hg.1 hg.2]
            rw [e] at hq
            simp only [List.cons_append, List.nil_append, List.cons.injEq, true_and] at hq
            have ih := unqR_P n r' o' (by simp at hn; omega) h1 hq.2
            have hnc : ¬ plB c = true := by rw [hc37]; decide
            simp only [unqP, if_neg hnc]
            rw [if_pos ⟨h37, hg.1, hg.2, hp'⟩, ih]
            rfl
        · rw [if_neg hg] at h; cases h
def unquoteF (w : List UInt8) : List UInt8 × Bool :=
  if w = [37] then ([], true) else match unqP w with
    | some o => (o, !o.isEmpty)
    | none => ([], false)
def unquoteR (w : List UInt8) : List UInt8 × Bool :=
  if w = [37] then ([], true) else match unqR w with
    | some o => if quoteF o = w then (o, true) else ([], false)
    | none => ([], false)
theorem unquote_eq (w : List UInt8) : unquoteF w = unquoteR w := by
  unfold unquoteF unquoteR
  by_cases h0 : w = [37]
  · rw [if_pos h0, if_pos h0]
  · rw [if_neg h0, if_neg h0]
    cases hp : unqP w with
    | some o =>
      have := unqP_R _ w o (Nat.le_refl _) hp
      rw [this.1]
      simp only
      by_cases ho : o = []
      · subst ho
        have hw : w = [] := by simpa using this.2.symm
        rw [if_neg (by rw [hw]; simp [quoteF])]
        rfl
      · have e : quoteF o = w := by rw [quoteF, if_neg ho]; exact this.2
        rw [if_pos e]
        cases o with
        | nil => exact absurd rfl ho
        | cons => rfl
    | none =>
      cases hr : unqR w with
      | none => rfl
      | some o =>
        simp only
        by_cases hq : quoteF o = w
        · exfalso
          by_cases ho : o = []
          · subst ho; exact h0 (by simpa [quoteF] using hq.symm)
          · have := unqR_P _ w o (Nat.le_refl _) hr (by simpa [quoteF, ho] using hq)
            rw [hp] at this
            cases this
        · rw [if_neg hq]
theorem unqP_append : ∀ (c : UInt8) (r : List UInt8), unqP (quB c ++ r) = (unqP r).map (c :: ·) := by
  intro c r
  by_cases hc : plB c = true
  · have e : quB c = [c] := by simp [quB, hc]
    rw [e, List.cons_append, List.nil_append, unqP_plain hc]
  · have hc' : plB c = false := by simpa using hc
    have hlt := c.toNat_lt
    have e : quB c = [37, hexD.getD (c.toNat / 16) 0, hexD.getD (c.toNat % 16) 0] := by simp only [quB, hc', Bool.false_eq_true, if_false, pairB]
    have h1 := hexI_of (c.toNat / 16) (by omega)
    have h2 := hexI_of (c.toNat % 16) (by omega)
    rw [e]
    simp only [List.cons_append, List.nil_append]
    rw [unqP, if_neg (by decide), if_pos ⟨rfl, by rw [h1]; omega, by rw [h2]; omega, by rw [byteOf_pair]; exact hc'⟩, byteOf_pair]
theorem unqP_quote : ∀ (l : List UInt8), unqP (l.flatMap quB) = some l
  | [] => rfl
  | c :: r => by rw [List.flatMap_cons, unqP_append, unqP_quote r]; rfl
theorem unquote_quote (l : List UInt8) : unquoteF (quoteF l) = (l, true) := by
  unfold unquoteF quoteF
  by_cases h : l = []
  · subst h; rfl
  · rw [if_neg h]
    rw [if_neg (by
      intro he
      have := unqP_quote l
      rw [he] at this
      simp [unqP, plB] at this), unqP_quote l]
    cases l with
    | nil => exact absurd rfl h
    | cons => rfl
end Go.Proofs.YtfcgdfcekpbliaaGreatDoor
/-
  Slices of texts.
-/
namespace Go.Proofs.YtfcgdfcekpbliaaGreatDoor
set_option linter.unusedSimpArgs false
set_option linter.unusedVariables false
set_option linter.unusedSectionVars false
open Go.ChangeShapes Go.WideShapes Go.ChangeAt Go.RowKit Go.Deep Go.Shelf

/-! Slices of texts. -/
def txtIs (s : List UInt8) (cs : List Value) : Prop := cs = [bstr s] ∧ s.length ≤ maxLen
abbrev SlX (w : World) (B : Nat) (a : Option Addr) (l : List (List UInt8)) : Prop := SlR w B 1 txtIs a l
theorem SlR.atX {w : World} {B : Nat} {a : Option Addr} {l : List (List UInt8)} (h : SlR w B 1 txtIs a l) {k : Nat} (hk : k < l.length) : ∃ b off, a = some ⟨b, off, none⟩ ∧ b < B ∧ w.cell? ⟨b, off + k, none⟩ = some (bstr l[k]) ∧ l[k].length ≤ 9223372036854775807 := by
  obtain ⟨b, off, cs, ha, hb, ⟨rfl, h1⟩, hc⟩ := h k hk
  have := hc 0 _ rfl
  rw [Nat.mul_one, Nat.add_zero] at this
  unfold maxLen at h1
  exact ⟨b, off, ha, hb, this, h1⟩
theorem slX_new {w : World} {g : Nat} {t : TypeId} {cs : Array Value} {l : List (List UInt8)} (h : Blk w g t cs) (hl : cs.toList = l.map bstr) (hR : ∀ x ∈ l, x.length ≤ maxLen) : SlX w (g + 1) (some ⟨g, 0, none⟩) l :=
  SlR.of_blk (c := fun s => [bstr s]) h (by rw [hl]; clear h hl hR; induction l <;> simp_all) (fun _ _ => rfl) (fun x hx => ⟨rfl, hR x hx⟩)
def okW (w : List UInt8) : Bool := !w.isEmpty && !decide (0 ≤ Lib.indexByte w 32) && !decide (0 ≤ Lib.indexByte w 10)
theorem slX_pre {w : World} {g : Nat} {t : TypeId} {cs : Array Value} {l r : List (List UInt8)} (h : Blk w g t cs) (hl : cs.toList = (l ++ r).map bstr) (hR : ∀ x ∈ l ++ r, x.length ≤ maxLen) : SlX w w.heap.size (some ⟨g, 0, none⟩) l := by
  have h1 := (slX_new h hl hR).take l.length
  rw [List.take_left] at h1
  exact h1.mono h.lt (fun _ _ _ h => h)
end Go.Proofs.YtfcgdfcekpbliaaGreatDoor
/-
  What strings.Split hands back.
-/
namespace Go.Proofs.YtfcgdfcekpbliaaGreatDoor
set_option linter.unusedSimpArgs false
set_option linter.unusedVariables false
set_option linter.unusedSectionVars false
open Go.ChangeShapes Go.WideShapes Go.ChangeAt Go.RowKit Go.Deep Go.Shelf

theorem splitK_len (sep : List UInt8) : ∀ (k : Nat) (s : List UInt8), ∀ x ∈ Lib.splitK sep 0 k s, x.length ≤ s.length
  | 0, s, x, h => by simp [Lib.splitK] at h; subst h; exact Nat.le_refl _
  | k + 1, s, x, h => by
    unfold Lib.splitK at h
    split at h
    · simp at h; subst h; exact Nat.le_refl _
    · rcases List.mem_cons.1 h with rfl | h
      · simp; omega
      · have := splitK_len sep k _ x h
        simp at this; omega
theorem split_map (l : List UInt8) (c : UInt8) : (Lib.splitB ⟨#[c]⟩ 0 (Lib.countB ⟨l.toArray⟩ ⟨#[c]⟩) ⟨l.toArray⟩).map Value.string = (Lib.split l [c]).map bstr := by
  have h := Lib.splitB_data ⟨#[c]⟩ 0 (Lib.countB ⟨l.toArray⟩ ⟨#[c]⟩) ⟨l.toArray⟩
  have e : (Lib.split l [c]) = (Lib.splitB ⟨#[c]⟩ 0 (Lib.countB ⟨l.toArray⟩ ⟨#[c]⟩) ⟨l.toArray⟩).map (·.data.toList) := by rw [h]; rfl
  rw [e, List.map_map]
  rfl
theorem split_len (l : List UInt8) (c : UInt8) : (Lib.split l [c]).length = Lib.countB ⟨l.toArray⟩ ⟨#[c]⟩ + 1 := by
  have h := Lib.splitB_all ⟨#[c]⟩ (Nat.le_refl 1) 0 _ ⟨l.toArray⟩ rfl
  have := congrArg List.length (split_map l c)
  simp only [List.length_map] at this
  rw [← this, h]
theorem split_le (l : List UInt8) (c : UInt8) : (Lib.split l [c]).length ≤ l.length + 1 := by
  rw [split_len]
  have := Lib.countB_le ⟨#[c]⟩ (Nat.le_refl 1) _ ⟨l.toArray⟩ (Nat.le_refl _)
  have e : (ByteArray.mk l.toArray).size = l.length := rfl
  omega
theorem strings_split (l : List UInt8) (c : UInt8) (m : Int) (w : World) (hm : l.length ≤ 1048576) (hM : w.cell? ⟨1, 0, none⟩ = some (.int .i64 m)) :
    Calls Tryz.prog 47 #[bstr l, bstr [c]] w fun e w' => e = .returned (.slice (some ⟨w.heap.size, 0, none⟩) (Lib.split l [c]).length (Lib.split l [c]).length) ∧ w' = w.alloc (.cells ((Lib.split l [c]).map bstr).toArray 9) :=
  (Tryz.strings_Split ⟨l.toArray⟩ ⟨#[c]⟩ m w (by show l.length < _; omega) hM (Nat.le_refl 1)).mono fun e w' ⟨he, hw⟩ => ⟨by rw [he, split_len], by rw [hw, ← split_map]⟩
theorem split_slX (l : List UInt8) (c : UInt8) (w : World) (hm : l.length ≤ 1048576) : SlX (w.alloc (.cells ((Lib.split l [c]).map bstr).toArray 9)) (w.heap.size + 1) (some ⟨w.heap.size, 0, none⟩) (Lib.split l [c]) :=
  slX_new (Blk.at_ _ _ _ rfl) (by simp) (fun x hx => by have := splitK_len [c] _ l x hx; unfold maxLen; omega)
abbrev MaxA : Addr := ⟨1, 0, none⟩
theorem max_more {w : World} {m : Int} (hM : w.cell? MaxA = some (.int .i64 m)) (j : Junk) : (w.more j).cell? MaxA = some (.int .i64 m) :=
  (World.cell?_more _ _ _ (World.block_lt_of_cell? w MaxA hM)).trans hM
end Go.Proofs.YtfcgdfcekpbliaaGreatDoor
/-
  Numbers as digits: plain laws.
-/
namespace Go.Proofs.YtfcgdfcekpbliaaGreatDoor
set_option linter.unusedSimpArgs false
set_option linter.unusedVariables false
set_option linter.unusedSectionVars false
open Go.ChangeShapes Go.WideShapes Go.ChangeAt Go.RowKit Go.Deep

theorem dec_lo {n : Nat} (h : n < 10) : Lib.decDigits n = [UInt8.ofNat (48 + n)] := by rw [Lib.decDigits, dif_pos h]
theorem dec_hi {n : Nat} (h : ¬ n < 10) : Lib.decDigits n = Lib.decDigits (n / 10) ++ [UInt8.ofNat (48 + n % 10)] := by rw [Lib.decDigits, dif_neg h]
theorem dec_byte {d : Nat} (h : d < 10) : (UInt8.ofNat (48 + d)).toNat = 48 + d := by
  rw [UInt8.toNat_ofNat', Nat.mod_eq_of_lt (by omega)]
theorem dec_ne (n : Nat) : Lib.decDigits n ≠ [] := by
  by_cases h : n < 10
  · rw [dec_lo h]; simp
  · rw [dec_hi h]; simp
theorem dec_bytes : ∀ (k n : Nat), n ≤ k → ∀ c ∈ Lib.decDigits n, 48 ≤ c.toNat ∧ c.toNat ≤ 57
  | k, n, h, c, hc => by
    by_cases h10 : n < 10
    · rw [dec_lo h10] at hc
      simp only [List.mem_singleton] at hc
      subst hc
      rw [dec_byte h10]; omega
    · rw [dec_hi h10] at hc
      rcases List.mem_append.1 hc with hc | hc
      · cases k with
        | zero => omega
        | succ k => exact dec_bytes k (n / 10) (by omega) c hc
      · simp only [List.mem_singleton] at hc
        subst hc
        rw [dec_byte (by omega)]; omega
theorem dec_len : ∀ (k n : Nat), n < 10 ^ (k + 1) → (Lib.decDigits n).length ≤ k + 1
  | 0, n, h => by rw [dec_lo (by omega)]; simp
  | k + 1, n, h => by
    by_cases h10 : n < 10
    · rw [dec_lo h10]; simp
    · rw [dec_hi h10]
      have := dec_len k (n / 10) (by rw [Nat.pow_succ] at h; omega)
      simp; omega
theorem itoa_pos (n : Nat) : Lib.itoa (n : Int) = Lib.decDigits n := by unfold Lib.itoa; rw [if_neg (by omega)]; simp
theorem itoa_minus (n : Nat) (h : 1 ≤ n) : Lib.itoa (-(n : Int)) = 45 :: Lib.decDigits n := by unfold Lib.itoa; rw [if_pos (by omega)]; simp
theorem itoa_len {n : Int} (h0 : -9223372036854775808 ≤ n) (h1 : n ≤ 9223372036854775807) : (Lib.itoa n).length ≤ 20 := by
  rcases Int.lt_or_le n 0 with h | h
  · obtain ⟨m, rfl⟩ : ∃ m : Nat, n = -(m : Int) := ⟨n.natAbs, by omega⟩
    rw [itoa_minus m (by omega)]
    have := dec_len 18 m (by omega)
    simp; omega
  · obtain ⟨m, rfl⟩ : ∃ m : Nat, n = (m : Int) := ⟨n.toNat, by omega⟩
    rw [itoa_pos m]
    have := dec_len 18 m (by omega)
    omega

theorem parse_append : ∀ (x y : List UInt8) (a u : Nat), Lib.parseUint10 a x = .ok u → Lib.parseUint10 a (x ++ y) = Lib.parseUint10 u y
  | [], y, a, u, h => by simp only [Lib.parseUint10] at h; injection h with h; subst h; rfl
  | c :: r, y, a, u, h => by
    rw [List.cons_append]
    rw [Lib.parseUint10] at h ⊢
    by_cases h1 : 48 ≤ c.toNat ∧ c.toNat ≤ 57
    · rw [if_pos h1] at h
      rw [if_pos h1]
      by_cases h2 : 1844674407370955162 ≤ a
      · rw [if_pos h2] at h; cases h
      · rw [if_neg h2] at h
        rw [if_neg h2]
        by_cases h3 : 18446744073709551616 ≤ a * 10 + (c.toNat - 48)
        · rw [if_pos h3] at h; cases h
        · rw [if_neg h3] at h
          rw [if_neg h3]
          exact parse_append r y _ u h
    · rw [if_neg h1] at h; cases h
theorem parse_one {a d : Nat} (hd : d < 10) (ha : a * 10 + d < 18446744073709551616) : Lib.parseUint10 a [UInt8.ofNat (48 + d)] = .ok (a * 10 + d) := by
  unfold Lib.parseUint10
  rw [dec_byte hd, if_pos (by omega), if_neg (by omega), if_neg (by omega)]
  simp [Lib.parseUint10]
theorem parse_dec : ∀ (k n : Nat), n ≤ k → n < 18446744073709551616 → Lib.parseUint10 0 (Lib.decDigits n) = .ok n
  | k, n, h, hn => by
    by_cases h10 : n < 10
    · rw [dec_lo h10, parse_one h10 (by omega)]; simp
    · rw [dec_hi h10]
      cases k with
      | zero => omega
      | succ k =>
        rw [parse_append _ _ _ _ (parse_dec k (n / 10) (by omega) (by omega)), parse_one (by omega) (by omega)]
        congr 1; omega
theorem dec_head (n : Nat) : ∃ c r, Lib.decDigits n = c :: r ∧ 48 ≤ c.toNat ∧ c.toNat ≤ 57 := by
  have := dec_bytes n n (Nat.le_refl _)
  cases h : Lib.decDigits n with
  | nil => exact absurd h (dec_ne n)
  | cons c r => exact ⟨c, r, rfl, this c (by rw [h]; simp)⟩
theorem atoi_itoa {n : Int} (h0 : -9223372036854775808 ≤ n) (h1 : n ≤ 9223372036854775807) : Lib.atoiAll (Lib.itoa n) = .ok n := by
  rcases Int.lt_or_le n 0 with h | h
  · obtain ⟨m, rfl⟩ : ∃ m : Nat, n = -(m : Int) := ⟨n.natAbs, by omega⟩
    rw [itoa_minus m (by omega), Lib.atoiAll_minus]
    unfold Lib.parseMag
    rw [if_neg (dec_ne m), parse_dec m m (Nat.le_refl _) (by omega)]
    simp only [Lib.signed]
    rw [if_neg (by omega)]
  · obtain ⟨m, rfl⟩ : ∃ m : Nat, n = (m : Int) := ⟨n.toNat, by omega⟩
    rw [itoa_pos m]
    have hp := parse_dec m m (Nat.le_refl _) (by omega)
    obtain ⟨c, r, he, hc0, hc1⟩ := dec_head m
    rw [he] at hp ⊢
    rw [Lib.atoiAll_plain c r (by omega) (by omega)]
    unfold Lib.parseMag
    rw [if_neg (by simp), hp]
    simp only [Lib.signless]
    rw [if_neg (by omega)]
def readF (s : List UInt8) : Int × Bool :=
  match Lib.atoiAll s with
  | .ok v => if Lib.itoa v = s then (v, true) else (0, false)
  | _ => (0, false)
theorem readF_itoa {n : Int} (h0 : -9223372036854775808 ≤ n) (h1 : n ≤ 9223372036854775807) : readF (Lib.itoa n) = (n, true) := by
  unfold readF; rw [atoi_itoa h0 h1]; simp
theorem readF_ok {s : List UInt8} {v : Int} (h : Lib.atoiAll s = .ok v) : readF s = if Lib.itoa v = s then (v, true) else (0, false) := by
  unfold readF; rw [h]
theorem readF_bad {s : List UInt8} (h : ∀ v, Lib.atoiAll s ≠ .ok v) : readF s = (0, false) := by
  unfold readF
  split
  · rename_i v hv; exact absurd hv (h v)
  · rfl
theorem readF_yes {s : List UInt8} (h : (readF s).2 = true) : Lib.itoa (readF s).1 = s ∧ -9223372036854775808 ≤ (readF s).1 ∧ (readF s).1 ≤ 9223372036854775807 := by
  by_cases hok : ∃ v, Lib.atoiAll s = .ok v
  · obtain ⟨v, ha⟩ := hok
    rw [readF_ok ha] at h ⊢
    by_cases hs : Lib.itoa v = s
    · rw [if_pos hs]; exact ⟨hs, Lib.atoiAll_bounds ha⟩
    · rw [if_neg hs] at h; cases h
  · rw [readF_bad fun v hv => hok ⟨v, hv⟩] at h; cases h
theorem readF_no {s : List UInt8} (h : (readF s).2 = false) : readF s = (0, false) := by
  by_cases hok : ∃ v, Lib.atoiAll s = .ok v
  · obtain ⟨v, ha⟩ := hok
    rw [readF_ok ha] at h ⊢
    by_cases hs : Lib.itoa v = s
    · rw [if_pos hs] at h; cases h
    · rw [if_neg hs]
  · exact readF_bad fun v hv => hok ⟨v, hv⟩

/-! The document's reading. -/
def vlGo : List UInt8 → Int → Option Int
  | [], n => some n
  | c :: r, n => if (c.toNat : Int) < 48 ∨ 57 < (c.toNat : Int) then none else if n < -922337203685477580 ∨ (n = -922337203685477580 ∧ 8 < (c.toNat : Int) - 48) then none else vlGo r (10 * n - ((c.toNat : Int) - 48))
def vlF (s : List UInt8) : Int × Bool := match vlGo s 0 with
  | some n => (n, !s.isEmpty)
  | none => (0, false)
theorem vlGo_lo : ∀ (s : List UInt8) (n m : Int), -9223372036854775808 ≤ n → n ≤ 0 → vlGo s n = some m → -9223372036854775808 ≤ m ∧ m ≤ 0
  | [], n, m, h0, h1, h => by simp only [vlGo] at h; injection h with h; subst h; exact ⟨h0, h1⟩
  | c :: r, n, m, h0, h1, h => by
    unfold vlGo at h
    split at h
    · cases h
    · split at h
      · cases h
      · exact vlGo_lo r _ m (by omega) (by omega) h
theorem vlGo_append : ∀ (x y : List UInt8) (a u : Int), vlGo x a = some u → vlGo (x ++ y) a = vlGo y u
  | [], y, a, u, h => by simp only [vlGo] at h; injection h with h; subst h; rfl
  | c :: r, y, a, u, h => by
    rw [List.cons_append]
    rw [vlGo] at h ⊢
    split at h
    · cases h
    · rename_i h1
      rw [if_neg h1]
      split at h
      · cases h
      · rename_i h2
        rw [if_neg h2]
        exact vlGo_append r y _ u h
theorem vl_one {a : Int} {d : Nat} (hd : d < 10) (ha : ¬ (a < -922337203685477580 ∨ (a = -922337203685477580 ∧ 8 < d))) : vlGo [UInt8.ofNat (48 + d)] a = some (10 * a - d) := by
  rw [vlGo, dec_byte hd, if_neg (by omega), if_neg (by omega)]
  simp only [vlGo]
  congr 1; omega
theorem vl_dec : ∀ (k n : Nat), n ≤ k → n ≤ 9223372036854775808 → vlGo (Lib.decDigits n) 0 = some (-(n : Int))
  | k, n, h, hn => by
    by_cases h10 : n < 10
    · rw [dec_lo h10, vl_one h10 (by omega)]; congr 1; omega
    · rw [dec_hi h10]
      cases k with
      | zero => omega
      | succ k =>
        rw [vlGo_append _ _ _ _ (vl_dec k (n / 10) (by omega) (by omega)), vl_one (by omega) (by omega)]
        congr 1; omega
def readB (s : List UInt8) : Int × Bool :=
  match s with
  | [] => (0, false)
  | c :: r => if (c == 45) = true then vlF r else (-(vlF s).1, (vlF s).2)
def readR (s : List UInt8) : Int × Bool :=
  if 20 < (s.length : Int) ∨ s = [] then (0, false)
  else if (s.head?.map (· == 45)) = some true then (if (vlF s.tail).2 = true ∧ Lib.itoa (vlF s.tail).1 = s then ((vlF s.tail).1, true) else (0, false))
  else if (vlF s).1 = -9223372036854775808 then (0, false)
  else if (vlF s).2 = true ∧ Lib.itoa (-(vlF s).1) = s then (-(vlF s).1, true) else (0, false)
theorem vlF_bd (s : List UInt8) : -9223372036854775808 ≤ (vlF s).1 ∧ (vlF s).1 ≤ 0 := by
  unfold vlF
  cases h : vlGo s 0 with
  | none => exact ⟨by simp, by simp⟩
  | some n => exact vlGo_lo s 0 n (by omega) (by omega) h
theorem readR_itoa {n : Int} (h0 : -9223372036854775808 ≤ n) (h1 : n ≤ 9223372036854775807) : readR (Lib.itoa n) = (n, true) := by
  have hl := itoa_len h0 h1
  unfold readR
  rcases Int.lt_or_le n 0 with h | h
  · obtain ⟨m, rfl⟩ : ∃ m : Nat, n = -(m : Int) := ⟨n.natAbs, by omega⟩
    have hv : vlF (Lib.decDigits m) = (-(m : Int), true) := by
      unfold vlF
      rw [vl_dec m m (Nat.le_refl _) (by omega)]
      simp only [Prod.mk.injEq, true_and]
      cases hd : Lib.decDigits m with
      | nil => exact absurd hd (dec_ne m)
      | cons => rfl
    have hi := itoa_minus m (by omega)
    rw [hi] at hl ⊢
    rw [if_neg (by simp at hl ⊢; omega), if_pos (by simp), List.tail_cons, hv]
    rw [if_pos ⟨rfl, hi⟩]
  · obtain ⟨m, rfl⟩ : ∃ m : Nat, n = (m : Int) := ⟨n.toNat, by omega⟩
    have hv : vlF (Lib.decDigits m) = (-(m : Int), true) := by
      unfold vlF
      rw [vl_dec m m (Nat.le_refl _) (by omega)]
      simp only [Prod.mk.injEq, true_and]
      cases hd : Lib.decDigits m with
      | nil => exact absurd hd (dec_ne m)
      | cons => rfl
    have hi := itoa_pos m
    rw [hi] at hl ⊢
    have hne := dec_ne m
    obtain ⟨c, r, he, hc0, hc1⟩ := dec_head m
    have hh : (Lib.decDigits m).head?.map (· == 45) = some false := by
      rw [he]
      simp only [List.head?_cons, Option.map_some, Option.some.injEq, beq_eq_false_iff_ne, ne_eq]
      intro e; subst e; simp at hc0
    rw [if_neg (by simp only [hne, or_false]; omega), hh, if_neg (by simp), hv, if_neg (by simp only; omega)]
    rw [if_pos ⟨rfl, by simp only [Int.neg_neg]; exact hi⟩]
    simp
theorem readR_yes {s : List UInt8} (h : (readR s).2 = true) : Lib.itoa (readR s).1 = s ∧ -9223372036854775808 ≤ (readR s).1 ∧ (readR s).1 ≤ 9223372036854775807 := by
  have b1 := vlF_bd s
  have b2 := vlF_bd s.tail
  unfold readR at h ⊢
  split
  · rename_i c; rw [if_pos c] at h; cases h
  · rename_i c; rw [if_neg c] at h
    split
    · rename_i d; rw [if_pos d] at h
      split
      · rename_i e; exact ⟨e.2, by simp only; omega, by simp only; omega⟩
      · rename_i e; rw [if_neg e] at h; cases h
    · rename_i d; rw [if_neg d] at h
      split
      · rename_i e; rw [if_pos e] at h; cases h
      · rename_i e; rw [if_neg e] at h
        split
        · rename_i f; exact ⟨f.2, by simp only; omega, by simp only; omega⟩
        · rename_i f; rw [if_neg f] at h; cases h
theorem readR_no {s : List UInt8} (h : (readR s).2 = false) : readR s = (0, false) := by
  unfold readR at h ⊢
  split
  · rfl
  · rename_i c; rw [if_neg c] at h
    split
    · rename_i d; rw [if_pos d] at h
      split
      · rename_i e; rw [if_pos e] at h; cases h
      · rfl
    · rename_i d; rw [if_neg d] at h
      split
      · rfl
      · rename_i e; rw [if_neg e] at h
        split
        · rename_i f; rw [if_pos f] at h; cases h
        · rfl
theorem read_eq (s : List UInt8) : readF s = readR s := by
  cases h : (readF s).2 with
  | true =>
    obtain ⟨h1, h2, h3⟩ := readF_yes h
    have := readR_itoa h2 h3
    rw [h1] at this
    rw [this]
    exact Prod.ext rfl h
  | false =>
    cases h' : (readR s).2 with
    | true =>
      obtain ⟨h1, h2, h3⟩ := readR_yes h'
      have := readF_itoa h2 h3
      rw [h1] at this
      rw [this] at h
      cases h
    | false => rw [readF_no h, readR_no h']
end Go.Proofs.YtfcgdfcekpbliaaGreatDoor
/-
  Lines of words: cut at a byte, joined with it. No program in sight but for what a word is.
-/
namespace Go.Proofs.YtfcgdfcekpbliaaGreatDoor
set_option linter.unusedSimpArgs false
set_option linter.unusedVariables false
set_option linter.unusedSectionVars false
open Go.ChangeShapes Go.WideShapes Go.ChangeAt Go.RowKit Go.Deep Go.Shelf

def preF (p : List UInt8) : List (List UInt8) → List (List UInt8)
  | [] => [p]
  | h :: t => (p ++ h) :: t
def cutF (c : UInt8) : List UInt8 → List (List UInt8)
  | [] => [[]]
  | x :: r => if x = c then [] :: cutF c r else preF [x] (cutF c r)
theorem cut_ne (c : UInt8) (s : List UInt8) : ∃ h t, cutF c s = h :: t := by
  cases s with
  | nil => exact ⟨_, _, rfl⟩
  | cons x r =>
    unfold cutF
    split
    · exact ⟨_, _, rfl⟩
    · cases cutF c r <;> exact ⟨_, _, rfl⟩
theorem index_cons_eq (c : UInt8) (l : List UInt8) : Lib.index (c :: l) [c] = 0 := by rw [Lib.index]; simp [List.isPrefixOf]
theorem index_cons_ne (b c : UInt8) (l : List UInt8) (h : b ≠ c) : Lib.index (b :: l) [c] = if Lib.index l [c] == -1 then -1 else Lib.index l [c] + 1 := by
  have hp : ([c] : List UInt8).isPrefixOf (b :: l) = false := by simp [List.isPrefixOf, Ne.symm h]
  rw [Lib.index, hp]; simp
theorem split_cut (c : UInt8) : ∀ s : List UInt8, Lib.split s [c] = cutF c s
  | [] => by unfold Lib.split; rw [Lib.count_miss (by simp [Lib.index])]; rfl
  | x :: r => by
    have ih := split_cut c r
    unfold cutF
    by_cases h : x = c
    · subst h
      rw [if_pos rfl, ← ih]
      unfold Lib.split
      rw [Lib.count_cons_eq, Nat.add_comm, Lib.splitK, if_neg (by rw [index_cons_eq]; decide), index_cons_eq]
      rfl
    · rw [if_neg h, ← ih]
      unfold Lib.split
      rw [Lib.count_cons_ne _ _ _ h]
      by_cases hm : Lib.index r [c] = -1
      · rw [Lib.count_miss hm]; rfl
      · have hge := Lib.index_ge r [c]
        obtain ⟨j, hj⟩ : ∃ j : Nat, Lib.index r [c] = j := ⟨(Lib.index r [c]).toNat, by omega⟩
        have hix : Lib.index (x :: r) [c] = ((j + 1 : Nat) : Int) := by rw [index_cons_ne _ _ _ h, if_neg (fun e => hm (beq_iff_eq.1 e)), hj]; omega
        have hmm : ¬ (Lib.index r [c] == -1) = true := fun e => hm (beq_iff_eq.1 e)
        have hmm2 : ¬ (Lib.index (x :: r) [c] == -1) = true := fun e => by have := beq_iff_eq.1 e; omega
        rw [Lib.count_hit (by simp) hj, Nat.add_comm, Lib.splitK, Lib.splitK, if_neg hmm, if_neg hmm2, hix, hj]
        have e1 : ((j + 1 : Nat) : Int).toNat = j + 1 := by omega
        have e2 : (j : Int).toNat = j := by omega
        rw [e1, e2]
        rfl
theorem cut_free (c : UInt8) : ∀ (s : List UInt8), ∀ w ∈ cutF c s, c ∉ w
  | [], w, h => by simp [cutF] at h; subst h; simp
  | x :: r, w, h => by
    have ih := cut_free c r
    unfold cutF at h
    split at h
    · rcases List.mem_cons.1 h with rfl | h
      · simp
      · exact ih w h
    · rename_i hx
      obtain ⟨a, t, e⟩ := cut_ne c r
      rw [e] at h ih
      rcases List.mem_cons.1 h with rfl | h
      · have := ih a (by simp)
        simp [this]
        exact fun e => hx e.symm
      · exact ih w (by simp [h])
theorem cut_short (c : UInt8) : ∀ (s : List UInt8), ∀ w ∈ cutF c s, w.length ≤ s.length
  | [], w, h => by simp [cutF] at h; subst h; simp
  | x :: r, w, h => by
    have ih := cut_short c r
    unfold cutF at h
    split at h
    · rcases List.mem_cons.1 h with rfl | h
      · simp
      · have := ih w h; simp; omega
    · obtain ⟨a, t, e⟩ := cut_ne c r
      rw [e] at h ih
      rcases List.mem_cons.1 h with rfl | h
      · have := ih a (by simp); simp; omega
      · have := ih w (by simp [h]); simp; omega
theorem cut_len (c : UInt8) : ∀ (s : List UInt8), (cutF c s).length ≤ s.length + 1
  | [] => by simp [cutF]
  | x :: r => by
    have ih := cut_len c r
    unfold cutF
    split
    · simp; omega
    · obtain ⟨a, t, e⟩ := cut_ne c r
      rw [e] at ih ⊢
      simp [preF] at ih ⊢; omega
theorem join_two (w v : List UInt8) (t : List (List UInt8)) (s : List UInt8) : Lib.join (w :: v :: t) s = w ++ (s ++ Lib.join (v :: t) s) := by
  rw [Lib.join_cons, Lib.join_cons]; simp [Lib.joinTail]
theorem join_cut (c : UInt8) : ∀ s : List UInt8, Lib.join (cutF c s) [c] = s
  | [] => by simp [cutF, Lib.join_one]
  | x :: r => by
    have ih := join_cut c r
    unfold cutF
    obtain ⟨a, t, e⟩ := cut_ne c r
    rw [e] at ih ⊢
    split
    · rename_i h
      rw [join_two, ih, h]; rfl
    · show Lib.join ((x :: a) :: t) [c] = _
      rw [Lib.join_cons] at ih ⊢
      rw [← ih]; rfl
theorem cut_none (c : UInt8) : ∀ w : List UInt8, c ∉ w → cutF c w = [w]
  | [], _ => rfl
  | x :: r, h => by
    simp only [List.mem_cons, not_or] at h
    unfold cutF
    rw [if_neg (fun e => h.1 e.symm), cut_none c r h.2]; rfl
theorem cut_app (c : UInt8) (r : List UInt8) : ∀ w : List UInt8, c ∉ w → cutF c (w ++ c :: r) = w :: cutF c r
  | [], _ => by simp [cutF]
  | x :: s, h => by
    simp only [List.mem_cons, not_or] at h
    show cutF c (x :: (s ++ c :: r)) = _
    conv => lhs; unfold cutF
    rw [if_neg (fun e => h.1 e.symm), cut_app c r s h.2]; rfl
theorem cut_join (c : UInt8) : ∀ l : List (List UInt8), l ≠ [] → (∀ w ∈ l, c ∉ w) → cutF c (Lib.join l [c]) = l
  | [], h, _ => absurd rfl h
  | [w], _, h => by rw [Lib.join_one]; exact cut_none c w (h w (by simp))
  | w :: v :: t, _, h => by
    rw [join_two]
    show cutF c (w ++ c :: Lib.join (v :: t) [c]) = _
    rw [cut_app c _ w (h w (by simp)), cut_join c (v :: t) (by simp) (fun x hx => h x (List.mem_cons_of_mem _ hx))]
theorem cut_pre (c : UInt8) (p r : List UInt8) (h : c ∉ p) : cutF c (p ++ r) = preF p (cutF c r) := by
  induction p with
  | nil => obtain ⟨a, t, e⟩ := cut_ne c r; rw [List.nil_append, e]; rfl
  | cons x s ih =>
    simp only [List.mem_cons, not_or] at h
    show cutF c (x :: (s ++ r)) = _
    rw [cutF, if_neg (fun e => h.1 e.symm), ih h.2]
    obtain ⟨a, t, e⟩ := cut_ne c r
    rw [e]; rfl

theorem index_mem (w : List UInt8) (c : UInt8) : decide (0 ≤ Lib.indexByte w c) = w.any (· == c) := by
  induction w with
  | nil => rfl
  | cons b l ih =>
    have hge := Lib.indexByte_ge l c
    rw [Lib.indexByte, List.any_cons, ← ih]
    cases h : (b == c)
    · simp only [Bool.false_eq_true, if_false, Bool.false_or]
      split
      · rename_i h2
        have := beq_iff_eq.1 h2
        simp [this]
      · rename_i h2
        have : ¬ Lib.indexByte l c = -1 := fun e => h2 (beq_iff_eq.2 e)
        have h0 : 0 ≤ Lib.indexByte l c := by omega
        simp only [h0, decide_true]
        simp
        omega
    · simp
def badB (x : UInt8) : Bool := x == 32 || x == 10
theorem okW_R (w : List UInt8) : okW w = (!w.isEmpty && !w.any badB) := by
  unfold okW
  rw [index_mem, index_mem]
  have : w.any badB = (w.any (· == 32) || w.any (· == 10)) := by
    induction w with
    | nil => rfl
    | cons a l ih => rw [List.any_cons, List.any_cons, List.any_cons, ih]; unfold badB; cases (a == 32) <;> cases (a == 10) <;> cases (l.any (· == 32)) <;> rfl
  rw [this]
  cases w.isEmpty <;> cases w.any (· == 32) <;> cases w.any (· == 10) <;> rfl
theorem okW_free {w : List UInt8} (h : okW w = true) : (32 : UInt8) ∉ w ∧ w ≠ [] := by
  unfold okW at h
  rw [index_mem, index_mem] at h
  simp at h
  exact ⟨fun hm => h.1.2 32 hm rfl, h.1.1⟩

def lineF (l : List (List UInt8)) : List UInt8 × Bool := if l.all okW = true then (Lib.join l [32], true) else ([], false)
def splitF (s : List UInt8) : List (List UInt8) × Bool := if s = [] then ([], true) else if (cutF 32 s).all okW = true then (cutF 32 s, true) else ([], false)
theorem join_ne {l : List (List UInt8)} (h : l.all okW = true) (hl : l ≠ []) : Lib.join l [32] ≠ [] := by
  cases l with
  | nil => exact absurd rfl hl
  | cons w t =>
    rw [Lib.join_cons]
    have := (okW_free (w := w) (by simp at h; exact h.1)).2
    simp [this]
theorem split_line (l : List (List UInt8)) (h : l.all okW = true) : splitF (Lib.join l [32]) = (l, true) := by
  by_cases hl : l = []
  · subst hl; rfl
  · unfold splitF
    rw [if_neg (join_ne h hl), cut_join 32 l hl (fun w hw => (okW_free (List.all_eq_true.1 h w hw)).1), if_pos h]
def linesF (s : List UInt8) : List (List UInt8) × Bool := if (cutF 10 s).getLast? = some [] then ((cutF 10 s).dropLast, true) else ([], false)
end Go.Proofs.YtfcgdfcekpbliaaGreatDoor
/-
  Numbers as digits: plain laws of limits and of lists.
-/
namespace Go.Proofs.YtfcgdfcekpbliaaGreatDoor
set_option linter.unusedSimpArgs false
set_option linter.unusedVariables false
set_option linter.unusedSectionVars false
open Go.ChangeShapes Go.WideShapes Go.ChangeAt Go.RowKit Go.Deep

def natGo (most : Int) : List UInt8 → Int → Option Int
  | [], n => some n
  | c :: r, n => if (c.toNat : Int) < 48 ∨ 57 < (c.toNat : Int) then none else if most < 10 * n + ((c.toNat : Int) - 48) then none else natGo most r (10 * n + ((c.toNat : Int) - 48))
def natE : Option Int → Int × Bool
  | some n => (n, true)
  | none => (0, false)
def natF (s : List UInt8) (most : Int) : Int × Bool := if s = [] ∨ most < 0 then (0, false) else natE (natGo most s 0)

def listF (l : List Int) : List UInt8 := Lib.join (l.map Lib.itoa) [44]
def readAll : List (List UInt8) → Option (List Int)
  | [] => some []
  | x :: r => if (readF x).2 = true then (readAll r).map ((readF x).1 :: ·) else none
def rlE : Option (List Int) → List Int × Bool
  | some l => (l, true)
  | none => ([], false)
def rlF (s : List UInt8) : List Int × Bool := if s = [] then ([], true) else rlE (readAll (cutF 44 s))
def goodI (n : Int) : Prop := -9223372036854775808 ≤ n ∧ n ≤ 9223372036854775807
theorem itoa_ne (n : Int) : Lib.itoa n ≠ [] := by
  rcases Int.lt_or_le n 0 with h | h
  · obtain ⟨m, rfl⟩ : ∃ m : Nat, n = -(m : Int) := ⟨n.natAbs, by omega⟩
    rw [itoa_minus m (by omega)]; simp
  · obtain ⟨m, rfl⟩ : ∃ m : Nat, n = (m : Int) := ⟨n.toNat, by omega⟩
    rw [itoa_pos m]; exact dec_ne m
theorem itoa_free (n : Int) : (44 : UInt8) ∉ Lib.itoa n := by
  intro h
  rcases Int.lt_or_le n 0 with h0 | h0
  · obtain ⟨m, rfl⟩ : ∃ m : Nat, n = -(m : Int) := ⟨n.natAbs, by omega⟩
    rw [itoa_minus m (by omega)] at h
    rcases List.mem_cons.1 h with h | h
    · cases h
    · have := dec_bytes m m (Nat.le_refl _) _ h
      simp at this
  · obtain ⟨m, rfl⟩ : ∃ m : Nat, n = (m : Int) := ⟨n.toNat, by omega⟩
    rw [itoa_pos m] at h
    have := dec_bytes m m (Nat.le_refl _) _ h
    simp at this
theorem readAll_itoa : ∀ (l : List Int), (∀ n ∈ l, goodI n) → readAll (l.map Lib.itoa) = some l
  | [], _ => rfl
  | n :: r, h => by
    have h1 := h n (by simp)
    rw [List.map_cons, readAll, readF_itoa h1.1 h1.2, if_pos rfl, readAll_itoa r (fun x hx => h x (by simp [hx]))]
    rfl
theorem rlF_list (l : List Int) (h : ∀ n ∈ l, goodI n) : rlF (listF l) = (l, true) := by
  unfold rlF listF
  by_cases hl : l = []
  · subst hl; rfl
  · have hne : l.map Lib.itoa ≠ [] := by simpa using hl
    have hj : Lib.join (l.map Lib.itoa) [44] ≠ [] := by
      cases l with
      | nil => exact absurd rfl hl
      | cons n r =>
        rw [List.map_cons, Lib.join_cons]
        have := itoa_ne n
        simp [this]
    rw [if_neg hj, cut_join 44 _ hne (fun w hw => by obtain ⟨n, _, rfl⟩ := List.mem_map.1 hw; exact itoa_free n), readAll_itoa l h]
    rfl
theorem readAll_some : ∀ (p : List (List UInt8)) (l : List Int), readAll p = some l → l.map Lib.itoa = p ∧ ∀ n ∈ l, goodI n
  | [], l, h => by simp only [readAll] at h; injection h with h; subst h; simp
  | x :: r, l, h => by
    rw [readAll] at h
    cases hx : (readF x).2
    · rw [hx] at h; simp at h
    · rw [hx, if_pos rfl] at h
      cases hr : readAll r with
      | none => rw [hr] at h; cases h
      | some t =>
        rw [hr] at h
        simp only [Option.map_some, Option.some.injEq] at h
        subst h
        obtain ⟨h1, h2⟩ := readAll_some r t hr
        obtain ⟨h3, h4, h5⟩ := readF_yes hx
        refine ⟨by rw [List.map_cons, h1, h3], fun n hn => ?_⟩
        rcases List.mem_cons.1 hn with rfl | hn
        · exact ⟨h4, h5⟩
        · exact h2 n hn
theorem rlF_back {s : List UInt8} (h : (rlF s).2 = true) : listF (rlF s).1 = s ∧ ∀ n ∈ (rlF s).1, goodI n := by
  unfold rlF at h ⊢
  by_cases h0 : s = []
  · rw [if_pos h0]; subst h0; exact ⟨rfl, by simp⟩
  · rw [if_neg h0] at h ⊢
    cases hr : readAll (cutF 44 s) with
    | none => rw [hr] at h; cases h
    | some l =>
      obtain ⟨h1, h2⟩ := readAll_some _ _ hr
      refine ⟨?_, h2⟩
      show Lib.join (l.map Lib.itoa) [44] = s
      rw [h1, join_cut]
theorem readAll_append : ∀ (p q : List (List UInt8)) (l : List Int), readAll p = some l → readAll (p ++ q) = (readAll q).map (l ++ ·)
  | [], q, l, h => by simp only [readAll] at h; injection h with h; subst h; cases h : readAll q <;> simp [h]
  | x :: r, q, l, h => by
    rw [readAll] at h
    cases hx : (readF x).2
    · rw [hx] at h; simp at h
    · rw [hx, if_pos rfl] at h
      cases hr : readAll r with
      | none => rw [hr] at h; cases h
      | some t =>
        rw [hr] at h
        simp only [Option.map_some, Option.some.injEq] at h
        subst h
        rw [List.cons_append, readAll, hx, if_pos rfl, readAll_append r q t hr]
        cases readAll q <;> rfl
theorem readAll_len : ∀ (p : List (List UInt8)) (l : List Int), readAll p = some l → l.length = p.length
  | [], l, h => by simp only [readAll] at h; injection h with h; subst h; rfl
  | x :: r, l, h => by
    rw [readAll] at h
    cases hx : (readF x).2
    · rw [hx] at h; simp at h
    · rw [hx, if_pos rfl] at h
      cases hr : readAll r with
      | none => rw [hr] at h; cases h
      | some t =>
        rw [hr] at h
        simp only [Option.map_some, Option.some.injEq] at h
        subst h
        simp [readAll_len r t hr]
theorem rlF_len (s : List UInt8) : (rlF s).1.length ≤ s.length + 1 := by
  unfold rlF
  split
  · simp
  · cases h : readAll (cutF 44 s) with
    | none => simp [rlE]
    | some l => have := readAll_len _ _ h; have := cut_len 44 s; simp [rlE]; omega
theorem take_join_c (c : UInt8) (l : List (List UInt8)) (k : Nat) (hlt : k < l.length) : Lib.join (l.take (k + 1)) [c] = if k = 0 then l[k] else Lib.join (l.take k) [c] ++ [c] ++ l[k] := by
  cases l with
  | nil => simp at hlt
  | cons x r =>
    cases k with
    | zero => simp [Lib.join_one]
    | succ k =>
      rw [if_neg (by omega), List.take_succ_cons, List.take_succ_cons, Lib.join_cons, Lib.join_cons]
      have hk : k < r.length := by simpa using hlt
      rw [Lib.joinTail_take_succ [c] r k r[k] (List.getElem?_eq_getElem hk)]
      simp
theorem list_step (l : List Int) (k : Nat) (hlt : k < l.length) : listF (l.take (k + 1)) = if k = 0 then Lib.itoa l[k] else listF (l.take k) ++ [44] ++ Lib.itoa l[k] := by
  unfold listF
  rw [List.map_take, List.map_take, take_join_c 44 _ k (by simpa using hlt)]
  simp
theorem list_len (l : List Int) (h : ∀ n ∈ l, goodI n) : (listF l).length ≤ 21 * l.length := by
  have : ∀ k, k ≤ l.length → (listF (l.take k)).length ≤ 21 * k := by
    intro k
    induction k with
    | zero => intro _; simp [listF, Lib.join_nil]
    | succ k ih =>
      intro hk
      have h1 := ih (by omega)
      have hb := h _ (List.getElem_mem (show k < l.length by omega))
      have h2 := itoa_len hb.1 hb.2
      rw [list_step l k (by omega)]
      split
      · omega
      · simp; omega
  have := this l.length (Nat.le_refl _)
  rwa [List.take_length] at this
end Go.Proofs.YtfcgdfcekpbliaaGreatDoor
/-
  Records: their words, their lines: plain laws.
-/
namespace Go.Proofs.YtfcgdfcekpbliaaGreatDoor
set_option linter.unusedSimpArgs false
set_option linter.unusedVariables false
set_option linter.unusedSectionVars false
open Go.ChangeShapes Go.WideShapes Go.ChangeAt Go.RowKit Go.Deep

def sideF (n : Int) : List UInt8 := if n = 0 then [99, 108, 105, 101, 110, 116] else if n = 1 then [115, 101, 114, 118, 101, 114] else []
def kindF (n : Int) : List UInt8 := if n = 1 then [97, 108, 108, 111, 119, 101, 100] else if n = 2 then [105, 103, 110, 111, 114, 101, 100] else if n = 3 then [114, 101, 106, 101, 99, 116, 101, 100] else if n = 4 then [108, 105, 109, 105, 116, 101, 100] else []
def tyNames : List (List UInt8) := [[68, 65, 84, 65], [72, 69, 65, 68, 69, 82, 83], [80, 82, 73, 79, 82, 73, 84, 89], [82, 83, 84, 95, 83, 84, 82, 69, 65, 77], [83, 69, 84, 84, 73, 78, 71, 83], [80, 85, 83, 72, 95, 80, 82, 79, 77, 73, 83, 69], [80, 73, 78, 71], [71, 79, 65, 87, 65, 89], [87, 73, 78, 68, 79, 87, 95, 85, 80, 68, 65, 84, 69], [67, 79, 78, 84, 73, 78, 85, 65, 84, 73, 79, 78]]
def tyName (n : Nat) : List UInt8 := tyNames.getD n []
def nameF (t : Int) : List UInt8 := if t = -1 then [80, 82, 69, 70, 65, 67, 69] else if 0 ≤ t ∧ t ≤ 9 then tyName t.toNat else if 9 < t ∧ t ≤ 255 then [84, 89, 80, 69, 95] ++ Lib.itoa t else []
def scanF (f : Int → List UInt8) (s : List UInt8) : Nat → Int → Int × Bool
  | 0, _ => (0, false)
  | g + 1, t => if f t = s then (t, true) else scanF f s g (t + 1)
def byNameF (s : List UInt8) : Int × Bool := scanF nameF s 257 (-1)
theorem scan_true (f : Int → List UInt8) (s : List UInt8) : ∀ (g : Nat) (t n : Int), scanF f s g t = (n, true) → f n = s ∧ t ≤ n ∧ n < t + g
  | 0, t, n, h => by simp [scanF] at h
  | g + 1, t, n, h => by
    unfold scanF at h
    split at h
    · rename_i hf
      obtain ⟨rfl, _⟩ := Prod.mk.inj h
      exact ⟨hf, Int.le_refl _, by omega⟩
    · have := scan_true f s g (t + 1) n h
      exact ⟨this.1, by omega, by omega⟩
theorem scan_false (f : Int → List UInt8) (s : List UInt8) : ∀ (g : Nat) (t : Int), (scanF f s g t).2 = false → scanF f s g t = (0, false)
  | 0, t, h => rfl
  | g + 1, t, h => by
    unfold scanF at h ⊢
    split
    · rename_i hf; rw [if_pos hf] at h; cases h
    · rename_i hf; rw [if_neg hf] at h; exact scan_false f s g (t + 1) h
theorem scan_hit (f : Int → List UInt8) (s : List UInt8) (n : Int) (hn : f n = s) : ∀ (g : Nat) (t : Int), t ≤ n → n < t + g → (∀ m, t ≤ m → m < n → f m ≠ s) → scanF f s g t = (n, true)
  | 0, t, h1, h2, _ => by omega
  | g + 1, t, h1, h2, h3 => by
    unfold scanF
    by_cases ht : t = n
    · subst ht; rw [if_pos hn]
    · rw [if_neg (h3 t (Int.le_refl _) (by omega))]
      exact scan_hit f s n hn g (t + 1) (by omega) (by omega) (fun m h4 h5 => h3 m (by omega) h5)
theorem scan_none (f : Int → List UInt8) (s : List UInt8) : ∀ (g : Nat) (t : Int), (∀ m, t ≤ m → m < t + g → f m ≠ s) → scanF f s g t = (0, false)
  | 0, t, _ => rfl
  | g + 1, t, h => by
    unfold scanF
    rw [if_neg (h t (Int.le_refl _) (by omega))]
    exact scan_none f s g (t + 1) (fun m h4 h5 => h m (by omega) (by omega))
theorem itoa_inj {a b : Int} (ha : goodI a) (hb : goodI b) (h : Lib.itoa a = Lib.itoa b) : a = b := by
  have h1 := atoi_itoa ha.1 ha.2
  have h2 := atoi_itoa hb.1 hb.2
  rw [h, h2] at h1
  injection h1 with h1
  exact h1.symm
theorem tyName_ne (n : Nat) (h : n ≤ 9) : tyName n ≠ [] := by
  have : ∀ m : Fin 10, tyName m.val ≠ [] := by decide
  exact this ⟨n, by omega⟩
theorem tyName_inj : ∀ m n : Fin 10, tyName m.val = tyName n.val → m = n := by decide
theorem tyName_pre : ∀ m : Fin 10, tyName m.val ≠ [80, 82, 69, 70, 65, 67, 69] ∧ (tyName m.val).head? ≠ some 84 := by decide
theorem nameF_ne {t : Int} (h0 : -1 ≤ t) (h1 : t ≤ 255) : nameF t ≠ [] := by
  unfold nameF
  split
  · simp
  · split
    · exact tyName_ne _ (by omega)
    · rw [if_pos (by omega)]; simp
theorem nameF_out {t : Int} (h : t < -1 ∨ 255 < t) : nameF t = [] := by
  unfold nameF
  rw [if_neg (by omega), if_neg (by omega), if_neg (by omega)]
theorem nameF_inj {a b : Int} (a0 : -1 ≤ a) (a1 : a ≤ 255) (b0 : -1 ≤ b) (b1 : b ≤ 255) (h : nameF a = nameF b) : a = b := by
  unfold nameF at h
  by_cases ca : a = -1
  · rw [if_pos ca] at h
    by_cases cb : b = -1
    · omega
    · rw [if_neg cb] at h
      by_cases db : 0 ≤ b ∧ b ≤ 9
      · rw [if_pos db] at h
        exact absurd h.symm (tyName_pre ⟨b.toNat, by omega⟩).1
      · rw [if_neg db, if_pos (by omega)] at h
        simp at h
  · rw [if_neg ca] at h
    by_cases cb : b = -1
    · rw [if_pos cb] at h
      by_cases da : 0 ≤ a ∧ a ≤ 9
      · rw [if_pos da] at h
        exact absurd h (tyName_pre ⟨a.toNat, by omega⟩).1
      · rw [if_neg da, if_pos (by omega)] at h
        simp at h
    · rw [if_neg cb] at h
      by_cases da : 0 ≤ a ∧ a ≤ 9 <;> by_cases db : 0 ≤ b ∧ b ≤ 9
      · rw [if_pos da, if_pos db] at h
        have := tyName_inj ⟨a.toNat, by omega⟩ ⟨b.toNat, by omega⟩ h
        simp only [Fin.mk.injEq] at this
        omega
      · rw [if_pos da, if_neg db, if_pos (by omega)] at h
        have := (tyName_pre ⟨a.toNat, by omega⟩).2
        rw [h] at this
        exact absurd rfl this
      · rw [if_neg da, if_pos (by omega), if_pos db] at h
        have := (tyName_pre ⟨b.toNat, by omega⟩).2
        rw [← h] at this
        exact absurd rfl this
      · rw [if_neg da, if_pos (by omega), if_neg db, if_pos (by omega)] at h
        exact itoa_inj ⟨by omega, by omega⟩ ⟨by omega, by omega⟩ (List.append_cancel_left h)
theorem byName_name {t : Int} (h0 : -1 ≤ t) (h1 : t ≤ 255) : byNameF (nameF t) = (t, true) :=
  scan_hit _ _ t rfl _ _ h0 (by omega) (fun m h2 h3 e => by have := nameF_inj h2 (by omega) h0 h1 e; omega)
theorem byName_nil : byNameF [] = (0, false) := scan_none _ _ _ _ (fun m h2 h3 => nameF_ne h2 (by omega))

structure Rec where
  fr : Int
  ty : Int
  fl : Int
  st : Int
  ln : Int
  kd : Int
deriving DecidableEq
def zRec : Rec := ⟨0, 0, 0, 0, 0, 0⟩
def inB (n m : Int) : Bool := decide (0 ≤ n) && decide (n ≤ m)
def headR (ln ty fl st : Int) : Bool := inB ln 16777215 && (inB ty 255 && (inB fl 255 && inB st 2147483647))
def recR (r : Rec) : Bool := (decide (r.fr = 0) || decide (r.fr = 1)) && (inB (r.kd - 1) 3 && if r.ty = -1 then (decide (r.fr = 0) && (decide (r.fl = 0) && (decide (r.st = 0) && decide (r.ln = 24)))) else headR r.ln r.ty r.fl r.st)
theorem inB_iff {n m : Int} : inB n m = true ↔ 0 ≤ n ∧ n ≤ m := by simp [inB]
structure RecOk (r : Rec) : Prop where
  fr : r.fr = 0 ∨ r.fr = 1
  kd : 1 ≤ r.kd ∧ r.kd ≤ 4
  ty : -1 ≤ r.ty ∧ r.ty ≤ 255
  fl : 0 ≤ r.fl ∧ r.fl ≤ 255
  st : 0 ≤ r.st ∧ r.st ≤ 2147483647
  ln : 0 ≤ r.ln ∧ r.ln ≤ 16777215
theorem recR_ok {r : Rec} (h : recR r = true) : RecOk r := by
  unfold recR at h
  simp only [Bool.and_eq_true, Bool.or_eq_true, decide_eq_true_eq, inB_iff] at h
  obtain ⟨h1, h2, h3⟩ := h
  split at h3
  · rename_i ht
    simp only [Bool.and_eq_true, decide_eq_true_eq] at h3
    exact ⟨h1, by omega, by omega, by omega, by omega, by omega⟩
  · unfold headR at h3
    simp only [Bool.and_eq_true, inB_iff] at h3
    exact ⟨h1, by omega, by omega, by omega, by omega, by omega⟩
def recWords (r : Rec) : List (List UInt8) := [[102, 114, 97, 109, 101], sideF r.fr, nameF r.ty, Lib.itoa r.fl, Lib.itoa r.st, Lib.itoa r.ln, kindF r.kd]
def recLine (r : Rec) : List UInt8 := Lib.join (recWords r) [32]
theorem okW_of {w : List UInt8} (h : w ≠ []) (hb : ∀ c ∈ w, 33 ≤ c.toNat) : okW w = true := by
  rw [okW_R]
  have h1 : w.isEmpty = false := by cases w <;> simp_all
  have h2 : w.any badB = false := by
    rw [List.any_eq_false]
    intro c hc
    have := hb c hc
    unfold badB
    simp only [Bool.or_eq_true, beq_iff_eq]
    rintro (e | e) <;> subst e <;> simp at this
  rw [h1, h2]; rfl
theorem itoa_bytes (n : Int) : ∀ c ∈ Lib.itoa n, 33 ≤ c.toNat := by
  intro c hc
  rcases Int.lt_or_le n 0 with h | h
  · obtain ⟨m, rfl⟩ : ∃ m : Nat, n = -(m : Int) := ⟨n.natAbs, by omega⟩
    rw [itoa_minus m (by omega)] at hc
    rcases List.mem_cons.1 hc with rfl | hc
    · decide
    · have := dec_bytes m m (Nat.le_refl _) c hc; omega
  · obtain ⟨m, rfl⟩ : ∃ m : Nat, n = (m : Int) := ⟨n.toNat, by omega⟩
    rw [itoa_pos m] at hc
    have := dec_bytes m m (Nat.le_refl _) c hc; omega
theorem okW_itoa (n : Int) : okW (Lib.itoa n) = true := okW_of (itoa_ne n) (itoa_bytes n)
theorem tyName_ok : ∀ m : Fin 10, okW (tyName m.val) = true := by decide
theorem nameF_ok {t : Int} (h0 : -1 ≤ t) (h1 : t ≤ 255) : okW (nameF t) = true := by
  unfold nameF
  split
  · decide
  · split
    · exact tyName_ok ⟨t.toNat, by omega⟩
    · rw [if_pos (by omega)]
      refine okW_of (by simp) fun c hc => ?_
      rcases List.mem_append.1 hc with hc | hc
      · have : ∀ x ∈ ([84, 89, 80, 69, 95] : List UInt8), 33 ≤ x.toNat := by decide
        exact this c hc
      · exact itoa_bytes t c hc
theorem sideF_ok {n : Int} (h : n = 0 ∨ n = 1) : okW (sideF n) = true := by rcases h with rfl | rfl <;> decide
theorem kindF_cases {n : Int} (h : 1 ≤ n ∧ n ≤ 4) : n = 1 ∨ n = 2 ∨ n = 3 ∨ n = 4 := by omega
theorem kindF_ok {n : Int} (h : 1 ≤ n ∧ n ≤ 4) : okW (kindF n) = true := by rcases kindF_cases h with rfl | rfl | rfl | rfl <;> decide
theorem recWords_ok {r : Rec} (h : RecOk r) : (recWords r).all okW = true := by
  unfold recWords
  simp only [List.all_cons, List.all_nil, Bool.and_true, Bool.and_eq_true]
  exact ⟨by decide, sideF_ok h.fr, nameF_ok h.ty.1 h.ty.2, okW_itoa _, okW_itoa _, okW_itoa _, kindF_ok h.kd⟩
theorem nameF_len {t : Int} (h0 : -1 ≤ t) (h1 : t ≤ 255) : (nameF t).length ≤ 30 := by
  unfold nameF
  split
  · decide
  · split
    · have : ∀ m : Fin 10, (tyName m.val).length ≤ 30 := by decide
      exact this ⟨t.toNat, by omega⟩
    · rw [if_pos (by omega)]
      have := itoa_len (n := t) (by omega) (by omega)
      simp; omega
theorem sideF_len (n : Int) : (sideF n).length ≤ 30 := by unfold sideF; repeat' split
                                                          all_goals decide
theorem kindF_len (n : Int) : (kindF n).length ≤ 30 := by unfold kindF; repeat' split
                                                          all_goals decide
theorem recWords_len {r : Rec} (h : RecOk r) : ∀ x ∈ recWords r, x.length ≤ 30 := by
  intro x hx
  unfold recWords at hx
  simp only [List.mem_cons, List.not_mem_nil, or_false] at hx
  rcases hx with rfl | rfl | rfl | rfl | rfl | rfl | rfl
  · decide
  · exact sideF_len _
  · exact nameF_len h.ty.1 h.ty.2
  · have := itoa_len (n := r.fl) (by have := h.fl; omega) (by have := h.fl; omega); omega
  · have := itoa_len (n := r.st) (by have := h.st; omega) (by have := h.st; omega); omega
  · have := itoa_len (n := r.ln) (by have := h.ln; omega) (by have := h.ln; omega); omega
  · exact kindF_len _
theorem recLine_split {r : Rec} (h : RecOk r) : splitF (recLine r) = (recWords r, true) := split_line _ (recWords_ok h)
theorem lineF_rec {r : Rec} (h : RecOk r) : lineF (recWords r) = (recLine r, true) := by unfold lineF recLine; rw [if_pos (recWords_ok h)]

/-! The program's road back. -/
def sideB (s : List UInt8) : Int × Bool := scanF sideF s 2 0
def kindB (s : List UInt8) : Int × Bool := scanF kindF s 4 1
def rdRec (l : List (List UInt8)) : Rec × Bool :=
  match l with
  | [w0, w1, w2, w3, w4, w5, w6] =>
    if w0 = [102, 114, 97, 109, 101] then
      if ((sideB w1).2 && ((byNameF w2).2 && ((readF w3).2 && ((readF w4).2 && ((readF w5).2 && ((kindB w6).2 && recR ⟨(sideB w1).1, (byNameF w2).1, (readF w3).1, (readF w4).1, (readF w5).1, (kindB w6).1⟩)))))) = true then
        (⟨(sideB w1).1, (byNameF w2).1, (readF w3).1, (readF w4).1, (readF w5).1, (kindB w6).1⟩, true)
      else (zRec, false)
    else (zRec, false)
  | _ => (zRec, false)
def readRecF (line : List UInt8) : Rec × Bool := if (splitF line).2 = true then rdRec (splitF line).1 else (zRec, false)
theorem sideB_side {n : Int} (h : n = 0 ∨ n = 1) : sideB (sideF n) = (n, true) := by rcases h with rfl | rfl <;> decide
theorem kindB_kind {n : Int} (h : 1 ≤ n ∧ n ≤ 4) : kindB (kindF n) = (n, true) := by rcases kindF_cases h with rfl | rfl | rfl | rfl <;> decide
theorem readRec_line {r : Rec} (h : recR r = true) : readRecF (recLine r) = (r, true) := by
  have ho := recR_ok h
  unfold readRecF
  rw [recLine_split ho, if_pos rfl]
  unfold recWords rdRec
  simp only [if_true]
  rw [sideB_side ho.fr, byName_name ho.ty.1 ho.ty.2, kindB_kind ho.kd, readF_itoa (n := r.fl) (by have := ho.fl; omega) (by have := ho.fl; omega), readF_itoa (n := r.st) (by have := ho.st; omega) (by have := ho.st; omega),
    readF_itoa (n := r.ln) (by have := ho.ln; omega) (by have := ho.ln; omega)]
  simp only [Bool.true_and]
  rw [if_pos h]
theorem split_back {s : List UInt8} (h : (splitF s).2 = true) : Lib.join (splitF s).1 [32] = s := by
  unfold splitF at h ⊢
  by_cases h0 : s = []
  · rw [if_pos h0]; subst h0; rfl
  · rw [if_neg h0] at h ⊢
    by_cases ha : (cutF 32 s).all okW = true
    · rw [if_pos ha]; exact join_cut 32 s
    · rw [if_neg ha] at h; cases h
theorem scan_pair {f : Int → List UInt8} {s : List UInt8} {g : Nat} {t : Int} (h : (scanF f s g t).2 = true) : f (scanF f s g t).1 = s := (scan_true f s g t _ (Prod.ext rfl h)).1
theorem rdRec_yes {l : List (List UInt8)} (h : (rdRec l).2 = true) : recR (rdRec l).1 = true ∧ l = recWords (rdRec l).1 := by
  match l, h with
  | [w0, w1, w2, w3, w4, w5, w6], h =>
    unfold rdRec at h ⊢
    simp only at h ⊢
    by_cases h0 : w0 = [102, 114, 97, 109, 101]
    · rw [if_pos h0] at h ⊢
      split at h
      · rename_i hc
        rw [if_pos hc]
        simp only [Bool.and_eq_true] at hc
        obtain ⟨c1, c2, c3, c4, c5, c6, c7⟩ := hc
        refine ⟨c7, ?_⟩
        unfold recWords
        simp only
        rw [show sideF (sideB w1).1 = w1 from scan_pair c1, show nameF (byNameF w2).1 = w2 from scan_pair c2, (readF_yes c3).1, (readF_yes c4).1, (readF_yes c5).1, show kindF (kindB w6).1 = w6 from scan_pair c6, h0]
      · cases h
    · rw [if_neg h0] at h; cases h
  | [], h => cases h
  | [_], h => cases h
  | [_, _], h => cases h
  | [_, _, _], h => cases h
  | [_, _, _, _], h => cases h
  | [_, _, _, _, _], h => cases h
  | [_, _, _, _, _, _], h => cases h
  | _ :: _ :: _ :: _ :: _ :: _ :: _ :: _ :: _, h => cases h
theorem rdRec_no {l : List (List UInt8)} (h : (rdRec l).2 = false) : rdRec l = (zRec, false) := by
  match l, h with
  | [w0, w1, w2, w3, w4, w5, w6], h =>
    unfold rdRec at h ⊢
    simp only at h ⊢
    split
    · rename_i h0
      rw [if_pos h0] at h
      split
      · rename_i hc; rw [if_pos hc] at h; cases h
      · rfl
    · rfl
  | [], h => rfl
  | [_], h => rfl
  | [_, _], h => rfl
  | [_, _, _], h => rfl
  | [_, _, _, _], h => rfl
  | [_, _, _, _, _], h => rfl
  | [_, _, _, _, _, _], h => rfl
  | _ :: _ :: _ :: _ :: _ :: _ :: _ :: _ :: _, h => rfl
theorem readRec_yes {line : List UInt8} (h : (readRecF line).2 = true) : recR (readRecF line).1 = true ∧ recLine (readRecF line).1 = line := by
  unfold readRecF at h ⊢
  by_cases hs : (splitF line).2 = true
  · rw [if_pos hs] at h ⊢
    obtain ⟨h1, h2⟩ := rdRec_yes h
    refine ⟨h1, ?_⟩
    unfold recLine
    rw [← h2, split_back hs]
  · rw [if_neg hs] at h; cases h
theorem readRec_no {line : List UInt8} (h : (readRecF line).2 = false) : readRecF line = (zRec, false) := by
  unfold readRecF at h ⊢
  by_cases hs : (splitF line).2 = true
  · rw [if_pos hs] at h ⊢; exact rdRec_no h
  · rw [if_neg hs]

/-! The document's road back. -/
def findF (l : List (List UInt8)) (s : List UInt8) : Int := if s ∈ l then (l.idxOf s : Int) else -1
def rfRec (l : List (List UInt8)) : Rec :=
  match l with
  | [_, w1, w2, w3, w4, w5, w6] => ⟨findF [[99, 108, 105, 101, 110, 116], [115, 101, 114, 118, 101, 114]] w1, (byNameF w2).1, (readF w3).1, (readF w4).1, (readF w5).1, 1 + findF [[97, 108, 108, 111, 119, 101, 100], [105, 103, 110, 111, 114, 101, 100], [114, 101, 106, 101, 99, 116, 101, 100], [108, 105, 109, 105, 116, 101, 100]] w6⟩
  | _ => zRec
def readRecR (line : List UInt8) : Rec × Bool :=
  if (splitF line).2 = true ∧ (splitF line).1.length = 7 then
    if recR (rfRec (splitF line).1) = true ∧ recLine (rfRec (splitF line).1) = line then (rfRec (splitF line).1, true) else (zRec, false)
  else (zRec, false)
theorem findF_side {n : Int} (h : n = 0 ∨ n = 1) : findF [[99, 108, 105, 101, 110, 116], [115, 101, 114, 118, 101, 114]] (sideF n) = n := by rcases h with rfl | rfl <;> decide
theorem findF_kind {n : Int} (h : 1 ≤ n ∧ n ≤ 4) : 1 + findF [[97, 108, 108, 111, 119, 101, 100], [105, 103, 110, 111, 114, 101, 100], [114, 101, 106, 101, 99, 116, 101, 100], [108, 105, 109, 105, 116, 101, 100]] (kindF n) = n := by rcases kindF_cases h with rfl | rfl | rfl | rfl <;> decide
theorem rfRec_words {r : Rec} (h : RecOk r) : rfRec (recWords r) = r := by
  unfold rfRec recWords
  simp only
  rw [findF_side h.fr, byName_name h.ty.1 h.ty.2, findF_kind h.kd, readF_itoa (n := r.fl) (by have := h.fl; omega) (by have := h.fl; omega), readF_itoa (n := r.st) (by have := h.st; omega) (by have := h.st; omega),
    readF_itoa (n := r.ln) (by have := h.ln; omega) (by have := h.ln; omega)]
theorem readRecR_line {r : Rec} (h : recR r = true) : readRecR (recLine r) = (r, true) := by
  have ho := recR_ok h
  unfold readRecR
  rw [recLine_split ho, if_pos ⟨rfl, rfl⟩]
  simp only
  rw [rfRec_words ho, if_pos ⟨h, rfl⟩]
theorem readRecR_yes {line : List UInt8} (h : (readRecR line).2 = true) : recR (readRecR line).1 = true ∧ recLine (readRecR line).1 = line := by
  unfold readRecR at h ⊢
  split at h
  · rename_i hc
    rw [if_pos hc]
    split at h
    · rename_i hd
      rw [if_pos hd]
      exact hd
    · cases h
  · cases h
theorem readRecR_no {line : List UInt8} (h : (readRecR line).2 = false) : readRecR line = (zRec, false) := by
  unfold readRecR at h ⊢
  split at h
  · rename_i hc
    rw [if_pos hc]
    split at h
    · cases h
    · rename_i hd; rw [if_neg hd]
  · rename_i hc; rw [if_neg hc]
theorem readRec_eq (line : List UInt8) : readRecF line = readRecR line := by
  cases h : (readRecF line).2 with
  | true =>
    obtain ⟨h1, h2⟩ := readRec_yes h
    have := readRecR_line h1
    rw [h2] at this
    rw [this]
    exact Prod.ext rfl h
  | false =>
    cases h' : (readRecR line).2 with
    | true =>
      obtain ⟨h1, h2⟩ := readRecR_yes h'
      have := readRec_line h1
      rw [h2] at this
      rw [this] at h
      cases h
    | false => rw [readRec_no h, readRecR_no h']
end Go.Proofs.YtfcgdfcekpbliaaGreatDoor
/-
  Texts looked for in a row of texts: slices.Index, and the words of a text.
-/
namespace Go.Proofs.YtfcgdfcekpbliaaGreatDoor
set_option linter.unusedSimpArgs false
set_option linter.unusedVariables false
set_option linter.unusedSectionVars false
open Go.ChangeShapes Go.WideShapes Go.ChangeAt Go.RowKit Go.Deep Go.Shelf

def seekX (s : List UInt8) : List (List UInt8) → Nat → Int
  | [], _ => -1
  | x :: r, k => if x = s then (k : Int) else seekX s r (k + 1)
/-- Where a text is first found among some; -1: nowhere. -/
def idxX (l : List (List UInt8)) (s : List UInt8) : Int := seekX s l 0
theorem seekX_lo (s : List UInt8) : ∀ (l : List (List UInt8)) (k : Nat), seekX s l k = -1 ∨ ((k : Int) ≤ seekX s l k ∧ seekX s l k < k + l.length)
  | [], k => .inl rfl
  | x :: r, k => by
    unfold seekX
    split
    · exact .inr ⟨Int.le_refl _, by simp; omega⟩
    · rcases seekX_lo s r (k + 1) with h | h
      · exact .inl h
      · exact .inr ⟨by omega, by simp only [List.length_cons]; omega⟩
theorem seekX_none (s : List UInt8) : ∀ (l : List (List UInt8)) (k : Nat), (∀ x ∈ l, x ≠ s) → seekX s l k = -1
  | [], k, _ => rfl
  | x :: r, k, h => by
    unfold seekX
    rw [if_neg (h x (by simp)), seekX_none s r (k + 1) (fun y hy => h y (by simp [hy]))]
theorem seekX_hit (s : List UInt8) : ∀ (l : List (List UInt8)) (k i : Nat) (hi : i < l.length), l[i] = s → (∀ j (hj : j < l.length), j < i → l[j] ≠ s) → seekX s l k = ((k + i : Nat) : Int)
  | [], k, i, hi, _, _ => by simp at hi
  | x :: r, k, 0, hi, he, _ => by
    unfold seekX
    rw [if_pos (by simpa using he)]; rfl
  | x :: r, k, i + 1, hi, he, hn => by
    unfold seekX
    rw [if_neg (show ¬ x = s from hn 0 (by simp) (by omega))]
    rw [seekX_hit s r (k + 1) i (by simpa using hi) (show r[i]'(by simpa using hi) = s from he) (fun j hj hji => hn (j + 1) (by simp; omega) (by omega))]
    congr 1; omega

theorem seekX_at (s : List UInt8) : ∀ (l : List (List UInt8)) (k i : Nat), seekX s l k = ((k + i : Nat) : Int) → ∃ h : i < l.length, l[i] = s
  | [], k, i, h => by simp only [seekX] at h; omega
  | x :: r, k, i, h => by
    unfold seekX at h
    by_cases hx : x = s
    · rw [if_pos hx] at h
      obtain rfl : i = 0 := by omega
      exact ⟨by simp, hx⟩
    · rw [if_neg hx] at h
      have hlo := seekX_lo s r (k + 1)
      cases i with
      | zero => omega
      | succ i =>
        obtain ⟨h1, h2⟩ := seekX_at s r (k + 1) i (by rw [h]; congr 1; omega)
        exact ⟨by simp; omega, h2⟩
set_option maxHeartbeats 4000000 in
set_option maxRecDepth 100000 in
theorem slices_IndexX (a : Option Addr) (l : List (List UInt8)) (cap : Nat) (s : List UInt8) (hl : l.length ≤ 100000) (w : World) (hS : SlX w w.heap.size a l) :
    Calls Tryz.prog 80 #[.slice a l.length cap, bstr s] w fun e w' => e = .returned (.int .i64 (idxX l s)) ∧ ∃ j, w' = w.more j := by
  obtain ⟨R, hR⟩ : ∃ R, R = idxX l s := ⟨_, rfl⟩
  rw [← hR]
  have HR : Hid (R = seekX s (l.drop 0) 0) := hR
  have HS := Lib.hid hS
  clear hS hR
  go_enter Tryz.func80, Tryz.ntmps80
  go_wp2_with fail
  go_loopg [8] l.length (fun g i wr => ∃ k : Nat, k + g = l.length ∧ i = .int .i64 k ∧ wr = w ∧ Hid (R = seekX s (l.drop k) k))
  case atStart => exact ⟨0, by omega, rfl, rfl, HR⟩
  case round =>
    obtain ⟨k, hkg, rfl, rfl, HU⟩ := hrel
    have HK := Lib.hid hkg
    clear hkg
    by_cases hlt : k < l.length
    · obtain ⟨b, off, ha, hbb, c0, _⟩ := HS.out.atX hlt
      subst ha
      have HT : Hid (R = if l[k] = s then (k : Int) else seekX s (l.drop (k + 1)) (k + 1)) := by show _ = _; rw [HU.out, List.drop_eq_getElem_cons hlt, seekX]
      clear HU
      generalize l[k] = x at c0 HT
      cases e1 : (s == x)
      · have HU2 : Hid (R = seekX s (l.drop (k + 1)) (k + 1)) := by show _ = _; rw [HT.out, if_neg (by intro h; rw [h] at e1; simp at e1)]
        clear HT
        go_wp2_with fail
        go_roundg (l.length - (k + 1))
        case measure => have := HK.out; omega
        case rel => exact ⟨k + 1, by have := HK.out; omega, by go_num, rfl, HU2⟩
      · have hR2 : R = (k : Int) := by rw [HT.out, if_pos (eq_of_beq e1).symm]
        subst hR2
        clear HT
        go_wp2_with fail
        go_ret
        exact ⟨rfl, Below.junk bel⟩
    · have hR2 : R = -1 := by rw [HU.out, List.drop_of_length_le (by omega)]; rfl
      subst hR2
      clear HU
      go_wp2_with fail
      go_ret
      exact ⟨rfl, Below.junk bel⟩
/-- The words of a text: what strings.Split hands back, and how it lies. -/
theorem split_words (t : List UInt8) (c : UInt8) (l : List (List UInt8)) (ht : cutF c t = l) (m : Int) (w : World) (hm : t.length ≤ 1048576) (hM : w.cell? ⟨1, 0, none⟩ = some (.int .i64 m)) :
    Calls Tryz.prog 47 #[bstr t, bstr [c]] w fun e w' => e = .returned (.slice (some ⟨w.heap.size, 0, none⟩) l.length l.length) ∧ ∃ j, w' = w.more j ∧ SlX w' w'.heap.size (some ⟨w.heap.size, 0, none⟩) l := by
  have h1 := strings_split t c m w hm hM
  have h2 := split_slX t c w hm
  rw [split_cut, ht] at h1 h2
  refine h1.mono fun e w' ⟨he, hw⟩ => ⟨he, ?_⟩
  subst hw
  obtain ⟨j, hj⟩ : ∃ j, w.alloc (.cells (l.map bstr).toArray 9) = w.more j := Below.junk bel
  exact ⟨j, hj, by rw [World.size_alloc]; exact h2⟩
end Go.Proofs.YtfcgdfcekpbliaaGreatDoor
/-
  Sets as lists that rise: plain laws; no program in sight.
-/
namespace Go.Proofs.YtfcgdfcekpbliaaGreatDoor
set_option linter.unusedSimpArgs false
set_option linter.unusedVariables false
set_option linter.unusedSectionVars false
open Go.ChangeShapes Go.WideShapes Go.ChangeAt Go.RowKit Go.Deep

structure Ord {α : Type} (lt : α → α → Bool) : Prop where
  irr : ∀ a, lt a a = false
  tr : ∀ a b c, lt a b = true → lt b c = true → lt a c = true
  tot : ∀ a b, a ≠ b → lt a b = true ∨ lt b a = true
section
variable {α : Type} [DecidableEq α] {lt : α → α → Bool}
def Strict (lt : α → α → Bool) (l : List α) : Prop := l.Pairwise (fun a b => lt a b = true)
theorem Ord.asym (O : Ord lt) {a b : α} (h : lt a b = true) : lt b a = false := by
  cases hb : lt b a with
  | false => rfl
  | true => have := O.tr a b a h hb; rw [O.irr] at this; cases this
theorem Ord.ne (O : Ord lt) {a b : α} (h : lt a b = true) : a ≠ b := fun e => by subst e; rw [O.irr] at h; cases h
theorem strict_ext (O : Ord lt) : ∀ (l m : List α), Strict lt l → Strict lt m → (∀ x, x ∈ l ↔ x ∈ m) → l = m
  | [], [], _, _, _ => rfl
  | [], y :: s, _, _, h => absurd ((h y).2 (by simp)) (by simp)
  | x :: r, [], _, _, h => absurd ((h x).1 (by simp)) (by simp)
  | x :: r, y :: s, hl, hm, h => by
    unfold Strict at hl hm
    rw [List.pairwise_cons] at hl hm
    have hxy : x = y := by
      rcases List.mem_cons.1 ((h x).1 (by simp)) with e | hx
      · exact e
      · rcases List.mem_cons.1 ((h y).2 (by simp)) with e | hy
        · exact e.symm
        · have h1 := hm.1 x hx
          have h2 := hl.1 y hy
          rw [O.asym h1] at h2; cases h2
    subst hxy
    congr 1
    refine strict_ext O r s hl.2 hm.2 fun z => ?_
    have hz := h z
    simp only [List.mem_cons] at hz
    constructor
    · intro hr
      rcases hz.1 (.inr hr) with e | hs
      · subst e; exact absurd rfl (O.ne (hl.1 z hr))
      · exact hs
    · intro hs
      rcases hz.2 (.inr hs) with e | hr
      · subst e; exact absurd rfl (O.ne (hm.1 z hs))
      · exact hr
def insS (lt : α → α → Bool) (x : α) : List α → List α
  | [] => [x]
  | y :: r => if lt x y = true then x :: y :: r else if x = y then y :: r else y :: insS lt x r
def setS (lt : α → α → Bool) : List α → List α
  | [] => []
  | x :: r => insS lt x (setS lt r)
theorem mem_insS (x z : α) : ∀ l : List α, z ∈ insS lt x l ↔ z = x ∨ z ∈ l
  | [] => by simp [insS]
  | y :: r => by
    unfold insS
    split
    · simp
    · split
      · rename_i h; subst h; simp
      · rw [List.mem_cons, mem_insS x z r, List.mem_cons]
        constructor
        · rintro (h | h | h)
          · exact .inr (.inl h)
          · exact .inl h
          · exact .inr (.inr h)
        · rintro (h | h | h)
          · exact .inr (.inl h)
          · exact .inl h
          · exact .inr (.inr h)
theorem strict_insS (O : Ord lt) (x : α) : ∀ l : List α, Strict lt l → Strict lt (insS lt x l)
  | [], _ => by simp [insS, Strict]
  | y :: r, h => by
    unfold Strict at h
    rw [List.pairwise_cons] at h
    unfold insS
    split
    · rename_i hxy
      refine List.pairwise_cons.2 ⟨fun z hz => ?_, List.pairwise_cons.2 h⟩
      rcases List.mem_cons.1 hz with rfl | hz
      · exact hxy
      · exact O.tr x y z hxy (h.1 z hz)
    · rename_i hxy
      split
      · exact List.pairwise_cons.2 h
      · rename_i hne
        refine List.pairwise_cons.2 ⟨fun z hz => ?_, strict_insS O x r h.2⟩
        rcases (mem_insS x z r).1 hz with rfl | hz
        · rcases O.tot z y hne with h' | h'
          · exact absurd h' hxy
          · exact h'
        · exact h.1 z hz
theorem mem_setS (z : α) : ∀ l : List α, z ∈ setS lt l ↔ z ∈ l
  | [] => by simp [setS]
  | x :: r => by rw [setS, mem_insS, mem_setS z r, List.mem_cons]
theorem strict_setS (O : Ord lt) : ∀ l : List α, Strict lt (setS lt l)
  | [] => List.Pairwise.nil
  | x :: r => strict_insS O x _ (strict_setS O r)
theorem insS_len (x : α) : ∀ l : List α, (insS lt x l).length ≤ l.length + 1
  | [] => by simp [insS]
  | y :: r => by
    unfold insS
    split
    · simp
    · split
      · simp
      · have := insS_len x r; simp; omega
theorem setS_len : ∀ l : List α, (setS lt l).length ≤ l.length
  | [] => by simp [setS]
  | x :: r => by have := setS_len r; have := insS_len (lt := lt) x (setS lt r); simp [setS]; omega
theorem setS_of_strict (O : Ord lt) {l : List α} (h : Strict lt l) : setS lt l = l := strict_ext O _ _ (strict_setS O l) h (fun x => mem_setS x l)
theorem setS_congr (O : Ord lt) {l m : List α} (h : ∀ x, x ∈ l ↔ x ∈ m) : setS lt l = setS lt m :=
  strict_ext O _ _ (strict_setS O l) (strict_setS O m) (fun x => by rw [mem_setS, mem_setS]; exact h x)
theorem strict_nodup (O : Ord lt) {l : List α} (h : Strict lt l) : l.Nodup := List.Pairwise.imp (fun hab => O.ne hab) h

/-! Neighbours that are the same are struck. -/
def dedA : List α → List α
  | [] => []
  | x :: r => match r with
    | [] => [x]
    | y :: t => if x = y then dedA (y :: t) else x :: dedA (y :: t)
theorem dedA_two (x y : α) (t : List α) : dedA (x :: y :: t) = if x = y then dedA (y :: t) else x :: dedA (y :: t) := by rw [dedA]
theorem mem_dedA (z : α) : ∀ l : List α, z ∈ dedA l ↔ z ∈ l
  | [] => by simp [dedA]
  | [x] => by simp [dedA]
  | x :: y :: t => by
    rw [dedA_two]
    have ih := mem_dedA z (y :: t)
    split
    · rename_i h; subst h; rw [ih]; simp
    · rw [List.mem_cons, ih, List.mem_cons (a := z) (b := x)]
theorem strict_dedA (O : Ord lt) : ∀ l : List α, l.Pairwise (fun a b => lt b a = false) → Strict lt (dedA l)
  | [], _ => by simp [dedA, Strict]
  | [x], _ => by simp [dedA, Strict]
  | x :: y :: t, h => by
    rw [List.pairwise_cons] at h
    rw [dedA_two]
    have ih := strict_dedA O (y :: t) h.2
    split
    · exact ih
    · rename_i hne
      have hxy : lt x y = true := by
        rcases O.tot x y hne with h' | h'
        · exact h'
        · rw [h.1 y (by simp)] at h'; cases h'
      refine List.pairwise_cons.2 ⟨fun z hz => ?_, ih⟩
      rw [mem_dedA] at hz
      rcases List.mem_cons.1 hz with rfl | hz
      · exact hxy
      · rcases Decidable.em (y = z) with rfl | hyz
        · exact hxy
        · have h2 := (List.pairwise_cons.1 h.2).1 z hz
          rcases O.tot y z hyz with h' | h'
          · exact O.tr x y z hxy h'
          · rw [h2] at h'; cases h'
theorem dedA_sorted (O : Ord lt) {l m : List α} (hs : m.Pairwise (fun a b => lt b a = false)) (hp : ∀ x, x ∈ m ↔ x ∈ l) : dedA m = setS lt l :=
  strict_ext O _ _ (strict_dedA O m hs) (strict_setS O l) (fun x => by rw [mem_dedA, hp, mem_setS])

/-! Again and again the least one that is not there yet. -/
def stepM (lt : α → α → Bool) (p : α → Bool) (b : Option α) (x : α) : Option α :=
  if p x = true then (match b with | none => some x | some y => if lt x y = true then some x else some y) else b
def minS (lt : α → α → Bool) (p : α → Bool) (l : List α) (b : Option α) : Option α := l.foldl (stepM lt p) b
def Least (lt : α → α → Bool) (c : List α) : Option α → Prop
  | none => c = []
  | some m => m ∈ c ∧ ∀ x ∈ c, lt x m = false
theorem least_step (O : Ord lt) (p : α → Bool) (c : List α) (b : Option α) (x : α) (h : Least lt c b) : Least lt (c ++ [x].filter p) (stepM lt p b x) := by
  unfold stepM
  cases hp : p x with
  | false => simpa [hp] using h
  | true =>
    simp only [if_true, List.filter_cons, hp, List.filter_nil]
    cases b with
    | none =>
      have hc : c = [] := h
      subst hc
      exact ⟨by simp, fun z hz => by simp at hz; subst hz; exact O.irr z⟩
    | some y =>
      obtain ⟨hy, hm⟩ := h
      simp only
      cases hxy : lt x y with
      | true =>
        simp only [if_true]
        refine ⟨by simp, fun z hz => ?_⟩
        rcases List.mem_append.1 hz with hz | hz
        · cases hzx : lt z x with
          | false => rfl
          | true => have := O.tr z x y hzx hxy; rw [hm z hz] at this; cases this
        · simp at hz; subst hz; exact O.irr z
      | false =>
        simp only [Bool.false_eq_true, if_false]
        refine ⟨by simp [hy], fun z hz => ?_⟩
        rcases List.mem_append.1 hz with hz | hz
        · exact hm z hz
        · simp at hz; subst hz; exact hxy
theorem least_minS (O : Ord lt) (p : α → Bool) : ∀ (l c : List α) (b : Option α), Least lt c b → Least lt (c ++ l.filter p) (minS lt p l b)
  | [], c, b, h => by simpa [minS] using h
  | x :: r, c, b, h => by
    have h1 := least_minS O p r _ _ (least_step O p c b x h)
    rw [List.append_assoc] at h1
    rw [minS, List.foldl_cons]
    have e : ([x].filter p) ++ r.filter p = (x :: r).filter p := by rw [← List.filter_append]; rfl
    rw [e] at h1
    exact h1
theorem least_unique (O : Ord lt) {c d : List α} {b : Option α} {m : α} (h : Least lt c b) (hcd : ∀ x, x ∈ c ↔ x ∈ d) (hm : m ∈ d) (hl : ∀ x ∈ d, x ≠ m → lt m x = true) : b = some m := by
  cases b with
  | none => have hc : c = [] := h
            subst hc
            exact absurd ((hcd m).2 hm) (by simp)
  | some y =>
    obtain ⟨hy, hly⟩ := h
    rcases Decidable.em (y = m) with e | hne
    · rw [e]
    · have := hl y ((hcd y).1 hy) hne
      rw [hly m ((hcd m).2 hm)] at this; cases this
/-- The next one of a rising list. -/
theorem minS_next (O : Ord lt) (q : α → Bool) (l S : List α) (hS : Strict lt S) (hm : ∀ x, x ∈ S ↔ x ∈ l ∧ q x = true) (n : Nat) :
    minS lt (fun x => q x && !decide (x ∈ S.take n)) l none = S[n]? := by
  have h := least_minS O (fun x => q x && !decide (x ∈ S.take n)) l [] none rfl
  rw [List.nil_append] at h
  have hnd := strict_nodup O hS
  have hmem : ∀ x, x ∈ l.filter (fun x => q x && !decide (x ∈ S.take n)) ↔ x ∈ S.drop n := by
    intro x
    rw [List.mem_filter]
    simp only [Bool.and_eq_true, Bool.not_eq_true', decide_eq_false_iff_not]
    rw [← and_assoc, ← hm]
    constructor
    · rintro ⟨h1, h2⟩
      rw [← List.take_append_drop n S] at h1
      rcases List.mem_append.1 h1 with h1 | h1
      · exact absurd h1 h2
      · exact h1
    · intro h1
      refine ⟨List.mem_of_mem_drop h1, fun h2 => ?_⟩
      rw [← List.take_append_drop n S] at hnd
      exact (List.nodup_append.1 hnd).2.2 x h2 x h1 rfl
  by_cases hn : n < S.length
  · rw [List.getElem?_eq_getElem hn]
    refine least_unique O h hmem (by rw [List.drop_eq_getElem_cons hn]; exact List.mem_cons_self) ?_
    intro x hx hne
    rw [List.drop_eq_getElem_cons hn] at hx
    rcases List.mem_cons.1 hx with e | hx
    · exact absurd e hne
    · have : (S.drop n).Pairwise (fun a b => lt a b = true) := List.Pairwise.sublist (List.drop_sublist n S) hS
      rw [List.drop_eq_getElem_cons hn, List.pairwise_cons] at this
      exact this.1 x hx
  · rw [List.getElem?_eq_none (by omega)]
    generalize minS lt (fun x => q x && !decide (x ∈ S.take n)) l none = b at h
    cases b with
    | none => rfl
    | some y =>
      have := (hmem y).1 h.1
      rw [List.drop_of_length_le (by omega)] at this
      cases this
end

/-! Numbers. -/
def ltI (a b : Int) : Bool := decide (a < b)
theorem ordI : Ord ltI := ⟨fun a => by simp [ltI], fun a b c h1 h2 => by simp [ltI] at *; omega, fun a b h => by simp [ltI]; omega⟩
end Go.Proofs.YtfcgdfcekpbliaaGreatDoor
/-
  What is sorted, with neighbours struck that are the same, is the set: plain law.
-/
namespace Go.Proofs.YtfcgdfcekpbliaaGreatDoor
set_option linter.unusedSimpArgs false
set_option linter.unusedVariables false
set_option linter.unusedSectionVars false
open Go.ChangeShapes Go.WideShapes Go.ChangeAt Go.RowKit Go.Deep

section
variable {α : Type} [Inhabited α] [DecidableEq α] {lt : α → α → Bool}
theorem compG_mem (d : Array α) : ∀ m x, x ∈ Lib.compactUpTo d m ↔ ∃ j, j < m ∧ d[j]! = x
  | 0, x => by simp [Lib.compactUpTo]
  | m + 1, x => by
    have ih := compG_mem d m x
    rw [Lib.compactUpTo_succ, List.mem_append, ih]
    constructor
    · rintro (⟨j, hj, h⟩ | h)
      · exact ⟨j, by omega, h⟩
      · split at h
        · simp at h; exact ⟨m, by omega, h.symm⟩
        · simp at h
    · rintro ⟨j, hj, h⟩
      by_cases hjm : j = m
      · subst hjm
        cases hk : Lib.keeps d j with
        | true => right; simp [h]
        | false =>
          left
          have hn : ¬ (j = 0 ∨ d[j]! ≠ d[j - 1]!) := by simpa [Lib.keeps] using hk
          have h0 : j ≠ 0 := fun e => hn (.inl e)
          have h1 : d[j]! = d[j - 1]! := Decidable.byContradiction fun e => hn (.inr e)
          exact ⟨j - 1, by omega, by rw [← h1, h]⟩
      · exact .inl ⟨j, by omega, h⟩
theorem compG_strict (O : Ord lt) (d : Array α) (hs : ∀ i j, i < j → j < d.size → lt d[j]! d[i]! = false) : ∀ m, m ≤ d.size → Strict lt (Lib.compactUpTo d m)
  | 0, _ => by simp [Lib.compactUpTo, Strict]
  | m + 1, hm => by
    have ih := compG_strict O d hs m (by omega)
    rw [Lib.compactUpTo_succ]
    split
    · rename_i hk
      refine List.pairwise_append.2 ⟨ih, by simp, fun y hy z hz => ?_⟩
      simp at hz
      subst hz
      obtain ⟨j, hj, rfl⟩ := (compG_mem d m y).1 hy
      have hk' : m = 0 ∨ d[m]! ≠ d[m - 1]! := by simpa [Lib.keeps] using hk
      have h0 : d[m]! ≠ d[m - 1]! := by rcases hk' with h | h
                                        · omega
                                        · exact h
      have h1 := hs j m hj (by omega)
      have hlt : lt d[m - 1]! d[m]! = true := by
        rcases O.tot _ _ (Ne.symm h0) with h | h
        · exact h
        · rw [hs (m - 1) m (by omega) (by omega)] at h; cases h
      by_cases e : j = m - 1
      · rw [e]; exact hlt
      · have h2 := hs j (m - 1) (by omega) (by omega)
        by_cases e2 : d[j]! = d[m]!
        · rw [e2, hlt] at h2 <;> cases h2
        · rcases O.tot _ _ e2 with h | h
          · exact h
          · rw [h1] at h; cases h
    · simpa using ih
theorem compG_len (d : Array α) : ∀ m, (Lib.compactUpTo d m).length ≤ m
  | 0 => by simp [Lib.compactUpTo]
  | m + 1 => by
    have ih := compG_len d m
    rw [Lib.compactUpTo_succ]
    split <;> simp <;> omega
theorem compact_len (l : List α) : (Lib.compact l).length ≤ l.length := compG_len _ _
theorem compact_set (O : Ord lt) {m l : List α} (hs : m.Pairwise (fun a b => lt b a = false)) (hp : ∀ x, x ∈ m ↔ x ∈ l) : Lib.compact m = setS lt l := by
  unfold Lib.compact
  refine strict_ext O _ _ (compG_strict O m.toArray (fun i j hij hj => ?_) _ (by simp)) (strict_setS O l) (fun x => ?_)
  · rw [List.pairwise_iff_getElem] at hs
    have hj' : j < m.length := by simpa using hj
    have := hs i j (by omega) hj' hij
    rw [getElem!_pos m.toArray i (by simp; omega), getElem!_pos m.toArray j hj]
    simpa using this
  · rw [compG_mem, mem_setS, ← hp]
    constructor
    · rintro ⟨j, hj, rfl⟩
      rw [getElem!_pos m.toArray j (by simpa using hj)]; simp
    · intro h
      obtain ⟨j, hj, rfl⟩ := List.getElem_of_mem h
      exact ⟨j, hj, by rw [getElem!_pos m.toArray j (by simpa using hj)]; simp⟩
end

def leI (x y : Int) : Bool := decide (x ≤ y)
theorem sort_setI (l : List Int) : Lib.compact (l.mergeSort fun x y => decide (x ≤ y)) = setS ltI l := by
  have hp : (l.mergeSort fun x y => decide (x ≤ y)).Pairwise (fun a b => (decide (a ≤ b)) = true) := List.pairwise_mergeSort (fun a b c h1 h2 => by simp at *; omega) (fun a b => by simp; omega) l
  exact compact_set ordI (hp.imp fun h => by simp [ltI] at *; omega) (fun x => (List.mergeSort_perm l _).mem_iff)
end Go.Proofs.YtfcgdfcekpbliaaGreatDoor
/-
  Short words for regions that draw their order: an operation that only reads is taken, the frame in its plain form.
-/
namespace Go.Proofs.YtfcgdfcekpbliaaGreatDoor
set_option linter.unusedSimpArgs false
set_option linter.unusedVariables false
set_option linter.unusedSectionVars false
open Go.ChangeShapes Go.WideShapes Go.ChangeAt Go.RowKit Go.Deep

section
variable {P : Program} {ops : Array Oper} {Q : Exit → Act → World → Prop} {md : Region.Mode} {S : World → Prop} {oi : Oper} {v : Value} {fuel : Nat} {listed l' : Array Bool} {a a' : Act} {w : World}
theorem nfa {α : Type} {l : List α} {i : Nat} (h : i < l.toArray.size) : l.toArray[i] = l[i]'(by simpa using h) := by simp
theorem nfb {α : Type} {a : α} {l : List α} {i : Nat} (h : i + 1 < (a :: l).length) : (a :: l)[i + 1] = l[i]'(by simpa using h) := rfl
theorem nfc {α : Type} {a : α} {l : List α} (h : 0 < (a :: l).length) : (a :: l)[0] = a := rfl
theorem nfd {α : Type} {l : List α} {i : Nat} {a : α} : l.toArray.setIfInBounds i a = (l.set i a).toArray := by simp
theorem tk (i : Nat) (h : wpAnyH P md ops Q S fuel l' a' w)
    (hi : ops[i]? = some oi := by exact rfl)
    (hs : Region.noSelect ops = true := by kernel_rfl) (hf : Region.free md ops listed i = true := by kernel_rfl) (hr : (Region.ready md ops listed).contains i = true := by kernel_rfl)
    (hQ : ∀ c a w, Q (.panic c) (a.put oi.dst v) w → Q (.panic c) a w := by exact fun _ _ _ h => h)
    (hy : YieldsIf P ops S oi v a := by (refine Or.inl ⟨by first | kernel_rfl | rfl, ?_⟩; intro wS hSw; (try have hSc := hSw.cell); clear hSw; go_simp; try with_reducible rfl))
    (hS : S w := by first | exact Below.refl _ _ | exact trivial | exact ⟨rfl, rfl, rfl, Nat.le_refl _, fun _ _ _ => rfl⟩)
    (hl : listed.setIfInBounds i true = l' := by ((try simp only [List.setIfInBounds_toArray, List.set_cons_zero, List.set_cons_succ]); all_goals exact rfl))
    (ha : a.put oi.dst v = a' := by ((try simp only [Act.put, List.getElem_toArray, List.getElem_cons_succ, List.getElem_cons_zero, List.setIfInBounds_toArray, List.set_cons_zero, List.set_cons_succ]); all_goals exact rfl)) :
    wpAnyH P md ops Q S (fuel + 1) listed a w := by
  subst hl ha
  exact wpAnyH_take hi hs hf hr hQ hy hS h
theorem tkc (i : Nat) (h : wpAnyH P md ops Q S fuel l' a' w)
    (hi : ops[i]? = some oi := by exact rfl)
    (hs : Region.noSelect ops = true := by kernel_rfl) (hf : Region.free md ops listed i = true := by kernel_rfl) (hr : (Region.ready md ops listed).contains i = true := by kernel_rfl)
    (hQ : ∀ c a w, Q (.panic c) (a.put oi.dst v) w → Q (.panic c) a w := by exact fun _ _ _ h => h)
    (hy : YieldsIf P ops S oi v a := by (refine Or.inl ⟨by first | kernel_rfl | rfl, ?_⟩; intro wS hSw; (try have hSc := hSw.cell); clear hSw; go_simp; first | (with_reducible rfl) | (rw [if_neg (by first | omega | (simp only [List.length_append, List.length_cons, List.length_nil]; omega))])))
    (hS : S w := by first | exact Below.refl _ _ | exact trivial | exact ⟨rfl, rfl, rfl, Nat.le_refl _, fun _ _ _ => rfl⟩)
    (hl : listed.setIfInBounds i true = l' := by ((try simp only [List.setIfInBounds_toArray, List.set_cons_zero, List.set_cons_succ]); all_goals exact rfl))
    (ha : a.put oi.dst v = a' := by ((try simp only [Act.put, List.getElem_toArray, List.getElem_cons_succ, List.getElem_cons_zero, List.setIfInBounds_toArray, List.set_cons_zero, List.set_cons_succ]); all_goals exact rfl)) :
    wpAnyH P md ops Q S (fuel + 1) listed a w := by
  subst hl ha
  exact wpAnyH_take hi hs hf hr hQ hy hS h
theorem tks (i : Nat) (h : wpAnyH P md ops Q S fuel l' a' w)
    (hi : ops[i]? = some oi := by exact rfl)
    (hs : Region.noSelect ops = true := by kernel_rfl) (hf : Region.free md ops listed i = true := by kernel_rfl) (hr : (Region.ready md ops listed).contains i = true := by kernel_rfl)
    (hQ : ∀ c a w, Q (.panic c) (a.put oi.dst v) w → Q (.panic c) a w := by exact fun _ _ _ h => h)
    (hy : YieldsIf P ops S oi v a := by exact Or.inr ⟨by kernel_rfl, rfl⟩)
    (hS : S w := by first | exact Below.refl _ _ | exact trivial | exact ⟨rfl, rfl, rfl, Nat.le_refl _, fun _ _ _ => rfl⟩)
    (hl : listed.setIfInBounds i true = l' := by ((try simp only [List.setIfInBounds_toArray, List.set_cons_zero, List.set_cons_succ]); all_goals exact rfl))
    (ha : a.put oi.dst v = a' := by ((try simp only [Act.put, List.getElem_toArray, List.getElem_cons_succ, List.getElem_cons_zero, List.setIfInBounds_toArray, List.set_cons_zero, List.set_cons_succ]); all_goals exact rfl)) :
    wpAnyH P md ops Q S (fuel + 1) listed a w := by
  subst hl ha
  exact wpAnyH_take hi hs hf hr hQ hy hS h
end
end Go.Proofs.YtfcgdfcekpbliaaGreatDoor
/-
  Bytes: a row of bytes behind another; a copy of bytes.
-/
namespace Go.Proofs.YtfcgdfcekpbliaaGreatDoor
set_option linter.unusedSimpArgs false
set_option linter.unusedVariables false
set_option linter.unusedSectionVars false
open Go.ChangeShapes Go.WideShapes Go.ChangeAt Go.RowKit Go.Deep Go.Shelf

theorem app_bytes {ops : Array Oper} {rest : List Oper} {o : Oper} {a : Act} {Q : Exit → Act → World → Prop} {w : World}
    (s x : Operand) (hgd : o.guard = none) (ho : o.op = .call { callee := .builtin .append, args := #[s, x], argTypes := #[57, 57] })
    {B C : Nat} {v : Value} {l m : List UInt8} (hs : a.eval s = v) (hown : OwnB B w v l)
    {A : Option Addr} {n c : Nat} (hx : a.eval x = .slice A n c) (hn : m.length = n) (hr : SlB w C A m)
    (hl : l.length + n ≤ 140737488355328) (hB : B ≤ w.heap.size)
    (h : ∀ v' w', OwnB B w' v' (l ++ m) → Below B w w' → w.grownBy w' v.ownBlock → wpList Tryz.prog ops Q rest (a.put o.dst v') w') : wpList Tryz.prog ops Q (o :: rest) a w := by
  refine wpList_app_sl st_bytes s x hgd ho hs hown hx hn hr (cf := fun (x : UInt8) => [.int .u8 (x.toNat : Int)]) (fun _ _ _ h => h) (fun _ _ => rfl) (fun _ _ u hu => by simp at hu; subst hu; rfl) (by unfold maxLen; omega) (by omega) hB (fun v' w' h1 h2 => h v' w' ?_ (own_grown (Below.refl B w) hown h2 (Nat.le_refl _) hB) h2)
  have e : Lib.byteCells (l ++ m) = Lib.byteCells l ++ m.flatMap (fun (x : UInt8) => [.int .u8 (x.toNat : Int)]) := by
    unfold Lib.byteCells
    rw [List.map_append]
    congr 1
    clear h h1 h2 hr hx hn
    induction m with
    | nil => rfl
    | cons y r ih => simp only [List.map_cons, List.flatMap_cons, ih]; rfl
  unfold OwnB
  rw [e, List.length_append, hn]
  exact h1
end Go.Proofs.YtfcgdfcekpbliaaGreatDoor
