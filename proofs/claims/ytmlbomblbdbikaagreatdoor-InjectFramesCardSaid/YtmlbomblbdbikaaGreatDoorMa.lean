/-
  Parts of the proof, one behind the other: contracts of the program and plain laws; no condition of their own.
-/
import Derived.Test.YtmlbomblbdbikaaGreatDoorProg
import Derived.WalkKit
import Derived.WalkLawsBesides
import Derived.WalkSpells
import Derived.ProofKit
import Derived.OpenShut
import Derived.Lib.Hide
import Derived.Deep.Slices
import Derived.Deep.Fields
import Derived.ChangeSame
import Derived.Maps.AppendAt
import Derived.Deep.AppendLies
import Derived.Deep.RegionHeld3
import Derived.Test.YtmlbomblbdbikaaGreatDoorShelf
import Derived.Lib.SlBytesRow
import Derived.Lib.BufferRead
import Derived.Deep.QuietTactic
import Derived.BigQuiet
/-
  Plain lemmas that serve every walk: texts as lists of bytes, slices whose cells are known element by element, the closing step of a law. No program's code stands here.
-/
namespace Go.Proofs.YtmlbomblbdbikaaGreatDoor
set_option linter.unusedSimpArgs false
set_option linter.unusedVariables false
set_option linter.unusedSectionVars false
open Go.ChangeShapes Go.WideShapes Go.ChangeAt Go.RowKit Go.Deep
open Go.ChangeMaps (open_string shut_string)

abbrev bstr (l : List UInt8) : Value := .string ⟨l.toArray⟩
theorem ba_get (l : List UInt8) (k : Nat) (h : k < (ByteArray.mk l.toArray).size) : (ByteArray.mk l.toArray)[k]'h = l[k]'h := rfl
attribute [simp] ba_get
theorem ba_extract (l : List UInt8) (a b : Nat) : (ByteArray.mk l.toArray).extract a b = ByteArray.mk ((l.drop a).take (b - a)).toArray := ByteArray.extract_mk l a b
theorem ba_append (x y : List UInt8) : (ByteArray.mk x.toArray ++ ByteArray.mk y.toArray) = ByteArray.mk (x ++ y).toArray := ByteArray.mk_append_mk x y
attribute [simp] ba_extract ba_append
theorem bstr_of (s : ByteArray) : Value.string s = bstr s.data.toList := rfl

theorem bcell {W w1 : World} (hb : Below W.heap.size W w1) : (∀ b o, b < W.heap.size → w1.cell? ⟨b, o, none⟩ = W.cell? ⟨b, o, none⟩) ∧ (∀ b o, b < W.heap.size → w1.frozen? ⟨b, o, none⟩ = W.frozen? ⟨b, o, none⟩) :=
  ⟨fun b o h => hb.cell (p := ⟨b, o, none⟩) h, fun b o h => hb.frozen (p := ⟨b, o, none⟩) h⟩

theorem ret1d {v v' : Value} (h : v = v') : Ending.returned v = .returned v' := by rw [h]


/-! A block that is known whole. -/
def Blk (w : World) (g : Nat) (t : TypeId) (cs : Array Value) : Prop := w.heap[g]? = some (.cells cs t (0, 0))
section
variable {w w' : World} {g : Nat} {t : TypeId} {cs : Array Value}
theorem Blk.lt (h : Blk w g t cs) : g < w.heap.size := by
  rcases Nat.lt_or_ge g w.heap.size with hlt | hge
  · exact hlt
  · unfold Blk at h; rw [Array.getElem?_eq_none hge] at h; cases h
theorem Blk.cell (h : Blk w g t cs) (i : Nat) : w.cell? ⟨g, i, none⟩ = cs[i]? := cell_of_row w g i cs t (0, 0) h
theorem Blk.frozen (h : Blk w g t cs) (i : Nat) : w.frozen? ⟨g, i, none⟩ = false := by
  unfold Blk at h
  simp [World.frozen?, h]
theorem Blk.new (w : World) (t : TypeId) (cs : Array Value) : Blk (w.alloc (.cells cs t)) w.heap.size t cs := heap_alloc_new w _
theorem Blk.drew (h : Blk w g t cs) : Blk w.drew g t cs := h
theorem Blk.drewN (h : Blk w g t cs) (n : Nat) : Blk (w.drewN n) g t cs := h
theorem Blk.alloc (h : Blk w g t cs) (o : Obj) : Blk (w.alloc o) g t cs := (Below.heap_alloc w o g h.lt).trans h
theorem Blk.set_ (h : Blk w g t cs) (i : Nat) (u : Value) : Blk (w.setCell ⟨g, i, none⟩ u) g t (cs.setIfInBounds i u) := by
  unfold Blk at h ⊢
  simp [World.setCell, Array.getElem?_modify, h]
theorem Blk.far (h : Blk w g t cs) {p : Addr} (hp : g ≠ p.block) (u : Value) : Blk (w.setCell p u) g t cs := (Below.heap_setCell w p u g hp).trans h
theorem Blk.one {x : Value} (h : Blk w g t #[x]) : w.cell? ⟨g, 0, none⟩ = some x ∧ w.frozen? ⟨g, 0, none⟩ = false ∧ g < w.heap.size := ⟨h.cell 0, h.frozen 0, h.lt⟩
theorem Blk.two {x y : Value} (h : Blk w g t #[x, y]) : w.cell? ⟨g, 0, none⟩ = some x ∧ w.cell? ⟨g, 1, none⟩ = some y ∧ w.frozen? ⟨g, 0, none⟩ = false ∧ w.frozen? ⟨g, 1, none⟩ = false ∧ g < w.heap.size := ⟨h.cell 0, h.cell 1, h.frozen 0, h.frozen 1, h.lt⟩
theorem Blk.three {x y z : Value} (h : Blk w g t #[x, y, z]) : w.cell? ⟨g, 0, none⟩ = some x ∧ w.cell? ⟨g, 1, none⟩ = some y ∧ w.cell? ⟨g, 2, none⟩ = some z ∧ w.frozen? ⟨g, 0, none⟩ = false ∧ w.frozen? ⟨g, 1, none⟩ = false ∧ w.frozen? ⟨g, 2, none⟩ = false ∧ g < w.heap.size :=
  ⟨h.cell 0, h.cell 1, h.cell 2, h.frozen 0, h.frozen 1, h.frozen 2, h.lt⟩
theorem Blk.set0 {x y u : Value} (h : Blk w g t #[x, y]) : Blk (w.setCell ⟨g, 0, none⟩ u) g t #[u, y] := h.set_ 0 u
theorem Blk.set1 {x y u : Value} (h : Blk w g t #[x, y]) : Blk (w.setCell ⟨g, 1, none⟩ u) g t #[x, u] := h.set_ 1 u
theorem Blk.at_ (w : World) (t : TypeId) (cs : Array Value) {g : Nat} (hg : g = w.heap.size) : Blk (w.alloc (.cells cs t)) g t cs := hg ▸ Blk.new w t cs
theorem Blk.below {B : Nat} (h : Blk w g t cs) (hb : Below B w w') (hg : g < B) : Blk w' g t cs := (hb.block g hg).trans h
end
theorem below_drewN {B : Nat} {a w : World} (h : Below B a w) (n : Nat) : Below B a (w.drewN n) := ⟨h.os, h.tape, h.output, h.size, h.block⟩

/-! Results that lie in memory. -/
def StructTy (P : Program) (ty n : Nat) : Prop := ∃ d, P.underlying ty = some d ∧ (match d with | .struct _ | .array _ _ => true | _ => false) = true ∧ (P.info? ty).map (·.size) = some n
theorem StructTy.load {P : Program} {ty n g : Nat} {t : TypeId} {cs : Array Value} {w : World} (h : StructTy P ty n) (hb : Blk w g t cs) (hn : cs.size = n) : (loadVar ty ⟨g, 0, none⟩).run P w = .ok (.agg cs) w := by
  obtain ⟨d, h1, h2, h3⟩ := h
  exact run_loadVar_row w g t ty cs (0, 0) d hb h1 (by cases d <;> simp_all) (by rw [h3, hn])
section
variable {P : Program} {fn : Func} {p q u : Tmp} {ty ty' n n' g g' : Nat} {t t' : TypeId} {cs cs' : Array Value} {w : World} {tmps : Array Value} {v : Value}
theorem res_cell (h : fn.results = #[.cell p ty]) (hs : StructTy P ty n) (hp : tmps.getD p undef = .pointer (some ⟨g, 0, none⟩)) (hb : Blk w g t cs) (hn : cs.size = n) : (results fn tmps).run P w = .ok (.agg cs) w := by
  have hp' : tmps[p]?.getD undef = .pointer (some ⟨g, 0, none⟩) := by simpa using hp
  simp [results, h, hp', asAddr, hs.load hb hn]
theorem res_cell_tmp (h : fn.results = #[.cell p ty, .tmp u]) (hs : StructTy P ty n) (hp : tmps.getD p undef = .pointer (some ⟨g, 0, none⟩)) (hb : Blk w g t cs) (hn : cs.size = n) (hv : tmps.getD u undef = v) :
    (results fn tmps).run P w = .ok (.tuple #[.agg cs, v]) w := by
  have hp' : tmps[p]?.getD undef = .pointer (some ⟨g, 0, none⟩) := by simpa using hp
  have hv' : tmps[u]?.getD undef = v := by simpa using hv
  simp [results, h, hp', hv', asAddr, hs.load hb hn]
theorem res_cell_cell_tmp (h : fn.results = #[.cell p ty, .cell q ty', .tmp u]) (hs : StructTy P ty n) (hp : tmps.getD p undef = .pointer (some ⟨g, 0, none⟩)) (hb : Blk w g t cs) (hn : cs.size = n)
    (hs' : StructTy P ty' n') (hq : tmps.getD q undef = .pointer (some ⟨g', 0, none⟩)) (hb' : Blk w g' t' cs') (hn' : cs'.size = n') (hv : tmps.getD u undef = v) :
    (results fn tmps).run P w = .ok (.tuple #[.agg cs, .agg cs', v]) w := by
  have hp' : tmps[p]?.getD undef = .pointer (some ⟨g, 0, none⟩) := by simpa using hp
  have hq' : tmps[q]?.getD undef = .pointer (some ⟨g', 0, none⟩) := by simpa using hq
  have hv' : tmps[u]?.getD undef = v := by simpa using hv
  simp [results, h, hp', hq', hv', asAddr, hs.load hb hn, hs'.load hb' hn']
end

/-! A struct of one-cell fields, cell by cell. -/
theorem cells_struct {H : Type} {enc : TypeId × Value → H} {P : Program} {w : World} {sp : Nat → Bool} {e : TypeId} {fs : Array Field} {n : Nat} {cs : List Value} {x : DataW H × List MemPlace} (tys : List TypeId)
    (he : P.underlying e = some (.struct fs)) (hone : oneCellFields P fs = true) (htys : fs.toList.map (·.type) = tys) (h : DataW.trod enc P w 0 sp true n e cs = some x) (hl : cs.length = tys.length) :
    ∃ m, ∀ (j : Nat) (t : TypeId), tys[j]? = some t → ∃ (v : Value) (y : DataW H × List MemPlace), cs[j]? = some v ∧ DataW.trod enc P w 0 sp true m t [v] = some y := by
  obtain ⟨ys, m, _, _, _, hyl, hf⟩ := DataW.trod_struct he h
  refine ⟨m, fun j t hj => ?_⟩
  subst htys
  obtain ⟨f, hfj, rfl⟩ : ∃ f, fs[j]? = some f ∧ f.type = t := by
    rw [List.getElem?_map] at hj
    cases hq : fs.toList[j]? with
    | none => simp [hq] at hj
    | some f => exact ⟨f, by simpa using hq, by simpa [hq] using hj⟩
  obtain ⟨ho, hk⟩ := hone_of hone j f hfj
  have hjl : j < fs.size := (Array.getElem?_eq_some_iff.1 hfj).1
  have hjc : j < cs.length := by rw [hl]; simpa using hjl
  have h1 := hf j f hfj
  rw [ho, hk, List.drop_eq_getElem_cons hjc] at h1
  have hys : ys[j]? = some (ys[j]'(by omega)) := List.getElem?_eq_getElem (by omega)
  exact ⟨cs[j], _, List.getElem?_eq_getElem hjc, h1.trans hys⟩

/-! Slices, element by element: 'R x cs': the cells cs are those of x. -/
def SlR {α : Type} (w : World) (B size : Nat) (R : α → List Value → Prop) (a : Option Addr) (l : List α) : Prop :=
  ∀ k (h : k < l.length), ∃ b off cs, a = some ⟨b, off, none⟩ ∧ b < B ∧ R l[k] cs ∧ ∀ j u, cs[j]? = some u → w.cell? ⟨b, off + k * size + j, none⟩ = some u

theorem SlR.below {α : Type} {w w' : World} {B C size : Nat} {R : α → List Value → Prop} {a : Option Addr} {l : List α} (h : SlR w B size R a l) (hb : Below C w w') (hB : B ≤ C) : SlR w' B size R a l := by
  intro k hk
  obtain ⟨b, off, cs, ha, hlt, hr, hc⟩ := h k hk
  exact ⟨b, off, cs, ha, hlt, hr, fun j u hu => (hb.cell (p := ⟨b, _, none⟩) (by show b < C; omega)).trans (hc j u hu)⟩

theorem SlR.mono {α : Type} {w : World} {B C size : Nat} {R R' : α → List Value → Prop} {a : Option Addr} {l : List α} (h : SlR w B size R a l) (hB : B ≤ C) (hR : ∀ x ∈ l, ∀ cs, R x cs → R' x cs) : SlR w C size R' a l := by
  intro k hk
  obtain ⟨b, off, cs, ha, hlt, hr, hc⟩ := h k hk
  exact ⟨b, off, cs, ha, by omega, hR _ (List.getElem_mem hk) _ hr, hc⟩

theorem SlR.nil {α : Type} {w : World} {B size : Nat} {R : α → List Value → Prop} {a : Option Addr} : SlR w B size R a [] := by
  intro k hk; simp at hk

theorem exists_list {α : Type} {Q : Nat → α → Prop} : ∀ n, (∀ i, i < n → ∃ x, Q i x) → ∃ l : List α, l.length = n ∧ ∀ i (h : i < l.length), Q i l[i]
  | 0, _ => ⟨[], rfl, fun i h => absurd h (by simp)⟩
  | n + 1, hq => by
    obtain ⟨l, hl, h⟩ := exists_list n (fun i hi => hq i (by omega))
    obtain ⟨x, hx⟩ := hq n (by omega)
    refine ⟨l ++ [x], by simp [hl], fun i hi => ?_⟩
    by_cases hin : i < l.length
    · rw [List.getElem_append_left hin]; exact h i hin
    · have hi' : i = n := by simp at hi; omega
      subst hi'
      have : (l ++ [x])[i] = x := by simp [← hl]
      rw [this]; exact hx

/-- A slice that came in, element by element. -/
theorem slr_of_trod {α H : Type} {enc : TypeId × Value → H} {P : Program} {w : World} {R : α → List Value → Prop} {t e : TypeId} {fuel : Nat} {cs : List Value} {x : DataW H × List MemPlace} {sp : Nat → Bool}
    (ht : P.underlying t = some (.slice e)) (hpos : 0 < P.cellsOf e) (hE : ∀ n cs y, cs.length = P.cellsOf e → DataW.trod enc P w 0 sp true n e cs = some y → ∃ x : α, R x cs) (h : DataW.trod enc P w 0 sp true fuel t cs = some x) :
    ∃ (a : Option Addr) (len cap : Nat) (l : List α), cs = [.slice a len cap] ∧ l.length = len ∧ len ≤ cap ∧ cap ≤ maxLen ∧ SlR w w.heap.size (P.cellsOf e) R a l := by
  rcases open_slice ht h with ⟨rfl, _⟩ | ⟨a, len, cap, m, n, D, Pl, rfl, _, hl, hm, hmm, _, hi⟩
  · exact ⟨none, 0, 0, [], rfl, rfl, Nat.le_refl _, Nat.zero_le _, .nil⟩
  · have hlm : len ≤ m := by rw [hmm]; split <;> omega
    have each : ∀ i, i < len → ∃ x : α, ∃ b off cs, some a = some ⟨b, off, none⟩ ∧ b < w.heap.size ∧ R x cs ∧ ∀ j u, cs[j]? = some u → w.cell? ⟨b, off + i * P.cellsOf e + j, none⟩ = some u := by
      intro i hi'
      obtain ⟨cs', h1, h2⟩ := hi i (by omega)
      obtain ⟨_, hlen, hcell⟩ := World.cells?_some h1
      obtain ⟨x, hx⟩ := hE _ _ _ hlen h2
      obtain ⟨ab, ao, asp⟩ := a
      have h0 := hcell 0 hpos
      have hv0 : cs'[0]? = some (cs'[0]'(by omega)) := List.getElem?_eq_getElem (by omega)
      rw [hv0] at h0
      have hsp : asp = none := by
        cases asp with
        | none => rfl
        | some s =>
          exfalso
          rcases open_slice ht h with ⟨he, _⟩ | ⟨a', len', cap', m', n', D', Pl', hcs', _, hl', hm', hmm', _, hj'⟩
          · cases he
          · obtain ⟨rfl, rfl, rfl⟩ : a' = ⟨ab, ao, some s⟩ ∧ len' = len ∧ cap' = cap := by
              injection hcs' with h1 _; injection h1 with h1 h2 h3; injection h1 with h1; exact ⟨h1.symm, h2.symm, h3.symm⟩
            obtain ⟨cs'', h1', h2'⟩ := hj' 0 (by have : len' ≤ m' := by rw [hmm']; split <;> omega
                                                 omega)
            obtain ⟨_, hlen', hcell'⟩ := World.cells?_some h1'
            have h00 := hcell' 0 hpos
            simp only [Nat.zero_mul, Addr.add, if_true] at h00
            have hv0' : cs''[0]? = some (cs''[0]'(by omega)) := List.getElem?_eq_getElem (by omega)
            rw [hv0'] at h00
            unfold World.cell? at h00
            split at h00 <;> simp at h00
      subst hsp
      have eq1 : ∀ j, ((⟨ab, ao, none⟩ : Addr).add (i * P.cellsOf e)).add j = ⟨ab, ao + i * P.cellsOf e + j, none⟩ := by
        intro j
        unfold Addr.add
        by_cases h1 : i * P.cellsOf e = 0 <;> by_cases h2 : j = 0 <;> simp [h1, h2]
      refine ⟨x, ab, ao, cs', rfl, ?_, hx, ?_⟩
      · rcases Nat.lt_or_ge ab w.heap.size with hlt | hge
        · exact hlt
        · exfalso
          rw [eq1] at h0
          unfold World.cell? at h0
          rw [Array.getElem?_eq_none hge] at h0
          cases h0
      · intro j u hu
        have hj : j < cs'.length := (List.getElem?_eq_some_iff.1 hu).1
        have := hcell j (by omega)
        rw [eq1, hu] at this
        exact this
    obtain ⟨l, hl1, hl2⟩ := exists_list len each
    exact ⟨some a, len, cap, l, rfl, hl1, hl, hm, hl2⟩

/-! Slices of a call's own, appended to. -/
def SliceTy (P : Program) (t e : TypeId) (z : Value) (size bytes : Nat) : Prop := ∃ i, P.underlying t = some (.slice e) ∧ P.info? e = some i ∧ i.zero = some z ∧ i.size = size ∧ i.bytes = bytes ∧ z.cells.size = size ∧ 0 < size
theorem SliceTy.mk' {P : Program} {t e : TypeId} {z : Value} {size bytes : Nat} (ht : P.underlying t = some (.slice e)) (hi : (P.info? e).map (fun i => (i.zero, i.size, i.bytes)) = some (some z, size, bytes)) (hz : z.cells.size = size) (h0 : 0 < size) : SliceTy P t e z size bytes := by
  obtain ⟨i, h1, h2, h3, h4⟩ := info_parts hi
  exact ⟨i, ht, h1, h2, h3, h4, hz, h0⟩

theorem wpList_app {P : Program} {ops : Array Oper} {rest : List Oper} {o : Oper} {a : Act} {Q : Exit → Act → World → Prop} {w : World} {t e : TypeId} {z : Value} {size bytes : Nat} (hT : SliceTy P t e z size bytes)
    (s x : Operand) (hgd : o.guard = none) (ho : o.op = .call { callee := .builtin .append, args := #[s, x], argTypes := #[t, t] })
    {base n : Nat} {v : Value} {xs : List Value} (hs : a.eval s = v) (hown : w.ownsRow base e size v n xs)
    {g m c : Nat} {e' : TypeId} {news : Array Value} (hx : a.eval x = .slice (some ⟨g, 0, none⟩) m c) (hb : Blk w g e' news) (hl : news.size = m * size) (h1 : ∀ u ∈ news.toList, u.oneCell' = true)
    (h63 : n + m ≤ maxLen) (hbytes : (n + m) * bytes ≤ 140737488355328) (hbase : base ≤ w.heap.size)
    (h : ∀ v' w', w'.ownsRow base e size v' (n + m) (xs ++ news.toList) → w.grownBy w' v.ownBlock → wpList P ops Q rest (a.put o.dst v') w') : wpList P ops Q (o :: rest) a w := by
  obtain ⟨i, ht, hi, hz, hsz, hby, hzs, h0⟩ := hT
  refine wpList_append_own w hgd s x t ho base e i z size bytes ht hi hz hsz hby hzs h0 v n xs hs hown ⟨g, 0, none⟩ m c news.toList hx (by simpa using hl) ?_ h1 h63 hbytes hbase (fun v' w' h2 h3 _ => h v' w' h2 h3)
  intro j u hu
  have e1 : (⟨g, 0, none⟩ : Addr).add j = ⟨g, j, none⟩ := by unfold Addr.add; by_cases hj : j = 0 <;> simp [hj]
  rw [e1, hb.cell j]
  simpa using hu

theorem own_grown {w0 w w' : World} {base B n size : Nat} {e : TypeId} {v : Value} {xs : List Value} (h : Below B w0 w) (hown : w.ownsRow base e size v n xs) (hg : w.grownBy w' v.ownBlock) (hB : B ≤ base) (hB' : B ≤ w.heap.size) : Below B w0 w' :=
  h.grown hg hB' (fun k hk => by have := (hown.lt k hk).1; omega)
theorem own_below {w w' : World} {base C n size : Nat} {e : TypeId} {v : Value} {xs : List Value} (hown : w.ownsRow base e size v n xs) (h : Below C w w') (hC : w.heap.size ≤ C) : w'.ownsRow base e size v n xs :=
  hown.kept (row := none) ⟨h.os, h.tape, h.output, h.size, fun k hk _ => h.block k (by omega)⟩ (by cases h : v.ownBlock <;> simp)
theorem Blk.grown {w w' : World} {g : Nat} {t : TypeId} {cs : Array Value} {row : Option Nat} (h : Blk w g t cs) (hb : w.grownBy w' row) (hg : some g ≠ row) : Blk w' g t cs := (hb.block g h.lt hg).trans h
theorem own_ne {w : World} {base n size g : Nat} {e : TypeId} {v : Value} {xs : List Value} (h : w.ownsRow base e size v n xs) (hg : g < base) : some g ≠ v.ownBlock := by
  intro he
  have := (h.lt g he.symm).1
  omega
theorem flat_get {α : Type} {c : α → List Value} {size : Nat} : ∀ (l : List α), (∀ x ∈ l, (c x).length = size) → ∀ (k : Nat) (hk : k < l.length) (j : Nat) (u : Value), (c l[k])[j]? = some u → (l.flatMap c)[k * size + j]? = some u
  | [], _, k, hk, _, _, _ => by simp at hk
  | x :: r, hc, 0, _, j, u, hu => by
    have hj : j < (c x).length := (List.getElem?_eq_some_iff.1 hu).1
    simp only [List.flatMap_cons, Nat.zero_mul, Nat.zero_add]
    rw [List.getElem?_append_left hj]
    exact hu
  | x :: r, hc, k + 1, hk, j, u, hu => by
    have hx := hc x (by simp)
    simp only [List.flatMap_cons]
    rw [List.getElem?_append_right (by rw [hx, Nat.succ_mul]; omega)]
    have := flat_get r (fun y hy => hc y (by simp [hy])) k (by simpa using hk) j u (by simpa using hu)
    rw [hx]
    have e2 : (k + 1) * size + j - size = k * size + j := by rw [Nat.succ_mul]; omega
    rw [e2]; exact this
theorem own_slr {α : Type} {w : World} {base size : Nat} {e : TypeId} {v : Value} {c : α → List Value} {l : List α} (h : w.ownsRow base e size v l.length (l.flatMap c)) (hc : ∀ x ∈ l, (c x).length = size) :
    ∃ a cap, v = .slice a l.length cap ∧ SlR w w.heap.size size (fun x cs => cs = c x) a l := by
  rcases h.2 with ⟨rfl, hn⟩ | ⟨g, cap, cur, rfl, hg, hh, h3, h4, h5, h6⟩
  · have : l = [] := List.eq_nil_of_length_eq_zero hn
    subst this
    exact ⟨none, 0, rfl, .nil⟩
  · refine ⟨some ⟨g, 0, none⟩, cap, rfl, ?_⟩
    intro k hk
    refine ⟨g, 0, c l[k], rfl, (h.lt g rfl).2, rfl, ?_⟩
    intro j u hu
    have := h.cells (g := g) rfl (k * size + j) u (flat_get l hc k hk j u hu)
    have e1 : (⟨g, 0, none⟩ : Addr).add (k * size + j) = ⟨g, 0 + k * size + j, none⟩ := by unfold Addr.add; by_cases hj : k * size + j = 0 <;> simp [hj] <;> omega
    rw [e1] at this
    exact this
theorem SlR.of_blk {α : Type} {w : World} {g size : Nat} {t : TypeId} {cs : Array Value} {c : α → List Value} {R : α → List Value → Prop} {l : List α} (h : Blk w g t cs) (hl : cs.toList = l.flatMap c) (hc : ∀ x ∈ l, (c x).length = size) (hR : ∀ x ∈ l, R x (c x)) :
    SlR w (g + 1) size R (some ⟨g, 0, none⟩) l := by
  intro k hk
  refine ⟨g, 0, c l[k], rfl, by omega, hR _ (List.getElem_mem hk), ?_⟩
  intro j u hu
  have := flat_get l hc k hk j u hu
  rw [← hl] at this
  rw [h.cell, Nat.zero_add]
  simpa using this

/-! Slices of numbers. -/
def intIs (x : Int) (cs : List Value) : Prop := cs = [.int .i64 x]
abbrev SlI (w : World) (B : Nat) (a : Option Addr) (l : List Int) : Prop := SlR w B 1 intIs a l
theorem SlR.atI {w : World} {B : Nat} {a : Option Addr} {l : List Int} (h : SlR w B 1 intIs a l) {k : Nat} (hk : k < l.length) : ∃ b off, a = some ⟨b, off, none⟩ ∧ b < B ∧ w.cell? ⟨b, off + k, none⟩ = some (.int .i64 l[k]) := by
  obtain ⟨b, off, cs, ha, hb, rfl, hc⟩ := h k hk
  have := hc 0 _ rfl
  rw [Nat.mul_one, Nat.add_zero] at this
  exact ⟨b, off, ha, hb, this⟩

/-! A field: two texts and a mark. -/
structure Fd where
  name : List UInt8
  value : List UInt8
  never : Bool
def Fd.cells (f : Fd) : List Value := [bstr f.name, bstr f.value, .bool f.never]
def Fd.Is (f : Fd) (cs : List Value) : Prop := cs = f.cells ∧ f.name.length ≤ maxLen ∧ f.value.length ≤ maxLen
abbrev SlF (w : World) (B : Nat) (a : Option Addr) (l : List Fd) : Prop := SlR w B 3 Fd.Is a l

theorem SlR.atF {w : World} {B : Nat} {a : Option Addr} {l : List Fd} (h : SlR w B 3 Fd.Is a l) {k : Nat} (hk : k < l.length) :
    ∃ b off, a = some ⟨b, off, none⟩ ∧ b < B ∧ w.cell? ⟨b, off + k * 3, none⟩ = some (bstr l[k].name) ∧ w.cell? ⟨b, off + k * 3 + 1, none⟩ = some (bstr l[k].value) ∧ w.cell? ⟨b, off + k * 3 + 2, none⟩ = some (.bool l[k].never) ∧
      l[k].name.length ≤ 9223372036854775807 ∧ l[k].value.length ≤ 9223372036854775807 := by
  obtain ⟨b, off, cs, ha, hb, ⟨rfl, h1, h2⟩, hc⟩ := h k hk
  unfold maxLen at h1 h2
  exact ⟨b, off, ha, hb, hc 0 _ rfl, hc 1 _ rfl, hc 2 _ rfl, h1, h2⟩

theorem slF_new {w : World} {g : Nat} {t : TypeId} {cs : Array Value} {l : List Fd} (h : Blk w g t cs) (hl : cs.toList = l.flatMap Fd.cells) (hR : (l.all fun f => decide (f.name.length ≤ maxLen) && decide (f.value.length ≤ maxLen)) = true) : SlF w (g + 1) (some ⟨g, 0, none⟩) l :=
  SlR.of_blk h hl (fun _ _ => rfl) (fun x hx => by
    have := List.all_eq_true.1 hR x hx
    simp only [Bool.and_eq_true, decide_eq_true_eq] at this
    exact ⟨rfl, this.1, this.2⟩)

/-! The closing step of a law: the arguments read as they did; the answer is true. -/
section
variable {H : Type} {enc : TypeId × Value → H} {P : Program}
theorem trodAll_later (hl : laidOutB P = true) {W W' : World} (hb : Below W.heap.size W W') {sp : Nat → Bool} :
    ∀ (ts : List TypeId) (vs : List Value) (ds : List (DataW H)) (ps : List MemPlace), (∀ t ∈ ts, P.readableRec t = true ∧ t < P.types.size) → (∀ p ∈ ps, p.block < W.heap.size) → (∀ p ∈ ps, sp p.block = true) →
      DataW.TrodAll enc P W 0 (fun _ => true) true ts vs ds ps → DataW.TrodAll enc P W' 0 sp true ts vs ds ps
  | [], vs, ds, ps, _, _, _, h => by
    obtain ⟨rfl, rfl, rfl⟩ := trodAll_nil h
    exact rfl
  | t :: ts, vs, ds, ps, ht, hlt, hsp, h => by
    obtain ⟨v, vs', d, ds', p, q, rfl, rfl, rfl, h1, h2⟩ := trodAll_cons h
    have a1 := ht t (by simp)
    refine ⟨p, q, WideElems.Trod_stays hl a1.1 a1.2 h1 (fun x hx => hb.same (hlt x (by simp [hx]))) (fun x hx => hsp x (by simp [hx])), ?_, rfl⟩
    exact trodAll_later hl hb ts vs' ds' q (fun t' h' => ht t' (by simp [h'])) (fun x hx => hlt x (by simp [hx])) (fun x hx => hsp x (by simp [hx])) h2

theorem law_post {f : Func} {s : ChangeSpec} {apart fresh handsOn again : Bool} {W W' : World} {args : Array Value} {v : Value} {ds : List (DataW H)} {before : List MemPlace} {tb : TypeId}
    (hW : DataW.Whole enc P f.params.toList s.vars apart W args.toList ds [] before) (hvs : s.vars = []) (hl : laidOutB P = true) (hts : ∀ t ∈ f.params.toList, P.readableRec t = true ∧ t < P.types.size)
    (hr : f.resultTypes = #[tb]) (htb : P.underlying tb = some .bool) (hfn : s.fn H (ds ++ []) = { results := [.lit (.bool true)], args := ds }) (hv : v = .bool true) (hb : Below W.heap.size W W') :
    s.post enc P f apart fresh handsOn again W args v W' := by
  subst hv
  have hW' := hW
  obtain ⟨p, q, hA, hV, hpq, hz, hn⟩ := hW
  have hq : q = [] := by rw [hvs] at hV; exact hV
  subst hq
  have hps : before = p := by rw [hpq, List.append_nil]
  subst hps
  have hlt : ∀ x ∈ before, x.block < W.heap.size := fun x hx => hW'.lt x hx
  have hold : ∀ x ∈ before, (fun b => decide (b < W.heap.size)) x.block = true := fun x hx => by simpa using hlt x hx
  have hres : ∀ (b : Nat) (sp : Nat → Bool) (hd : Bool), DataW.TrodAll enc P W' b sp hd f.resultTypes.toList ((Value.bool true).resultList f.resultTypes.size) (s.fn H (ds ++ [])).results [] := by
    intro b sp hd
    rw [hfn, hr]
    exact trodAll_cons_mk (shut_bool htb _) trodAll_mk0
  have hargs : ∀ sp : Nat → Bool, (∀ x ∈ before, sp x.block = true) → DataW.TrodAll enc P W' 0 sp true f.params.toList args.toList (s.fn H (ds ++ [])).args before := by
    intro sp hsp
    rw [hfn]
    exact trodAll_later hl hb _ _ _ _ hts hlt hsp hA
  have hvars : ∀ sp : Nat → Bool, DataW.TrodVars enc P W' sp s.vars (s.fn H (ds ++ [])).vars [] := by
    intro sp
    rw [hvs, hfn]
    exact rfl
  refine ⟨ds, [], before, [], before, [], hW', hres _ _ _, hargs _ hold, hvars _, World.keptBut_mono (fun x hx => ⟨hx, .inr (.inl hx)⟩) (hb.frame (· ∈ before)), fun _ => ?_⟩
  refine ⟨?_, _, _, ([] ++ before) ++ [], ⟨[] ++ before, [], trodAll_append (hargs _ (fun _ _ => rfl)) (hres _ _ _), hvars _, rfl, ?_, ?_⟩, ?_⟩
  · exact ok_one hr rfl (okWide_bool_mk htb _)
  · intro b off hp
    have hin : MemPlace.cell b off ∈ before := by simpa using hp
    rw [hb.frozen (hlt _ hin)]
    exact hz b off hin
  · intro ha
    have := hn ha
    simpa using this
  · intro x hx _
    simpa using hx
end
end Go.Proofs.YtmlbomblbdbikaaGreatDoor
/-
  A world that has grown: what a callee leaves behind that only makes memory. With these rules the walk keeps the blocks of its own written out across calls.
-/
namespace Go
structure Junk where
  heap : Array Obj
  drawn : Nat
def World.more (w : World) (j : Junk) : World := { w with heap := w.heap ++ j.heap, drawn := j.drawn }
section
variable {w : World} {j k : Junk}
@[simp, go_sem] theorem World.size_more : (w.more j).heap.size = w.heap.size + j.heap.size := by simp [World.more]
@[simp, go_sem] theorem World.tape_more : (w.more j).tape = w.tape := rfl
theorem World.heap_more (n : Nat) (hn : n < w.heap.size) : (w.more j).heap[n]? = w.heap[n]? := by
  show (w.heap ++ j.heap)[n]? = _
  rw [Array.getElem?_append_left hn]
@[go_sem] theorem World.cell?_more (n i : Nat) (s : Option Nat) (hn : n < w.heap.size) : (w.more j).cell? ⟨n, i, s⟩ = w.cell? ⟨n, i, s⟩ := by
  unfold World.cell?; rw [World.heap_more n hn]
@[go_sem] theorem World.frozen?_more (n i : Nat) (s : Option Nat) (hn : n < w.heap.size) : (w.more j).frozen? ⟨n, i, s⟩ = w.frozen? ⟨n, i, s⟩ := by
  unfold World.frozen?; rw [World.heap_more n hn]
@[go_sem] theorem World.setCell_more (n i : Nat) (s : Option Nat) (v : Value) (hn : n < w.heap.size) : (w.more j).setCell ⟨n, i, s⟩ v = (w.setCell ⟨n, i, s⟩ v).more j := by
  unfold World.setCell World.more
  congr 1
  apply Array.ext_getElem?
  intro q
  simp only [Array.getElem?_modify, Array.getElem?_append, Array.size_modify]
  by_cases hq : n = q
  · subst hq; simp [hn]
  · simp [hq]
@[go_sem] theorem World.more_drew : w.drew.more j = w.more j := rfl
@[go_sem] theorem World.more_drewN (n : Nat) : (w.drewN n).more j = w.more j := rfl
@[go_sem] theorem World.more_more : (w.more j).more k = w.more ⟨j.heap ++ k.heap, k.drawn⟩ := by
  simp [World.more, Array.append_assoc]
@[go_sem] theorem lt_new1 {a c0 : Nat} : (a < a + 1 + c0) = True := eq_true (by omega)
@[go_sem] theorem lt_old1 {a b c0 : Nat} (h : a < b) : (a < b + c0) = True := eq_true (by omega)
@[go_sem] theorem lt_new2 {a c0 c1 : Nat} : (a < a + 1 + c0 + c1) = True := eq_true (by omega)
@[go_sem] theorem lt_old2 {a b c0 c1 : Nat} (h : a < b) : (a < b + c0 + c1) = True := eq_true (by omega)
@[go_sem] theorem lt_new3 {a c0 c1 c2 : Nat} : (a < a + 1 + c0 + c1 + c2) = True := eq_true (by omega)
@[go_sem] theorem lt_old3 {a b c0 c1 c2 : Nat} (h : a < b) : (a < b + c0 + c1 + c2) = True := eq_true (by omega)
@[go_sem] theorem lt_new4 {a c0 c1 c2 c3 : Nat} : (a < a + 1 + c0 + c1 + c2 + c3) = True := eq_true (by omega)
@[go_sem] theorem lt_old4 {a b c0 c1 c2 c3 : Nat} (h : a < b) : (a < b + c0 + c1 + c2 + c3) = True := eq_true (by omega)
@[go_sem] theorem lt_new5 {a c0 c1 c2 c3 c4 : Nat} : (a < a + 1 + c0 + c1 + c2 + c3 + c4) = True := eq_true (by omega)
@[go_sem] theorem lt_old5 {a b c0 c1 c2 c3 c4 : Nat} (h : a < b) : (a < b + c0 + c1 + c2 + c3 + c4) = True := eq_true (by omega)
@[go_sem] theorem lt_new6 {a c0 c1 c2 c3 c4 c5 : Nat} : (a < a + 1 + c0 + c1 + c2 + c3 + c4 + c5) = True := eq_true (by omega)
@[go_sem] theorem lt_old6 {a b c0 c1 c2 c3 c4 c5 : Nat} (h : a < b) : (a < b + c0 + c1 + c2 + c3 + c4 + c5) = True := eq_true (by omega)
@[go_sem] theorem lt_new7 {a c0 c1 c2 c3 c4 c5 c6 : Nat} : (a < a + 1 + c0 + c1 + c2 + c3 + c4 + c5 + c6) = True := eq_true (by omega)
@[go_sem] theorem lt_old7 {a b c0 c1 c2 c3 c4 c5 c6 : Nat} (h : a < b) : (a < b + c0 + c1 + c2 + c3 + c4 + c5 + c6) = True := eq_true (by omega)
@[go_sem] theorem lt_new8 {a c0 c1 c2 c3 c4 c5 c6 c7 : Nat} : (a < a + 1 + c0 + c1 + c2 + c3 + c4 + c5 + c6 + c7) = True := eq_true (by omega)
@[go_sem] theorem lt_old8 {a b c0 c1 c2 c3 c4 c5 c6 c7 : Nat} (h : a < b) : (a < b + c0 + c1 + c2 + c3 + c4 + c5 + c6 + c7) = True := eq_true (by omega)
@[go_sem] theorem lt_new9 {a c0 c1 c2 c3 c4 c5 c6 c7 c8 : Nat} : (a < a + 1 + c0 + c1 + c2 + c3 + c4 + c5 + c6 + c7 + c8) = True := eq_true (by omega)
@[go_sem] theorem lt_old9 {a b c0 c1 c2 c3 c4 c5 c6 c7 c8 : Nat} (h : a < b) : (a < b + c0 + c1 + c2 + c3 + c4 + c5 + c6 + c7 + c8) = True := eq_true (by omega)
@[go_sem] theorem lt_new10 {a c0 c1 c2 c3 c4 c5 c6 c7 c8 c9 : Nat} : (a < a + 1 + c0 + c1 + c2 + c3 + c4 + c5 + c6 + c7 + c8 + c9) = True := eq_true (by omega)
@[go_sem] theorem lt_old10 {a b c0 c1 c2 c3 c4 c5 c6 c7 c8 c9 : Nat} (h : a < b) : (a < b + c0 + c1 + c2 + c3 + c4 + c5 + c6 + c7 + c8 + c9) = True := eq_true (by omega)
@[go_sem] theorem lt_new11 {a c0 c1 c2 c3 c4 c5 c6 c7 c8 c9 c10 : Nat} : (a < a + 1 + c0 + c1 + c2 + c3 + c4 + c5 + c6 + c7 + c8 + c9 + c10) = True := eq_true (by omega)
@[go_sem] theorem lt_old11 {a b c0 c1 c2 c3 c4 c5 c6 c7 c8 c9 c10 : Nat} (h : a < b) : (a < b + c0 + c1 + c2 + c3 + c4 + c5 + c6 + c7 + c8 + c9 + c10) = True := eq_true (by omega)
@[go_sem] theorem lt_new12 {a c0 c1 c2 c3 c4 c5 c6 c7 c8 c9 c10 c11 : Nat} : (a < a + 1 + c0 + c1 + c2 + c3 + c4 + c5 + c6 + c7 + c8 + c9 + c10 + c11) = True := eq_true (by omega)
@[go_sem] theorem lt_old12 {a b c0 c1 c2 c3 c4 c5 c6 c7 c8 c9 c10 c11 : Nat} (h : a < b) : (a < b + c0 + c1 + c2 + c3 + c4 + c5 + c6 + c7 + c8 + c9 + c10 + c11) = True := eq_true (by omega)
@[go_sem] theorem lt_new13 {a c0 c1 c2 c3 c4 c5 c6 c7 c8 c9 c10 c11 c12 : Nat} : (a < a + 1 + c0 + c1 + c2 + c3 + c4 + c5 + c6 + c7 + c8 + c9 + c10 + c11 + c12) = True := eq_true (by omega)
@[go_sem] theorem lt_old13 {a b c0 c1 c2 c3 c4 c5 c6 c7 c8 c9 c10 c11 c12 : Nat} (h : a < b) : (a < b + c0 + c1 + c2 + c3 + c4 + c5 + c6 + c7 + c8 + c9 + c10 + c11 + c12) = True := eq_true (by omega)
@[go_sem] theorem lt_new14 {a c0 c1 c2 c3 c4 c5 c6 c7 c8 c9 c10 c11 c12 c13 : Nat} : (a < a + 1 + c0 + c1 + c2 + c3 + c4 + c5 + c6 + c7 + c8 + c9 + c10 + c11 + c12 + c13) = True := eq_true (by omega)
@[go_sem] theorem lt_old14 {a b c0 c1 c2 c3 c4 c5 c6 c7 c8 c9 c10 c11 c12 c13 : Nat} (h : a < b) : (a < b + c0 + c1 + c2 + c3 + c4 + c5 + c6 + c7 + c8 + c9 + c10 + c11 + c12 + c13) = True := eq_true (by omega)
@[go_sem] theorem lt_new15 {a c0 c1 c2 c3 c4 c5 c6 c7 c8 c9 c10 c11 c12 c13 c14 : Nat} : (a < a + 1 + c0 + c1 + c2 + c3 + c4 + c5 + c6 + c7 + c8 + c9 + c10 + c11 + c12 + c13 + c14) = True := eq_true (by omega)
@[go_sem] theorem lt_old15 {a b c0 c1 c2 c3 c4 c5 c6 c7 c8 c9 c10 c11 c12 c13 c14 : Nat} (h : a < b) : (a < b + c0 + c1 + c2 + c3 + c4 + c5 + c6 + c7 + c8 + c9 + c10 + c11 + c12 + c13 + c14) = True := eq_true (by omega)
@[go_sem] theorem lt_new16 {a c0 c1 c2 c3 c4 c5 c6 c7 c8 c9 c10 c11 c12 c13 c14 c15 : Nat} : (a < a + 1 + c0 + c1 + c2 + c3 + c4 + c5 + c6 + c7 + c8 + c9 + c10 + c11 + c12 + c13 + c14 + c15) = True := eq_true (by omega)
@[go_sem] theorem lt_old16 {a b c0 c1 c2 c3 c4 c5 c6 c7 c8 c9 c10 c11 c12 c13 c14 c15 : Nat} (h : a < b) : (a < b + c0 + c1 + c2 + c3 + c4 + c5 + c6 + c7 + c8 + c9 + c10 + c11 + c12 + c13 + c14 + c15) = True := eq_true (by omega)
end
namespace RowKit
theorem Below.ofMore {B : Nat} {a w : World} (h : Below B a w) (hB : B ≤ w.heap.size) (j : Junk) : Below B a (w.more j) :=
  h.trans ⟨rfl, rfl, rfl, by simp, fun k hk => World.heap_more k (by omega)⟩
theorem Below.junk {w w' : World} (h : Below w.heap.size w w') : ∃ j, w' = w.more j := by
  refine ⟨⟨w'.heap.extract w.heap.size w'.heap.size, w'.drawn⟩, ?_⟩
  have e : w'.heap = w.heap ++ w'.heap.extract w.heap.size w'.heap.size := by
    apply Array.ext_getElem?
    intro k
    rw [Array.getElem?_append]
    split
    · rename_i hk; exact h.block k hk
    · rename_i hk
      rw [Array.getElem?_extract]
      have := h.size
      by_cases hk2 : k < w'.heap.size
      · rw [if_pos (by omega)]; congr 1; omega
      · rw [if_neg (by omega), Array.getElem?_eq_none (by omega)]
  cases w'
  cases w
  obtain ⟨h1, h2, h3, h4, h5⟩ := h
  simp only at h1 h2 h3 e
  subst h1 h2 h3
  simp only [World.more]
  exact congrArg (fun x => ({ heap := x, tape := _, drawn := _, os := _, output := _ } : World)) e
theorem Below.allocS {a w : World} (h : Below a.heap.size a w) (o : Obj) : Below a.heap.size a (w.alloc o) := h.alloc h.size o
theorem Below.moreS {a w : World} (h : Below a.heap.size a w) (j : Junk) : Below a.heap.size a (w.more j) := h.ofMore h.size j
theorem outs {P : Program} {f : Nat} {args : Array Value} {w : World} {v : Value} (h : Calls P f args w fun e w' => e = .returned v ∧ Below w.heap.size w w') : Calls P f args w fun e w' => e = .returned v ∧ ∃ j, w' = w.more j :=
  h.mono fun _ _ ⟨he, hb⟩ => ⟨he, hb.junk⟩
end RowKit
end Go
namespace Go.Proofs.YtmlbomblbdbikaaGreatDoor
set_option linter.unusedSimpArgs false
set_option linter.unusedVariables false
set_option linter.unusedSectionVars false
open Go.ChangeShapes Go.WideShapes Go.ChangeAt Go.RowKit Go.Deep
theorem Blk.more {w : World} {g : Nat} {t : TypeId} {cs : Array Value} (h : Blk w g t cs) (j : Junk) : Blk (w.more j) g t cs := (World.heap_more g h.lt).trans h
/-! Short words: what a walk asks of a grown world. -/
theorem bel {B : Nat} {a w : World} (h : Below B a w := by repeat (first | (with_reducible exact Below.refl _ _) | (with_reducible refine Below.allocS ?_ _) | (with_reducible refine Below.moreS ?_ _) | (with_reducible refine Below.drew ?_) | (with_reducible refine below_drewN ?_ _))) : Below B a w := h
theorem blk {w : World} {g : Nat} {t : TypeId} {cs : Array Value} (h : Blk w g t cs := by repeat (first | ((with_reducible apply Blk.at_); (simp; done)) | (with_reducible apply Blk.alloc) | (with_reducible apply Blk.more) | (with_reducible apply Blk.drew))) : Blk w g t cs := h
theorem mo {P : Program} {f : FuncId} {args : Array Value} {w : World} {v : Value} {Q : Ending → World → Prop} (h : Calls P f args w fun e w' => e = .returned v ∧ ∃ j, w' = w.more j) (k : ∀ j, Q (.returned v) (w.more j)) : Calls P f args w Q :=
  h.mono fun _ _ ⟨he, j, hj⟩ => he ▸ hj ▸ k j
theorem mq {P : Program} {f : FuncId} {args : Array Value} {w : World} {v : Value} {Q : Ending → World → Prop} (h : Calls P f args w fun e w' => e = .returned v ∧ w = w') (k : Q (.returned v) w) : Calls P f args w Q :=
  h.mono fun _ _ ⟨he, hj⟩ => he ▸ hj ▸ k
end Go.Proofs.YtmlbomblbdbikaaGreatDoor
/-
  An append whose source is a slice that is known element by element; slices of slices.
-/
namespace Go.Proofs.YtmlbomblbdbikaaGreatDoor
set_option linter.unusedSimpArgs false
set_option linter.unusedVariables false
set_option linter.unusedSectionVars false
open Go.ChangeShapes Go.WideShapes Go.ChangeAt Go.RowKit Go.Deep

theorem run_append_nil {P : Program} (w : World) (base : Nat) (t ty e : TypeId) (i : TypeInfo) (size : Nat) (ht : P.underlying t = some (.slice e)) (hi : P.info? e = some i)
    (v : Value) (n : Nat) (xs : List Value) (hown : w.ownsRow base e size v n xs) (A : Option Addr) (c : Nat) (hA : A = none) : (Builtin.append_ #[t, t] ty #[v, .slice A 0 c]).run P w = .ok v w := by
  subst hA
  rcases hown.2 with ⟨rfl, rfl⟩ | ⟨g, cap, cur, rfl, _, _, hnc, _⟩
  · simp [Builtin.append_, run_underlying ht, sizeOf, typeInfo, hi, Builtin.lenOf, Builtin.firstCells]
  · simp [Builtin.append_, run_underlying ht, sizeOf, typeInfo, hi, Builtin.lenOf, Builtin.firstCells, hnc, storeCells]

/-- One append: onto a row of the call's own, from a slice that reads as ms. -/
theorem wpList_app_sl {α : Type} {P : Program} {ops : Array Oper} {rest : List Oper} {o : Oper} {a : Act} {Q : Exit → Act → World → Prop} {w : World} {t e : TypeId} {z : Value} {size bytes : Nat} (hT : SliceTy P t e z size bytes)
    (s x : Operand) (hgd : o.guard = none) (ho : o.op = .call { callee := .builtin .append, args := #[s, x], argTypes := #[t, t] })
    {base n : Nat} {v : Value} {xs : List Value} (hs : a.eval s = v) (hown : w.ownsRow base e size v n xs)
    {A : Option Addr} {m c B : Nat} {R : α → List Value → Prop} {cf : α → List Value} {ms : List α} (hx : a.eval x = .slice A m c) (hm : ms.length = m) (hr : SlR w B size R A ms) (hR : ∀ y ∈ ms, ∀ cs, R y cs → cs = cf y) (hc : ∀ y ∈ ms, (cf y).length = size) (h1 : ∀ y ∈ ms, ∀ u ∈ cf y, u.oneCell' = true)
    (h63 : n + m ≤ maxLen) (hbytes : (n + m) * bytes ≤ 140737488355328) (hbase : base ≤ w.heap.size)
    (h : ∀ v' w', w'.ownsRow base e size v' (n + m) (xs ++ ms.flatMap cf) → w.grownBy w' v.ownBlock → wpList P ops Q rest (a.put o.dst v') w') : wpList P ops Q (o :: rest) a w := by
  subst hm
  obtain ⟨i, ht, hi, hz, hsz, hby, hzs, h0⟩ := hT
  rcases A with _ | ad
  · have hms : ms = [] := by
      rcases Nat.eq_zero_or_pos ms.length with hn | hp
      · exact List.eq_nil_of_length_eq_zero hn
      · obtain ⟨_, _, _, hA, _⟩ := hr 0 hp
        cases hA
    subst hms
    refine wpList_plain hgd fun _ hK => ?_
    unfold Oper.wp execOp
    simp only [ho, resolve, invoke, builtin, Sem.run_bind, Sem.run_pure, Result.andThen_ok, List.map_toArray, List.map_cons, List.map_nil, hs, hx, run_append_nil (P := P) w base t o.type e i size ht hi v n xs hown none c rfl, List.length_nil]
    exact hK _ _ (h v w (by simpa using hown) (World.grownBy.refl w _))
  · have hlen : (ms.flatMap cf).length = ms.length * size := by
      clear h hr hR h1 h63 hbytes hx
      induction ms with
      | nil => simp
      | cons y r ih =>
        simp only [List.flatMap_cons, List.length_append, List.length_cons, Nat.add_mul, Nat.one_mul]
        rw [ih (fun z hz => hc z (by simp [hz])), hc y (by simp)]
        omega
    refine wpList_append_own w hgd s x t ho base e i z size bytes ht hi hz hsz hby hzs h0 v n xs hs hown ad ms.length c (ms.flatMap cf) hx hlen ?_ ?_ h63 hbytes hbase (fun v' w' h2 h3 _ => h v' w' h2 h3)
    · intro j u hu
      have hj : j < ms.length * size := by rw [← hlen]; exact (List.getElem?_eq_some_iff.1 hu).1
      have hk : j / size < ms.length := Nat.div_lt_of_lt_mul (by rw [Nat.mul_comm]; exact hj)
      obtain ⟨b, off, cs, hA, _, hRk, hcell⟩ := hr _ hk
      injection hA with hA
      subst hA
      have hcs := hR _ (List.getElem_mem hk) _ hRk
      subst hcs
      have hjr : j % size < (cf ms[j / size]).length := by rw [hc _ (List.getElem_mem hk)]; exact Nat.mod_lt _ h0
      have hj2 : j / size * size + j % size = j := by rw [Nat.mul_comm]; exact Nat.div_add_mod j size
      have hu2 := flat_get ms hc _ hk _ _ (List.getElem?_eq_getElem hjr)
      rw [hj2, hu] at hu2
      have := hcell (j % size) _ (List.getElem?_eq_getElem hjr)
      rw [Nat.add_assoc, hj2] at this
      have e1 : (⟨b, off, none⟩ : Addr).add j = ⟨b, off + j, none⟩ := by unfold Addr.add; by_cases hz : j = 0 <;> simp [hz]
      rw [e1, this, hu2]
    · intro u hu
      obtain ⟨y, hy, hu⟩ := List.mem_flatMap.1 hu
      exact h1 y hy u hu

theorem SlR.take {α : Type} {w : World} {B size : Nat} {R : α → List Value → Prop} {a : Option Addr} {l : List α} (h : SlR w B size R a l) (n : Nat) : SlR w B size R a (l.take n) := by
  intro k hk
  have hk' : k < l.length := by simp at hk; omega
  obtain ⟨b, off, cs, ha, hb, hr, hc⟩ := h k hk'
  exact ⟨b, off, cs, ha, hb, by simpa using hr, hc⟩
theorem SlR.drop {α : Type} {w : World} {B size : Nat} {R : α → List Value → Prop} {a : Option Addr} {l : List α} (h : SlR w B size R a l) (n : Nat) : SlR w B size R (a.map (·.add (n * size))) (l.drop n) := by
  intro k hk
  have hk' : n + k < l.length := by simp at hk; omega
  obtain ⟨b, off, cs, ha, hb, hr, hc⟩ := h (n + k) hk'
  subst ha
  have e1 : (⟨b, off, none⟩ : Addr).add (n * size) = ⟨b, off + n * size, none⟩ := by unfold Addr.add; by_cases hz : n * size = 0 <;> simp [hz]
  refine ⟨b, off + n * size, cs, by simp [e1], hb, by simpa using hr, fun j u hu => ?_⟩
  have := hc j u hu
  rw [Nat.add_mul] at this
  rw [← this]
  congr 2
  omega
theorem SlR.drop_if {α : Type} {w : World} {B size cap : Nat} {R : α → List Value → Prop} {a : Option Addr} {l : List α} (h : SlR w B size R a l) (n : Nat) (hc : l.length ≤ cap) : SlR w B size R (if cap = n then a else a.map (·.add (n * size))) (l.drop n) := by
  split
  · rename_i hn
    rw [List.drop_of_length_le (by omega)]
    exact .nil
  · exact h.drop n
theorem fd_cells : ∀ (y : Fd) (cs : List Value), y.Is cs → cs = y.cells := fun _ _ h => h.1
end Go.Proofs.YtmlbomblbdbikaaGreatDoor
/-
  An append as one step of a region that draws its order.
-/
namespace Go.Proofs.YtmlbomblbdbikaaGreatDoor
set_option linter.unusedSimpArgs false
set_option linter.unusedVariables false
set_option linter.unusedSectionVars false
open Go.ChangeShapes Go.WideShapes Go.ChangeAt Go.RowKit Go.Deep

theorem step_core {P : Program} {ops : Array Oper} {o : Oper} {a : Act} {K : Act → World → Prop} {Q : Exit → Act → World → Prop} {E : Prop} {w w' : World} {t : TypeId} {v V v' : Value} (hgd : o.guard = none) (s x : Operand)
    (ho : o.op = .call { callee := .builtin .append, args := #[s, x], argTypes := #[t, t] }) (hs : a.eval s = v) (hx : a.eval x = V)
    (hrun : (Builtin.append_ #[t, t] o.type #[v, V]).run P w = .ok v' w') (h : K (a.put o.dst v') w') : if Region.wanted o (yielded ops a.tmps) = true then Oper.wp P o a w K Q else E := by
  have hw : Region.wanted o (yielded ops a.tmps) = true := by simp [Region.wanted, hgd]
  rw [if_pos hw]
  unfold Oper.wp
  simp [execOp, ho, resolve, invoke, builtin, hs, hx, hrun, Result.andThen]
  exact h

theorem run_app_sl {α : Type} {P : Program} {w : World} {t e ty : TypeId} {z : Value} {size bytes : Nat} (hT : SliceTy P t e z size bytes)
    {base n : Nat} {v : Value} {xs : List Value} (hown : w.ownsRow base e size v n xs)
    {A : Option Addr} {c B : Nat} {R : α → List Value → Prop} {cf : α → List Value} {ms : List α} (hr : SlR w B size R A ms) (hR : ∀ y ∈ ms, ∀ cs, R y cs → cs = cf y) (hc : ∀ y ∈ ms, (cf y).length = size) (h1 : ∀ y ∈ ms, ∀ u ∈ cf y, u.oneCell' = true)
    (h63 : n + ms.length ≤ maxLen) (hbytes : (n + ms.length) * bytes ≤ 140737488355328) (hbase : base ≤ w.heap.size) :
    ∃ v' w', (Builtin.append_ #[t, t] ty #[v, .slice A ms.length c]).run P w = .ok v' w' ∧ w'.ownsRow base e size v' (n + ms.length) (xs ++ ms.flatMap cf) ∧ w.grownBy w' v.ownBlock := by
  obtain ⟨i, ht, hi, hz, hsz, hby, hzs, h0⟩ := hT
  rcases A with _ | ad
  · have hms : ms = [] := by
      rcases Nat.eq_zero_or_pos ms.length with hn | hp
      · exact List.eq_nil_of_length_eq_zero hn
      · obtain ⟨_, _, _, hA, _⟩ := hr 0 hp
        cases hA
    subst hms
    exact ⟨v, w, run_append_nil (P := P) w base t ty e i size ht hi v n xs hown none c rfl, by simpa using hown, World.grownBy.refl w _⟩
  · have hlen : (ms.flatMap cf).length = ms.length * size := by
      clear hr hR h1 h63 hbytes
      induction ms with
      | nil => simp
      | cons y r ih =>
        simp only [List.flatMap_cons, List.length_append, List.length_cons, Nat.add_mul, Nat.one_mul]
        rw [ih (fun z hz => hc z (by simp [hz])), hc y (by simp)]
        omega
    obtain ⟨v', w', e1, e2, e3, _⟩ := run_append_own w base t ty e i z size bytes ht hi hz hsz hby hzs h0 v n xs hown ad ms.length c (ms.flatMap cf) hlen (by
      intro j u hu
      have hj : j < ms.length * size := by rw [← hlen]; exact (List.getElem?_eq_some_iff.1 hu).1
      have hk : j / size < ms.length := Nat.div_lt_of_lt_mul (by rw [Nat.mul_comm]; exact hj)
      obtain ⟨b, off, cs, hA, _, hRk, hcell⟩ := hr _ hk
      injection hA with hA
      subst hA
      have hcs := hR _ (List.getElem_mem hk) _ hRk
      subst hcs
      have hjr : j % size < (cf ms[j / size]).length := by rw [hc _ (List.getElem_mem hk)]; exact Nat.mod_lt _ h0
      have hj2 : j / size * size + j % size = j := by rw [Nat.mul_comm]; exact Nat.div_add_mod j size
      have hu2 := flat_get ms hc _ hk _ _ (List.getElem?_eq_getElem hjr)
      rw [hj2, hu] at hu2
      have := hcell (j % size) _ (List.getElem?_eq_getElem hjr)
      rw [Nat.add_assoc, hj2] at this
      have e1 : (⟨b, off, none⟩ : Addr).add j = ⟨b, off + j, none⟩ := by unfold Addr.add; by_cases hz : j = 0 <;> simp [hz]
      rw [e1, this, hu2]) (by
      intro u hu
      obtain ⟨y, hy, hu⟩ := List.mem_flatMap.1 hu
      exact h1 y hy u hu) h63 hbytes hbase
    exact ⟨v', w', e1, e2, e3⟩

/-- One append, from a slice that reads as ms. -/
theorem step_app_sl {α : Type} {P : Program} {ops : Array Oper} {o : Oper} {a : Act} {K : Act → World → Prop} {Q : Exit → Act → World → Prop} {E : Prop} {w : World} {t e : TypeId} {z : Value} {size bytes : Nat} (hT : SliceTy P t e z size bytes)
    (s x : Operand) (hgd : o.guard = none) (ho : o.op = .call { callee := .builtin .append, args := #[s, x], argTypes := #[t, t] })
    {base n : Nat} {v : Value} {xs : List Value} (hs : a.eval s = v) (hown : w.ownsRow base e size v n xs)
    {A : Option Addr} {m c B : Nat} {R : α → List Value → Prop} {cf : α → List Value} {ms : List α} (hx : a.eval x = .slice A m c) (hm : ms.length = m) (hr : SlR w B size R A ms) (hR : ∀ y ∈ ms, ∀ cs, R y cs → cs = cf y) (hc : ∀ y ∈ ms, (cf y).length = size) (h1 : ∀ y ∈ ms, ∀ u ∈ cf y, u.oneCell' = true)
    (h63 : n + m ≤ maxLen) (hbytes : (n + m) * bytes ≤ 140737488355328) (hbase : base ≤ w.heap.size)
    (h : ∀ v' w', w'.ownsRow base e size v' (n + m) (xs ++ ms.flatMap cf) → w.grownBy w' v.ownBlock → K (a.put o.dst v') w') : if Region.wanted o (yielded ops a.tmps) = true then Oper.wp P o a w K Q else E := by
  subst hm
  obtain ⟨v', w', e1, e2, e3⟩ := run_app_sl (ty := o.type) (c := c) hT hown hr hR hc h1 h63 hbytes hbase
  exact step_core hgd s x ho hs hx e1 (h v' w' e2 e3)

/-- One append, from a block. -/
theorem step_app {P : Program} {ops : Array Oper} {o : Oper} {a : Act} {K : Act → World → Prop} {Q : Exit → Act → World → Prop} {E : Prop} {w : World} {t e : TypeId} {z : Value} {size bytes : Nat} (hT : SliceTy P t e z size bytes)
    (s x : Operand) (hgd : o.guard = none) (ho : o.op = .call { callee := .builtin .append, args := #[s, x], argTypes := #[t, t] })
    {base n : Nat} {v : Value} {xs : List Value} (hs : a.eval s = v) (hown : w.ownsRow base e size v n xs)
    {g m c : Nat} {e' : TypeId} {news : Array Value} (hx : a.eval x = .slice (some ⟨g, 0, none⟩) m c) (hb : Blk w g e' news) (hl : news.size = m * size) (h1 : ∀ u ∈ news.toList, u.oneCell' = true)
    (h63 : n + m ≤ maxLen) (hbytes : (n + m) * bytes ≤ 140737488355328) (hbase : base ≤ w.heap.size)
    (h : ∀ v' w', w'.ownsRow base e size v' (n + m) (xs ++ news.toList) → w.grownBy w' v.ownBlock → K (a.put o.dst v') w') : if Region.wanted o (yielded ops a.tmps) = true then Oper.wp P o a w K Q else E := by
  obtain ⟨i, ht, hi, hz, hsz, hby, hzs, h0⟩ := hT
  obtain ⟨v', w', e1, e2, e3, _⟩ := run_append_own w base t o.type e i z size bytes ht hi hz hsz hby hzs h0 v n xs hown ⟨g, 0, none⟩ m c news.toList (by simpa using hl) (by
    intro j u hu
    have e1 : (⟨g, 0, none⟩ : Addr).add j = ⟨g, j, none⟩ := by unfold Addr.add; by_cases hj : j = 0 <;> simp [hj]
    rw [e1, hb.cell j]
    simpa using hu) h1 h63 hbytes hbase
  exact step_core hgd s x ho hs hx e1 (h v' w' e2 e3)
end Go.Proofs.YtmlbomblbdbikaaGreatDoor
/-
  Bytes of a call's own: appended to, read, turned into a text.
-/
namespace Go.Proofs.YtmlbomblbdbikaaGreatDoor
set_option linter.unusedSimpArgs false
set_option linter.unusedVariables false
set_option linter.unusedSectionVars false
open Go.ChangeShapes Go.WideShapes Go.ChangeAt Go.RowKit Go.Deep

theorem byteCells_snoc (l : List UInt8) (c : UInt8) : Lib.byteCells (l ++ [c]) = Lib.byteCells l ++ [.int .u8 (c.toNat : Int)] := by
  rw [Lib.byteCells, Lib.byteCells, List.map_append]; rfl
theorem byteCells_len (l : List UInt8) : (Lib.byteCells l).length = l.length := by simp [Lib.byteCells]
theorem st_bytes : SliceTy Tryz.prog 38 5 (.int .u8 0) 1 1 := .mk' Tryz.underlying38 (by kernel_rfl) rfl (by omega)
def OwnB (B : Nat) (w : World) (v : Value) (l : List UInt8) : Prop := w.ownsRow B 5 1 v l.length (Lib.byteCells l)
theorem OwnB.nil (B : Nat) (w : World) : OwnB B w (.slice none 0 0) [] := World.ownsRow_nil _ _ _ _
theorem OwnB.alloc {B : Nat} {w : World} {v : Value} {l : List UInt8} (h : OwnB B w v l) (o : Obj) : OwnB B (w.alloc o) v l := World.ownsRow.alloc h o
theorem OwnB.below {B C : Nat} {w w' : World} {v : Value} {l : List UInt8} (h : OwnB B w v l) (hb : Below C w w') (hC : w.heap.size ≤ C) : OwnB B w' v l := own_below h hb hC
theorem OwnB.more {B : Nat} {w : World} {v : Value} {l : List UInt8} (h : OwnB B w v l) (j : Junk) : OwnB B (w.more j) v l := h.below (C := w.heap.size) (Below.moreS (Below.refl _ _) j) (Nat.le_refl _)
theorem app_byte {ops : Array Oper} {rest : List Oper} {o : Oper} {a : Act} {Q : Exit → Act → World → Prop} {w : World}
    (s x : Operand) (hgd : o.guard = none) (ho : o.op = .call { callee := .builtin .append, args := #[s, x], argTypes := #[38, 38] })
    {B : Nat} {v : Value} {l : List UInt8} {c : UInt8} (hs : a.eval s = v) (hown : OwnB B w v l)
    {g cc : Nat} {e' : TypeId} (hx : a.eval x = .slice (some ⟨g, 0, none⟩) 1 cc) (hb : Blk w g e' #[.int .u8 (c.toNat : Int)])
    (hl : l.length + 1 ≤ 140737488355328) (hB : B ≤ w.heap.size)
    (h : ∀ v' w', OwnB B w' v' (l ++ [c]) → Below B w w' → wpList Tryz.prog ops Q rest (a.put o.dst v') w') : wpList Tryz.prog ops Q (o :: rest) a w := by
  refine wpList_app st_bytes s x hgd ho hs hown hx hb rfl (by intro u hu; simp at hu; subst hu; rfl) (by unfold maxLen; omega) (by omega) hB (fun v' w' h1 h2 => h v' w' ?_ (own_grown (Below.refl B w) hown h2 (Nat.le_refl _) hB))
  unfold OwnB
  rw [byteCells_snoc, List.length_append]
  exact h1
theorem OwnB.bytes {B : Nat} {w : World} {v : Value} {l : List UInt8} (h : OwnB B w v l) : (v = .slice none 0 0 ∧ l = []) ∨ ∃ g cap, v = .slice (some ⟨g, 0, none⟩) l.length cap ∧ B ≤ g ∧ g < w.heap.size ∧ Lib.Bytes w g 0 ⟨l.toArray⟩ := by
  rcases h.2 with ⟨rfl, hn⟩ | ⟨g, cap, cur, rfl, hg, hh, h3, h4, h5, h6⟩
  · exact .inl ⟨rfl, List.eq_nil_of_length_eq_zero hn⟩
  · refine .inr ⟨g, cap, rfl, hg, (World.ownsRow.lt h g rfl).2, fun i hi => ?_⟩
    have hi' : i < l.length := hi
    have := World.ownsRow.cells h (g := g) rfl i (.int .u8 (l[i].toNat : Int)) (by simp [Lib.byteCells, hi'])
    have e1 : (⟨g, 0, none⟩ : Addr).add i = ⟨g, 0 + i, none⟩ := by unfold Addr.add; by_cases hj : i = 0 <;> simp [hj]
    rw [e1] at this
    exact this
theorem OwnB.text {B : Nat} {w : World} {v : Value} {l : List UInt8} (h : OwnB B w v l) : (convert 38 9 v).run Tryz.prog w = .ok (bstr l) w := by
  rcases h.bytes with ⟨rfl, rfl⟩ | ⟨g, cap, rfl, _, _, hb⟩
  · exact Lib.run_convert_nil_bytes w _ _ _ 0 Tryz.underlying38 Tryz.underlying5 Tryz.underlying9
  · exact Lib.run_convert_whole w _ _ _ Tryz.underlying38 Tryz.underlying5 Tryz.underlying9 g 0 ⟨l.toArray⟩ hb cap
theorem OwnB.len {B : Nat} {w : World} {v : Value} {l : List UInt8} (h : OwnB B w v l) : ∃ a cap, v = .slice a l.length cap := by
  rcases h.bytes with ⟨rfl, rfl⟩ | ⟨g, cap, rfl, _⟩
  · exact ⟨none, 0, rfl⟩
  · exact ⟨_, cap, rfl⟩

/-! Bytes that are read. -/
def byteIs (x : UInt8) (cs : List Value) : Prop := cs = [.int .u8 (x.toNat : Int)]
abbrev SlB (w : World) (B : Nat) (a : Option Addr) (l : List UInt8) : Prop := SlR w B 1 byteIs a l
theorem SlR.atB {w : World} {B : Nat} {a : Option Addr} {l : List UInt8} (h : SlR w B 1 byteIs a l) {k : Nat} (hk : k < l.length) : ∃ b off, a = some ⟨b, off, none⟩ ∧ b < B ∧ w.cell? ⟨b, off + k, none⟩ = some (.int .u8 (l[k].toNat : Int)) := by
  obtain ⟨b, off, cs, ha, hb, rfl, hc⟩ := h k hk
  have := hc 0 _ rfl
  rw [Nat.mul_one, Nat.add_zero] at this
  exact ⟨b, off, ha, hb, this⟩
theorem OwnB.read {B : Nat} {w : World} {v : Value} {l : List UInt8} (h : OwnB B w v l) : ∃ a cap, v = .slice a l.length cap ∧ SlB w w.heap.size a l := by
  rcases h.bytes with ⟨rfl, rfl⟩ | ⟨g, cap, rfl, _, hlt, hb⟩
  · exact ⟨none, 0, rfl, .nil⟩
  · refine ⟨_, cap, rfl, fun k hk => ⟨g, 0, _, rfl, hlt, rfl, fun j u hu => ?_⟩⟩
    match j, hu with
    | 0, hu =>
      simp at hu
      subst hu
      rw [Nat.mul_one, Nat.add_zero]
      exact hb k hk

theorem OwnB.drew {B : Nat} {w : World} {v : Value} {l : List UInt8} (h : OwnB B w v l) : OwnB B w.drew v l := h
/-- An appended byte as a step of a region that draws its order. -/
theorem step_byte {ops : Array Oper} {o : Oper} {a : Act} {K : Act → World → Prop} {Q : Exit → Act → World → Prop} {E : Prop} {w : World}
    (s x : Operand) (hgd : o.guard = none) (ho : o.op = .call { callee := .builtin .append, args := #[s, x], argTypes := #[38, 38] })
    {B : Nat} {v : Value} {l : List UInt8} {c : UInt8} (hs : a.eval s = v) (hown : OwnB B w v l)
    {g cc : Nat} {e' : TypeId} (hx : a.eval x = .slice (some ⟨g, 0, none⟩) 1 cc) (hb : Blk w g e' #[.int .u8 (c.toNat : Int)])
    (hl : l.length + 1 ≤ 140737488355328) (hB : B ≤ w.heap.size)
    (h : ∀ v' w', OwnB B w' v' (l ++ [c]) → Below B w w' → K (a.put o.dst v') w') : if Region.wanted o (yielded ops a.tmps) = true then Oper.wp Tryz.prog o a w K Q else E := by
  refine step_app st_bytes s x hgd ho hs hown hx hb rfl (by intro u hu; simp at hu; subst hu; rfl) (by unfold maxLen; omega) (by omega) hB (fun v' w' h1 h2 => h v' w' ?_ (own_grown (Below.refl B w) hown h2 (Nat.le_refl _) hB))
  unfold OwnB
  rw [byteCells_snoc, List.length_append]
  exact h1
end Go.Proofs.YtmlbomblbdbikaaGreatDoor
/-
  A region that draws its order, whose operations read, or call what only makes memory: walked once, over grown worlds.
-/
namespace Go.Proofs.YtmlbomblbdbikaaGreatDoor
set_option linter.unusedSimpArgs false
set_option linter.unusedVariables false
set_option linter.unusedSectionVars false
open Go.ChangeShapes Go.WideShapes Go.ChangeAt Go.RowKit Go.Deep

instance : Inhabited Junk := ⟨⟨#[], 0⟩⟩
theorem more_self (w : World) : w = w.more ⟨#[], w.drawn⟩ := by simp [World.more]
theorem wp_region_more {P : Program} {id : Nat} {Q : Exit → Act → World → Prop} {a : Act} {w : World} {l : List Oper} (hm : P.follows .mixedOrders = true) (hB : Region.lexB .any l.toArray = true)
    (h : wpQuiet P l.toArray (fun w' => ∃ j : Junk, w' = w.more j) (fun a' => ∀ w', (∃ j : Junk, w' = w.more j) → Q .normal a' w') l a) : (Code.region id l.toArray true).wp P Q a w :=
  wp_region_quiet (C := fun w' => ∃ j : Junk, w' = w.more j) hm hB ⟨⟨#[], w.drawn + 1⟩, by simp [World.more]⟩ (by simpa using h)
theorem more_of {P : Program} {f : FuncId} {args : Array Value} {w : World} {j : Junk} {v : Value}
    (h : Calls P f args (w.more j) fun e w' => e = .returned v ∧ ∃ k, w' = (w.more j).more k) : Calls P f args (w.more j) fun e w'' => e = .returned v ∧ ∃ k, w'' = w.more k :=
  h.mono fun _ _ ⟨he, k, hk⟩ => ⟨he, ⟨j.heap ++ k.heap, k.drawn⟩, by rw [hk, World.more_more]⟩
theorem more_of_same {P : Program} {f : FuncId} {args : Array Value} {w : World} {j : Junk} {v : Value}
    (h : Calls P f args (w.more j) fun e w' => e = .returned v ∧ w.more j = w') : Calls P f args (w.more j) fun e w'' => e = .returned v ∧ ∃ k, w'' = w.more k :=
  h.mono fun _ _ ⟨he, hk⟩ => ⟨he, j, hk.symm⟩
end Go.Proofs.YtmlbomblbdbikaaGreatDoor
