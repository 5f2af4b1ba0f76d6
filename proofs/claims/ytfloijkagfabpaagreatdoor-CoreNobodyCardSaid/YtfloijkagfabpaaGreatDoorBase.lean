/-
  Plain lemmas that serve every walk: texts as lists of bytes, slices whose cells are known element by element, the closing step of a law. No program's code stands here.
-/
import Derived.Test.YtfloijkagfabpaaGreatDoorProg
import Derived.WalkKit
import Derived.WalkLawsBesides
import Derived.WalkSpells
import Derived.ProofKit
import Derived.OpenShut
import Derived.Lib.Hide
import Derived.Deep.Slices
import Derived.Deep.Fields
import Derived.ChangeSame
namespace Go.Proofs.YtfloijkagfabpaaGreatDoor
set_option linter.unusedSimpArgs false
set_option linter.unusedVariables false
set_option linter.unusedSectionVars false
open Go.ChangeShapes Go.WideShapes Go.ChangeAt Go.RowKit Go.Deep
open Go.ChangeMaps (open_string shut_string)

abbrev bstr (l : List UInt8) : Value := .string ⟨l.toArray⟩
theorem ba_get (l : List UInt8) (k : Nat) (h : k < (ByteArray.mk l.toArray).size) : (ByteArray.mk l.toArray)[k]'h = l[k]'h := rfl
attribute [simp] ba_get
theorem ba_extract (l : List UInt8) (a b : Nat) : (ByteArray.mk l.toArray).extract a b = ByteArray.mk ((l.drop a).take (b - a)).toArray := ByteArray.extract_mk l a b
theorem ba_append (x y : List UInt8) : (ByteArray.mk x.toArray ++ ByteArray.mk y.toArray) = ByteArray.mk (x ++ y).toArray := ByteArray.mk_append_mk x y
attribute [simp] ba_extract ba_append
theorem bstr_of (s : ByteArray) : Value.string s = bstr s.data.toList := rfl

theorem bcell {W w1 : World} (hb : Below W.heap.size W w1) : (∀ b o, b < W.heap.size → w1.cell? ⟨b, o, none⟩ = W.cell? ⟨b, o, none⟩) ∧ (∀ b o, b < W.heap.size → w1.frozen? ⟨b, o, none⟩ = W.frozen? ⟨b, o, none⟩) :=
  ⟨fun b o h => hb.cell (p := ⟨b, o, none⟩) h, fun b o h => hb.frozen (p := ⟨b, o, none⟩) h⟩

theorem ret1d {v v' : Value} (h : v = v') : Ending.returned v = .returned v' := by rw [h]


/-! A block that is known whole. -/
def Blk (w : World) (g : Nat) (t : TypeId) (cs : Array Value) : Prop := w.heap[g]? = some (.cells cs t (0, 0))
section
variable {w w' : World} {g : Nat} {t : TypeId} {cs : Array Value}
theorem Blk.lt (h : Blk w g t cs) : g < w.heap.size := by
  rcases Nat.lt_or_ge g w.heap.size with hlt | hge
  · exact hlt
  · unfold Blk at h; rw [Array.getElem?_eq_none hge] at h; cases h
theorem Blk.cell (h : Blk w g t cs) (i : Nat) : w.cell? ⟨g, i, none⟩ = cs[i]? := cell_of_row w g i cs t (0, 0) h
theorem Blk.frozen (h : Blk w g t cs) (i : Nat) : w.frozen? ⟨g, i, none⟩ = false := by
  unfold Blk at h
  simp [World.frozen?, h]
theorem Blk.new (w : World) (t : TypeId) (cs : Array Value) : Blk (w.alloc (.cells cs t)) w.heap.size t cs := heap_alloc_new w _
theorem Blk.drew (h : Blk w g t cs) : Blk w.drew g t cs := h
theorem Blk.drewN (h : Blk w g t cs) (n : Nat) : Blk (w.drewN n) g t cs := h
theorem Blk.alloc (h : Blk w g t cs) (o : Obj) : Blk (w.alloc o) g t cs := (Below.heap_alloc w o g h.lt).trans h
theorem Blk.set_ (h : Blk w g t cs) (i : Nat) (u : Value) : Blk (w.setCell ⟨g, i, none⟩ u) g t (cs.setIfInBounds i u) := by
  unfold Blk at h ⊢
  simp [World.setCell, Array.getElem?_modify, h]
theorem Blk.far (h : Blk w g t cs) {p : Addr} (hp : g ≠ p.block) (u : Value) : Blk (w.setCell p u) g t cs := (Below.heap_setCell w p u g hp).trans h
theorem Blk.one {x : Value} (h : Blk w g t #[x]) : w.cell? ⟨g, 0, none⟩ = some x ∧ w.frozen? ⟨g, 0, none⟩ = false ∧ g < w.heap.size := ⟨h.cell 0, h.frozen 0, h.lt⟩
theorem Blk.two {x y : Value} (h : Blk w g t #[x, y]) : w.cell? ⟨g, 0, none⟩ = some x ∧ w.cell? ⟨g, 1, none⟩ = some y ∧ w.frozen? ⟨g, 0, none⟩ = false ∧ w.frozen? ⟨g, 1, none⟩ = false ∧ g < w.heap.size := ⟨h.cell 0, h.cell 1, h.frozen 0, h.frozen 1, h.lt⟩
theorem Blk.three {x y z : Value} (h : Blk w g t #[x, y, z]) : w.cell? ⟨g, 0, none⟩ = some x ∧ w.cell? ⟨g, 1, none⟩ = some y ∧ w.cell? ⟨g, 2, none⟩ = some z ∧ w.frozen? ⟨g, 0, none⟩ = false ∧ w.frozen? ⟨g, 1, none⟩ = false ∧ w.frozen? ⟨g, 2, none⟩ = false ∧ g < w.heap.size :=
  ⟨h.cell 0, h.cell 1, h.cell 2, h.frozen 0, h.frozen 1, h.frozen 2, h.lt⟩
theorem Blk.set0 {x y u : Value} (h : Blk w g t #[x, y]) : Blk (w.setCell ⟨g, 0, none⟩ u) g t #[u, y] := h.set_ 0 u
theorem Blk.set1 {x y u : Value} (h : Blk w g t #[x, y]) : Blk (w.setCell ⟨g, 1, none⟩ u) g t #[x, u] := h.set_ 1 u
theorem Blk.at_ (w : World) (t : TypeId) (cs : Array Value) {g : Nat} (hg : g = w.heap.size) : Blk (w.alloc (.cells cs t)) g t cs := hg ▸ Blk.new w t cs
theorem Blk.below {B : Nat} (h : Blk w g t cs) (hb : Below B w w') (hg : g < B) : Blk w' g t cs := (hb.block g hg).trans h
end
theorem below_drewN {B : Nat} {a w : World} (h : Below B a w) (n : Nat) : Below B a (w.drewN n) := ⟨h.os, h.tape, h.output, h.size, h.block⟩

/-! Results that lie in memory. -/
def StructTy (P : Program) (ty n : Nat) : Prop := ∃ d, P.underlying ty = some d ∧ (match d with | .struct _ | .array _ _ => true | _ => false) = true ∧ (P.info? ty).map (·.size) = some n
theorem StructTy.load {P : Program} {ty n g : Nat} {t : TypeId} {cs : Array Value} {w : World} (h : StructTy P ty n) (hb : Blk w g t cs) (hn : cs.size = n) : (loadVar ty ⟨g, 0, none⟩).run P w = .ok (.agg cs) w := by
  obtain ⟨d, h1, h2, h3⟩ := h
  exact run_loadVar_row w g t ty cs (0, 0) d hb h1 (by cases d <;> simp_all) (by rw [h3, hn])
section
variable {P : Program} {fn : Func} {p q u : Tmp} {ty ty' n n' g g' : Nat} {t t' : TypeId} {cs cs' : Array Value} {w : World} {tmps : Array Value} {v : Value}
theorem res_cell (h : fn.results = #[.cell p ty]) (hs : StructTy P ty n) (hp : tmps.getD p undef = .pointer (some ⟨g, 0, none⟩)) (hb : Blk w g t cs) (hn : cs.size = n) : (results fn tmps).run P w = .ok (.agg cs) w := by
  have hp' : tmps[p]?.getD undef = .pointer (some ⟨g, 0, none⟩) := by simpa using hp
  simp [results, h, hp', asAddr, hs.load hb hn]
theorem res_cell_tmp (h : fn.results = #[.cell p ty, .tmp u]) (hs : StructTy P ty n) (hp : tmps.getD p undef = .pointer (some ⟨g, 0, none⟩)) (hb : Blk w g t cs) (hn : cs.size = n) (hv : tmps.getD u undef = v) :
    (results fn tmps).run P w = .ok (.tuple #[.agg cs, v]) w := by
  have hp' : tmps[p]?.getD undef = .pointer (some ⟨g, 0, none⟩) := by simpa using hp
  have hv' : tmps[u]?.getD undef = v := by simpa using hv
  simp [results, h, hp', hv', asAddr, hs.load hb hn]
theorem res_cell_cell_tmp (h : fn.results = #[.cell p ty, .cell q ty', .tmp u]) (hs : StructTy P ty n) (hp : tmps.getD p undef = .pointer (some ⟨g, 0, none⟩)) (hb : Blk w g t cs) (hn : cs.size = n)
    (hs' : StructTy P ty' n') (hq : tmps.getD q undef = .pointer (some ⟨g', 0, none⟩)) (hb' : Blk w g' t' cs') (hn' : cs'.size = n') (hv : tmps.getD u undef = v) :
    (results fn tmps).run P w = .ok (.tuple #[.agg cs, .agg cs', v]) w := by
  have hp' : tmps[p]?.getD undef = .pointer (some ⟨g, 0, none⟩) := by simpa using hp
  have hq' : tmps[q]?.getD undef = .pointer (some ⟨g', 0, none⟩) := by simpa using hq
  have hv' : tmps[u]?.getD undef = v := by simpa using hv
  simp [results, h, hp', hq', hv', asAddr, hs.load hb hn, hs'.load hb' hn']
end

/-! A struct of one-cell fields, cell by cell. -/
theorem cells_struct {H : Type} {enc : TypeId × Value → H} {P : Program} {w : World} {sp : Nat → Bool} {e : TypeId} {fs : Array Field} {n : Nat} {cs : List Value} {x : DataW H × List MemPlace} (tys : List TypeId)
    (he : P.underlying e = some (.struct fs)) (hone : oneCellFields P fs = true) (htys : fs.toList.map (·.type) = tys) (h : DataW.trod enc P w 0 sp true n e cs = some x) (hl : cs.length = tys.length) :
    ∃ m, ∀ (j : Nat) (t : TypeId), tys[j]? = some t → ∃ (v : Value) (y : DataW H × List MemPlace), cs[j]? = some v ∧ DataW.trod enc P w 0 sp true m t [v] = some y := by
  obtain ⟨ys, m, _, _, _, hyl, hf⟩ := DataW.trod_struct he h
  refine ⟨m, fun j t hj => ?_⟩
  subst htys
  obtain ⟨f, hfj, rfl⟩ : ∃ f, fs[j]? = some f ∧ f.type = t := by
    rw [List.getElem?_map] at hj
    cases hq : fs.toList[j]? with
    | none => simp [hq] at hj
    | some f => exact ⟨f, by simpa using hq, by simpa [hq] using hj⟩
  obtain ⟨ho, hk⟩ := hone_of hone j f hfj
  have hjl : j < fs.size := (Array.getElem?_eq_some_iff.1 hfj).1
  have hjc : j < cs.length := by rw [hl]; simpa using hjl
  have h1 := hf j f hfj
  rw [ho, hk, List.drop_eq_getElem_cons hjc] at h1
  have hys : ys[j]? = some (ys[j]'(by omega)) := List.getElem?_eq_getElem (by omega)
  exact ⟨cs[j], _, List.getElem?_eq_getElem hjc, h1.trans hys⟩

/-! Slices, element by element: 'R x cs': the cells cs are those of x. -/
def SlR {α : Type} (w : World) (B size : Nat) (R : α → List Value → Prop) (a : Option Addr) (l : List α) : Prop :=
  ∀ k (h : k < l.length), ∃ b off cs, a = some ⟨b, off, none⟩ ∧ b < B ∧ R l[k] cs ∧ ∀ j u, cs[j]? = some u → w.cell? ⟨b, off + k * size + j, none⟩ = some u

theorem SlR.below {α : Type} {w w' : World} {B C size : Nat} {R : α → List Value → Prop} {a : Option Addr} {l : List α} (h : SlR w B size R a l) (hb : Below C w w') (hB : B ≤ C) : SlR w' B size R a l := by
  intro k hk
  obtain ⟨b, off, cs, ha, hlt, hr, hc⟩ := h k hk
  exact ⟨b, off, cs, ha, hlt, hr, fun j u hu => (hb.cell (p := ⟨b, _, none⟩) (by show b < C; omega)).trans (hc j u hu)⟩

theorem SlR.mono {α : Type} {w : World} {B C size : Nat} {R R' : α → List Value → Prop} {a : Option Addr} {l : List α} (h : SlR w B size R a l) (hB : B ≤ C) (hR : ∀ x ∈ l, ∀ cs, R x cs → R' x cs) : SlR w C size R' a l := by
  intro k hk
  obtain ⟨b, off, cs, ha, hlt, hr, hc⟩ := h k hk
  exact ⟨b, off, cs, ha, by omega, hR _ (List.getElem_mem hk) _ hr, hc⟩

theorem SlR.nil {α : Type} {w : World} {B size : Nat} {R : α → List Value → Prop} {a : Option Addr} : SlR w B size R a [] := by
  intro k hk; simp at hk

theorem exists_list {α : Type} {Q : Nat → α → Prop} : ∀ n, (∀ i, i < n → ∃ x, Q i x) → ∃ l : List α, l.length = n ∧ ∀ i (h : i < l.length), Q i l[i]
  | 0, _ => ⟨[], rfl, fun i h => absurd h (by simp)⟩
  | n + 1, hq => by
    obtain ⟨l, hl, h⟩ := exists_list n (fun i hi => hq i (by omega))
    obtain ⟨x, hx⟩ := hq n (by omega)
    refine ⟨l ++ [x], by simp [hl], fun i hi => ?_⟩
    by_cases hin : i < l.length
    · rw [List.getElem_append_left hin]; exact h i hin
    · have hi' : i = n := by simp at hi; omega
      subst hi'
      have : (l ++ [x])[i] = x := by simp [← hl]
      rw [this]; exact hx

/-- A slice that came in, element by element. -/
theorem slr_of_trod {α H : Type} {enc : TypeId × Value → H} {P : Program} {w : World} {R : α → List Value → Prop} {t e : TypeId} {fuel : Nat} {cs : List Value} {x : DataW H × List MemPlace} {sp : Nat → Bool}
    (ht : P.underlying t = some (.slice e)) (hpos : 0 < P.cellsOf e) (hE : ∀ n cs y, cs.length = P.cellsOf e → DataW.trod enc P w 0 sp true n e cs = some y → ∃ x : α, R x cs) (h : DataW.trod enc P w 0 sp true fuel t cs = some x) :
    ∃ (a : Option Addr) (len cap : Nat) (l : List α), cs = [.slice a len cap] ∧ l.length = len ∧ len ≤ cap ∧ cap ≤ maxLen ∧ SlR w w.heap.size (P.cellsOf e) R a l := by
  rcases open_slice ht h with ⟨rfl, _⟩ | ⟨a, len, cap, m, n, D, Pl, rfl, _, hl, hm, hmm, _, hi⟩
  · exact ⟨none, 0, 0, [], rfl, rfl, Nat.le_refl _, Nat.zero_le _, .nil⟩
  · have hlm : len ≤ m := by rw [hmm]; split <;> omega
    have each : ∀ i, i < len → ∃ x : α, ∃ b off cs, some a = some ⟨b, off, none⟩ ∧ b < w.heap.size ∧ R x cs ∧ ∀ j u, cs[j]? = some u → w.cell? ⟨b, off + i * P.cellsOf e + j, none⟩ = some u := by
      intro i hi'
      obtain ⟨cs', h1, h2⟩ := hi i (by omega)
      obtain ⟨_, hlen, hcell⟩ := World.cells?_some h1
      obtain ⟨x, hx⟩ := hE _ _ _ hlen h2
      obtain ⟨ab, ao, asp⟩ := a
      have h0 := hcell 0 hpos
      have hv0 : cs'[0]? = some (cs'[0]'(by omega)) := List.getElem?_eq_getElem (by omega)
      rw [hv0] at h0
      have hsp : asp = none := by
        cases asp with
        | none => rfl
        | some s =>
          exfalso
          rcases open_slice ht h with ⟨he, _⟩ | ⟨a', len', cap', m', n', D', Pl', hcs', _, hl', hm', hmm', _, hj'⟩
          · cases he
          · obtain ⟨rfl, rfl, rfl⟩ : a' = ⟨ab, ao, some s⟩ ∧ len' = len ∧ cap' = cap := by
              injection hcs' with h1 _; injection h1 with h1 h2 h3; injection h1 with h1; exact ⟨h1.symm, h2.symm, h3.symm⟩
            obtain ⟨cs'', h1', h2'⟩ := hj' 0 (by have : len' ≤ m' := by rw [hmm']; split <;> omega
                                                 omega)
            obtain ⟨_, hlen', hcell'⟩ := World.cells?_some h1'
            have h00 := hcell' 0 hpos
            simp only [Nat.zero_mul, Addr.add, if_true] at h00
            have hv0' : cs''[0]? = some (cs''[0]'(by omega)) := List.getElem?_eq_getElem (by omega)
            rw [hv0'] at h00
            unfold World.cell? at h00
            split at h00 <;> simp at h00
      subst hsp
      have eq1 : ∀ j, ((⟨ab, ao, none⟩ : Addr).add (i * P.cellsOf e)).add j = ⟨ab, ao + i * P.cellsOf e + j, none⟩ := by
        intro j
        unfold Addr.add
        by_cases h1 : i * P.cellsOf e = 0 <;> by_cases h2 : j = 0 <;> simp [h1, h2]
      refine ⟨x, ab, ao, cs', rfl, ?_, hx, ?_⟩
      · rcases Nat.lt_or_ge ab w.heap.size with hlt | hge
        · exact hlt
        · exfalso
          rw [eq1] at h0
          unfold World.cell? at h0
          rw [Array.getElem?_eq_none hge] at h0
          cases h0
      · intro j u hu
        have hj : j < cs'.length := (List.getElem?_eq_some_iff.1 hu).1
        have := hcell j (by omega)
        rw [eq1, hu] at this
        exact this
    obtain ⟨l, hl1, hl2⟩ := exists_list len each
    exact ⟨some a, len, cap, l, rfl, hl1, hl, hm, hl2⟩

/-! Slices of a call's own, appended to. -/
def SliceTy (P : Program) (t e : TypeId) (z : Value) (size bytes : Nat) : Prop := ∃ i, P.underlying t = some (.slice e) ∧ P.info? e = some i ∧ i.zero = some z ∧ i.size = size ∧ i.bytes = bytes ∧ z.cells.size = size ∧ 0 < size
theorem SliceTy.mk' {P : Program} {t e : TypeId} {z : Value} {size bytes : Nat} (ht : P.underlying t = some (.slice e)) (hi : (P.info? e).map (fun i => (i.zero, i.size, i.bytes)) = some (some z, size, bytes)) (hz : z.cells.size = size) (h0 : 0 < size) : SliceTy P t e z size bytes := by
  obtain ⟨i, h1, h2, h3, h4⟩ := info_parts hi
  exact ⟨i, ht, h1, h2, h3, h4, hz, h0⟩

theorem wpList_app {P : Program} {ops : Array Oper} {rest : List Oper} {o : Oper} {a : Act} {Q : Exit → Act → World → Prop} {w : World} {t e : TypeId} {z : Value} {size bytes : Nat} (hT : SliceTy P t e z size bytes)
    (s x : Operand) (hgd : o.guard = none) (ho : o.op = .call { callee := .builtin .append, args := #[s, x], argTypes := #[t, t] })
    {base n : Nat} {v : Value} {xs : List Value} (hs : a.eval s = v) (hown : w.ownsRow base e size v n xs)
    {g m c : Nat} {e' : TypeId} {news : Array Value} (hx : a.eval x = .slice (some ⟨g, 0, none⟩) m c) (hb : Blk w g e' news) (hl : news.size = m * size) (h1 : ∀ u ∈ news.toList, u.oneCell' = true)
    (h63 : n + m ≤ maxLen) (hbytes : (n + m) * bytes ≤ 140737488355328) (hbase : base ≤ w.heap.size)
    (h : ∀ v' w', w'.ownsRow base e size v' (n + m) (xs ++ news.toList) → w.grownBy w' v.ownBlock → wpList P ops Q rest (a.put o.dst v') w') : wpList P ops Q (o :: rest) a w := by
  obtain ⟨i, ht, hi, hz, hsz, hby, hzs, h0⟩ := hT
  refine wpList_append_own w hgd s x t ho base e i z size bytes ht hi hz hsz hby hzs h0 v n xs hs hown ⟨g, 0, none⟩ m c news.toList hx (by simpa using hl) ?_ h1 h63 hbytes hbase (fun v' w' h2 h3 _ => h v' w' h2 h3)
  intro j u hu
  have e1 : (⟨g, 0, none⟩ : Addr).add j = ⟨g, j, none⟩ := by unfold Addr.add; by_cases hj : j = 0 <;> simp [hj]
  rw [e1, hb.cell j]
  simpa using hu

theorem own_grown {w0 w w' : World} {base B n size : Nat} {e : TypeId} {v : Value} {xs : List Value} (h : Below B w0 w) (hown : w.ownsRow base e size v n xs) (hg : w.grownBy w' v.ownBlock) (hB : B ≤ base) (hB' : B ≤ w.heap.size) : Below B w0 w' :=
  h.grown hg hB' (fun k hk => by have := (hown.lt k hk).1; omega)
theorem own_below {w w' : World} {base C n size : Nat} {e : TypeId} {v : Value} {xs : List Value} (hown : w.ownsRow base e size v n xs) (h : Below C w w') (hC : w.heap.size ≤ C) : w'.ownsRow base e size v n xs :=
  hown.kept (row := none) ⟨h.os, h.tape, h.output, h.size, fun k hk _ => h.block k (by omega)⟩ (by cases h : v.ownBlock <;> simp)
theorem Blk.grown {w w' : World} {g : Nat} {t : TypeId} {cs : Array Value} {row : Option Nat} (h : Blk w g t cs) (hb : w.grownBy w' row) (hg : some g ≠ row) : Blk w' g t cs := (hb.block g h.lt hg).trans h
theorem own_ne {w : World} {base n size g : Nat} {e : TypeId} {v : Value} {xs : List Value} (h : w.ownsRow base e size v n xs) (hg : g < base) : some g ≠ v.ownBlock := by
  intro he
  have := (h.lt g he.symm).1
  omega
theorem flat_get {α : Type} {c : α → List Value} {size : Nat} : ∀ (l : List α), (∀ x ∈ l, (c x).length = size) → ∀ (k : Nat) (hk : k < l.length) (j : Nat) (u : Value), (c l[k])[j]? = some u → (l.flatMap c)[k * size + j]? = some u
  | [], _, k, hk, _, _, _ => by simp at hk
  | x :: r, hc, 0, _, j, u, hu => by
    have hj : j < (c x).length := (List.getElem?_eq_some_iff.1 hu).1
    simp only [List.flatMap_cons, Nat.zero_mul, Nat.zero_add]
    rw [List.getElem?_append_left hj]
    exact hu
  | x :: r, hc, k + 1, hk, j, u, hu => by
    have hx := hc x (by simp)
    simp only [List.flatMap_cons]
    rw [List.getElem?_append_right (by rw [hx, Nat.succ_mul]; omega)]
    have := flat_get r (fun y hy => hc y (by simp [hy])) k (by simpa using hk) j u (by simpa using hu)
    rw [hx]
    have e2 : (k + 1) * size + j - size = k * size + j := by rw [Nat.succ_mul]; omega
    rw [e2]; exact this
theorem own_slr {α : Type} {w : World} {base size : Nat} {e : TypeId} {v : Value} {c : α → List Value} {l : List α} (h : w.ownsRow base e size v l.length (l.flatMap c)) (hc : ∀ x ∈ l, (c x).length = size) :
    ∃ a cap, v = .slice a l.length cap ∧ SlR w w.heap.size size (fun x cs => cs = c x) a l := by
  rcases h.2 with ⟨rfl, hn⟩ | ⟨g, cap, cur, rfl, hg, hh, h3, h4, h5, h6⟩
  · have : l = [] := List.eq_nil_of_length_eq_zero hn
    subst this
    exact ⟨none, 0, rfl, .nil⟩
  · refine ⟨some ⟨g, 0, none⟩, cap, rfl, ?_⟩
    intro k hk
    refine ⟨g, 0, c l[k], rfl, (h.lt g rfl).2, rfl, ?_⟩
    intro j u hu
    have := h.cells (g := g) rfl (k * size + j) u (flat_get l hc k hk j u hu)
    have e1 : (⟨g, 0, none⟩ : Addr).add (k * size + j) = ⟨g, 0 + k * size + j, none⟩ := by unfold Addr.add; by_cases hj : k * size + j = 0 <;> simp [hj] <;> omega
    rw [e1] at this
    exact this
theorem SlR.of_blk {α : Type} {w : World} {g size : Nat} {t : TypeId} {cs : Array Value} {c : α → List Value} {R : α → List Value → Prop} {l : List α} (h : Blk w g t cs) (hl : cs.toList = l.flatMap c) (hc : ∀ x ∈ l, (c x).length = size) (hR : ∀ x ∈ l, R x (c x)) :
    SlR w (g + 1) size R (some ⟨g, 0, none⟩) l := by
  intro k hk
  refine ⟨g, 0, c l[k], rfl, by omega, hR _ (List.getElem_mem hk), ?_⟩
  intro j u hu
  have := flat_get l hc k hk j u hu
  rw [← hl] at this
  rw [h.cell, Nat.zero_add]
  simpa using this

/-! Slices of numbers. -/
def intIs (x : Int) (cs : List Value) : Prop := cs = [.int .i64 x]
abbrev SlI (w : World) (B : Nat) (a : Option Addr) (l : List Int) : Prop := SlR w B 1 intIs a l
theorem SlR.atI {w : World} {B : Nat} {a : Option Addr} {l : List Int} (h : SlR w B 1 intIs a l) {k : Nat} (hk : k < l.length) : ∃ b off, a = some ⟨b, off, none⟩ ∧ b < B ∧ w.cell? ⟨b, off + k, none⟩ = some (.int .i64 l[k]) := by
  obtain ⟨b, off, cs, ha, hb, rfl, hc⟩ := h k hk
  have := hc 0 _ rfl
  rw [Nat.mul_one, Nat.add_zero] at this
  exact ⟨b, off, ha, hb, this⟩

/-! A field: two texts and a mark. -/
structure Fd where
  name : List UInt8
  value : List UInt8
  never : Bool
def Fd.cells (f : Fd) : List Value := [bstr f.name, bstr f.value, .bool f.never]
def Fd.Is (f : Fd) (cs : List Value) : Prop := cs = f.cells ∧ f.name.length ≤ maxLen ∧ f.value.length ≤ maxLen
abbrev SlF (w : World) (B : Nat) (a : Option Addr) (l : List Fd) : Prop := SlR w B 3 Fd.Is a l

theorem SlR.atF {w : World} {B : Nat} {a : Option Addr} {l : List Fd} (h : SlR w B 3 Fd.Is a l) {k : Nat} (hk : k < l.length) :
    ∃ b off, a = some ⟨b, off, none⟩ ∧ b < B ∧ w.cell? ⟨b, off + k * 3, none⟩ = some (bstr l[k].name) ∧ w.cell? ⟨b, off + k * 3 + 1, none⟩ = some (bstr l[k].value) ∧ w.cell? ⟨b, off + k * 3 + 2, none⟩ = some (.bool l[k].never) ∧
      l[k].name.length ≤ 9223372036854775807 ∧ l[k].value.length ≤ 9223372036854775807 := by
  obtain ⟨b, off, cs, ha, hb, ⟨rfl, h1, h2⟩, hc⟩ := h k hk
  unfold maxLen at h1 h2
  exact ⟨b, off, ha, hb, hc 0 _ rfl, hc 1 _ rfl, hc 2 _ rfl, h1, h2⟩

theorem slF_new {w : World} {g : Nat} {t : TypeId} {cs : Array Value} {l : List Fd} (h : Blk w g t cs) (hl : cs.toList = l.flatMap Fd.cells) (hR : (l.all fun f => decide (f.name.length ≤ maxLen) && decide (f.value.length ≤ maxLen)) = true) : SlF w (g + 1) (some ⟨g, 0, none⟩) l :=
  SlR.of_blk h hl (fun _ _ => rfl) (fun x hx => by
    have := List.all_eq_true.1 hR x hx
    simp only [Bool.and_eq_true, decide_eq_true_eq] at this
    exact ⟨rfl, this.1, this.2⟩)

/-! The closing step of a law: the arguments read as they did; the answer is true. -/
section
variable {H : Type} {enc : TypeId × Value → H} {P : Program}
theorem trodAll_later (hl : laidOutB P = true) {W W' : World} (hb : Below W.heap.size W W') {sp : Nat → Bool} :
    ∀ (ts : List TypeId) (vs : List Value) (ds : List (DataW H)) (ps : List MemPlace), (∀ t ∈ ts, P.readableRec t = true ∧ t < P.types.size) → (∀ p ∈ ps, p.block < W.heap.size) → (∀ p ∈ ps, sp p.block = true) →
      DataW.TrodAll enc P W 0 (fun _ => true) true ts vs ds ps → DataW.TrodAll enc P W' 0 sp true ts vs ds ps
  | [], vs, ds, ps, _, _, _, h => by
    obtain ⟨rfl, rfl, rfl⟩ := trodAll_nil h
    exact rfl
  | t :: ts, vs, ds, ps, ht, hlt, hsp, h => by
    obtain ⟨v, vs', d, ds', p, q, rfl, rfl, rfl, h1, h2⟩ := trodAll_cons h
    have a1 := ht t (by simp)
    refine ⟨p, q, WideElems.Trod_stays hl a1.1 a1.2 h1 (fun x hx => hb.same (hlt x (by simp [hx]))) (fun x hx => hsp x (by simp [hx])), ?_, rfl⟩
    exact trodAll_later hl hb ts vs' ds' q (fun t' h' => ht t' (by simp [h'])) (fun x hx => hlt x (by simp [hx])) (fun x hx => hsp x (by simp [hx])) h2

theorem law_post {f : Func} {s : ChangeSpec} {apart fresh handsOn again : Bool} {W W' : World} {args : Array Value} {v : Value} {ds : List (DataW H)} {before : List MemPlace} {tb : TypeId}
    (hW : DataW.Whole enc P f.params.toList s.vars apart W args.toList ds [] before) (hvs : s.vars = []) (hl : laidOutB P = true) (hts : ∀ t ∈ f.params.toList, P.readableRec t = true ∧ t < P.types.size)
    (hr : f.resultTypes = #[tb]) (htb : P.underlying tb = some .bool) (hfn : s.fn H (ds ++ []) = { results := [.lit (.bool true)], args := ds }) (hv : v = .bool true) (hb : Below W.heap.size W W') :
    s.post enc P f apart fresh handsOn again W args v W' := by
  subst hv
  have hW' := hW
  obtain ⟨p, q, hA, hV, hpq, hz, hn⟩ := hW
  have hq : q = [] := by rw [hvs] at hV; exact hV
  subst hq
  have hps : before = p := by rw [hpq, List.append_nil]
  subst hps
  have hlt : ∀ x ∈ before, x.block < W.heap.size := fun x hx => hW'.lt x hx
  have hold : ∀ x ∈ before, (fun b => decide (b < W.heap.size)) x.block = true := fun x hx => by simpa using hlt x hx
  have hres : ∀ (b : Nat) (sp : Nat → Bool) (hd : Bool), DataW.TrodAll enc P W' b sp hd f.resultTypes.toList ((Value.bool true).resultList f.resultTypes.size) (s.fn H (ds ++ [])).results [] := by
    intro b sp hd
    rw [hfn, hr]
    exact trodAll_cons_mk (shut_bool htb _) trodAll_mk0
  have hargs : ∀ sp : Nat → Bool, (∀ x ∈ before, sp x.block = true) → DataW.TrodAll enc P W' 0 sp true f.params.toList args.toList (s.fn H (ds ++ [])).args before := by
    intro sp hsp
    rw [hfn]
    exact trodAll_later hl hb _ _ _ _ hts hlt hsp hA
  have hvars : ∀ sp : Nat → Bool, DataW.TrodVars enc P W' sp s.vars (s.fn H (ds ++ [])).vars [] := by
    intro sp
    rw [hvs, hfn]
    exact rfl
  refine ⟨ds, [], before, [], before, [], hW', hres _ _ _, hargs _ hold, hvars _, World.keptBut_mono (fun x hx => ⟨hx, .inr (.inl hx)⟩) (hb.frame (· ∈ before)), fun _ => ?_⟩
  refine ⟨?_, _, _, ([] ++ before) ++ [], ⟨[] ++ before, [], trodAll_append (hargs _ (fun _ _ => rfl)) (hres _ _ _), hvars _, rfl, ?_, ?_⟩, ?_⟩
  · exact ok_one hr rfl (okWide_bool_mk htb _)
  · intro b off hp
    have hin : MemPlace.cell b off ∈ before := by simpa using hp
    rw [hb.frozen (hlt _ hin)]
    exact hz b off hin
  · intro ha
    have := hn ha
    simpa using this
  · intro x hx _
    simpa using hx
end
end Go.Proofs.YtfloijkagfabpaaGreatDoor
