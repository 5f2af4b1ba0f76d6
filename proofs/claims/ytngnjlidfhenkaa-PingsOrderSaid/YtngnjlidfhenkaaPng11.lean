/-
  Pings: rows of bytes, the document's Send.
-/
import Derived.Test.YtngnjlidfhenkaaPng10
import Derived.Test.YtngnjlidfhenkaaRow
namespace Go.Proofs.Ytngnjlidfhenkaa
set_option linter.unusedSimpArgs false
set_option linter.unusedVariables false
set_option linter.unusedSectionVars false
open Go.ChangeShapes Go.WideShapes Go.ChangeAt Go.RowKit Go.Deep Go.ChangeMaps

/-- A slice of bytes, as a value. -/
structure Bv where
  a : Option Addr
  l : List UInt8
  cap : Nat
def Bv.cells (x : Bv) : List Value := [.slice x.a x.l.length x.cap]
theorem bvC_len (x : Bv) : x.cells.length = 1 := rfl
theorem bvC_one (x : Bv) : ∀ u ∈ x.cells, u.oneCell' = true := by intro u hu; simp [Bv.cells] at hu; subst hu; rfl
theorem byC_len (x : UInt8) : (byC x).length = 1 := rfl
theorem byC_one (x : UInt8) : ∀ u ∈ byC x, u.oneCell' = true := by intro u hu; simp [byC] at hu; subst hu; rfl
theorem st_bb : SliceTy Try.prog 27 28 (.slice none 0 0) 1 24 := .mk' Try.underlying27 (by kernel_rfl) rfl (by omega)
theorem st_by : SliceTy Try.prog 28 5 (.int .u8 0) 1 1 := .mk' Try.underlying28 (by kernel_rfl) rfl (by omega)
abbrev OwnV (B : Nat) (w : World) (v : Value) (ms : List Bv) : Prop := OwnC 28 1 Bv.cells B w v ms
abbrev OwnY (B : Nat) (w : World) (v : Value) (l : List UInt8) : Prop := OwnC 5 1 byC B w v l
/-- What the elements' bytes read as; their blocks stand from B on. -/
def ElsAt (B : Nat) (w : World) (ms : List Bv) : Prop := ∀ x ∈ ms, SlY w w.heap.size x.a x.l ∧ ∀ g off, x.a = some ⟨g, off, none⟩ → B ≤ g
/-- A row of byte slices: all of the call's own making, from block B on. -/
structure RowB (B : Nat) (w : World) (v : Value) (ms : List Bv) : Prop where
  row : OwnV B w v ms
  els : ElsAt B w ms
theorem ElsAt.below {B : Nat} {w w' : World} {ms : List Bv} (h : ElsAt B w ms) (hb : Below w.heap.size w w') : ElsAt B w' ms := fun x hx => ⟨(h x hx).1.keep hb, (h x hx).2⟩
theorem SlY.grown {w w' : World} {a : Option Addr} {l : List UInt8} {row : Option Nat} (h : SlY w w.heap.size a l) (hg : w.grownBy w' row) (ha : ∀ g off, a = some ⟨g, off, none⟩ → some g ≠ row) : SlY w' w'.heap.size a l := by
  intro k hk
  obtain ⟨g, off, cs, e, hgl, hR, hc⟩ := h k hk
  exact ⟨g, off, cs, e, Nat.lt_of_lt_of_le hgl hg.size, hR, fun j u hu => (World.cell?_of_block (a := ⟨g, off + k * 1 + j, none⟩) (hg.block g hgl (ha g off e))).trans (hc j u hu)⟩
theorem RowB.below {B : Nat} {w w' : World} {v : Value} {ms : List Bv} (h : RowB B w v ms) (hb : Below w.heap.size w w') : RowB B w' v ms := ⟨h.row.below hb (Nat.le_refl _), h.els.below hb⟩
theorem RowB.nil (B : Nat) (w : World) : RowB B w (.slice none 0 0) [] := ⟨OwnC.nil _ _, fun x hx => by cases hx⟩
theorem RowB.beside {B b mb : Nat} {w w' : World} {v : Value} {ms : List Bv} (h : RowB B w v ms) (hB : Beside b mb w w') (h1 : b < B) (h2 : mb < B) : RowB B w' v ms := by
  refine ⟨?_, fun x hx => ⟨(h.els x hx).1.beside hB fun g off e => by have := (h.els x hx).2 g off e; omega, (h.els x hx).2⟩⟩
  have h0 : w.ownsRow B 28 1 v ms.length (ms.flatMap Bv.cells) := h.row
  refine ⟨h0.1, ?_⟩
  rcases h0.2 with ⟨h3, h4⟩ | ⟨g, cap, cur, h3, hg, hh, h5⟩
  · exact .inl ⟨h3, h4⟩
  · exact .inr ⟨g, cap, cur, h3, hg, (hB.block g (Array.getElem?_eq_some_iff.1 hh).1 (by omega) (by omega)).trans hh, h5⟩

def SendPost (B : Nat) (old : List (List UInt8)) (er : Int) (w : World) (e : Ending) (w' : World) : Prop := ∃ v' ms', e = .returned (.tuple #[v', .int .i64 er]) ∧ RowB B w' v' ms' ∧ ms'.map Bv.l = old ∧ Below w.heap.size w w'
set_option maxHeartbeats 8000000 in
set_option maxRecDepth 100000 in
theorem ref36_Send_no (B : Nat) (v : Value) (ms : List Bv) (a : Option Addr) (cap : Nat) (k : List UInt8) (most er : Int) (hno : (k.length ≠ 8 ∧ er = 1) ∨ (k.length = 8 ∧ most ≤ (ms.length : Int) ∧ er = 6)) (w : World) (hR : RowB B w v ms) :
    Calls Try.prog 11 #[v, .slice a k.length cap, .int .i64 most] w (SendPost B (ms.map Bv.l) er w) := by
  obtain ⟨A, cc, rfl, _⟩ := hR.row.read bvC_len
  have HR := Lib.hid hR
  clear hR
  rcases hno with ⟨h8, rfl⟩ | ⟨h8, hm, rfl⟩
  · have h1 : ((k.length : Int) != 8) = true := by rw [bne_iff_ne]; omega
    have h2 : ((k.length : Int) == 8) = false := by rw [beq_eq_false_iff_ne]; omega
    have h3 : ¬ k.length = 8 := h8
    go_enter Try.func11, Try.ntmps11
    go_wp2_with fail
    go_ret2
    exact ⟨_, _, rfl, HR.out, rfl, Below.refl _ _⟩
  · rw [h8]
    go_enter Try.func11, Try.ntmps11
    go_wp2_with fail
    go_ret2
    exact ⟨_, _, rfl, HR.out, rfl, Below.refl _ _⟩
set_option maxHeartbeats 8000000 in
set_option maxRecDepth 100000 in
theorem ref36_Send_ok (B : Nat) (v : Value) (ms : List Bv) (a : Option Addr) (cap : Nat) (k : List UInt8) (most : Int) (hk : k.length = 8) (hm : (ms.length : Int) < most) (hml : ms.length ≤ 100000) (w : World) (hB : B ≤ w.heap.size) (hR : RowB B w v ms) (hS : SlY w w.heap.size a k) :
    Calls Try.prog 11 #[v, .slice a 8 cap, .int .i64 most] w (SendPost B (ms.map Bv.l ++ [k]) 0 w) := by
  obtain ⟨A, cc, rfl, hsl⟩ := hR.row.read bvC_len
  have HR := Lib.hid hR
  have HS := Lib.hid hS
  have hm' : ¬ most ≤ (ms.length : Int) := by omega
  have hb0 : Below w.heap.size w (w.alloc (.cells #[] 28)) := (by repeat (first | (with_reducible exact Below.refl _ _) | (with_reducible refine Below.allocS ?_ _) | (with_reducible refine Below.moreS ?_ _) | (with_reducible refine Below.drew ?_) | (with_reducible refine below_drewN ?_ _)))
  have HO := Lib.hid (OwnC.empty (e := 28) (size := 1) (c := Bv.cells) w)
  have HSW : Hid (SlR (w.alloc (.cells #[] 28)) (w.alloc (.cells #[] 28)).heap.size 1 (fun x cs => cs = Bv.cells x) A ms) := (hsl.below hb0 (Nat.le_refl _)).mono (by simp) (fun _ _ _ h => h)
  have HB0 := Lib.hid hb0
  clear hR hsl hS hb0
  go_enter Try.func11, Try.ntmps11
  go_wp2_with (first
    | (at_builtin; refine app_rows st_bb bvC_len bvC_one (by omega) (.tmp 17) (.tmp 18) rfl rfl (v := .slice (some ⟨w.heap.size, 0, none⟩) 0 0) rfl HO.out rfl HSW.out (by simp; omega) (by simp only [World.size_alloc]; omega) ?_; intro v1 w1 hown1 hg1; have hbw1 : Below w.heap.size w w1 := own_grown HB0.out HO.out hg1 (Nat.le_refl _) (by simp))
    | (at_builtin; refine app_rows st_by byC_len byC_one (by omega) (.tmp 20) (.tmp 21) rfl rfl (v := .slice (some ⟨w1.heap.size, 0, none⟩) 0 0) rfl (OwnC.empty (e := 5) (size := 1) (c := byC) w1) (m := k) (A := a) (cc := cap) (by rw [hk]; rfl) ((HS.out.keep hbw1).keep ((Below.refl w1.heap.size w1).alloc (Nat.le_refl _) _)) (by simp; omega) (by simp only [World.size_alloc]; omega) ?_; intro v2 w2 hown2 hg2; have hbw2 : Below w1.heap.size w1 w2 := own_grown ((Below.refl w1.heap.size w1).alloc (Nat.le_refl _) _) (OwnC.empty (e := 5) (size := 1) (c := byC) w1) hg2 (Nat.le_refl _) (by simp); obtain ⟨a2, c2, hv2, hs2⟩ := hown2.read byC_len)
    | (at_builtin; refine app_one (y := (⟨a2, k, c2⟩ : Bv)) st_bb bvC_len bvC_one (by omega) (.tmp 19) (.tmp 23) rfl rfl (v := v1) rfl ((OwnC.below hown1 hbw2 (Nat.le_refl _)).alloc _) rfl (Blk.at_ _ _ _ (by simp)) (by show [Value.slice a2 8 c2] = [Value.slice a2 k.length c2]; rw [hk]) (by simp; omega) (by have := hbw1.size; have := hbw2.size; simp only [World.size_alloc]; omega) ?_; intro v3 w3 hown3 hg3))
  have hlt1 := OwnC.lt hown1
  have hlt2 := OwnC.lt hown2
  have ha2 : ∀ g off, a2 = some ⟨g, off, none⟩ → w1.heap.size ≤ g := fun g off e => (hlt2 g (by rw [hv2, e]; rfl)).1
  have hb3 : Below w.heap.size w w3 := own_grown ((hbw1.trans (hbw2.mono hbw1.size)).alloc (by have := hbw1.size; have := hbw2.size; omega) _) ((OwnC.below hown1 hbw2 (Nat.le_refl _)).alloc _) hg3 (Nat.le_refl _) (by have := hbw1.size; have := hbw2.size; simp only [World.size_alloc]; omega)
  have hs3 : SlY w3 w3.heap.size a2 k := by
    refine SlY.grown (SlY.keep hs2 ((Below.refl w2.heap.size w2).alloc (Nat.le_refl _) _)) hg3 fun g off e he => ?_
    have h1 := ha2 g off e
    have h2 := (hlt1 g he.symm).2
    omega
  have HF : Hid (RowB B w3 v3 (ms ++ [⟨a2, k, c2⟩])) := by
    refine ⟨OwnC.base (by simpa using hown3) hB, fun x hx => ?_⟩
    rcases List.mem_append.1 hx with hx | hx
    · exact HR.out.els.below hb3 x hx
    · obtain rfl := List.mem_singleton.1 hx
      exact ⟨hs3, fun g off e => by have := ha2 g off e; have := hbw1.size; omega⟩
  have HB3 := Lib.hid hb3
  clear hown1 hg1 hbw1 hown2 hg2 hbw2 hv2 hs2 hown3 hg3 hlt1 hlt2 ha2 hb3 hs3 HO HSW HB0
  go_wp2_with fail
  go_ret2
  exact ⟨_, _, rfl, HF.out, by simp, HB3.out⟩
end Go.Proofs.Ytngnjlidfhenkaa
