/-
  From the row's list of variables to what the walks ask of the world.
-/
import Derived.Test.YtfcgdfcekpbliaaGreatDoorMf
import Derived.Lib.LaidTab
import Derived.Stop.LaidErr
import Derived.LaidLaws
import Derived.MakeChecks
namespace Go.Proofs.YtfcgdfcekpbliaaGreatDoor
set_option linter.unusedSimpArgs false
set_option linter.unusedVariables false
set_option linter.unusedSectionVars false
open Go.ChangeShapes Go.WideShapes Go.ChangeAt Go.RowKit Go.Deep

section
variable {P : Program} {W : World}
theorem laid_drop : ∀ (k : Nat) (l : List (String × DataW Unit)), laidMet P l W → laidMet P (l.drop k) W
  | 0, l, h => h
  | k + 1, [], h => h
  | k + 1, x :: r, h => laid_drop k r h.tail
theorem laid_iface {n nm : String} {d : DataW Unit} {r : List (String × DataW Unit)} {g : Nat} {ti : TypeId} {ms : Array (String × TypeId)} (h : laidMet P ((n, .iface nm d) :: r) W) (hg : P.globalNamed n = some g)
    (ht : (P.globals[g]?).map (·.type) = some ti) (hi : P.underlying ti = some (.interface ms)) : ∃ u v, W.cell? ⟨g, 0, none⟩ = some (.iface u v) := by
  obtain ⟨ps, ⟨g0, t0, cs0, f0, p0, q0, hg0, ht0, hv0, hd0, _, e0⟩, _, hrows⟩ := h
  obtain rfl := Option.some.inj (hg.symm.trans hg0)
  obtain rfl := Option.some.inj (ht.symm.trans ht0)
  obtain ⟨f1, u, v, hcs, hn, h1⟩ := iface_of_trod hi hd0
  obtain ⟨l0⟩ := cs0
  have hcs' : l0 = [.iface u v] := hcs
  subst hcs'
  exact ⟨u, v, by simpa using World.var?_cell hg0 hv0 0⟩
def strsData {H : Type} (xs : List (List UInt8)) : DataW H := .agg (xs.map fun s => .lit (.string s))
theorem cells_of_strs {H : Type} {enc : TypeId × Value → H} {w : World} {base : Nat} {sp : Nat → Bool} {held : Bool} {fuel : Nat} {t e : TypeId} {n : Nat} {cs : List Value} {xs : List (List UInt8)} {p : List MemPlace}
    (ht : P.underlying t = some (.array n e)) (he : P.underlying e = some .string) (hce : P.cellsOf e = 1) (hct : P.cellsOf t = n)
    (h : DataW.trod enc P w base sp held fuel t cs = some (strsData xs, p)) : cs = xs.map bstr := by
  cases fuel with
  | zero => simp [DataW.trod] at h
  | succ fuel =>
    simp only [DataW.trod, ht, hce, hct, Nat.mul_one] at h
    split at h
    · rename_i hl
      obtain ⟨ys, hm, hx⟩ := Option.map_eq_some_iff.1 h
      have hys : ys.map (·.1) = xs.map fun s => (DataW.lit (.string s) : DataW H) := by
        have := congrArg Prod.fst hx
        simpa [strsData] using this
      have hyl : ys.length = n := by simpa using Lib.mapM_length hm
      have hxl : xs.length = n := by
        have := congrArg List.length hys
        simp at this
        omega
      apply List.ext_getElem?
      intro i
      by_cases hi : i < n
      · obtain ⟨b, hb, hf⟩ := Lib.mapM_at hm i i (by simp [hi])
        obtain ⟨s, hc, h2, _⟩ := DataW.trod_string he hf
        have h1 : cs[i]? = some (.string s) := by
          have := congrArg (·[0]?) hc
          simpa [List.getElem?_take, List.getElem?_drop] using this
        have h3 : (ys.map (·.1))[i]? = some b.1 := by simp [hb]
        rw [hys] at h3
        simp only [List.getElem?_map, Option.map_eq_some_iff] at h3
        obtain ⟨z, hz, hz2⟩ := h3
        rw [h2] at hz2
        injection hz2 with hz2
        injection hz2 with hz2
        rw [h1, List.getElem?_map, hz, Option.map_some, hz2]
      · rw [List.getElem?_eq_none (by omega), List.getElem?_eq_none (by simp; omega)]
    · cases h
theorem strs_of_head {name : String} {xs : List (List UInt8)} {rest : List (String × DataW Unit)} {g : Nat} {t e : TypeId} {n : Nat}
    (hg : P.globalNamed name = some g) (hty : (P.globals[g]?).map (·.type) = some t) (ht : P.underlying t = some (.array n e)) (he : P.underlying e = some .string) (hce : P.cellsOf e = 1) (hct : P.cellsOf t = n)
    (h : laidMet P ((name, strsData xs) :: rest) W) : W.var? P name = some (xs.map bstr).toArray := by
  obtain ⟨ps, ⟨g', t', cs, fuel, p, q, hg', ht', hvar, hd, _, _⟩, _⟩ := h
  obtain rfl := Option.some.inj (hg.symm.trans hg')
  obtain rfl := Option.some.inj (hty.symm.trans ht')
  rw [hvar, ← cells_of_strs ht he hce hct hd]
end

theorem g_pow : Tryz.prog.globalNamed "internal/strconv.uint64pow10" = some 2 := by kernel_rfl
theorem g_syn : Tryz.prog.globalNamed "strconv.ErrSyntax" = some SynA := by kernel_rfl
theorem g_rng : Tryz.prog.globalNamed "strconv.ErrRange" = some RngA := by kernel_rfl
theorem env_of {W : World} {l r1 r2 r3 : List (String × DataW Unit)} {n1 n2 : String} {d1 d2 : DataW Unit} (i1 i2 i3 : Nat) (hL : laidMetH Tryz.prog l W) (hS : W.ShapedOpen Tryz.prog) (hl : (l.all fun x => x.2.handleName?.isNone) = true)
    (e1 : l.drop i1 = ("internal/strconv.uint64pow10", Lib.tabData .u64 Lib.pow10Tab) :: r1) (e2 : l.drop i2 = ("strconv.ErrRange", .iface n1 d1) :: r2) (e3 : l.drop i3 = ("strconv.ErrSyntax", .iface n2 d2) :: r3) : Env W := by
  rw [Go.MakeChecks.laidMetH_plain _ _ _ hl] at hL
  have h1 := laid_drop i1 l hL
  rw [e1] at h1
  have h2 := laid_drop i2 l hL
  rw [e2] at h2
  have h3 := laid_drop i3 l hL
  rw [e3] at h3
  obtain ⟨u2, v2, c2⟩ := laid_iface h2 g_rng (ti := 61) (by kernel_rfl) Tryz.underlying61
  obtain ⟨u3, v3, c3⟩ := laid_iface h3 g_syn (ti := 61) (by kernel_rfl) Tryz.underlying61
  exact ⟨max_cell hS, Lib.tabIs_of_head g_pow (t := 147) (e := 139) (by kernel_rfl) Tryz.underlying147 Tryz.underlying139 (by kernel_rfl) (by kernel_rfl) h1, ⟨_, c3, .inr ⟨_, _, rfl⟩⟩, ⟨_, c2, .inr ⟨_, _, rfl⟩⟩⟩
