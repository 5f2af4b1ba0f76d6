/-
  The law TallyPlays: the walk.
-/
import Derived.Test.YtafccnkeiohlhaaTal7
import Derived.Deep.LoopGhost
namespace Go.Proofs.Ytafccnkeiohlhaa
set_option linter.unusedSimpArgs false
set_option linter.unusedVariables false
open Go.ChangeShapes Go.WideShapes Go.ChangeAt Go.RowKit Go.Deep Go.Shelf

theorem more_self (w : World) : w = w.more ⟨#[], w.drawn⟩ := by simp [World.more]
structure Ev where
  data : Bool
  fields : List Fd
  n : Int
  fin : Bool
def Ev.Is (w : World) (B : Nat) (e : Ev) (cs : List Value) : Prop := ∃ a cap, cs = [.bool e.data, .slice a e.fields.length cap, .int .i64 e.n, .bool e.fin] ∧ SlF w B a e.fields ∧ e.fields.length ≤ maxLen
abbrev SlE (w0 w : World) (B : Nat) (a : Option Addr) (l : List Ev) : Prop := SlR w B 4 (Ev.Is w0 B) a l
theorem SlR.atE {w0 w : World} {B : Nat} {a : Option Addr} {l : List Ev} (h : SlE w0 w B a l) {k : Nat} (hk : k < l.length) :
    ∃ b off a' cap', a = some ⟨b, off, none⟩ ∧ b < B ∧ w.cell? ⟨b, off + k * 4, none⟩ = some (.bool l[k].data) ∧ w.cell? ⟨b, off + k * 4 + 1, none⟩ = some (.slice a' l[k].fields.length cap') ∧ w.cell? ⟨b, off + k * 4 + 2, none⟩ = some (.int .i64 l[k].n) ∧
      w.cell? ⟨b, off + k * 4 + 3, none⟩ = some (.bool l[k].fin) ∧ SlF w0 B a' l[k].fields ∧ l[k].fields.length ≤ maxLen := by
  obtain ⟨b, off, cs, ha, hb, ⟨a', cap', rfl, h1, h2⟩, hc⟩ := h k hk
  exact ⟨b, off, a', cap', ha, hb, hc 0 _ rfl, hc 1 _ rfl, hc 2 _ rfl, hc 3 _ rfl, h1, h2⟩
def largeE (l : List Ev) : Bool := decide ((30 : Int) < l.length) || l.any fun e => largeF e.fields 30 200

set_option maxRecDepth 100000 in
theorem law29_large (a : Option Addr) (cap : Nat) (l : List Ev) (w0 w : World) (hm : l.length ≤ maxLen) (hb : Below w0.heap.size w0 w) (hs0 : SlE w0 w0 w0.heap.size a l) :
    Calls Try.prog 56 #[.slice a l.length cap] w fun e w' => e = .returned (.bool (largeE l)) ∧ w = w' := by
  unfold maxLen at hm
  have hs : SlE w0 w w0.heap.size a l := hs0.below hb (Nat.le_refl _)
  have HB := Lib.hid hb
  have hz := hb.size
  clear hs0 hb
  by_cases h : (30 : Int) < l.length
  · have HF : Hid (largeE l = true) := by show _ = _; simp [largeE, h]
    go_enter Try.func56, Try.ntmps56
    go_wp2_with fail
    go_ret
    exact ⟨ret1d (by rw [HF.out]; rfl), rfl⟩
  · have HF : Hid (largeE l = (l.drop 0).any fun e => largeF e.fields 30 200) := by show _ = _; simp [largeE, h]
    go_enter Try.func56, Try.ntmps56
    go_wp2_with fail
    go_loop [3] (fun i => ∃ k : Nat, k ≤ l.length ∧ i = .int .i64 k ∧ Hid (largeE l = (l.drop k).any fun e => largeF e.fields 30 200)) (fun i => l.length - (intOf i).toNat)
    case atStart => exact ⟨0, by omega, rfl, HF⟩
    case round =>
      clear HF
      obtain ⟨k, hk, rfl, HF⟩ := hrel
      by_cases hlt : k < l.length
      · obtain ⟨b, off, a', cap', rfl, hb, c0, c1, c2, c3, hf, hfl⟩ := hs.atE hlt
        have HF2 : Hid (largeE l = (largeF l[k].fields 30 200 || (l.drop (k + 1)).any fun e => largeF e.fields 30 200)) := HF.out.trans (by rw [List.drop_eq_getElem_cons hlt]; rfl)
        clear HF
        cases hx : largeF l[k].fields 30 200
        all_goals
          have HX := Lib.hid hx
          clear hx
          go_wp2_with (go_at_call 19; refine (ref21_Large _ _ w0.heap.size _ _ _ _ hfl (hf.below HB.out (Nat.le_refl _))).mono ?_; rintro e w' ⟨rfl, rfl⟩; rw [HX.out])
        · go_round
          case rel => exact ⟨k + 1, hlt, by go_num, HF2.out.trans (by rw [HX.out, Bool.false_or])⟩
          case measure => simp [intOf]; omega
        · go_ret
          exact ⟨ret1d (by rw [HF2.out, HX.out]; rfl), rfl⟩
      · go_wp2_with fail
        go_ret
        exact ⟨ret1d (by rw [HF.out, List.drop_of_length_le (by omega)]; rfl), rfl⟩
