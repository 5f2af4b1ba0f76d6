/-
  Slices of records. (The same as in Sum4, SumC0 and SumA of the summary's texts.)
-/
import Derived.Test.YtbdmepidabnfkaaGreatDoorMg
import Derived.Test.YtbdmepidabnfkaaGreatDoorMb
import Derived.Test.YtbdmepidabnfkaaGreatDoorMa
import Derived.Laws.Tables
import Derived.Laws.Rows
namespace Go.Proofs.YtbdmepidabnfkaaGreatDoor
set_option linter.unusedSimpArgs false
set_option linter.unusedVariables false
set_option linter.unusedSectionVars false
open Go.ChangeShapes Go.WideShapes Go.ChangeAt Go.RowKit Go.Deep Go.Shelf

def recL (x : Rec) : List Value := [.int .i64 x.fr, .int .i64 x.ty, .int .i64 x.fl, .int .i64 x.st, .int .i64 x.ln, .int .i64 x.kd]
abbrev SlRc (w : World) (B : Nat) (a : Option Addr) (l : List Rec) : Prop := SlR w B 6 (fun x cs => cs = recL x) a l
theorem SlR.atRc {w : World} {B : Nat} {a : Option Addr} {l : List Rec} (h : SlRc w B a l) {k : Nat} (hk : k < l.length) : ∃ b off, a = some ⟨b, off, none⟩ ∧ b < B ∧ (w.cell? ⟨b, off + k * 6, none⟩ = some (.int .i64 l[k].fr) ∧ w.cell? ⟨b, off + k * 6 + 1, none⟩ = some (.int .i64 l[k].ty) ∧ w.cell? ⟨b, off + k * 6 + 2, none⟩ = some (.int .i64 l[k].fl) ∧ w.cell? ⟨b, off + k * 6 + 3, none⟩ = some (.int .i64 l[k].st) ∧ w.cell? ⟨b, off + k * 6 + 4, none⟩ = some (.int .i64 l[k].ln) ∧ w.cell? ⟨b, off + k * 6 + 5, none⟩ = some (.int .i64 l[k].kd)) := by
  obtain ⟨b, off, cs, ha, hb, rfl, hc⟩ := h k hk
  exact ⟨b, off, ha, hb, hc 0 _ rfl, hc 1 _ rfl, hc 2 _ rfl, hc 3 _ rfl, hc 4 _ rfl, hc 5 _ rfl⟩
theorem SlRc.keep {w w' : World} {a : Option Addr} {l : List Rec} (h : SlRc w w.heap.size a l) (hb : Below w.heap.size w w') : SlRc w' w'.heap.size a l := (h.below hb (Nat.le_refl _)).mono hb.size (fun _ _ _ h => h)
theorem st_rec : SliceTy Tryz.prog 24 44 (.agg #[.int .i64 0, .int .i64 0, .int .i64 0, .int .i64 0, .int .i64 0, .int .i64 0]) 6 48 := .mk' Tryz.underlying24 (by kernel_rfl) rfl (by omega)
theorem recL_one (x : Rec) : ∀ u ∈ recL x, u.oneCell' = true := by intro u hu; simp [recL] at hu; rcases hu with rfl | rfl | rfl | rfl | rfl | rfl <;> rfl
abbrev OwnRc (B : Nat) (w : World) (v : Value) (l : List Rec) : Prop := OwnC 44 6 recL B w v l
theorem ownRc_zero {w : World} {B g : Nat} (h : Blk w g 44 #[]) (hB : B ≤ g) : OwnRc B w (.slice (some ⟨g, 0, none⟩) 0 0) [] :=
  ⟨rfl, .inr ⟨g, 0, #[], rfl, hB, h, Nat.le_refl _, Nat.zero_le _, rfl, rfl⟩⟩
theorem step_recs {ops : Array Oper} {o : Oper} {a : Act} {K : Act → World → Prop} {Q : Exit → Act → World → Prop} {E : Prop} {w : World} (s x : Operand) (hgd : o.guard = none) (ho : o.op = .call { callee := .builtin .append, args := #[s, x], argTypes := #[24, 24] })
    {B : Nat} {v : Value} {l m : List Rec} (hs : a.eval s = v) (hown : OwnRc B w v l) {A : Option Addr} {c : Nat} (hx : a.eval x = .slice A m.length c) (hm : SlRc w w.heap.size A m) (hl : l.length + m.length ≤ 1048576) (hB : B ≤ w.heap.size)
    (h : ∀ v' w', OwnRc B w' v' (l ++ m) → Below B w w' → K (a.put o.dst v') w') : if Region.wanted o (yielded ops a.tmps) = true then Oper.wp Tryz.prog o a w K Q else E := by
  refine step_app_sl st_rec s x hgd ho hs hown hx rfl hm (fun _ _ _ h => h) (fun _ _ => rfl) (fun y _ => recL_one y) (by unfold maxLen; omega) (by omega) hB (fun v' w' h1 h2 => h v' w' ?_ (own_grown (Below.refl B w) hown h2 (Nat.le_refl _) hB))
  unfold OwnRc OwnC
  rw [List.flatMap_append, List.length_append]
  exact h1
theorem slRc_one {w : World} {g : Nat} {t : TypeId} {x : Rec} (h : Blk w g t (recL x).toArray) : SlRc w w.heap.size (some ⟨g, 0, none⟩) [x] :=
  (SlR.of_blk (c := recL) (size := 6) (R := fun x cs => cs = recL x) (l := [x]) h (by simp) (fun _ _ => rfl) (fun x hx => rfl)).mono h.lt (fun _ _ _ h => h)
end Go.Proofs.YtbdmepidabnfkaaGreatDoor
