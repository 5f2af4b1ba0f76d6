/-
  Summaries: an array of numbers is its own equal.
-/
import Derived.Test.YtfgldglelijekaaGreatDoorSumD
import Derived.ChangeKeysEq
namespace Go.Proofs.YtfgldglelijekaaGreatDoor
set_option linter.unusedSimpArgs false
set_option linter.unusedVariables false
set_option linter.unusedSectionVars false
open Go.ChangeShapes Go.WideShapes Go.ChangeAt Go.RowKit Go.Deep Go.Shelf

theorem itemF_cells : Tryz.prog.cellsOf 3 = 1 := by kernel_rfl
theorem itemF_agg : ∀ w, (isAgg 3).run Tryz.prog w = .ok false w := fun w => by simp [isAgg, run_underlying Tryz.underlying3]
theorem items_self (d : Nat) (xs : Array Value) (w : World) : ∀ is : List Nat, (∀ j ∈ is, ∃ x : Int, xs[j]? = some (.int .i64 x)) → (Op.eqItems (d + 1) 3 1 xs xs is).run Tryz.prog w = .ok true w
  | [], _ => by simp [Op.eqItems]
  | j :: is, h => by
    obtain ⟨x, hx⟩ := h j (by simp)
    have ih := items_self d xs w is (fun k hk => h k (by simp [hk]))
    have hp : (part 3 xs j).run Tryz.prog w = .ok (.int .i64 x) w := by simp [part, itemF_agg, hx]
    have he : (Op.equalIn (d + 1) 3 (.int .i64 x) (.int .i64 x)).run Tryz.prog w = .ok (x == x) w := run_equalIn_int w d _ .i64 .i64 x x Tryz.underlying3
    simp [Op.eqItems, hp, he, ih]
theorem arr_self {t : TypeId} {n : Nat} {i : TypeInfo} (hu : Tryz.prog.underlying t = some (.array n 3)) (hi : Tryz.prog.info? 3 = some i) (xs : Array Value) (hx : ∀ j, j < n → ∃ x : Int, xs[j]? = some (.int .i64 x)) (w : World) : (binOp .eql t (.agg xs) (.agg xs)).run Tryz.prog w = .ok (.bool true) w := by
  rw [run_eql_struct, show (10000 : Nat) = 9999 + 1 from rfl, run_equalIn_array w 9999 xs xs hu hi, itemF_cells, show (9999 : Nat) = 9998 + 1 from rfl, items_self 9998 xs w (List.range n) (fun j hj => hx j (List.mem_range.1 hj))]
  rfl
end Go.Proofs.YtfgldglelijekaaGreatDoor
