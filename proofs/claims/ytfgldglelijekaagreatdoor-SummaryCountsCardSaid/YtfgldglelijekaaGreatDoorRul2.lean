/-
  Rules: the document's tables, and what a rule asks.
-/
import Derived.Test.YtfgldglelijekaaGreatDoorRul1
namespace Go.Proofs.YtfgldglelijekaaGreatDoor
set_option linter.unusedSimpArgs false
set_option linter.unusedVariables false
set_option linter.unusedSectionVars false
open Go.ChangeShapes Go.WideShapes Go.ChangeAt Go.RowKit Go.Deep Go.Shelf

/-- A row of texts that is new. -/
def NamesR (n : Nat) (f : Nat → List UInt8) (w : World) (e : Ending) (w' : World) : Prop := ∃ g j, e = .returned (.slice (some ⟨g, 0, none⟩) n n) ∧ (∀ k, k < n → w'.cell? ⟨g, k, none⟩ = some (bstr (f k))) ∧ g < w'.heap.size ∧ w' = w.more j
theorem names_moreR {n : Nat} {f : Nat → List UInt8} {w : World} {t : TypeId} {cs : Array Value} (h : ∀ k, k < n → cs[k]? = some (bstr (f k))) : NamesR n f w (.returned (.slice (some ⟨w.heap.size, 0, none⟩) n n)) (w.alloc (.cells cs t)) := by
  obtain ⟨j, hj⟩ : ∃ j, w.alloc (.cells cs t) = w.more j := Below.junk (by repeat (first | (with_reducible exact Below.refl _ _) | (with_reducible refine Below.allocS ?_ _) | (with_reducible refine Below.moreS ?_ _) | (with_reducible refine Below.drew ?_) | (with_reducible refine below_drewN ?_ _)))
  exact ⟨_, j, rfl, fun k hk => (Blk.new w t cs).cell k |>.trans (h k hk), by simp, hj⟩
theorem ref38_names_lit : ∀ m : Fin 35, (rulW)[m.val]? = some ((fun k => rulW.getD k []) m.val) := by decide +kernel
theorem ref38_sections_lit : ∀ m : Fin 35, (secW)[m.val]? = some ((fun k => secW.getD k []) m.val) := by decide +kernel
set_option maxRecDepth 100000 in
theorem ref38_sections (w : World) : Calls Tryz.prog 40 #[] w (NamesR 35 (fun k => secW.getD k []) w) := by
  go_enter Tryz.func40, Tryz.ntmps40
  go_wp2_with fail
  go_ret
  refine names_moreR (cs := ((secW).map bstr).toArray) fun k hk => ?_
  rw [List.getElem?_toArray, List.getElem?_map, ref38_sections_lit ⟨k, hk⟩, Option.map_some]
theorem ref38_sentences_lit : ∀ m : Fin 18, (askW.take 18)[m.val]? = some ((fun k => askW.getD k []) m.val) := by decide +kernel
theorem ref38_others_lit : ∀ m : Fin 17, (askW.drop 18)[m.val]? = some ((fun k => askW.getD (18 + k) []) m.val) := by decide +kernel
set_option maxHeartbeats 4000000 in
set_option maxRecDepth 100000 in
theorem ref38_Section (n : Int) (w : World) : Calls Tryz.prog 28 #[.int .i64 n] w fun e w' => e = .returned (bstr (tabN secW n)) ∧ ∃ j, w' = w.more j := by
  by_cases h : n < 1 ∨ 35 < n
  · rw [tab_out secW h]
    rcases h with h | h
    · go_enter Tryz.func28, Tryz.ntmps28
      go_wp2_with fail
      go_ret
      exact ⟨rfl, Below.junk (by repeat (first | (with_reducible exact Below.refl _ _) | (with_reducible refine Below.allocS ?_ _) | (with_reducible refine Below.moreS ?_ _) | (with_reducible refine Below.drew ?_) | (with_reducible refine below_drewN ?_ _)))⟩
    · have h1 : ¬ n < 1 := by omega
      go_enter Tryz.func28, Tryz.ntmps28
      go_wp2_with fail
      go_ret
      exact ⟨rfl, Below.junk (by repeat (first | (with_reducible exact Below.refl _ _) | (with_reducible refine Below.allocS ?_ _) | (with_reducible refine Below.moreS ?_ _) | (with_reducible refine Below.drew ?_) | (with_reducible refine below_drewN ?_ _)))⟩
  · obtain ⟨k, rfl⟩ : ∃ k : Nat, n = (k : Int) + 1 := ⟨(n - 1).toNat, by omega⟩
    have hk : k < 35 := by omega
    rw [tab_in secW k hk]
    have h1 : ¬ (k : Int) + 1 < 1 := by omega
    have h2 : ¬ 35 < (k : Int) + 1 := by omega
    have hw1 : IntKind.i64.wrap ((k : Int) + 1 - 1) = k := by rw [show (k : Int) + 1 - 1 = k by omega]; exact IntWalk.i64_in _ (by omega)
    have hw2 : IntKind.i64.wrap (k : Int) = k := IntWalk.i64_in _ (by omega)
    have HR : Hid (∀ W, Calls Tryz.prog 40 #[] W fun e w' => ∃ g j, e = .returned (.slice (some ⟨g, 0, none⟩) 35 35) ∧ w'.cell? ⟨g, k, none⟩ = some (bstr (secW.getD k [])) ∧ g < w'.heap.size ∧ w' = W.more j) := fun W => (ref38_sections W).mono fun e w' ⟨g, j, h1, h2, h3, h4⟩ => ⟨g, j, h1, h2 k hk, h3, h4⟩
    generalize secW.getD k [] = T at HR ⊢
    clear h
    go_enter Tryz.func28, Tryz.ntmps28
    go_wp2_with fail
    refine (HR.out _).mono ?_
    rintro e w' ⟨g, j, rfl, c0, hg, rfl⟩
    clear HR
    go_wp2_with fail
    go_ret
    exact ⟨rfl, Below.junk (by repeat (first | (with_reducible exact Below.refl _ _) | (with_reducible refine Below.allocS ?_ _) | (with_reducible refine Below.moreS ?_ _) | (with_reducible refine Below.drew ?_) | (with_reducible refine below_drewN ?_ _)))⟩
end Go.Proofs.YtfgldglelijekaaGreatDoor
