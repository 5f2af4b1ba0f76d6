/-
  Pings: an entry of the map made and stored into, one taken away.
-/
import Derived.Test.YtfloijkagfabpaaGreatDoorPng1
namespace Go.Proofs.YtfloijkagfabpaaGreatDoor
set_option linter.unusedSimpArgs false
set_option linter.unusedVariables false
set_option linter.unusedSectionVars false
set_option maxRecDepth 100000
open Go.ChangeShapes Go.WideShapes Go.ChangeAt Go.RowKit Go.Deep Go.Maps Go.ChangeMaps

theorem setBlock_self {w : World} {b : Nat} {o : Obj} (h : w.heap[b]? = some o) : setBlock w b o = w := by
  have e : w.heap.setIfInBounds b o = w.heap := by
    apply Array.ext_getElem?
    intro i
    rw [Array.getElem?_setIfInBounds]
    split
    · rename_i hi
      subst hi
      split
      · exact h.symm
      · rename_i hn
        rw [Array.getElem?_eq_none (by omega)] at h
        cases h
    · rfl
  unfold setBlock
  rw [e]
theorem setBlock_two (w : World) (b : Nat) (x y : Obj) : setBlock (setBlock w b x) b y = setBlock w b y := by
  unfold setBlock
  simp
theorem PgMap.entry {w : World} {mb n : Nat} {f : List UInt8 → Int} (h : PgMap w mb n f) {k : List UInt8} (hk : k.length = 8) (hn : n < 1000000) :
    ∃ v0 st w1, (Instr.mapEntry PmT (.map (some mb)) (kv k)).run Tryz.prog w = .ok (.tuple #[v0, goInt st]) w1 ∧ PgMap w1 mb (n + 1) f ∧ w.mapTurned w1 mb ∧
      ∀ c : Int, (Lit.int .i64 c).wf = true → ∃ w2, (Instr.entryStore PmT (.map (some mb)) (goInt st) (.int .i64 c)).run Tryz.prog w1 = .ok () w2 ∧ PgMap w2 mb (n + 1) (upd f k c) ∧ w.mapTurned w2 mb := by
  have hlook := h.look hk
  have hall := h
  obtain ⟨D, hown, h2⟩ := h
  obtain ⟨kl, hkl⟩ := key_of hk
  have hn' : n < maxLen := by unfold maxLen; omega
  have hM := own_isMap hown
  have hown' := hown
  obtain ⟨es, clock, hb, F, hs, hD⟩ := hown'
  obtain ⟨v0, st, es1, clock1, hrun, _, hstore⟩ := WideElems.entry_then_store (w := w) pk_klaw Tryz.underlying176 pz hb F hkl
  refine ⟨v0, st, setBlock w mb (.map es1 clock1), hrun, ?_, ⟨es, clock, es1, clock1, hb, rfl⟩, fun c hc => ?_⟩
  · rcases pk_klaw.find w hkl es.toList F.keys with ⟨h1, h3⟩ | ⟨j, e0, h1, h3, h4⟩
    · have hr : (Instr.mapEntry PmT (.map (some mb)) (kv k)).run Tryz.prog w = .ok (.tuple #[.int .i64 0, goInt clock]) (setBlock w mb (.map (es.push ⟨kv k, .int .i64 0, clock⟩) (clock + 1))) := by
        simp [Instr.mapEntry, run_underlying Tryz.underlying176, MapKept.run_getObj_map hb, pk_klaw.check w false hkl, h1, pz, MapKept.run_setObj_map _ hb, Result.andThen, setBlock]
      have hu : (Instr.mapUpdate PmT (.map (some mb)) (kv k) (.int .i64 0)).run Tryz.prog w = .ok () (setBlock w mb (.map (es.push ⟨kv k, .int .i64 0, clock⟩) (clock + 1))) := by
        simp [Instr.mapUpdate, run_underlying Tryz.underlying176, MapKept.run_getObj_map hb, pk_klaw.check w false hkl, h1, MapKept.run_setObj_map _ hb, Result.andThen, setBlock]
      have hl : (Instr.lookup PmT (.map (some mb)) (kv k) false).run Tryz.prog w = .ok (.int .i64 0) w := by
        simp [Instr.lookup, run_underlying Tryz.underlying176, MapKept.run_getObj_map hb, pk_klaw.check w es.isEmpty hkl, h1, pz, Result.andThen]
      have hf0 : f k = 0 := by
        rw [hlook] at hl
        injection hl with hl _
        injection hl
      obtain ⟨w', hrun', hown2, _⟩ := hown.store pk_law Tryz.underlying176 hn' hkl (plainElem_int Tryz.underlying3 (a := 0) (by decide))
      rw [hu] at hrun'
      injection hrun' with _ hw'
      rw [hr] at hrun
      injection hrun with _ hw1
      rw [← hw1, hw']
      exact (PgMap.set hkl hM h2 hown2).congr fun k' _ => by unfold upd; split <;> simp_all
    · have hsame : es.modify j (fun e => { e with key := kv k }) = es := by
        apply Array.ext_getElem?
        intro i
        rw [Array.getElem?_modify]
        split
        · rename_i hi
          subst hi
          have hj : es[j]? = some e0 := by simpa using h3
          rw [hj, Option.map_some, ← h4]
        · rfl
      have hj : es[j]? = some e0 := by simpa using h3
      have hr : (Instr.mapEntry PmT (.map (some mb)) (kv k)).run Tryz.prog w = .ok (.tuple #[e0.val, goInt e0.born]) (setBlock w mb (.map es clock)) := by
        simp [Instr.mapEntry, run_underlying Tryz.underlying176, MapKept.run_getObj_map hb, pk_klaw.check w false hkl, h1, hj, h4, pk_klaw.stays w hkl, hsame, MapKept.run_setObj_map _ hb, Result.andThen, setBlock]
      rw [hr] at hrun
      injection hrun with _ hw1
      rw [← hw1, setBlock_self hb]
      exact hall.mono (by omega)
  · obtain ⟨es', clock', hst, hup⟩ := hstore (setBlock w mb (.map es1 clock1)) (.int .i64 c) (heap_setBlock_same hb _)
    obtain ⟨w', hrun', hown2, hturn⟩ := hown.store pk_law Tryz.underlying176 hn' hkl (plainElem_int Tryz.underlying3 hc)
    rw [hup] at hrun'
    injection hrun' with _ hw'
    rw [setBlock_two] at hst
    subst hw'
    exact ⟨_, hst, PgMap.set hkl hM h2 hown2, hturn⟩
theorem PgMap.del {w : World} {mb n : Nat} {f : List UInt8 → Int} (h : PgMap w mb n f) {k : List UInt8} (hk : k.length = 8) (ty : TypeId) :
    ∃ w', (Builtin.delete_ #[PmT, PkT] ty #[.map (some mb), kv k]).run Tryz.prog w = .ok (.tuple #[]) w' ∧ PgMap w' mb n (upd f k 0) ∧ w.mapTurned w' mb := by
  obtain ⟨D, hown, h2⟩ := h
  obtain ⟨kl, hkl⟩ := key_of hk
  obtain ⟨w', hrun, hown2, hturn⟩ := hown.drop pk_law Tryz.underlying176 hkl ty
  refine ⟨w', hrun, ⟨_, hown2, fun k' kl' hk' hkl' => ?_⟩, hturn⟩
  unfold upd
  by_cases he : k' = k
  · subst he
    obtain rfl : kl' = kl := Option.some.inj (hkl'.symm.trans hkl)
    rw [if_pos rfl]
    exact atKey_del_same _
  · rw [if_neg he, ← h2 k' kl' hk' hkl']
    exact atKey_del_other (lit_ne hkl hkl' he) _
end Go.Proofs.YtfloijkagfabpaaGreatDoor
