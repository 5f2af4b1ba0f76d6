/-
  What the program and the document say of pseudo-fields is the same: plain lists, no program.
-/
import Derived.Test.YtafccnkeiohlhaaPse7
namespace Go.Proofs.Ytafccnkeiohlhaa
open Go.ChangeShapes Go.WideShapes Go.ChangeAt Go.RowKit Go.Deep

theorem manyF_append (p q : List Fd) (n : List UInt8) : manyF (p ++ q) n = manyF p n + manyF q n := by
  simp [manyF]
theorem valueR_append : ∀ (p q : List Fd) (n : List UInt8), valueR (p ++ q) n = if manyF p n = 0 then valueR q n else valueR p n
  | [], q, n => by simp [manyF]
  | f :: r, q, n => by
    cases h : (f.name == n) with
    | true =>
      rw [List.cons_append, valueR_yes h, valueR_yes h, manyF_yes h]
      have := (manyF_le r n).1
      rw [if_neg (by omega)]
    | false =>
      rw [List.cons_append, valueR_no h, valueR_no h, manyF_no h]
      exact valueR_append r q n
theorem ordGo_dup {all : List Fd} {names : List (List UInt8)} : ∀ (r : List Fd) (p : Bool), (∃ g ∈ r, startsF g.name = true ∧ 1 < manyF all g.name) → ordGo all names p r = false
  | [], p, h => by obtain ⟨g, hg, _⟩ := h; simp at hg
  | f :: r, p, ⟨g, hg, h1, h2⟩ => by
    rcases List.mem_cons.1 hg with rfl | hg
    · rw [ordGo_yes h1, decide_eq_true h2]; simp
    · cases hf : startsF f.name with
      | true => rw [ordGo_yes hf, ordGo_dup r true ⟨g, hg, h1, h2⟩]; simp
      | false => rw [ordGo_no hf]; exact ordGo_dup r false ⟨g, hg, h1, h2⟩
theorem manyF_mem {r : List Fd} {n : List UInt8} (h : 0 < manyF r n) : ∃ g ∈ r, g.name = n := by
  unfold manyF at h
  have : 0 < (r.filter fun f => f.name == n).length := by omega
  obtain ⟨g, hg⟩ := List.exists_mem_of_length_pos this
  obtain ⟨h1, h2⟩ := List.mem_filter.1 hg
  exact ⟨g, h1, by simpa using h2⟩

theorem fnd_out {c : List UInt8 → Int} {name : List UInt8} : ∀ (names : List (List UInt8)) (s : Nat), amongF names name = false → fndGo names (names.map c) name s = none
  | [], s, _ => rfl
  | n :: ns, s, h => by
    simp only [amongF, List.any_cons, Bool.or_eq_false_iff] at h
    simp only [List.map_cons, fndGo, h.1, Bool.false_and]
    exact fnd_out ns (s + 1) h.2
theorem fnd_full {c : List UInt8 → Int} {name : List UInt8} (hc : (c name == 0) = false) : ∀ (names : List (List UInt8)) (s : Nat), fndGo names (names.map c) name s = none
  | [], s => rfl
  | n :: ns, s => by
    cases h : (n == name) with
    | true =>
      have : n = name := by simpa using h
      subst this
      simp only [List.map_cons, fndGo, hc, Bool.and_false]
      exact fnd_full hc ns (s + 1)
    | false =>
      simp only [List.map_cons, fndGo, h, Bool.false_and]
      exact fnd_full hc ns (s + 1)
theorem fnd_in {c : List UInt8 → Int} {name : List UInt8} (hc : (c name == 0) = true) : ∀ (names : List (List UInt8)) (s : Nat), amongF names name = true → fndGo names (names.map c) name s = some (s + names.findIdx (· == name))
  | [], s, h => by simp [amongF] at h
  | n :: ns, s, h => by
    cases h1 : (n == name) with
    | true =>
      have : n = name := by simpa using h1
      subst this
      simp [fndGo, hc, List.findIdx_cons]
    | false =>
      simp only [amongF, List.any_cons, h1, Bool.false_or] at h
      simp only [List.map_cons, fndGo, h1, Bool.false_and, List.findIdx_cons]
      rw [if_neg (by simp), fnd_in hc ns (s + 1) h]
      simp; omega
theorem set_map {β : Type} {g : List UInt8 → β} {name : List UInt8} {v : β} : ∀ (names : List (List UInt8)), names.Nodup → amongF names name = true → (names.map g).set (names.findIdx (· == name)) v = names.map fun n => if n = name then v else g n
  | [], _, h => by simp [amongF] at h
  | n :: ns, hd, h => by
    obtain ⟨hn, hd⟩ := List.nodup_cons.1 hd
    cases h1 : (n == name) with
    | true =>
      have : n = name := by simpa using h1
      subst this
      simp [List.findIdx_cons]
      intro a ha e
      subst e
      exact absurd ha hn
    | false =>
      simp only [amongF, List.any_cons, h1, Bool.false_or] at h
      have hne : n ≠ name := by simpa using h1
      simp only [List.map_cons, List.findIdx_cons, h1, List.set_cons_succ, cond_false, if_neg hne]
      rw [set_map ns hd h]

theorem val_ord {names : List (List UInt8)} (hd : names.Nodup) (hst : ∀ n ∈ names, startsF n = true) : ∀ (r p : List Fd) (over : Bool),
    valGo names r (names.map (valueR p)) (names.map (manyF p)) over = if ordGo (p ++ r) names (!over) r = true then some (names.map (valueR (p ++ r)), names.map (manyF (p ++ r))) else none
  | [], p, over => by simp [valGo, ordGo]
  | f :: r, p, over => by
    have hap : p ++ f :: r = (p ++ [f]) ++ r := by simp
    cases hf : startsF f.name with
    | false =>
      have hne : ∀ n ∈ names, (f.name == n) = false := by
        intro n hn
        have : f.name ≠ n := fun e => by rw [e, hst n hn] at hf; cases hf
        simpa using this
      have e1 : names.map (valueR p) = names.map (valueR (p ++ [f])) := List.map_congr_left fun n hn => by
        rw [valueR_append, valueR_no (hne n hn)]
        split
        · rename_i h0
          have : ∀ (p : List Fd), manyF p n = 0 → valueR p n = [] := by
            intro p
            induction p with
            | nil => intro _; rfl
            | cons g q ih =>
              intro h
              cases hg : (g.name == n) with
              | true => rw [manyF_yes hg] at h; have := (manyF_le q n).1; omega
              | false => rw [valueR_no hg]; rw [manyF_no hg] at h; exact ih h
          rw [this p h0]; rfl
        · rfl
      have e2 : names.map (manyF p) = names.map (manyF (p ++ [f])) := List.map_congr_left fun n hn => by
        rw [manyF_append, manyF_no (hne n hn)]; simp [manyF]
      rw [valGo_over hf, ordGo_no hf, e1, e2, hap, val_ord hd hst r (p ++ [f]) true]
      rfl
    | true =>
      cases over with
      | true => rw [valGo_late hf, ordGo_yes hf]; simp
      | false =>
        cases ha : amongF names f.name with
        | false => rw [valGo_none hf (fnd_out names 0 ha), ordGo_yes hf, ha]; simp
        | true =>
          have hall : manyF (p ++ f :: r) f.name = manyF p f.name + (manyF r f.name + 1) := by rw [manyF_append, manyF_yes (by simp)]
          have hr := (manyF_le r f.name).1
          cases hc : (manyF p f.name == 0) with
          | false =>
            have hp : manyF p f.name ≠ 0 := by simpa using hc
            have hp0 := (manyF_le p f.name).1
            rw [valGo_none hf (fnd_full hc names 0), ordGo_yes hf, decide_eq_true (show (1 : Int) < manyF (p ++ f :: r) f.name by rw [hall]; omega)]
            simp
          | true =>
            have hp : manyF p f.name = 0 := by simpa using hc
            have e1 : (names.map (valueR p)).set (names.findIdx (· == f.name)) f.value = names.map (valueR (p ++ [f])) := by
              rw [set_map names hd ha]
              refine List.map_congr_left fun n hn => ?_
              rw [valueR_append]
              by_cases hnf : n = f.name
              · subst hnf
                rw [if_pos rfl, if_pos hp, valueR_yes (by simp)]
              · rw [if_neg hnf, valueR_no (by simp; exact fun e => hnf e.symm)]
                split
                · rename_i h0
                  have : ∀ (p : List Fd), manyF p n = 0 → valueR p n = [] := by
                    intro p
                    induction p with
                    | nil => intro _; rfl
                    | cons g q ih =>
                      intro h
                      cases hg : (g.name == n) with
                      | true => rw [manyF_yes hg] at h; have := (manyF_le q n).1; omega
                      | false => rw [valueR_no hg]; rw [manyF_no hg] at h; exact ih h
                  rw [this p h0]; rfl
                · rfl
            have e2 : (names.map (manyF p)).set (names.findIdx (· == f.name)) 1 = names.map (manyF (p ++ [f])) := by
              rw [set_map names hd ha]
              refine List.map_congr_left fun n hn => ?_
              rw [manyF_append]
              by_cases hnf : n = f.name
              · subst hnf
                rw [if_pos rfl, hp, manyF_yes (by simp)]
                simp [manyF]
              · rw [if_neg hnf, manyF_no (by simp; exact fun e => hnf e.symm)]
                simp [manyF]
            have hfi := fnd_in (c := manyF p) hc names 0 ha
            rw [Nat.zero_add] at hfi
            rw [valGo_some hf hfi, e1, e2, hap, val_ord hd hst r (p ++ [f]) false, ← hap, ordGo_yes hf, ha]
            by_cases hdup : 1 < manyF (p ++ f :: r) f.name
            · obtain ⟨g, hg, hgn⟩ := manyF_mem (r := r) (n := f.name) (by rw [hall, hp] at hdup; omega)
              rw [ordGo_dup r (!false) ⟨g, hg, by rw [hgn]; exact hf, by rw [hgn]; exact hdup⟩, decide_eq_true hdup]
              simp
            · rw [decide_eq_false hdup]
              simp
theorem valF_eq {names : List (List UInt8)} (hd : names.Nodup) (hst : ∀ n ∈ names, startsF n = true) (l : List Fd) :
    valF l names = if orderedF l names = true then some (names.map (valueR l), names.map (manyF l)) else none := by
  have := val_ord hd hst l [] false
  have e1 : names.map (valueR []) = names.map fun _ => [] := List.map_congr_left fun _ _ => rfl
  have e2 : names.map (manyF []) = names.map fun _ => 0 := List.map_congr_left fun _ _ => rfl
  rw [e1, e2] at this
  exact this
theorem progReq_eq (l : List Fd) : progReq l = refReq l := by
  have hv := valF_eq (names := reqNames) (by decide) (by decide) l
  cases ho : orderedF l reqNames with
  | false =>
    rw [ho] at hv
    rw [refReq_no ho, progReq_none hv]
  | true =>
    rw [ho] at hv
    have hv' : valF l reqNames = some ([valueR l nMethod, valueR l nScheme, valueR l nAuthority, valueR l nPath], [manyF l nMethod, manyF l nScheme, manyF l nAuthority, manyF l nPath]) := hv
    have hk : progOk (reqHd l) (manyF l nScheme) (manyF l nPath) = reqOk (reqHd l) (manyF l nScheme + manyF l nPath) := by
      have h1 := (manyF_le l nScheme).1
      have h2 := (manyF_le l nPath).1
      unfold progOk reqOk
      have : (manyF l nScheme + manyF l nPath == 0) = !decide (0 < manyF l nScheme + manyF l nPath) := by
        rw [Bool.eq_iff_iff]; simp; omega
      rw [this]
      split <;> simp [Bool.not_or, Bool.and_assoc]
    cases hok : reqOk (reqHd l) (manyF l nScheme + manyF l nPath) with
    | false => rw [refReq_bad hok, progReq_bad hv' (hk.trans hok)]
    | true => rw [refReq_ok ho hok, progReq_ok hv' (hk.trans hok)]; rfl
theorem nat3 (a b c : UInt8) : resOf (natF [a, b, c] 999) = match dGo [a, b, c] 0 with
    | none => (noHd, false)
    | some n => resNum n := by
  have hn : natF [a, b, c] 999 = natGo 999 [a, b, c] 0 := by simp [natF]
  rw [hn]
  by_cases ha : (a.toNat : Int) < 48 ∨ 57 < (a.toNat : Int)
  · rw [natGo_high ha, dGo_bad ha]; rfl
  · rw [natGo_step (by omega) (by omega) (by omega) (by omega), dGo_ok ha]
    by_cases hb : (b.toNat : Int) < 48 ∨ 57 < (b.toNat : Int)
    · rw [natGo_high hb, dGo_bad hb]; rfl
    · rw [natGo_step (by omega) (by omega) (by omega) (by omega), dGo_ok hb]
      by_cases hc : (c.toNat : Int) < 48 ∨ 57 < (c.toNat : Int)
      · rw [natGo_high hc, dGo_bad hc]; rfl
      · rw [natGo_step (by omega) (by omega) (by omega) (by omega), dGo_ok hc]
        simp only [natGo, dGo, resOf, resNum]
        generalize 10 * (10 * (10 * 0 + ((a.toNat : Int) - 48)) + ((b.toNat : Int) - 48)) + ((c.toNat : Int) - 48) = n
        by_cases h1 : n < 100
        · simp [h1]
        · by_cases h2 : n = 101 <;> simp [h1, h2]
theorem progRes_eq (l : List Fd) : progRes l = refRes l := by
  have hv := valF_eq (names := stNames) (by decide) (by decide) l
  cases ho : orderedF l stNames with
  | false =>
    rw [ho] at hv
    rw [refRes_no ho, progRes_none hv]
  | true =>
    rw [ho] at hv
    have hv' : valF l stNames = some ([valueR l nStatus], [manyF l nStatus]) := hv
    by_cases h3 : ((valueR l nStatus).length : Int) = 3
    · rw [progRes_ok hv' (by rw [h3]; rfl)]
      have hl : (valueR l nStatus).length = 3 := by omega
      have e : refRes l = match dGo (valueR l nStatus) 0 with
          | none => (noHd, false)
          | some n => resNum n := by unfold refRes; rw [if_pos ho, if_pos h3]; rfl
      rw [e]
      generalize valueR l nStatus = s at hl
      match s, hl with
      | [a, b, c], _ => exact nat3 a b c
    · rw [progRes_len hv' (by simpa using h3), refRes_len h3]
theorem valF_le {w : World} {B : Nat} {a : Option Addr} {l : List Fd} (h : SlF w B a l) : ∀ p, valF l stNames = some p → ∀ s ∈ p.1, s.length ≤ maxLen := by
  intro p hp s hs
  rw [valF_eq (names := stNames) (by decide) (by decide) l] at hp
  split at hp
  · injection hp with hp
    subst hp
    obtain ⟨n, _, rfl⟩ := List.mem_map.1 hs
    exact valueR_le h n
  · cases hp
end Go.Proofs.Ytafccnkeiohlhaa
