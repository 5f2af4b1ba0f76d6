/-
  An append as one step of a region that draws its order.
-/
import Derived.Test.YtngnjlidfhenkaaApp
import Derived.Deep.RegionHeld3
namespace Go.Proofs.Ytngnjlidfhenkaa
set_option linter.unusedSimpArgs false
set_option linter.unusedVariables false
set_option linter.unusedSectionVars false
open Go.ChangeShapes Go.WideShapes Go.ChangeAt Go.RowKit Go.Deep

theorem step_core {P : Program} {ops : Array Oper} {o : Oper} {a : Act} {K : Act → World → Prop} {Q : Exit → Act → World → Prop} {E : Prop} {w w' : World} {t : TypeId} {v V v' : Value} (hgd : o.guard = none) (s x : Operand)
    (ho : o.op = .call { callee := .builtin .append, args := #[s, x], argTypes := #[t, t] }) (hs : a.eval s = v) (hx : a.eval x = V)
    (hrun : (Builtin.append_ #[t, t] o.type #[v, V]).run P w = .ok v' w') (h : K (a.put o.dst v') w') : if Region.wanted o (yielded ops a.tmps) = true then Oper.wp P o a w K Q else E := by
  have hw : Region.wanted o (yielded ops a.tmps) = true := by simp [Region.wanted, hgd]
  rw [if_pos hw]
  unfold Oper.wp
  simp [execOp, ho, resolve, invoke, builtin, hs, hx, hrun, Result.andThen]
  exact h

theorem run_app_sl {α : Type} {P : Program} {w : World} {t e ty : TypeId} {z : Value} {size bytes : Nat} (hT : SliceTy P t e z size bytes)
    {base n : Nat} {v : Value} {xs : List Value} (hown : w.ownsRow base e size v n xs)
    {A : Option Addr} {c B : Nat} {R : α → List Value → Prop} {cf : α → List Value} {ms : List α} (hr : SlR w B size R A ms) (hR : ∀ y ∈ ms, ∀ cs, R y cs → cs = cf y) (hc : ∀ y ∈ ms, (cf y).length = size) (h1 : ∀ y ∈ ms, ∀ u ∈ cf y, u.oneCell' = true)
    (h63 : n + ms.length ≤ maxLen) (hbytes : (n + ms.length) * bytes ≤ 140737488355328) (hbase : base ≤ w.heap.size) :
    ∃ v' w', (Builtin.append_ #[t, t] ty #[v, .slice A ms.length c]).run P w = .ok v' w' ∧ w'.ownsRow base e size v' (n + ms.length) (xs ++ ms.flatMap cf) ∧ w.grownBy w' v.ownBlock := by
  obtain ⟨i, ht, hi, hz, hsz, hby, hzs, h0⟩ := hT
  rcases A with _ | ad
  · have hms : ms = [] := by
      rcases Nat.eq_zero_or_pos ms.length with hn | hp
      · exact List.eq_nil_of_length_eq_zero hn
      · obtain ⟨_, _, _, hA, _⟩ := hr 0 hp
        cases hA
    subst hms
    exact ⟨v, w, run_append_nil (P := P) w base t ty e i size ht hi v n xs hown none c rfl, by simpa using hown, World.grownBy.refl w _⟩
  · have hlen : (ms.flatMap cf).length = ms.length * size := by
      clear hr hR h1 h63 hbytes
      induction ms with
      | nil => simp
      | cons y r ih =>
        simp only [List.flatMap_cons, List.length_append, List.length_cons, Nat.add_mul, Nat.one_mul]
        rw [ih (fun z hz => hc z (by simp [hz])), hc y (by simp)]
        omega
    obtain ⟨v', w', e1, e2, e3, _⟩ := run_append_own w base t ty e i z size bytes ht hi hz hsz hby hzs h0 v n xs hown ad ms.length c (ms.flatMap cf) hlen (by
      intro j u hu
      have hj : j < ms.length * size := by rw [← hlen]; exact (List.getElem?_eq_some_iff.1 hu).1
      have hk : j / size < ms.length := Nat.div_lt_of_lt_mul (by rw [Nat.mul_comm]; exact hj)
      obtain ⟨b, off, cs, hA, _, hRk, hcell⟩ := hr _ hk
      injection hA with hA
      subst hA
      have hcs := hR _ (List.getElem_mem hk) _ hRk
      subst hcs
      have hjr : j % size < (cf ms[j / size]).length := by rw [hc _ (List.getElem_mem hk)]; exact Nat.mod_lt _ h0
      have hj2 : j / size * size + j % size = j := by rw [Nat.mul_comm]; exact Nat.div_add_mod j size
      have hu2 := flat_get ms hc _ hk _ _ (List.getElem?_eq_getElem hjr)
      rw [hj2, hu] at hu2
      have := hcell (j % size) _ (List.getElem?_eq_getElem hjr)
      rw [Nat.add_assoc, hj2] at this
      have e1 : (⟨b, off, none⟩ : Addr).add j = ⟨b, off + j, none⟩ := by unfold Addr.add; by_cases hz : j = 0 <;> simp [hz]
      rw [e1, this, hu2]) (by
      intro u hu
      obtain ⟨y, hy, hu⟩ := List.mem_flatMap.1 hu
      exact h1 y hy u hu) h63 hbytes hbase
    exact ⟨v', w', e1, e2, e3⟩

/-- One append, from a slice that reads as ms. -/
theorem step_app_sl {α : Type} {P : Program} {ops : Array Oper} {o : Oper} {a : Act} {K : Act → World → Prop} {Q : Exit → Act → World → Prop} {E : Prop} {w : World} {t e : TypeId} {z : Value} {size bytes : Nat} (hT : SliceTy P t e z size bytes)
    (s x : Operand) (hgd : o.guard = none) (ho : o.op = .call { callee := .builtin .append, args := #[s, x], argTypes := #[t, t] })
    {base n : Nat} {v : Value} {xs : List Value} (hs : a.eval s = v) (hown : w.ownsRow base e size v n xs)
    {A : Option Addr} {m c B : Nat} {R : α → List Value → Prop} {cf : α → List Value} {ms : List α} (hx : a.eval x = .slice A m c) (hm : ms.length = m) (hr : SlR w B size R A ms) (hR : ∀ y ∈ ms, ∀ cs, R y cs → cs = cf y) (hc : ∀ y ∈ ms, (cf y).length = size) (h1 : ∀ y ∈ ms, ∀ u ∈ cf y, u.oneCell' = true)
    (h63 : n + m ≤ maxLen) (hbytes : (n + m) * bytes ≤ 140737488355328) (hbase : base ≤ w.heap.size)
    (h : ∀ v' w', w'.ownsRow base e size v' (n + m) (xs ++ ms.flatMap cf) → w.grownBy w' v.ownBlock → K (a.put o.dst v') w') : if Region.wanted o (yielded ops a.tmps) = true then Oper.wp P o a w K Q else E := by
  subst hm
  obtain ⟨v', w', e1, e2, e3⟩ := run_app_sl (ty := o.type) (c := c) hT hown hr hR hc h1 h63 hbytes hbase
  exact step_core hgd s x ho hs hx e1 (h v' w' e2 e3)

/-- One append, from a block. -/
theorem step_app {P : Program} {ops : Array Oper} {o : Oper} {a : Act} {K : Act → World → Prop} {Q : Exit → Act → World → Prop} {E : Prop} {w : World} {t e : TypeId} {z : Value} {size bytes : Nat} (hT : SliceTy P t e z size bytes)
    (s x : Operand) (hgd : o.guard = none) (ho : o.op = .call { callee := .builtin .append, args := #[s, x], argTypes := #[t, t] })
    {base n : Nat} {v : Value} {xs : List Value} (hs : a.eval s = v) (hown : w.ownsRow base e size v n xs)
    {g m c : Nat} {e' : TypeId} {news : Array Value} (hx : a.eval x = .slice (some ⟨g, 0, none⟩) m c) (hb : Blk w g e' news) (hl : news.size = m * size) (h1 : ∀ u ∈ news.toList, u.oneCell' = true)
    (h63 : n + m ≤ maxLen) (hbytes : (n + m) * bytes ≤ 140737488355328) (hbase : base ≤ w.heap.size)
    (h : ∀ v' w', w'.ownsRow base e size v' (n + m) (xs ++ news.toList) → w.grownBy w' v.ownBlock → K (a.put o.dst v') w') : if Region.wanted o (yielded ops a.tmps) = true then Oper.wp P o a w K Q else E := by
  obtain ⟨i, ht, hi, hz, hsz, hby, hzs, h0⟩ := hT
  obtain ⟨v', w', e1, e2, e3, _⟩ := run_append_own w base t o.type e i z size bytes ht hi hz hsz hby hzs h0 v n xs hown ⟨g, 0, none⟩ m c news.toList (by simpa using hl) (by
    intro j u hu
    have e1 : (⟨g, 0, none⟩ : Addr).add j = ⟨g, j, none⟩ := by unfold Addr.add; by_cases hj : j = 0 <;> simp [hj]
    rw [e1, hb.cell j]
    simpa using hu) h1 h63 hbytes hbase
  exact step_core hgd s x ho hs hx e1 (h v' w' e2 e3)
