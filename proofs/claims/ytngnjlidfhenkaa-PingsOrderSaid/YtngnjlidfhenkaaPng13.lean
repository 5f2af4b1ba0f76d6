/-
  Pings: what the functions answer, whatever is sent and answered.
-/
import Derived.Test.YtngnjlidfhenkaaPng12
namespace Go.Proofs.Ytngnjlidfhenkaa
set_option linter.unusedSimpArgs false
set_option linter.unusedVariables false
set_option linter.unusedSectionVars false
open Go.ChangeShapes Go.WideShapes Go.ChangeAt Go.RowKit Go.Deep Go.ChangeMaps

def sendE (most : Int) (P : List (List UInt8)) (k : List UInt8) : Int := if k.length = 8 then (if most ≤ (P.length : Int) then 6 else 0) else 1
def sendP (most : Int) (P : List (List UInt8)) (k : List UInt8) : List (List UInt8) := if k.length = 8 then (if most ≤ (P.length : Int) then P else P ++ [k]) else P
def All8 (P : List (List UInt8)) : Prop := ∀ x ∈ P, x.length = 8
def PgI (w : World) (b mb : Nat) (most : Int) (n : Nat) (P : List (List UInt8)) : Prop := ∃ N, N ≤ n ∧ Pg w b mb most N P
theorem PgI.below {w w' : World} {b mb n : Nat} {most : Int} {P : List (List UInt8)} (h : PgI w b mb most n P) (hb : Below w.heap.size w w') : PgI w' b mb most n P := by
  obtain ⟨N, h1, h2⟩ := h
  exact ⟨N, h1, h2.below hb⟩
theorem PgI.mono {w : World} {b mb n m : Nat} {most : Int} {P : List (List UInt8)} (h : PgI w b mb most n P) (hm : n ≤ m) : PgI w b mb most m P := by
  obtain ⟨N, h1, h2⟩ := h
  exact ⟨N, by omega, h2⟩
theorem All8.send {most : Int} {P : List (List UInt8)} {k : List UInt8} (h : All8 P) : All8 (sendP most P k) := by
  intro x hx
  unfold sendP at hx
  split at hx
  · split at hx
    · exact h x hx
    · rcases List.mem_append.1 hx with hx | hx
      · exact h x hx
      · obtain rfl := List.mem_singleton.1 hx
        assumption
  · exact h x hx
theorem All8.erase {P : List (List UInt8)} {k : List UInt8} (h : All8 P) : All8 (P.erase k) := fun x hx => h x (List.mem_of_mem_erase hx)
theorem sendP_len {most : Int} {P : List (List UInt8)} {k : List UInt8} : (sendP most P k).length ≤ P.length + 1 := by
  unfold sendP
  split
  · split
    · omega
    · simp
  · omega
/-- The number that is kept is not below nought; it lets the same. -/
theorem send_most (most : Int) (P : List (List UInt8)) (k : List UInt8) : sendE (if most < 0 then 0 else most) P k = sendE most P k ∧ sendP (if most < 0 then 0 else most) P k = sendP most P k := by
  by_cases h : most < 0
  · rw [if_pos h]
    have h1 : (0 : Int) ≤ (P.length : Int) := by omega
    have h2 : most ≤ (P.length : Int) := by omega
    unfold sendE sendP
    simp only [if_pos h1, if_pos h2, and_self]
  · rw [if_neg h]; exact ⟨rfl, rfl⟩
def DonePost (b mb : Nat) (most : Int) (n : Nat) (P : List (List UInt8)) (r : Value) (w : World) (e : Ending) (w' : World) : Prop := e = .returned r ∧ PgI w' b mb most n P ∧ Beside b mb w w'

theorem pings_Waits_any (b mb n : Nat) (most : Int) (P : List (List UInt8)) (a : Option Addr) (cap : Nat) (k : List UInt8) (h8 : All8 P) (w : World) (hP : PgI w b mb most n P) (hS : SlY w w.heap.size a k) :
    Calls Try.prog 9 #[.pointer (some ⟨b, 0, none⟩), .slice a k.length cap] w fun e w' => e = .returned (.bool (decide (k ∈ P))) ∧ ∃ j, w' = w.more j := by
  obtain ⟨N, _, hP⟩ := hP
  by_cases hk : k.length = 8
  · rw [hk]
    exact pings_Waits8 b mb N most P a cap k hk w hP hS
  · rw [decide_eq_false (fun h => hk (h8 k h))]
    exact pings_Waits_len b a k.length cap hk w
theorem pings_Answer_any (b mb n : Nat) (most : Int) (P : List (List UInt8)) (a : Option Addr) (cap : Nat) (k : List UInt8) (h8 : All8 P) (hn : n < 1000000) (hl : P.length < 1000000) (w : World) (hP : PgI w b mb most n P) (hS : SlY w w.heap.size a k) :
    Calls Try.prog 10 #[.pointer (some ⟨b, 0, none⟩), .slice a k.length cap] w (DonePost b mb most (n + 1) (P.erase k) (.bool (decide (k ∈ P))) w) := by
  by_cases hin : k ∈ P
  · obtain ⟨N, hN, hQ⟩ := hP
    rw [decide_eq_true hin, h8 k hin]
    refine (pings_Answer_yes b mb N most P a cap k (h8 k hin) hin (by omega) hl w hQ hS).mono ?_
    rintro e w' ⟨rfl, h1, h2⟩
    exact ⟨rfl, ⟨N + 1, by omega, h1⟩, h2⟩
  · have hW := pings_Waits_any b mb n most P a cap k h8 w hP hS
    rw [decide_eq_false hin] at hW ⊢
    refine (pings_Answer_no b _ w hW).mono ?_
    rintro e w' ⟨rfl, j, rfl⟩
    rw [List.erase_of_not_mem hin]
    have hb : Below w.heap.size w (w.more j) := (Below.refl _ _).moreS j
    exact ⟨rfl, (hP.below hb).mono (by omega), .of_below hb⟩
theorem pings_Send_any (b mb n : Nat) (most : Int) (P : List (List UInt8)) (a : Option Addr) (cap : Nat) (k : List UInt8) (hn : n < 1000000) (hl : P.length < 1000000) (w : World) (hP : PgI w b mb most n P) (hS : SlY w w.heap.size a k) :
    Calls Try.prog 12 #[.pointer (some ⟨b, 0, none⟩), .slice a k.length cap] w (DonePost b mb most (n + 1) (sendP most P k) (.int .i64 (sendE most P k)) w) := by
  by_cases hk : k.length = 8
  · unfold sendP sendE
    rw [if_pos hk, if_pos hk, hk]
    obtain ⟨N, hN, hQ⟩ := hP
    by_cases hf : most ≤ (P.length : Int)
    · rw [if_pos hf, if_pos hf]
      refine (pings_Send_full b mb N most P a cap hf w hQ).mono ?_
      rintro e w' ⟨rfl, j, rfl⟩
      have hb : Below w.heap.size w (w.more j) := (Below.refl _ _).moreS j
      exact ⟨rfl, ⟨N, by omega, hQ.below hb⟩, .of_below hb⟩
    · rw [if_neg hf, if_neg hf]
      refine (pings_Send8 b mb N most P a cap k hk (by omega) (by omega) hl w hQ hS).mono ?_
      rintro e w' ⟨rfl, h1, h2⟩
      exact ⟨rfl, ⟨N + 1, by omega, h1⟩, h2⟩
  · unfold sendP sendE
    rw [if_neg hk, if_neg hk]
    refine (pings_Send_len b a k.length cap hk w).mono ?_
    rintro e w' ⟨rfl, j, rfl⟩
    have hb : Below w.heap.size w (w.more j) := (Below.refl _ _).moreS j
    exact ⟨rfl, (hP.below hb).mono (by omega), .of_below hb⟩
theorem ref36_Send_any (B : Nat) (v : Value) (ms : List Bv) (a : Option Addr) (cap : Nat) (k : List UInt8) (most : Int) (hml : ms.length ≤ 100000) (w : World) (hB : B ≤ w.heap.size) (hR : RowB B w v ms) (hS : SlY w w.heap.size a k) :
    Calls Try.prog 11 #[v, .slice a k.length cap, .int .i64 most] w (SendPost B (sendP most (ms.map Bv.l) k) (sendE most (ms.map Bv.l) k) w) := by
  unfold sendP sendE
  rw [List.length_map]
  by_cases hk : k.length = 8
  · rw [if_pos hk, if_pos hk]
    by_cases hf : most ≤ (ms.length : Int)
    · rw [if_pos hf, if_pos hf]
      exact ref36_Send_no B v ms a cap k most 6 (.inr ⟨hk, hf, rfl⟩) w hR
    · rw [if_neg hf, if_neg hf, hk]
      exact ref36_Send_ok B v ms a cap k most hk (by omega) hml w hB hR hS
  · rw [if_neg hk, if_neg hk]
    exact ref36_Send_no B v ms a cap k most 1 (.inl ⟨hk, rfl⟩) w hR

/-! Deeds. -/
structure Dd where
  ans : Bool
  a : Option Addr
  l : List UInt8
  cap : Nat
def Dd.cells (x : Dd) : List Value := [.bool x.ans, .slice x.a x.l.length x.cap]
def Dd.Is (w : World) (B : Nat) (x : Dd) (cs : List Value) : Prop := cs = x.cells ∧ SlY w B x.a x.l ∧ x.l.length ≤ maxLen
abbrev SlD (w0 w : World) (B : Nat) (a : Option Addr) (l : List Dd) : Prop := SlR w B 2 (Dd.Is w0 w0.heap.size) a l
theorem SlR.atD {w0 w : World} {B : Nat} {a : Option Addr} {l : List Dd} (h : SlD w0 w B a l) {k : Nat} (hk : k < l.length) : ∃ b off, a = some ⟨b, off, none⟩ ∧ b < B ∧ w.cell? ⟨b, off + k * 2, none⟩ = some (.bool l[k].ans) ∧ w.cell? ⟨b, off + k * 2 + 1, none⟩ = some (.slice l[k].a l[k].l.length l[k].cap) ∧ SlY w0 w0.heap.size l[k].a l[k].l ∧ l[k].l.length ≤ maxLen := by
  obtain ⟨b, off, cs, ha, hb, ⟨rfl, h1, h2⟩, hc⟩ := h k hk
  exact ⟨b, off, ha, hb, hc 0 _ rfl, hc 1 _ rfl, h1, h2⟩
def bigD (l : List Dd) : Bool := decide (60 < l.length) || l.any fun d => decide (100 < d.l.length)
set_option maxHeartbeats 4000000 in
set_option maxRecDepth 100000 in
theorem law36_large (a : Option Addr) (cap : Nat) (l : List Dd) (w : World) (hm : l.length ≤ maxLen) (hS : SlD w w w.heap.size a l) :
    Calls Try.prog 5 #[.slice a l.length cap] w fun e w' => e = .returned (.bool (bigD l)) ∧ ∃ j, w' = w.more j := by
  have HS := Lib.hid hS
  have HM := Lib.hid hm
  clear hS hm
  by_cases h60 : 60 < l.length
  · have hr : bigD l = true := by unfold bigD; rw [decide_eq_true h60]; rfl
    rw [hr]
    have h6' : (60 : Int) < (l.length : Int) := by omega
    go_enter Try.func5, Try.ntmps5
    go_wp2_with fail
    go_ret
    exact ⟨rfl, Below.junk (by repeat (first | (with_reducible exact Below.refl _ _) | (with_reducible refine Below.allocS ?_ _) | (with_reducible refine Below.moreS ?_ _) | (with_reducible refine Below.drew ?_) | (with_reducible refine below_drewN ?_ _)))⟩
  · have h6' : ¬ (60 : Int) < (l.length : Int) := by omega
    have HR : Hid (∀ r, r = (l.drop 0).any (fun d => decide (100 < d.l.length)) → r = bigD l) := fun r hr => by rw [hr]; unfold bigD; rw [decide_eq_false h60]; simp
    generalize bigD l = R at HR ⊢
    have HL := Lib.hid h60
    clear h60
    go_enter Try.func5, Try.ntmps5
    go_wp2_with fail
    go_loopg [3] l.length (fun g i wr => ∃ q : Nat, q + g = l.length ∧ i = .int .i64 q ∧ Hid (∀ r, r = (l.drop q).any (fun d => decide (100 < d.l.length)) → r = R) ∧ ∃ j, wr = w.more j)
    case atStart => exact ⟨0, by omega, rfl, HR, _, more_self _⟩
    case round =>
      obtain ⟨q, hqg, rfl, HU, j, rfl⟩ := hrel
      have HK := Lib.hid hqg
      clear hqg
      by_cases hlt : q < l.length
      · obtain ⟨b, off, rfl, hb, c0, c1, _, hmx⟩ := HS.out.atD hlt
        have hlt' : (q : Int) < l.length := by omega
        have HQ : Hid (∀ r, r = (decide (100 < l[q].l.length) || (l.drop (q + 1)).any (fun d => decide (100 < d.l.length))) → r = R) := fun r hr => HU.out r (by rw [hr, List.drop_eq_getElem_cons hlt]; rfl)
        generalize hz : l[q] = z at c0 c1 hmx HQ
        clear hz HU
        by_cases h1 : 100 < z.l.length
        · have h1' : (100 : Int) < (z.l.length : Int) := by omega
          have hR := HQ.out true (by rw [decide_eq_true h1]; rfl)
          subst hR
          clear HQ
          go_wp2_with fail
          go_ret
          exact ⟨rfl, Below.junk (by repeat (first | (with_reducible exact Below.refl _ _) | (with_reducible refine Below.allocS ?_ _) | (with_reducible refine Below.moreS ?_ _) | (with_reducible refine Below.drew ?_) | (with_reducible refine below_drewN ?_ _)))⟩
        · have h1' : ¬ (100 : Int) < (z.l.length : Int) := by omega
          have HQ' : Hid (∀ r, r = (l.drop (q + 1)).any (fun d => decide (100 < d.l.length)) → r = R) := fun r hr => HQ.out r (by rw [hr, decide_eq_false h1]; rfl)
          clear HQ
          go_wp2_with fail
          go_roundg (l.length - (q + 1))
          case measure => have := HK.out; omega
          case rel => exact ⟨q + 1, by have := HK.out; omega, by go_num, HQ', Below.junk (by repeat (first | (with_reducible exact Below.refl _ _) | (with_reducible refine Below.allocS ?_ _) | (with_reducible refine Below.moreS ?_ _) | (with_reducible refine Below.drew ?_) | (with_reducible refine below_drewN ?_ _)))⟩
      · have hlt' : ¬ (q : Int) < l.length := by omega
        have hR := HU.out false (by rw [List.drop_of_length_le (by omega)]; rfl)
        subst hR
        clear HU
        go_wp2_with fail
        go_ret
        exact ⟨rfl, Below.junk (by repeat (first | (with_reducible exact Below.refl _ _) | (with_reducible refine Below.allocS ?_ _) | (with_reducible refine Below.moreS ?_ _) | (with_reducible refine Below.drew ?_) | (with_reducible refine below_drewN ?_ _)))⟩
end Go.Proofs.Ytngnjlidfhenkaa
