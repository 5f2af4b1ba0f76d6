/-
  Parts of the proof, one behind the other: contracts of the program and plain laws; no condition of their own.
-/
import Derived.Test.YtfcgdfcekpbliaaGreatDoorMh
import Derived.Test.YtfcgdfcekpbliaaGreatDoorMa
import Derived.Deep.RegionHeld3
import Derived.Test.YtfcgdfcekpbliaaGreatDoorMb
import Derived.Test.YtfcgdfcekpbliaaGreatDoorMe
import Derived.Test.YtfcgdfcekpbliaaGreatDoorMf
import Derived.Deep.OwnRows
import Derived.Deep.MidRow
/-
  Scenarios: small functions of both.
-/
namespace Go.Proofs.YtfcgdfcekpbliaaGreatDoor
set_option linter.unusedSimpArgs false
set_option linter.unusedVariables false
set_option linter.unusedSectionVars false
open Go.ChangeShapes Go.WideShapes Go.ChangeAt Go.RowKit Go.Deep Go.Shelf

set_option maxRecDepth 100000 in
theorem spec_within (n a b : Int) (w : World) : Calls Tryz.prog 42 #[.int .i64 n, .int .i64 a, .int .i64 b] w fun e w' => e = .returned (.bool (inR n a b)) ∧ w = w' := by
  by_cases h0 : a ≤ n <;> by_cases h1 : n ≤ b
  all_goals
    go_enter Tryz.func42, Tryz.ntmps42
    go_wp2_with fail
    go_ret
    exact ⟨by simp [inR, h0, h1], rfl⟩
set_option maxRecDepth 100000 in
theorem ref45_from (n a b : Int) (w : World) : Calls Tryz.prog 27 #[.int .i64 n, .int .i64 a, .int .i64 b] w fun e w' => e = .returned (.bool (inR n a b)) ∧ w = w' := by
  by_cases h0 : a ≤ n <;> by_cases h1 : n ≤ b
  all_goals
    go_enter Tryz.func27, Tryz.ntmps27
    go_wp2_with fail
    go_ret
    exact ⟨by simp [inR, h0, h1], rfl⟩
set_option maxRecDepth 100000 in
theorem spec_stream (n : Int) (w : World) : Calls Tryz.prog 43 #[.int .i64 n] w fun e w' => e = .returned (.bool (inR n 1 topS)) ∧ w = w' := by
  have HW : Hid (∀ W, Calls Tryz.prog 42 #[.int .i64 n, .int .i64 1, .int .i64 2147483647] W fun e w' => e = .returned (.bool (inR n 1 topS)) ∧ W = w') := spec_within n 1 2147483647
  generalize inR n 1 topS = R at HW ⊢
  go_enter Tryz.func43, Tryz.ntmps43
  go_wp2_with (go_at_call 42; (with_reducible refine (HW.out _).mono ?_); rintro e w' ⟨rfl, rfl⟩)
  go_ret
  exact ⟨rfl, rfl⟩
set_option maxRecDepth 100000 in
theorem scene_pick (b : Bool) (x y : List UInt8) (w : World) : Calls Tryz.prog 45 #[.bool b, bstr x, bstr y] w fun e w' => e = .returned (bstr (if b = true then x else y)) ∧ w = w' := by
  cases b
  all_goals
    go_enter Tryz.func45, Tryz.ntmps45
    go_wp2_with fail
    go_ret
    exact ⟨rfl, rfl⟩
end Go.Proofs.YtfcgdfcekpbliaaGreatDoor
/-
  Scenarios: small functions of both: fields that are too many, or too long; a step that is bare.
-/
namespace Go.Proofs.YtfcgdfcekpbliaaGreatDoor
set_option linter.unusedSimpArgs false
set_option linter.unusedVariables false
set_option linter.unusedSectionVars false
open Go.ChangeShapes Go.WideShapes Go.ChangeAt Go.RowKit Go.Deep Go.Shelf

def bigF (long : Nat) (f : Fd) : Bool := decide ((long : Int) < (f.name.length : Int)) || decide ((long : Int) < (f.value.length : Int))
def largeF (l : List Fd) (many long : Nat) : Bool := decide ((many : Int) < (l.length : Int)) || l.any (bigF long)
set_option maxHeartbeats 4000000 in
set_option maxRecDepth 100000 in
theorem ref21_Large (a : Option Addr) (l : List Fd) (cap many long : Nat) (hm : many ≤ 1000000) (hg : long ≤ 1000000) (w : World) (hS : SlF w w.heap.size a l) :
    Calls Tryz.prog 15 #[.slice a l.length cap, .int .i64 (many : Int), .int .i64 (long : Int)] w fun e w' => e = .returned (.bool (largeF l many long)) ∧ ∃ j, w' = w.more j := by
  obtain ⟨R, hR⟩ : ∃ R, R = largeF l many long := ⟨_, rfl⟩
  rw [← hR]
  have HR := Lib.hid hR
  have HS := Lib.hid hS
  clear hR hS
  by_cases hlg : (many : Int) < (l.length : Int)
  · obtain rfl : R = true := by rw [HR.out]; unfold largeF; rw [decide_eq_true hlg]; rfl
    clear HR HS
    generalize l.length = n at hlg ⊢
    go_enter Tryz.func15, Tryz.ntmps15
    go_wp2_with fail
    go_ret
    exact ⟨rfl, Below.junk bel⟩
  have hl : l.length ≤ 1000000 := by omega
  have HR2 : Hid (R = l.any (bigF long)) := by show _ = _; rw [HR.out]; unfold largeF; rw [decide_eq_false hlg]; rfl
  clear HR
  go_enter Tryz.func15, Tryz.ntmps15
  go_wp2_with fail
  go_loopw [7] (fun i wr => ∃ k : Nat, k ≤ l.length ∧ i = .int .i64 k ∧ Hid ((l.take k).any (bigF long) = false) ∧ ∃ j, wr = w.more j) (fun i _ => l.length - (intOf i).toNat)
  case atStart => exact ⟨0, Nat.zero_le _, rfl, by show _ = _; simp, Below.junk bel⟩
  case round =>
    obtain ⟨k, hk, rfl, HA, j, rfl⟩ := hrel
    by_cases hlt : k < l.length
    · obtain ⟨b, off, ha, hbb, d0, d1, d2⟩ := SlR.atF HS.out hlt
      subst ha
      have HT : Hid ((l.take (k + 1)).any (bigF long) = bigF long l[k]) := by
        show _ = _
        rw [List.take_succ_eq_append_getElem hlt, List.any_append, HA.out]
        simp
      have HY : Hid (bigF long l[k] = true → R = true) := fun h => by
        rw [HR2.out, List.any_eq_true]
        exact ⟨_, List.getElem_mem hlt, h⟩
      generalize l[k] = f at d0 d1 d2 HT HY
      obtain ⟨nm, vl, nv⟩ := f
      simp only at d0 d1 d2
      by_cases h1 : (long : Int) < (nm.length : Int)
      · obtain rfl : R = true := HY.out (by unfold bigF; simp only; rw [decide_eq_true h1]; rfl)
        clear HT HY
        go_wp2_with fail
        go_ret
        exact ⟨rfl, _, rfl⟩
      by_cases h2 : (long : Int) < (vl.length : Int)
      · obtain rfl : R = true := HY.out (by unfold bigF; simp only; rw [decide_eq_true h2]; simp)
        clear HT HY
        go_wp2_with fail
        go_ret
        exact ⟨rfl, _, rfl⟩
      have HN : Hid ((l.take (k + 1)).any (bigF long) = false) := by
        show _ = _
        rw [HT.out]
        unfold bigF
        simp only
        rw [decide_eq_false h1, decide_eq_false h2]
        rfl
      clear HT HY
      go_wp2_with fail
      go_round
      case rel => exact ⟨k + 1, hlt, by go_num, HN, _, rfl⟩
      case measure => simp [intOf]; omega
    · obtain rfl : k = l.length := by omega
      obtain rfl : R = false := by rw [HR2.out]; have := HA.out; rwa [List.take_length] at this
      clear HA
      go_wp2_with fail
      go_ret
      exact ⟨rfl, _, rfl⟩
set_option maxHeartbeats 4000000 in
set_option maxRecDepth 100000 in
theorem spec_plain (k s n : Int) (e : Bool) (fa : Option Addr) (nf fc : Nat) (sa : Option Addr) (ns sc : Nat) (w : World) :
    Calls Tryz.prog 69 #[.agg #[.int .i64 k, .int .i64 s, .int .i64 n, .bool e, .slice fa nf fc, .slice sa ns sc]] w fun x w' => x = .returned (.bool (!e && (decide (nf = 0) && decide (ns = 0)))) ∧ ∃ j, w' = w.more j := by
  cases e
  case true =>
    go_enter Tryz.func69, Tryz.ntmps69
    go_wp2_with fail
    go_ret
    exact ⟨rfl, Below.junk bel⟩
  by_cases h1 : nf = 0
  · by_cases h2 : ns = 0
    all_goals
      have h1' : ((nf : Int) == 0) = true := by rw [beq_iff_eq]; omega
      have h2' : ((ns : Int) == 0) = decide (ns = 0) := by by_cases h : ns = 0 <;> simp [h]
      go_enter Tryz.func69, Tryz.ntmps69
      go_wp2_with fail
      go_ret
      exact ⟨by simp [h1, h2], Below.junk bel⟩
  · have h1' : ((nf : Int) == 0) = false := by rw [beq_eq_false_iff_ne]; omega
    go_enter Tryz.func69, Tryz.ntmps69
    go_wp2_with fail
    go_ret
    exact ⟨by simp [h1], Below.junk bel⟩
end Go.Proofs.YtfcgdfcekpbliaaGreatDoor
/-
  A region that draws its order, whose operations only make memory: the loads are taken first as soon as their cells are known; what is known grows with the world.
-/
namespace Go.Proofs.YtfcgdfcekpbliaaGreatDoor
set_option linter.unusedSimpArgs false
set_option linter.unusedVariables false
set_option linter.unusedSectionVars false
open Go.ChangeShapes Go.WideShapes Go.ChangeAt Go.RowKit Go.Deep

section
variable {P : Program} {ops : Array Oper} {Q : Exit → Act → World → Prop} {md : Region.Mode}
def Grown (w w' : World) : Prop := Below w.heap.size w w'
theorem Grown.cell {w w' : World} (h : Grown w w') (b o : Nat) (hb : b < w.heap.size) : w'.cell? ⟨b, o, none⟩ = w.cell? ⟨b, o, none⟩ := Below.cell (p := ⟨b, o, none⟩) h hb
theorem wpAnyH_mono {S S' : World → Prop} (hS : ∀ w, S' w → S w) : ∀ (fuel : Nat) (listed : Array Bool) (a : Act) (w : World), wpAnyH P md ops Q S' fuel listed a w → wpAnyH P md ops Q S fuel listed a w
  | 0, _, _, _, h => h
  | fuel + 1, listed, a, w, h => ⟨h.1, fun i hi => wpOp_mono (fun a' w' h' => ⟨hS _ h'.1, wpAnyH_mono hS fuel _ a' w' h'.2⟩) (h.2 i hi)⟩
theorem grown_start {id : Nat} {a : Act} {w : World} (hm : P.follows .mixedOrders = true)
    (h : wpAnyH P .any ops Q (Grown w.drew) ops.size (Array.replicate ops.size false) a w.drew) : (Code.region id ops true).wp P Q a w :=
  wp_region_held_drew hm (Below.refl _ _) (fun _ => h)
theorem grown_take (i : Nat) {oi : Oper} {v : Value} {fuel : Nat} {listed : Array Bool} {a : Act} {w : World} (hi : ops[i]? = some oi)
    (hs : Region.noSelect ops = true) (hf : Region.free md ops listed i = true) (hr : (Region.ready md ops listed).contains i = true)
    (hQ : ∀ c a w, Q (.panic c) (a.put oi.dst v) w → Q (.panic c) a w) (hy : YieldsIf P ops (Grown w) oi v a)
    (h : wpAnyH P md ops Q (Grown w) fuel (listed.setIfInBounds i true) (a.put oi.dst v) w) : wpAnyH P md ops Q (Grown w) (fuel + 1) listed a w :=
  wpAnyH_take hi hs hf hr hQ hy (Below.refl _ _) h
theorem grown_step (i : Nat) {o : Oper} {fuel : Nat} {listed : Array Bool} {a : Act} {w : World} (hr : Region.ready md ops listed = [i]) (ho : ops[i]? = some o)
    (h : ∀ K' : Act → World → Prop, Shut (∀ a' w', Grown w w' → wpAnyH P md ops Q (Grown w') fuel (listed.setIfInBounds i true) a' w' → K' a' w') → if Region.wanted o (yielded ops a.tmps) = true then Oper.wp P o a w K' Q else K' (a.put o.dst undef) w) :
    wpAnyH P md ops Q (Grown w) (fuel + 1) listed a w :=
  wpAnyH_ready hr (by simp) (AllReadyH.cons ho (fun K' hK => h K' (fun a' w' hg hw => hK.out a' w' hg (fun _ => wpAnyH_mono (fun w2 h2 => hg.trans (h2.mono (Below.size hg))) _ _ _ _ hw))) AllReadyH.nil)
theorem grown_undrew {w w' : World} (h : Below w.heap.size w w') : Below w.drew.heap.size w.drew w' := ⟨h.os, h.tape, h.output, h.size, h.block⟩
theorem grown_app (w : World) (j k : Junk) (x : Array Obj) (h : k.heap = j.heap ++ x) : Below (w.more j).heap.size (w.more j) (w.more k) := by
  have := Below.moreS (Below.refl (w.more j).heap.size (w.more j)) ⟨x, k.drawn⟩
  rw [World.more_more, ← h] at this
  exact this
theorem grown_merge (w : World) (j : Junk) (x : Array Obj) (d : Nat) : Below (w.more j).heap.size (w.more j) (w.more ⟨j.heap ++ x, d⟩) := grown_app w j _ x rfl
theorem grown_merge2 (w : World) (a b c : Array Obj) (d e : Nat) : Below (w.more ⟨a ++ b, d⟩).heap.size (w.more ⟨a ++ b, d⟩) (w.more ⟨a ++ (b ++ c), e⟩) := grown_app w _ _ c (by simp [Array.append_assoc])
theorem grown_merge3 (w : World) (a b c x : Array Obj) (d e : Nat) : Below (w.more ⟨a ++ (b ++ c), d⟩).heap.size (w.more ⟨a ++ (b ++ c), d⟩) (w.more ⟨a ++ (b ++ (c ++ x)), e⟩) := grown_app w _ _ x (by simp [Array.append_assoc])
theorem belm {B : Nat} {a w : World} (h : Below B a w := by repeat (first | (with_reducible exact Below.refl _ _) | (with_reducible exact grown_merge _ _ _ _) | (with_reducible exact grown_merge2 _ _ _ _ _ _) | (with_reducible exact grown_merge3 _ _ _ _ _ _ _) | (with_reducible refine Below.allocS ?_ _) | (with_reducible refine Below.moreS ?_ _) | (with_reducible refine Below.drew ?_))) : Below B a w := h
theorem belg {a w : World} (h : Below a.heap.size a w := by ((try (with_reducible refine grown_undrew ?_)); exact belm)) : Grown a w := h
end
end Go.Proofs.YtfcgdfcekpbliaaGreatDoor
/-
  Scenarios: predicates over fields; fields that are few and short.
-/
namespace Go.Proofs.YtfcgdfcekpbliaaGreatDoor
set_option linter.unusedSimpArgs false
set_option linter.unusedVariables false
set_option linter.unusedSectionVars false
open Go.ChangeShapes Go.WideShapes Go.ChangeAt Go.RowKit Go.Deep Go.Shelf

set_option maxHeartbeats 4000000 in
set_option maxRecDepth 100000 in
theorem slices_IndexFuncFd (g : FuncId) (p : Fd → Bool) (eg : ∀ args w, (callFunc g args).run Tryz.prog w = .ok (.enter g args) w)
    (hp : ∀ (n v : List UInt8) (b : Bool) W, Calls Tryz.prog g #[.agg #[bstr n, bstr v, .bool b]] W fun x w' => x = .returned (.bool (p ⟨n, v, b⟩)) ∧ ∃ j, w' = W.more j)
    (a : Option Addr) (l : List Fd) (cap : Nat) (hl : l.length ≤ 1048576) (w : World) (hS : SlF w w.heap.size a l) :
    Calls Tryz.prog 98 #[.slice a l.length cap, .func (.func g) #[] #[]] w fun e w' => ∃ r : Int, e = .returned (.int .i64 r) ∧ decide (0 ≤ r) = l.any p ∧ ∃ j, w' = w.more j := by
  obtain ⟨R, hR⟩ : ∃ R, R = l.any p := ⟨_, rfl⟩
  rw [← hR]
  have HR := Lib.hid hR
  have HS := Lib.hid hS
  have HP := Lib.hid hp
  clear hS hR hp
  go_enter Tryz.func98, Tryz.ntmps98
  go_wp2_with fail
  go_loopg [8] l.length (fun g i wr => ∃ k : Nat, k + g = l.length ∧ i = .int .i64 k ∧ Below w.heap.size w wr ∧ Hid (R = (l.drop k).any p))
  case atStart => exact ⟨0, by omega, rfl, Below.refl _ _, HR⟩
  case round =>
    obtain ⟨k, hkg, rfl, hb, HU⟩ := hrel
    have HK := Lib.hid hkg
    clear hkg
    by_cases hlt : k < l.length
    · obtain ⟨b, off, ha, hbb, c0, c1, c2, _⟩ := SlR.atF HS.out hlt
      subst ha
      have d0 := (hb.cell (p := ⟨b, off + k * 3, none⟩) hbb).trans c0
      have d1 := (hb.cell (p := ⟨b, off + k * 3 + 1, none⟩) hbb).trans c1
      have d2 := (hb.cell (p := ⟨b, off + k * 3 + 2, none⟩) hbb).trans c2
      have hbz : b < wr.heap.size := Nat.lt_of_lt_of_le hbb hb.size
      have hd : l.drop k = l[k] :: l.drop (k + 1) := List.drop_eq_getElem_cons hlt
      have HD : Hid (R = (p l[k] || (l.drop (k + 1)).any p)) := by show _ = _; rw [HU.out, hd]; rfl
      have HB := Lib.hid hb
      clear hd HU c0 c1 c2 hb
      generalize l[k] = x at d0 d1 d2 HD
      obtain ⟨x0, x1, x2⟩ := x
      simp only at d0 d1 d2
      have HQ : Hid (∀ W, Calls Tryz.prog g #[.agg #[bstr x0, bstr x1, .bool x2]] W fun x w' => x = .returned (.bool (p ⟨x0, x1, x2⟩)) ∧ ∃ j, w' = W.more j) := HP.out x0 x1 x2
      generalize p ⟨x0, x1, x2⟩ = q at HQ HD
      cases q
      · have HU2 : Hid (R = (l.drop (k + 1)).any p) := HD.out
        clear HD
        go_wp2_with (go_at_fn g; refine (HQ.out _).mono ?_; rintro e w' ⟨rfl, j, rfl⟩)
        go_roundg (l.length - (k + 1))
        case measure => have := HK.out; omega
        case rel => exact ⟨k + 1, by have := HK.out; omega, by go_num, HB.out.trans (Below.mono (B := wr.heap.size) bel HB.out.size), HU2⟩
      · have hR2 : R = true := HD.out
        subst hR2
        clear HD
        go_wp2_with (go_at_fn g; refine (HQ.out _).mono ?_; rintro e w' ⟨rfl, j, rfl⟩)
        go_ret
        exact ⟨_, rfl, by simp, Below.junk (HB.out.trans (Below.mono (B := wr.heap.size) bel HB.out.size))⟩
    · have hR2 : R = false := by rw [HU.out, List.drop_of_length_le (by omega)]; rfl
      subst hR2
      clear HU
      go_wp2_with fail
      go_ret
      exact ⟨_, rfl, by decide, Below.junk hb⟩
set_option maxHeartbeats 4000000 in
set_option maxRecDepth 100000 in
theorem slices_ContainsFuncFd (g : FuncId) (p : Fd → Bool) (eg : ∀ args w, (callFunc g args).run Tryz.prog w = .ok (.enter g args) w)
    (hp : ∀ (n v : List UInt8) (b : Bool) W, Calls Tryz.prog g #[.agg #[bstr n, bstr v, .bool b]] W fun x w' => x = .returned (.bool (p ⟨n, v, b⟩)) ∧ ∃ j, w' = W.more j)
    (a : Option Addr) (l : List Fd) (cap : Nat) (hl : l.length ≤ 1048576) (w : World) (hS : SlF w w.heap.size a l) :
    Calls Tryz.prog 85 #[.slice a l.length cap, .func (.func g) #[] #[]] w fun e w' => e = .returned (.bool (l.any p)) ∧ ∃ j, w' = w.more j := by
  have HC := Lib.hid (slices_IndexFuncFd g p eg hp a l cap hl w hS)
  generalize l.any p = R at HC ⊢
  clear hp hS
  go_enter Tryz.func85, Tryz.ntmps85
  go_wp2_with fail
  refine HC.out.mono ?_
  rintro e w' ⟨r, rfl, hr, j, rfl⟩
  have HR := Lib.hid hr
  clear hr
  go_wp2_with fail
  go_ret
  exact ⟨by rw [← HR.out]; rfl, _, rfl⟩
set_option maxRecDepth 100000 in
theorem spec_short1 (n v : List UInt8) (b : Bool) (w : World) : Calls Tryz.prog 86 #[.agg #[bstr n, bstr v, .bool b]] w fun x w' => x = .returned (.bool (bigF 200 ⟨n, v, b⟩)) ∧ ∃ j, w' = w.more j := by
  unfold bigF
  simp only
  by_cases h1 : ((200 : Nat) : Int) < (n.length : Int)
  · have h1' : (200 : Int) < (n.length : Int) := h1
    rw [decide_eq_true h1]
    go_enter Tryz.func86, Tryz.ntmps86
    go_wp2_with fail
    go_ret
    exact ⟨rfl, Below.junk bel⟩
  · have h1' : ¬ (200 : Int) < (n.length : Int) := h1
    by_cases h2 : ((200 : Nat) : Int) < (v.length : Int)
    · have h2' : (200 : Int) < (v.length : Int) := h2
      rw [decide_eq_false h1, decide_eq_true h2]
      go_enter Tryz.func86, Tryz.ntmps86
      go_wp2_with fail
      go_ret
      exact ⟨rfl, Below.junk bel⟩
    · have h2' : ¬ (200 : Int) < (v.length : Int) := h2
      rw [decide_eq_false h1, decide_eq_false h2]
      go_enter Tryz.func86, Tryz.ntmps86
      go_wp2_with fail
      go_ret
      exact ⟨rfl, Below.junk bel⟩
set_option maxRecDepth 100000 in
theorem spec_short (a : Option Addr) (l : List Fd) (cap : Nat) (hl : l.length ≤ 1000000) (w : World) (hS : SlF w w.heap.size a l) :
    Calls Tryz.prog 68 #[.slice a l.length cap] w fun e w' => e = .returned (.bool (!largeF l 20 200)) ∧ ∃ j, w' = w.more j := by
  have HC : Hid (Calls Tryz.prog 85 #[.slice a l.length cap, .func (.func 86) #[] #[]] w fun e w' => e = .returned (.bool (l.any (bigF 200))) ∧ ∃ j, w' = w.more j) :=
    slices_ContainsFuncFd 86 (bigF 200) (enters_of Tryz.func86 (by kernel_rfl) rfl) spec_short1 a l cap (by omega) w hS
  unfold largeF
  generalize l.any (bigF 200) = R at HC ⊢
  clear hS
  generalize l.length = n at hl HC ⊢
  by_cases h1 : ((20 : Nat) : Int) < (n : Int)
  · have h2 : ¬ (n : Int) ≤ 20 := by omega
    rw [decide_eq_true h1]
    clear HC
    go_enter Tryz.func68, Tryz.ntmps68
    go_wp2_with fail
    go_ret
    exact ⟨rfl, Below.junk bel⟩
  · have h2 : (n : Int) ≤ 20 := by omega
    rw [decide_eq_false h1]
    go_enter Tryz.func68, Tryz.ntmps68
    go_wp2_with fail
    refine HC.out.mono ?_
    rintro e w' ⟨rfl, j, rfl⟩
    cases R
    all_goals
      go_wp2_with fail
      go_ret
      exact ⟨rfl, _, rfl⟩
end Go.Proofs.YtfcgdfcekpbliaaGreatDoor
/-
  What is done wrong: the names of its kinds.
-/
namespace Go.Proofs.YtfcgdfcekpbliaaGreatDoor
set_option linter.unusedSimpArgs false
set_option linter.unusedVariables false
set_option linter.unusedSectionVars false
open Go.ChangeShapes Go.WideShapes Go.ChangeAt Go.RowKit Go.Deep Go.Shelf

set_option maxHeartbeats 4000000 in
set_option maxRecDepth 100000 in
theorem inject_Name (n : Int) (m : Int) (w : World) (hM : w.cell? MaxA = some (.int .i64 m)) : Calls Tryz.prog 19 #[.int .i64 n] w fun e w' => e = .returned (bstr (injN n)) ∧ ∃ j, w' = w.more j := by
  by_cases h : n < 1 ∨ 26 < n
  · have hr : injN n = [] := by unfold injN; rw [if_pos h]
    rw [hr]
    rcases h with h | h
    · go_enter Tryz.func19, Tryz.ntmps19
      go_wp2_with fail
      go_ret
      exact ⟨rfl, Below.junk bel⟩
    · have h1 : ¬ n < 1 := by omega
      go_enter Tryz.func19, Tryz.ntmps19
      go_wp2_with fail
      go_ret
      exact ⟨rfl, Below.junk bel⟩
  · obtain ⟨k, rfl⟩ : ∃ k : Nat, n = (k : Int) + 1 := ⟨(n - 1).toNat, by omega⟩
    have hk : k < injW.length := by show k < 26; omega
    have hr : injN ((k : Int) + 1) = injW[k] := by unfold injN; rw [if_neg h, inj_at k hk]; congr 1; omega
    have HS := Lib.hid (split_words injT 32 injW inj_cut m w (by decide) hM)
    have hlen : injW.length = 26 := rfl
    rw [hlen] at HS
    rw [hr]
    have h1 : ¬ (k : Int) + 1 < 1 := by omega
    have h2 : ¬ 26 < (k : Int) + 1 := by omega
    have hk26 : k < 26 := hk
    have hw1 : IntKind.i64.wrap ((k : Int) + 1 - 1) = k := by rw [show (k : Int) + 1 - 1 = k by omega]; exact IntWalk.i64_in _ (by omega)
    have hw2 : IntKind.i64.wrap (k : Int) = k := IntWalk.i64_in _ (by omega)
    generalize hT : injW[k] = T
    clear hr h hM hlen
    go_enter Tryz.func19, Tryz.ntmps19
    go_wp2_with fail
    refine HS.out.mono ?_
    rintro e w' ⟨rfl, j, rfl, hx⟩
    obtain ⟨hg, c⟩ := SlX_zero hx hk
    have c0 : (w.more j).cell? ⟨w.heap.size, k, none⟩ = some (bstr T) := by rw [← hT]; exact c
    clear hx c
    go_wp2_with fail
    go_ret
    exact ⟨rfl, Below.junk bel⟩

set_option maxHeartbeats 4000000 in
set_option maxRecDepth 100000 in
theorem inject_ByName (s : List UInt8) (m : Int) (w : World) (hM : w.cell? MaxA = some (.int .i64 m)) : Calls Tryz.prog 58 #[bstr s] w fun e w' => e = .returned (.tuple #[.int .i64 (idxX injW s + 1), .bool (decide (0 ≤ idxX injW s))]) ∧ ∃ j, w' = w.more j := by
  have HS := Lib.hid (split_words injT 32 injW inj_cut m w (by decide) hM)
  have hb := seekX_lo s injW 0
  have hlen : injW.length = 26 := rfl
  rw [hlen] at hb
  have HI : Hid (∀ W, SlX W W.heap.size (some ⟨w.heap.size, 0, none⟩) injW → Calls Tryz.prog 80 #[.slice (some ⟨w.heap.size, 0, none⟩) injW.length injW.length, bstr s] W fun e w' => e = .returned (.int .i64 (idxX injW s)) ∧ ∃ j, w' = W.more j) := fun W h => slices_IndexX _ injW _ s (by rw [hlen]; omega) W h
  rw [hlen] at HS HI
  have hb2 : -1 ≤ idxX injW s ∧ idxX injW s < 26 := by unfold idxX; omega
  generalize idxX injW s = i at HI hb2 ⊢
  have hw1 : IntKind.i64.wrap (i + 1) = i + 1 := IntWalk.i64_in _ (by omega)
  clear hM hb hlen
  by_cases h0 : 0 ≤ i
  all_goals
    go_enter Tryz.func58, Tryz.ntmps58
    go_wp2_with fail
    refine HS.out.mono ?_
    rintro e w' ⟨rfl, j, rfl, hx⟩
    have HX := Lib.hid hx
    clear hx
    go_wp2_with fail
    refine (HI.out _ HX.out).mono ?_
    rintro e w' ⟨rfl, j2, rfl⟩
    go_wp2_with fail
    go_ret2
    exact ⟨by simp [h0], Below.junk bel⟩

def NamesI (n : Nat) (f : Nat → List UInt8) (w : World) (e : Ending) (w' : World) : Prop := ∃ g j, e = .returned (.slice (some ⟨g, 0, none⟩) n n) ∧ (∀ k, k < n → w'.cell? ⟨g, k, none⟩ = some (bstr (f k))) ∧ g < w'.heap.size ∧ w' = w.more j
theorem names_moreI {n : Nat} {f : Nat → List UInt8} {w : World} {t : TypeId} {cs : Array Value} (h : ∀ k, k < n → cs[k]? = some (bstr (f k))) : NamesI n f w (.returned (.slice (some ⟨w.heap.size, 0, none⟩) n n)) (w.alloc (.cells cs t)) := by
  obtain ⟨j, hj⟩ : ∃ j, w.alloc (.cells cs t) = w.more j := Below.junk bel
  exact ⟨_, j, rfl, fun k hk => (Blk.new w t cs).cell k |>.trans (h k hk), by simp, hj⟩
theorem inj_lit : ∀ m : Fin 26, injW[m.val]? = some (injW.getD m.val []) := by decide +kernel
set_option maxRecDepth 100000 in
theorem ref46_Names (w : World) : Calls Tryz.prog 34 #[] w (NamesI 26 (fun k => injW.getD k []) w) := by
  go_enter Tryz.func34, Tryz.ntmps34
  go_wp2_with fail
  go_ret
  refine names_moreI (cs := (injW.map bstr).toArray) fun k hk => ?_
  simp only [List.getElem?_toArray, List.getElem?_map, inj_lit ⟨k, hk⟩, Option.map_some]
end Go.Proofs.YtfcgdfcekpbliaaGreatDoor
/-
  Reports: lines are read one behind the other: a line's words, a word's number.
-/
namespace Go.Proofs.YtfcgdfcekpbliaaGreatDoor
set_option linter.unusedSimpArgs false
set_option linter.unusedVariables false
set_option linter.unusedSectionVars false
open Go.ChangeShapes Go.WideShapes Go.ChangeAt Go.RowKit Go.Deep Go.Shelf

theorem gm_below {w w' : World} {g : Nat} (hb : Below w.heap.size w w') : Gm g w w' := ⟨hb.os, hb.tape, hb.output, hb.size, fun k hk _ => hb.block k hk⟩
theorem Gm.below {w w' : World} {g B : Nat} (h : Gm g w w') (hB : B ≤ g) (hz : B ≤ w.heap.size) : Below B w w' := ⟨h.os, h.tape, h.output, h.size, fun k hk => h.block k (by omega) (by simp; omega)⟩
theorem gm_set {w : World} {g o : Nat} (v : Value) : Gm g w (w.setCell ⟨g, o, none⟩ v) :=
  have hb := (Below.refl 0 w).setCell (p := ⟨g, o, none⟩) (Nat.zero_le _) v
  ⟨hb.os, hb.tape, hb.output, hb.size, fun k _ hne => Below.heap_setCell w ⟨g, o, none⟩ v k (fun e => hne (by rw [e]))⟩
theorem slX_nils (w : World) (n : Nat) (t : TypeId) : SlX (w.alloc (.cells (madeCells #[.string .empty] n) t)) (w.heap.size + 1) (some ⟨w.heap.size, 0, none⟩) (List.replicate n []) :=
  slX_new (Blk.new _ _ _) (by rw [toList_madeCells_one, List.map_replicate]; rfl) (by intro x hx; rw [List.eq_of_mem_replicate hx]; simp)
set_option maxHeartbeats 4000000 in
set_option maxRecDepth 100000 in
theorem words_SplitC (l : List UInt8) (m : Int) (w : World) (hm : l.length ≤ 100000) (hlen : (cutF 32 l).length ≤ 100000) (hshort : ∀ x ∈ cutF 32 l, x.length ≤ 100000) (hM : w.cell? MaxA = some (.int .i64 m)) :
    Calls Tryz.prog 52 #[bstr l] w fun e w' => ∃ a cap, e = .returned (.tuple #[.slice a (splitF l).1.length cap, .bool (splitF l).2]) ∧ (splitF l).1.length ≤ cap ∧ SlX w' w'.heap.size a (splitF l).1 ∧ Below w.heap.size w w' := by
  by_cases h0 : l = []
  · subst h0
    go_enter Tryz.func52, Tryz.ntmps52
    go_wp2_with fail
    go_ret2
    exact ⟨none, 0, rfl, Nat.le_refl _, .nil, Below.refl _ _⟩
  have hne : l.isEmpty = false := by cases l <;> simp_all
  have hne' : (!l.isEmpty) = true := by rw [hne]; rfl
  have H1 := Lib.hid (strings_cut l 32 m w (by omega) hM)
  have H2 : Hid (∀ a cap w1, (cutF 32 l).length ≤ cap → SlX w1 w1.heap.size a (cutF 32 l) → Calls Tryz.prog 77 #[.slice a (cutF 32 l).length cap] w1 fun e w' => e = .returned (.tuple #[bstr (lineF (cutF 32 l)).1, .bool (lineF (cutF 32 l)).2]) ∧ ∃ j, w' = w1.more j) := fun a cap w1 hc hs => words_Line a cap _ w1 w1 hlen hshort hc (Below.refl _ _) hs
  have HS : Hid (splitF l = if (lineF (cutF 32 l)).2 = true then (cutF 32 l, true) else ([], false)) := by
    show _ = _
    unfold splitF
    rw [if_neg h0]
    cases h : (cutF 32 l).all okW
    · rw [split_no h]
    · rw [split_ok h]
  clear hM h0 hshort hlen
  generalize cutF 32 l = p at H1 H2 HS
  generalize lineF p = R at H2 HS
  obtain ⟨r1, r2⟩ := R
  cases r2
  all_goals
    go_enter Tryz.func52, Tryz.ntmps52
    go_wp2_with fail
    refine H1.out.mono ?_
    rintro e w1 ⟨rfl, hs1, hb1⟩
    have HX := Lib.hid hs1
    have HB := Lib.hid hb1
    have HQ := Lib.hid (H2.out _ p.length w1 (Nat.le_refl _) hs1)
    clear hs1 hb1
    go_wp2_with fail
    refine HQ.out.mono ?_
    rintro e w2 ⟨rfl, j, rfl⟩
    go_wp2_with fail
    go_ret2
  · exact ⟨none, 0, by rw [HS.out]; rfl, by rw [HS.out]; exact Nat.le_refl _, by rw [HS.out]; exact .nil, HB.out.trans ((Below.moreS (Below.refl w1.heap.size w1) _).mono HB.out.size)⟩
  · exact ⟨_, p.length, by rw [HS.out]; rfl, by rw [HS.out]; exact Nat.le_refl _, by rw [HS.out]; exact (HX.out.below (Below.moreS (Below.refl w1.heap.size w1) j) (Nat.le_refl _)).mono (by simp) (fun _ _ _ h => h), HB.out.trans ((Below.moreS (Below.refl w1.heap.size w1) _).mono HB.out.size)⟩
set_option maxHeartbeats 4000000 in
set_option maxRecDepth 100000 in
theorem words_LinesC (l : List UInt8) (m : Int) (w : World) (hm : l.length ≤ 900000) (hM : w.cell? MaxA = some (.int .i64 m)) :
    Calls Tryz.prog 28 #[bstr l] w fun e w' => ∃ a cap, e = .returned (.tuple #[.slice a (linesF l).1.length cap, .bool (linesF l).2]) ∧ (linesF l).1.length ≤ cap ∧ SlX w' w'.heap.size a (linesF l).1 ∧ Below w.heap.size w w' := by
  by_cases h0 : l = []
  · subst h0
    go_enter Tryz.func28, Tryz.ntmps28
    go_wp2_with fail
    go_ret2
    exact ⟨none, 0, rfl, Nat.le_refl _, .nil, Below.refl _ _⟩
  have hne : l.isEmpty = false := by cases l <;> simp_all
  have hne' : (!l.isEmpty) = true := by rw [hne]; rfl
  have H1 := strings_cut l 10 m w (by omega) hM
  have hlen := cut_len 10 l
  obtain ⟨q, z, hq⟩ := cut_last 10 l
  have HS := Lib.hid (lines_snoc hq)
  rw [hq] at H1 hlen
  simp only [List.length_append, List.length_cons, List.length_nil, Nat.zero_add] at H1 hlen
  have H1 := Lib.hid H1
  clear hM h0 hq
  have hq2 : q.length ≤ 1000000 := by omega
  clear hlen
  cases hz : z.isEmpty
  all_goals
    have hze : (z == []) = z.isEmpty := by cases z <;> rfl
    have hzn : (z != []) = !z.isEmpty := by cases z <;> rfl
    have hzn2 : (!z.isEmpty) = !z.isEmpty := rfl
    rw [hz] at hze hzn
    simp only [Bool.not_true, Bool.not_false] at hzn
    have HZ := Lib.hid hz
    go_enter Tryz.func28, Tryz.ntmps28
    go_wp2_with fail
    refine H1.out.mono ?_
    rintro e w1 ⟨rfl, hs1, hb1⟩
    obtain ⟨b, off, ha, hb, hc⟩ := slX_last hs1
    injection ha with ha
    injection ha with ha1 ha2
    subst ha1 ha2
    have HX := Lib.hid (slX_front hs1)
    have HB := Lib.hid hb1
    clear hs1 hb1
    rw [Nat.zero_add] at hc
    go_wp2_with fail
    go_ret2
  · exact ⟨none, 0, by rw [HS.out, if_neg (fun h => by subst h; cases HZ.out)]; rfl, by rw [HS.out, if_neg (fun h => by subst h; cases HZ.out)]; exact Nat.le_refl _, by rw [HS.out, if_neg (fun h => by subst h; cases HZ.out)]; exact .nil, HB.out⟩
  · obtain rfl : z = [] := by cases z with
      | nil => rfl
      | cons _ _ => cases HZ.out
    exact ⟨_, _, by rw [HS.out, if_pos rfl]; rfl, by rw [HS.out, if_pos rfl]; simp, by rw [HS.out, if_pos rfl]; exact HX.out, HB.out⟩
theorem slX_tail {w : World} {B b off : Nat} {y : List UInt8} {ys : List (List UInt8)} (h : SlX w B (some ⟨b, off, none⟩) (y :: ys)) : SlX w B (some ⟨b, off + 1, none⟩) ys := by
  intro k hk
  obtain ⟨b1, off1, cs, ha, hb, hR, hc⟩ := h (k + 1) (by simpa using hk)
  injection ha with ha
  injection ha with h1 h2
  subst h1 h2
  refine ⟨b, off + 1, cs, rfl, hb, by simpa using hR, fun j v hj => ?_⟩
  have := hc j v hj
  rw [show off + 1 + k * 1 + j = off + (k + 1) * 1 + j by omega]
  exact this
theorem info_text : (Tryz.prog.info? 9).map (fun i => (i.zero, i.size, i.bytes)) = some (some (.string .empty), 1, 16) := by kernel_rfl
end Go.Proofs.YtfcgdfcekpbliaaGreatDoor
/-
  Reports: the config's line is read.
-/
namespace Go.Proofs.YtfcgdfcekpbliaaGreatDoor
set_option linter.unusedSimpArgs false
set_option linter.unusedVariables false
set_option linter.unusedSectionVars false
open Go.ChangeShapes Go.WideShapes Go.ChangeAt Go.RowKit Go.Deep Go.Shelf

theorem next_words {many : Nat} {first : List UInt8} {L : List (List UInt8)} {b : Bool} (h : ∀ x ∈ L, x.length ≤ 90000) : ∀ x ∈ (nextD many first L b).1, x.length ≤ 90000 := by
  unfold nextD
  split
  · intro x hx; rw [List.eq_of_mem_replicate hx]; simp
  · rename_i y r
    split
    · intro x hx
      have hx := List.mem_of_mem_drop hx
      have hy := h y (by simp)
      unfold splitF at hx
      split at hx
      · simp at hx
      · split at hx
        · have := cut_short 32 y x hx; omega
        · simp at hx
    · intro x hx; rw [List.eq_of_mem_replicate hx]; simp
theorem next_lines {many : Nat} {first : List UInt8} {L : List (List UInt8)} {b : Bool} : (∀ x ∈ (nextD many first L b).2.1, x ∈ L) ∧ (nextD many first L b).2.1.length ≤ L.length := by
  unfold nextD
  split
  · simp
  · split <;> exact ⟨fun x hx => by simp; exact .inr hx, by simp⟩
theorem atD_le {l : List (List UInt8)} {k n : Nat} (h : ∀ x ∈ l, x.length ≤ n) : (atD l k).length ≤ n := by
  unfold atD
  rw [List.getD_eq_getElem?_getD]
  cases hk : l[k]? with
  | none => simp
  | some x => exact h x (List.mem_of_getElem? hk)
/-- What the walks of the reader's parts ask of the world in which all began. -/
structure Rb (w0 : World) (g : Nat) (w : World) : Prop where
  env : Env w0
  bl : Below w0.heap.size w0 w
  lo : w0.heap.size ≤ g
theorem Rb.gp {w0 w w' : World} {g : Nat} {p : Nat → Prop} (h : Rb w0 g w) (hp : ∀ k, p k → w0.heap.size ≤ k) (hg : Gp p w w') : Rb w0 g w' := ⟨h.env, h.bl.trans (hg.below hp h.bl.size), h.lo⟩
theorem Rb.gm {w0 w w' : World} {g : Nat} (h : Rb w0 g w) (hg : Gm g w w') : Rb w0 g w' := ⟨h.env, h.bl.trans (hg.below h.lo h.bl.size), h.lo⟩
theorem Rb.e {w0 w : World} {g : Nat} (h : Rb w0 g w) : Env w := h.env.below h.bl
theorem slX_far {w w' : World} {gc : Nat} {t : TypeId} {cs : Array Value} {a : Option Addr} {l : List (List UInt8)} (hb : Blk w gc t cs) (hc : ∀ (j : Nat) (s : ByteArray), cs[j]? ≠ some (Value.string s)) (hs : SlX w w.heap.size a l) (h : Gm gc w w') : SlX w' w'.heap.size a l := by
  intro k hk
  obtain ⟨b1, off, ha1, hb1, hcell, _⟩ := hs.atX hk
  have hne : b1 ≠ gc := fun e => by
    subst e
    rw [hb.cell] at hcell
    exact hc _ _ hcell
  obtain ⟨b2, off2, cs2, ha2, hb2, hR, hcs⟩ := hs k hk
  rw [ha1] at ha2
  injection ha2 with ha2
  injection ha2 with e1 e2
  subst e1 e2
  exact ⟨b1, off, cs2, ha1, Nat.lt_of_lt_of_le hb1 h.size, hR, fun j v hj => (h.cell b1 _ hb1 hne).trans (hcs j v hj)⟩
theorem Gm.over {w w1 w' : World} {g gc : Nat} (h : Gm g w w1) (h2 : Gm gc w1 w') (hge : w.heap.size ≤ gc) : Gm g w w' :=
  ⟨h2.os.trans h.os, h2.tape.trans h.tape, h2.output.trans h.output, Nat.le_trans h.size h2.size, fun k hk hn => (h2.block k (Nat.lt_of_lt_of_le hk h.size) (by simp; omega)).trans (h.block k hk hn)⟩
end Go.Proofs.YtfcgdfcekpbliaaGreatDoor
/-
  A region that draws its order, in which all below a fixed block number stays.
-/
namespace Go.Proofs.YtfcgdfcekpbliaaGreatDoor
set_option linter.unusedSimpArgs false
set_option linter.unusedVariables false
set_option linter.unusedSectionVars false
open Go.ChangeShapes Go.WideShapes Go.ChangeAt Go.RowKit Go.Deep

section
variable {P : Program} {ops : Array Oper} {Q : Exit → Act → World → Prop} {md : Region.Mode} {B : Nat}
def Gb (B : Nat) (w w' : World) : Prop := Below B w w'
theorem Gb.cell {w w' : World} (h : Gb B w w') (b o : Nat) (hb : b < B) : w'.cell? ⟨b, o, none⟩ = w.cell? ⟨b, o, none⟩ := Below.cell (p := ⟨b, o, none⟩) h hb
theorem gb_mono {S S' : World → Prop} (hS : ∀ w, S' w → S w) : ∀ (fuel : Nat) (listed : Array Bool) (a : Act) (w : World), wpAnyH P md ops Q S' fuel listed a w → wpAnyH P md ops Q S fuel listed a w
  | 0, _, _, _, h => h
  | fuel + 1, listed, a, w, h => ⟨h.1, fun i hi => wpOp_mono (fun a' w' h' => ⟨hS _ h'.1, gb_mono hS fuel _ a' w' h'.2⟩) (h.2 i hi)⟩
theorem gb_start {id : Nat} {a : Act} {w : World} (B : Nat) (hm : P.follows .mixedOrders = true)
    (h : wpAnyH P .any ops Q (Gb B w.drew) ops.size (Array.replicate ops.size false) a w.drew) : (Code.region id ops true).wp P Q a w :=
  wp_region_held_drew hm (Below.refl _ _) (fun _ => h)
theorem gb_take (i : Nat) {oi : Oper} {v : Value} {fuel : Nat} {listed : Array Bool} {a : Act} {w : World} (hi : ops[i]? = some oi)
    (hs : Region.noSelect ops = true) (hf : Region.free md ops listed i = true) (hr : (Region.ready md ops listed).contains i = true)
    (hQ : ∀ c a w, Q (.panic c) (a.put oi.dst v) w → Q (.panic c) a w) (hy : YieldsIf P ops (Gb B w) oi v a)
    (h : wpAnyH P md ops Q (Gb B w) fuel (listed.setIfInBounds i true) (a.put oi.dst v) w) : wpAnyH P md ops Q (Gb B w) (fuel + 1) listed a w :=
  wpAnyH_take hi hs hf hr hQ hy (Below.refl _ _) h
theorem gb_step (i : Nat) {o : Oper} {fuel : Nat} {listed : Array Bool} {a : Act} {w : World} (hr : Region.ready md ops listed = [i]) (ho : ops[i]? = some o)
    (h : ∀ K' : Act → World → Prop, Shut (∀ a' w', Gb B w w' → wpAnyH P md ops Q (Gb B w') fuel (listed.setIfInBounds i true) a' w' → K' a' w') → if Region.wanted o (yielded ops a.tmps) = true then Oper.wp P o a w K' Q else K' (a.put o.dst undef) w) :
    wpAnyH P md ops Q (Gb B w) (fuel + 1) listed a w :=
  wpAnyH_ready hr (by simp) (AllReadyH.cons ho (fun K' hK => h K' (fun a' w' hg hw => hK.out a' w' hg (fun _ => gb_mono (fun w2 h2 => Below.trans hg h2) _ _ _ _ hw))) AllReadyH.nil)
theorem gb_one {i : Nat} {o : Oper} {fuel : Nat} {listed : Array Bool} {a : Act} {w : World} (ho : ops[i]? = some o)
    (h : ∀ K' : Act → World → Prop, Shut (∀ a' w', Gb B w w' → wpAnyH P md ops Q (Gb B w') fuel (listed.setIfInBounds i true) a' w' → K' a' w') → if Region.wanted o (yielded ops a.tmps) = true then Oper.wp P o a w K' Q else K' (a.put o.dst undef) w)
    {rs : List Nat} (hrs : AllReadyH P md ops Q (Gb B w) fuel listed a w rs) : AllReadyH P md ops Q (Gb B w) fuel listed a w (i :: rs) :=
  AllReadyH.cons ho (fun K' hK => h K' (fun a' w' hg hw => hK.out a' w' hg (fun _ => gb_mono (fun w2 h2 => Below.trans hg h2) _ _ _ _ hw))) hrs
theorem gb_two (i j : Nat) {o p : Oper} {fuel : Nat} {listed : Array Bool} {a : Act} {w : World} (hr : Region.ready md ops listed = [i, j]) (ho : ops[i]? = some o) (hp : ops[j]? = some p)
    (h : ∀ K' : Act → World → Prop, Shut (∀ a' w', Gb B w w' → wpAnyH P md ops Q (Gb B w') fuel (listed.setIfInBounds i true) a' w' → K' a' w') → if Region.wanted o (yielded ops a.tmps) = true then Oper.wp P o a w K' Q else K' (a.put o.dst undef) w)
    (h2 : ∀ K' : Act → World → Prop, Shut (∀ a' w', Gb B w w' → wpAnyH P md ops Q (Gb B w') fuel (listed.setIfInBounds j true) a' w' → K' a' w') → if Region.wanted p (yielded ops a.tmps) = true then Oper.wp P p a w K' Q else K' (a.put p.dst undef) w) :
    wpAnyH P md ops Q (Gb B w) (fuel + 1) listed a w :=
  wpAnyH_ready hr (by simp) (gb_one ho h (gb_one hp h2 AllReadyH.nil))
/-- A whole row, loaded early: it lies below what may change. -/
theorem gb_load (i : Nat) {oi : Oper} {fuel : Nat} {listed : Array Bool} {a : Act} {w : World} (hi : ops[i]? = some oi)
    (hs : Region.noSelect ops = true) (hf : Region.free md ops listed i = true) (hr : (Region.ready md ops listed).contains i = true)
    (ty : TypeId) (x : Operand) (cs : Array Value) (hQ : ∀ c a w, Q (.panic c) (a.put oi.dst (.agg cs)) w → Q (.panic c) a w) (hw : Region.wanted oi (yielded ops a.tmps) = true) (ho : oi.op = .load ty x) (b : Nat) (hx : a.eval x = .pointer (some ⟨b, 0, none⟩)) {t : TypeId} (hb : Blk w b t cs) (hbB : b < B) (d : TypeDesc)
    (hu : P.underlying ty = some d) (hd : d.isRow = true) (hsz : (P.info? ty).map (·.size) = some cs.size)
    (h : wpAnyH P md ops Q (Gb B w) fuel (listed.setIfInBounds i true) (a.put oi.dst (.agg cs)) w) : wpAnyH P md ops Q (Gb B w) (fuel + 1) listed a w :=
  gb_take i hi hs hf hr hQ (by
    have := yieldsIf_load_mid (P := P) (ops := ops) (S := Gb B w) (op := oi) (a := a) hw ty x ho b 0 hx cs.toList d (fun w' hw' j v hj => by
      rw [Nat.zero_add, Gb.cell hw' b j hbB, hb.cell j, ← Array.getElem?_toList]
      exact hj) hu hd (by simpa using hsz)
    simpa using this) h
theorem gb_undrew {w w' : World} (h : Below B w w') : Below B w.drew w' := ⟨h.os, h.tape, h.output, h.size, h.block⟩
theorem gbb {C B : Nat} {a w : World} (hB : C ≤ B) (h : Below B a w := by first | exact belm | (refine gb_undrew ?_; exact belm)) : Gb C a w := Below.mono h hB
end
end Go.Proofs.YtfcgdfcekpbliaaGreatDoor
