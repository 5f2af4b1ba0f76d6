/-
  What fields say of a length: the contracts of the functions that tell it.
-/
import Derived.Test.YtafccnkeiohlhaaBase
namespace Go.Proofs.Ytafccnkeiohlhaa
open Go.ChangeShapes Go.WideShapes Go.ChangeAt Go.RowKit Go.Deep

def largeF (l : List Fd) (many long : Int) : Bool := decide (many < l.length) || l.any fun f => decide (long < f.name.length) || decide (long < f.value.length)

set_option maxRecDepth 100000 in
theorem ref21_Large (a : Option Addr) (cap B : Nat) (l : List Fd) (many long : Int) (w : World) (hm : l.length ≤ maxLen) (hs : SlF w B a l) :
    Calls Try.prog 19 #[.slice a l.length cap, .int .i64 many, .int .i64 long] w fun e w' => e = .returned (.bool (largeF l many long)) ∧ w = w' := by
  unfold maxLen at hm
  by_cases h : many < l.length
  · have HF : Hid (largeF l many long = true) := by show _ = _; simp [largeF, h]
    go_enter Try.func19, Try.ntmps19
    go_wp2_with fail
    go_ret
    exact ⟨ret1d (by rw [HF.out]; rfl), rfl⟩
  · have HF : Hid (largeF l many long = (l.drop 0).any fun f => decide (long < f.name.length) || decide (long < f.value.length)) := by show _ = _; simp [largeF, h]
    go_enter Try.func19, Try.ntmps19
    go_wp2_with fail
    go_loop [7] (fun i => ∃ k : Nat, k ≤ l.length ∧ i = .int .i64 k ∧ Hid (largeF l many long = (l.drop k).any fun f => decide (long < f.name.length) || decide (long < f.value.length))) (fun i => l.length - (intOf i).toNat)
    case atStart => exact ⟨0, by omega, rfl, HF⟩
    case round =>
      clear HF
      obtain ⟨k, hk, rfl, HF⟩ := hrel
      by_cases hlt : k < l.length
      · obtain ⟨b, off, rfl, hb, c0, c1, c2, m1, m2⟩ := hs.atF hlt
        have HF2 : Hid (largeF l many long = ((decide (long < l[k].name.length) || decide (long < l[k].value.length)) || (l.drop (k + 1)).any fun f => decide (long < f.name.length) || decide (long < f.value.length))) := HF.out.trans (by rw [List.drop_eq_getElem_cons hlt]; rfl)
        clear HF c2
        by_cases h1 : long < l[k].name.length
        · go_wp2_with fail
          go_ret
          exact ⟨ret1d (by rw [HF2.out]; simp [h1]), rfl⟩
        · by_cases h2 : long < l[k].value.length
          · go_wp2_with fail
            go_ret
            exact ⟨ret1d (by rw [HF2.out]; simp [h2]), rfl⟩
          · go_wp2_with fail
            go_round
            case rel => exact ⟨k + 1, hlt, by go_num, HF2.out.trans (by simp [h1, h2])⟩
            case measure => simp [intOf]; omega
      · go_wp2_with fail
        go_ret
        exact ⟨ret1d (by rw [HF.out, List.drop_of_length_le (by omega)]; rfl), rfl⟩
def natGo (most : Int) : List UInt8 → Int → Int × Bool
  | [], n => (n, true)
  | c :: r, n => if (c.toNat : Int) < 48 ∨ 57 < (c.toNat : Int) then (0, false) else
    if most < (c.toNat : Int) - 48 ∨ (most - ((c.toNat : Int) - 48)) / 10 < n then (0, false) else natGo most r (10 * n + ((c.toNat : Int) - 48))
def natF (l : List UInt8) (most : Int) : Int × Bool := if l = [] ∨ most < 0 then (0, false) else natGo most l 0
theorem natGo_high {most : Int} {c : UInt8} {r : List UInt8} {n : Int} (h : (c.toNat : Int) < 48 ∨ 57 < (c.toNat : Int)) : natGo most (c :: r) n = (0, false) := by simp [natGo, h]
theorem natGo_big {most : Int} {c : UInt8} {r : List UInt8} {n : Int} (_h1 : ¬ (c.toNat : Int) < 48) (_h2 : ¬ 57 < (c.toNat : Int)) (h : most < (c.toNat : Int) - 48 ∨ (most - ((c.toNat : Int) - 48)) / 10 < n) : natGo most (c :: r) n = (0, false) := by
  simp [natGo, h]
theorem natGo_step {most : Int} {c : UInt8} {r : List UInt8} {n : Int} (h1 : ¬ (c.toNat : Int) < 48) (h2 : ¬ 57 < (c.toNat : Int)) (h3 : ¬ most < (c.toNat : Int) - 48) (h4 : ¬ (most - ((c.toNat : Int) - 48)) / 10 < n) : natGo most (c :: r) n = natGo most r (10 * n + ((c.toNat : Int) - 48)) := by
  rw [natGo, if_neg (by omega), if_neg (by omega)]
theorem ret2d {v : Value} {n : Int} {b : Bool} {p : Int × Bool} (hp : p = (n, b)) (h : v = .tuple #[.int .i64 n, .bool b]) : Ending.returned v = .returned (.tuple #[.int .i64 p.1, .bool p.2]) := by rw [h, hp]
set_option maxRecDepth 100000 in
theorem digits_Natural (l : List UInt8) (most : Int) (hm : l.length ≤ maxLen) (h63 : most ≤ 9223372036854775807) (w : World) :
    Calls Try.prog 67 #[bstr l, .int .i64 most] w fun e w' => e = .returned (.tuple #[.int .i64 (natF l most).1, .bool (natF l most).2]) ∧ Below w.heap.size w w' := by
  unfold maxLen at hm
  by_cases h0 : l = [] ∨ most < 0
  · have HF : Hid (natF l most = (0, false)) := by show natF l most = _; rw [natF, if_pos h0]
    rcases h0 with rfl | h0
    · go_enter Try.func67, Try.ntmps67
      go_wp2_with fail
      go_ret2
      exact ⟨ret2d HF.out rfl, Below.refl _ _⟩
    · go_enter Try.func67, Try.ntmps67
      go_wp2_with fail
      all_goals go_ret2
      all_goals exact ⟨ret2d HF.out rfl, Below.refl _ _⟩
  · have hne : (!l.isEmpty) = true := by cases l <;> simp_all
    have hne' : l.isEmpty = false := by cases l <;> simp_all
    have HF : Hid (natF l most = natGo most l 0) := by show natF l most = _; rw [natF, if_neg h0]
    have h1 : 0 ≤ most := by omega
    clear h0
    go_enter Try.func67, Try.ntmps67
    go_wp2_with fail
    go_loopw [6] (fun n wr => ∃ (k : Nat) (m : Int), k ≤ l.length ∧ n = .int .i64 m ∧ 0 ≤ m ∧ m ≤ most ∧ wr = w.iter ⟨l.toArray⟩ k ∧ Hid (natF l most = natGo most (l.drop k) m)) (fun _ wr => l.length - wr.iterPos w.heap.size)
    case atStart => exact ⟨0, 0, by omega, rfl, by omega, h1, rfl, HF⟩
    case round =>
      clear HF
      obtain ⟨k, m, hk, rfl, hm0, hm1, rfl, HF⟩ := hrel
      by_cases hlt : k < l.length
      · have hdrop := List.drop_eq_getElem_cons hlt
        by_cases ha : l[k].toNat < 128
        · have hnext := fun ty => run_next_ascii (P := Try.prog) w ⟨l.toArray⟩ k ty hlt ha
          have HF2 : Hid (natF l most = natGo most (l[k] :: l.drop (k + 1)) m) := HF.out.trans (by rw [hdrop])
          clear HF hdrop
          go_wp2_with fail
          case roundEnd =>
            rename_i h1 h2 h3 h4
            refine ⟨⟨k + 1, _, hlt, rfl, by omega, by omega, rfl, HF2.out.trans (natGo_step ?_ ?_ ?_ ?_)⟩, by simp; omega⟩ <;> omega
          all_goals go_ret2
          all_goals refine ⟨ret2d (HF2.out.trans ?_) rfl, (Below.refl _ _).alloc (Nat.le_refl _) _⟩
          all_goals first | exact natGo_high (by omega) | exact natGo_big (by omega) (by omega) (by omega)
        · have hnext := fun ty => run_next_any (P := Try.prog) w ⟨l.toArray⟩ k ty hlt
          have HF2 : Hid (natF l most = (0, false)) := HF.out.trans (by rw [hdrop]; exact natGo_high (by omega))
          have hd := decode_high ⟨l.toArray⟩ k hlt (by simpa using ha)
          generalize (Utf8.decode ⟨l.toArray⟩ k).1 = r at hnext hd
          clear HF hdrop
          go_wp2_with fail
          go_ret2
          exact ⟨ret2d HF2.out rfl, (Below.refl _ _).alloc (Nat.le_refl _) _⟩
      · have hend := fun ty => run_next_end (P := Try.prog) w ⟨l.toArray⟩ k ty hlt
        go_wp2_with fail
        go_ret2
        exact ⟨ret2d (HF.out.trans (by rw [List.drop_of_length_le (by omega)]; rfl)) rfl, (Below.refl _ _).alloc (Nat.le_refl _) _⟩

abbrev contentLength : List UInt8 := [99, 111, 110, 116, 101, 110, 116, 45, 108, 101, 110, 103, 116, 104]
/-- What length.Of does, field by field. -/
def lenGo : List Fd → Int → Bool → Int × Bool × Bool
  | [], n, told => (n, told, true)
  | f :: r, n, told =>
    if f.name ≠ contentLength then lenGo r n told else
    let p := natF f.value 4503599627370496
    if (!p.2 || (told && p.1 != n)) = true then (0, false, false) else lenGo r p.1 true
def lenF (l : List Fd) : Int × Bool × Bool := lenGo l 0 false
abbrev lenVal (p : Int × Bool × Bool) : Value := .tuple #[.agg #[.int .i64 p.1, .bool p.2.1], .bool p.2.2]
theorem lenGo_skip {f : Fd} {r : List Fd} {n : Int} {t : Bool} (h : f.name ≠ contentLength) : lenGo (f :: r) n t = lenGo r n t := by simp [lenGo, h]
theorem lenGo_bad {f : Fd} {r : List Fd} {n : Int} {t : Bool} (h : f.name = contentLength) (h2 : (!(natF f.value 4503599627370496).2 || (t && (natF f.value 4503599627370496).1 != n)) = true) : lenGo (f :: r) n t = (0, false, false) := by
  simp only [lenGo, h, ne_eq, not_true, if_false, if_pos h2]
theorem lenGo_ok {f : Fd} {r : List Fd} {n : Int} {t : Bool} (h : f.name = contentLength) (h2 : (!(natF f.value 4503599627370496).2 || (t && (natF f.value 4503599627370496).1 != n)) = false) : lenGo (f :: r) n t = lenGo r (natF f.value 4503599627370496).1 true := by
  simp only [lenGo, h, ne_eq, not_true, if_false, h2]
  simp

theorem st_Length : StructTy Try.prog 26 2 := ⟨_, Try.underlying26, rfl, by kernel_rfl⟩

set_option maxRecDepth 100000 in
theorem length_Of (a : Option Addr) (cap B : Nat) (l : List Fd) (w : World) (hm : l.length ≤ maxLen) (hB : B ≤ w.heap.size) (hs : SlF w B a l) :
    Calls Try.prog 21 #[.slice a l.length cap] w fun e w' => e = .returned (lenVal (lenF l)) ∧ Below w.heap.size w w' := by
  unfold maxLen at hm
  go_enter Try.func21, Try.ntmps21
  go_wp2_with fail
  go_loopw [11] (fun i wr => ∃ (k : Nat) (n : Int) (t : Bool) (x y : Value), k ≤ l.length ∧ i = .int .i64 k ∧ Below w.heap.size w wr ∧ Blk wr w.heap.size 26 #[x, y] ∧ Blk wr (w.heap.size + 1) 26 #[.int .i64 n, .bool t] ∧ Hid (lenF l = lenGo (l.drop k) n t)) (fun i _ => l.length - (intOf i).toNat)
  case atStart => exact ⟨0, 0, false, _, _, by omega, rfl, ((Below.refl _ _).alloc (Nat.le_refl _) _).alloc (by simp) _, (Blk.new _ _ _).alloc _, Blk.at_ _ _ _ (by simp), rfl⟩
  case round =>
    obtain ⟨k, n, t, x, y, hk, rfl, hb, B0, B1, HF⟩ := hrel
    obtain ⟨q0, q1, fq0, fq1, hsz0⟩ := B0.two
    obtain ⟨r0, r1, fr0, fr1, hsz⟩ := B1.two
    by_cases hlt : k < l.length
    · obtain ⟨b, off, rfl, hb', c0, c1, c2, m1, m2⟩ := (hs.below hb hB).atF hlt
      have hdrop := List.drop_eq_getElem_cons hlt
      by_cases hn : l[k].name = contentLength
      · have hne : (l[k].name == contentLength) = true := by simpa using hn
        have HN := Lib.hid hn
        have HF2 : Hid (lenF l = lenGo (l[k] :: l.drop (k + 1)) n t) := HF.out.trans (by rw [hdrop])
        clear HF hdrop hn
        go_wp2_with (go_at_call 67; refine (digits_Natural _ _ (by assumption) (by omega) _).mono ?_; rintro e w1 ⟨rfl, hb1⟩; have hbb := (hb.alloc (by omega) _).trans (hb1.mono (by simp; omega)); have B1' := (B1.alloc _).below hb1 (by simp; omega); have B0' := (B0.alloc _).below hb1 (by simp; omega); obtain ⟨s0, s1, fs0, fs1, hss⟩ := B1'.two; obtain ⟨p0, p1, fp0, fp1, hps⟩ := B0'.two)
        all_goals first
          | (refine bodyPost_ret (res_cell_tmp rfl st_Length rfl ((B0'.set0 (u := .int .i64 0)).set1 (u := .bool false)) rfl rfl) rfl ⟨?_, ?_⟩
             · rw [HF2.out, lenGo_bad HN.out (by simp [*])]; rfl
             · exact (hbb.setCell (by simp) _).setCell (by simp) _)
          | (go_roundw
             case rel => exact ⟨k + 1, _, _, _, _, hlt, by go_num, (hbb.setCell (by simp) _).setCell (by simp) _, (B0'.far (by simp) _).far (by simp) _, B1'.set0.set1, HF2.out.trans (lenGo_ok HN.out (by simp [*]))⟩
             case measure => simp [intOf]; omega)
      · have hne : (l[k].name == contentLength) = false := by simpa using hn
        have HF2 : Hid (lenF l = lenGo (l.drop (k + 1)) n t) := HF.out.trans (by rw [hdrop]; exact lenGo_skip hn)
        clear HF hdrop
        go_wp2_with fail
        go_roundw
        case rel => exact ⟨k + 1, n, t, x, y, hlt, by go_num, hb.alloc (by omega) _, B0.alloc _, B1.alloc _, HF2⟩
        case measure => simp [intOf]; omega
    · have HF2 : Hid (lenF l = (n, t, true)) := HF.out.trans (by rw [List.drop_of_length_le (by omega)]; rfl)
      clear HF
      go_wp2_with fail
      refine bodyPost_ret (res_cell_tmp rfl st_Length rfl (B0.set0.set1) rfl rfl) rfl ⟨by rw [HF2.out]; rfl, ?_⟩
      exact (hb.setCell (by simp) _).setCell (by simp) _
end Go.Proofs.Ytafccnkeiohlhaa
