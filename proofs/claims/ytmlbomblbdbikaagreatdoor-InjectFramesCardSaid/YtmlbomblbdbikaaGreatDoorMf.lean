/-
  Parts of the proof, one behind the other: contracts of the program and plain laws; no condition of their own.
-/
import Derived.Test.YtmlbomblbdbikaaGreatDoorMe
import Derived.Test.YtmlbomblbdbikaaGreatDoorMc
/-
  Frames as they are made: one frame of given bytes, both roads.
-/
namespace Go.Proofs.YtmlbomblbdbikaaGreatDoor
set_option linter.unusedSimpArgs false
set_option linter.unusedVariables false
set_option linter.unusedSectionVars false
open Go.ChangeShapes Go.WideShapes Go.ChangeAt Go.RowKit Go.Deep Go.Shelf

/-- A frame that is to be sent. -/
structure Frw where
  t : Int
  fl : Int
  s : Int
  b : List UInt8
abbrev RawT : TypeId := 40
/-- Bytes that lie in another block. -/
def SlBn (w : World) (g : Nat) (a : Option Addr) (l : List UInt8) : Prop := ∀ k (h : k < l.length), ∃ b off, a = some ⟨b, off, none⟩ ∧ b < w.heap.size ∧ b ≠ g ∧ w.cell? ⟨b, off + k, none⟩ = some (.int .u8 (l[k].toNat : Int))
/-- The cells of a row of frames. -/
def RawRow (w : World) (g : Nat) (cur : Array Value) (d : Int) (l : List Frw) : Prop :=
  l.length * 6 ≤ cur.size ∧ ∀ k (h : k < l.length), ∃ a c, cur[k * 6]? = some (.int .i64 d) ∧ cur[k * 6 + 1]? = some (.int .i64 l[k].t) ∧ cur[k * 6 + 2]? = some (.int .i64 l[k].fl) ∧ cur[k * 6 + 3]? = some (.int .i64 l[k].s) ∧ cur[k * 6 + 4]? = some (.bool false) ∧ cur[k * 6 + 5]? = some (.slice a l[k].b.length c) ∧ SlBn w g a l[k].b
/-- A row of frames that was made since. -/
def RawsQ (d : Int) (l : List Frw) (w w' : World) (g : Nat) : Prop := w.heap.size ≤ g ∧ (∃ cur, Blk w' g RawT cur ∧ RawRow w' g cur d l) ∧ Below w.heap.size w w'
def RawsP (l : List Frw) (w : World) (e : Ending) (w' : World) : Prop := ∃ g cap, e = .returned (.slice (some ⟨g, 0, none⟩) l.length cap) ∧ RawsQ 0 l w w' g
theorem RawsQ.low {d : Int} {l : List Frw} {w0 w w' : World} {g : Nat} (h : RawsQ d l w w' g) (hb : Below w0.heap.size w0 w) : RawsQ d l w0 w' g :=
  ⟨Nat.le_trans hb.size h.1, h.2.1, hb.trans (Below.mono h.2.2 hb.size)⟩
theorem slBn_of {w w' : World} {a : Option Addr} {l : List UInt8} (h : SlB w w.heap.size a l) (hb : Below w.heap.size w w') {g : Nat} (hg : w.heap.size ≤ g) : SlBn w' g a l := by
  intro k hk
  obtain ⟨b, off, ha, hlt, hc⟩ := SlR.atB h hk
  exact ⟨b, off, ha, Nat.lt_of_lt_of_le hlt hb.size, by omega, (hb.cell (p := ⟨b, off + k, none⟩) hlt).trans hc⟩
theorem raws_one {w w' : World} {t fl s : Int} {a : Option Addr} {n c : Nat} {b : List UInt8} (hn : b.length = n) (hS : SlB w w.heap.size a b) (hw : w' = w.alloc (.cells #[.int .i64 0, .int .i64 t, .int .i64 fl, .int .i64 s, .bool false, .slice a n c] RawT)) : RawsQ 0 [⟨t, fl, s, b⟩] w w' w.heap.size := by
  subst hw hn
  refine ⟨Nat.le_refl _, ⟨_, Blk.new _ _ _, by simp, ?_⟩, bel⟩
  intro k hk
  obtain rfl : k = 0 := by simp at hk; omega
  exact ⟨a, c, rfl, rfl, rfl, rfl, rfl, rfl, slBn_of hS bel (Nat.le_refl _)⟩
set_option maxHeartbeats 4000000 in
set_option maxRecDepth 100000 in
theorem inject_frame (t fl s : Int) (a : Option Addr) (n c : Nat) (b : List UInt8) (hn : b.length = n) (w : World) (hS : SlB w w.heap.size a b) :
    Calls Tryz.prog 18 #[.int .i64 t, .int .i64 fl, .int .i64 s, .slice a n c] w (RawsP [⟨t, fl, s, b⟩] w) := by
  have HS := Lib.hid hS
  have HN := Lib.hid hn
  clear hS hn
  unfold RawsP
  go_enter Tryz.func18, Tryz.ntmps18
  go_wp2_with fail
  go_ret
  exact ⟨_, _, rfl, raws_one HN.out HS.out rfl⟩
set_option maxHeartbeats 4000000 in
set_option maxRecDepth 100000 in
theorem ref46_one (t fl s : Int) (a : Option Addr) (n c : Nat) (b : List UInt8) (hn : b.length = n) (w : World) (hS : SlB w w.heap.size a b) :
    Calls Tryz.prog 22 #[.int .i64 t, .int .i64 fl, .int .i64 s, .slice a n c] w (RawsP [⟨t, fl, s, b⟩] w) := by
  have HS := Lib.hid hS
  have HN := Lib.hid hn
  clear hS hn
  unfold RawsP
  go_enter Tryz.func22, Tryz.ntmps22
  go_wp2_with fail
  go_ret
  exact ⟨_, _, rfl, raws_one HN.out HS.out rfl⟩
abbrev nul (n : Nat) : List UInt8 := List.replicate n 0
theorem byteCells_nul (n : Nat) : Lib.byteCells (nul n) = List.replicate n (.int .u8 0) := by simp [Lib.byteCells]
theorem slB_blk {w : World} {g : Nat} {t : TypeId} {cs : Array Value} (l : List UInt8) (h : Blk w g t cs) (hl : cs.toList = Lib.byteCells l) : SlB w w.heap.size (some ⟨g, 0, none⟩) l := by
  intro k hk
  refine ⟨g, 0, [.int .u8 (l[k].toNat : Int)], rfl, h.lt, rfl, ?_⟩
  intro j u hu
  obtain rfl : j = 0 := by
    cases j with
    | zero => rfl
    | succ j => simp at hu
  simp only [List.getElem?_cons_zero, Option.some.injEq] at hu
  subst hu
  simp only [Nat.zero_add, Nat.mul_one, Nat.add_zero]
  rw [h.cell k, ← Array.getElem?_toList, hl]
  simp [Lib.byteCells, hk]
theorem run_nul (n : Nat) (hn : n ≤ 100000) (w : World) : (Instr.makeSlice 38 (.int .i64 (n : Int)) (.int .i64 (n : Int))).run Tryz.prog w = .ok (.slice (some ⟨w.heap.size, 0, none⟩) n n) (w.alloc (.cells (List.replicate n (.int .u8 0)).toArray 5)) := by
  obtain ⟨i, ht, hi, hiz, hsz, hby, _, _⟩ := st_bytes
  have hr := run_make (P := Tryz.prog) w 38 5 i (.int .u8 0) ht hi hiz .i64 .i64 (n : Int) (n : Int) (by omega) (by omega) (by rw [hby]; omega) (by omega)
  rw [Int.toNat_natCast, hsz, Nat.mul_one] at hr
  rw [hr]
  show _ = Result.ok _ (w.alloc (.cells _ _))
  rw [show (Value.int .u8 0).cells = #[.int .u8 0] from rfl, made_cells]
set_option maxHeartbeats 4000000 in
set_option maxRecDepth 100000 in
theorem inject_nulls (n : Nat) (hn : n ≤ 100000) (w : World) : Calls Tryz.prog 19 #[.int .i64 (n : Int)] w fun e w' => e = .returned (.slice (some ⟨w.heap.size, 0, none⟩) n n) ∧ SlB w' w'.heap.size (some ⟨w.heap.size, 0, none⟩) (nul n) ∧ ∃ j, w' = w.more j := by
  have hmk := run_nul n hn
  obtain ⟨Z, hZ⟩ : ∃ Z : List Value, Z = List.replicate n (.int .u8 0) := ⟨_, rfl⟩
  have HZ := Lib.hid hZ
  rw [← hZ] at hmk
  clear hZ hn
  go_enter Tryz.func19, Tryz.ntmps19
  go_wp2_with fail
  go_ret
  refine ⟨rfl, slB_blk (t := 5) (cs := Z.toArray) _ blk (by rw [byteCells_nul, HZ.out]), Below.junk bel⟩
end Go.Proofs.YtmlbomblbdbikaaGreatDoor
/-
  Numbers as bytes, byte by byte: both roads.
-/
namespace Go.Proofs.YtmlbomblbdbikaaGreatDoor
set_option linter.unusedSimpArgs false
set_option linter.unusedVariables false
set_option linter.unusedSectionVars false
open Go.ChangeShapes Go.WideShapes Go.ChangeAt Go.RowKit Go.Deep Go.Shelf

def byteF (x : Int) : UInt8 := UInt8.ofNat (x % 256).toNat
theorem byteF_val (x : Int) : ((byteF x).toNat : Int) = x % 256 := by
  unfold byteF
  rw [ofNat_byte (by omega)]
  omega
/-- A number's bytes, the highest first. -/
def beL : Nat → Int → List UInt8
  | 0, _ => []
  | q + 1, n => byteF (n / 2 ^ (8 * q)) :: beL q n
theorem powB_two {q : Nat} (h : q ≤ 4) : powB q = 2 ^ (8 * q) := by
  obtain rfl | rfl | rfl | rfl | rfl : q = 0 ∨ q = 1 ∨ q = 2 ∨ q = 3 ∨ q = 4 := by omega
  all_goals decide
set_option maxHeartbeats 8000000 in
set_option maxRecDepth 100000 in
theorem octet_PutX (k : Nat) (T : Int) (hk : 1 ≤ k ∧ k ≤ 4) (hT : ∀ W, Calls Tryz.prog 88 #[.int .i64 (k : Int)] W fun e w' => e = .returned (.tuple #[.int .i64 T, .bool true]) ∧ W = w')
    (a : Option Addr) (l : List UInt8) (cap : Nat) (n : Int) (h0 : 0 ≤ n) (hn : n ≤ T) (hl : l.length ≤ 1000000) (w : World) (hS : SlB w w.heap.size a l) :
    Calls Tryz.prog 67 #[.slice a l.length cap, .int .i64 n, .int .i64 (k : Int)] w (RowP (l ++ beL k n) w) := by
  obtain ⟨R, hR⟩ : ∃ R, R = l ++ beL k n := ⟨_, rfl⟩
  rw [← hR]
  have HR := Lib.hid hR
  clear hR
  obtain ⟨N, hN⟩ : ∃ N, N = l.length := ⟨_, rfl⟩
  have hwr : IntKind.i64.wrap ((N : Int) + k) = (N : Int) + k := IntWalk.i64_in _ (by omega)
  have hw8 : IntKind.i64.wrap (8 * (k : Int)) = 8 * (k : Int) := IntWalk.i64_in _ (by omega)
  have hmk : ∀ W, (Instr.makeSlice 38 (.int .i64 (N : Int)) (.int .i64 ((N : Int) + k))).run Tryz.prog W = .ok (.slice (some ⟨W.heap.size, 0, none⟩) N (N + k)) (W.alloc (.cells (List.replicate (N + k) (.int .u8 0)).toArray 5)) := fun W => by
    obtain ⟨i, ht, hi, hiz, hsz, hby, _, _⟩ := st_bytes
    have hr := run_make (P := Tryz.prog) W 38 5 i (.int .u8 0) ht hi hiz .i64 .i64 (N : Int) ((N : Int) + k) (by omega) (by omega) (by rw [hby]; omega) (by omega)
    have e : ((N : Int) + k).toNat = N + k := by omega
    rw [e, Int.toNat_natCast, hsz, Nat.mul_one] at hr
    rw [hr]
    show _ = Result.ok _ (W.alloc (.cells _ _))
    rw [show (Value.int .u8 0).cells = #[.int .u8 0] from rfl, made_cells]
  obtain ⟨Z, hZ⟩ : ∃ Z : List Value, Z = List.replicate (N + k) (.int .u8 0) := ⟨_, rfl⟩
  have hZl : Z.length = N + k := by rw [hZ]; simp
  rw [← hZ] at hmk
  rw [← hN]
  have HT := Lib.hid hT
  have HZL := Lib.hid hZl
  have HN := Lib.hid hN
  have n0 : ¬ n < 0 := by omega
  have n1 : ¬ T < n := by omega
  have hNle : N ≤ 1000000 := by omega
  have HSRC : Hid (0 < (Lib.byteCells l).length → ∃ ad, a = some ad ∧ ∀ W, Below w.heap.size w W → ∀ j v, (Lib.byteCells l)[j]? = some v → W.cell? (ad.add j) = some v) := fun hp => by
    rw [byteCells_len] at hp
    obtain ⟨b, off, ha, hb, _⟩ := SlR.atB hS hp
    refine ⟨_, ha, fun W hW j v hv => ?_⟩
    obtain ⟨hlt, rfl⟩ := List.getElem?_eq_some_iff.1 hv
    rw [byteCells_len] at hlt
    obtain ⟨b', off', ha', hb', hc⟩ := SlR.atB hS hlt
    rw [ha] at ha'
    injection ha' with ha'
    injection ha' with e1 e2
    subst e1 e2
    have e3 : (⟨b, off, none⟩ : Addr).add j = ⟨b, off + j, none⟩ := by unfold Addr.add; by_cases hj : j = 0 <;> simp [hj]
    rw [e3]
    refine ((hW.cell (p := ⟨b, off + j, none⟩) hb).trans hc).trans ?_
    simp [Lib.byteCells]
  clear hT hZl hN hZ hS hn h0 hl
  unfold RowP
  go_enter Tryz.func67, Tryz.ntmps67
  go_wp2_with (first | (go_at_call 88; (with_reducible refine (HT.out _).mono ?_); rintro e w' ⟨rfl, rfl⟩) | (refine wpList_copy_splice rfl (.tmp 35) (.tmp 36) 38 38 rfl 5 Tryz.underlying38 (by kernel_rfl) (some ⟨w.heap.size, 0, none⟩) a N (N + k) N cap (by rfl) (by rfl) w.heap.size 0 Z 5 (by exact Blk.at_ _ _ _ rfl) (Lib.byteCells l) (by rw [byteCells_len, ← HN.out]; exact (Nat.min_self N).symm) (fun hp => ⟨rfl, by obtain ⟨ad, e, h⟩ := HSRC.out hp; exact ⟨ad, e, h _ bel⟩⟩) (by rw [byteCells_len, ← HN.out, HZL.out]; omega) (by intro v hv; simp [Lib.byteCells] at hv; obtain ⟨x, _, rfl⟩ := hv; rfl) w.heap.size w bel (Nat.le_refl _) ?_; intro w2 HG2 hB2))
  obtain ⟨vO, hvO⟩ : ∃ vO : Value, vO = .slice (some ⟨w.heap.size, 0, none⟩) N (N + k) := ⟨_, rfl⟩
  have HO : Hid (OwnB w.heap.size w2 vO l) := by
    show OwnB _ _ _ _
    rw [hvO]
    exact splice_own HN.out.symm HZL.out (by omega) (Nat.le_refl _) HG2.out
  rw [← hvO]
  have HNL : Hid (l.length = N) := HN.out.symm
  have HB2 := Lib.hid hB2
  clear hmk HG2 HSRC HZL hB2 hvO HT HN
  have h8 : (8 : Int) * (k : Int) = ((8 * k : Nat) : Int) := by omega
  rw [h8]
  go_loopg [10, 11] k (fun g v i wr => ∃ (m : List UInt8), Hid (R = m ++ beL g n) ∧ g ≤ k ∧ i = .int .i64 ((8 * g : Nat) : Int) ∧ OwnB w.heap.size wr v m ∧ m.length + g = N + k ∧ Below w.heap.size w wr)
  case atStart => exact ⟨l, HR.out, Nat.le_refl _, rfl, HO.out, by have := HNL.out; omega, HB2.out⟩
  case round =>
    obtain ⟨m, HX, hgk, rfl, ho, hm, hb⟩ := hrel
    have HO2 := Lib.hid ho
    have HM := Lib.hid hm
    have HB := Lib.hid hb
    clear HO HNL HB2 ho hm hb
    have hk4 := hk.2
    clear h8 hw8 hwr
    have HHK := Lib.hid hgk
    clear hgk
    obtain rfl | ⟨q, rfl, hq⟩ : gk = 0 ∨ ∃ q, gk = q + 1 ∧ q < 4 := by
      rcases gk with _ | q
      · exact .inl rfl
      · exact .inr ⟨q, rfl, by have := HHK.out; omega⟩
    · go_wp2_with fail
      go_ret2
      exact ⟨_, rfl, by rw [HX.out, beL, List.append_nil]; exact HO2.out, HB.out⟩
    · have e1 : ((8 * (q + 1) : Nat) : Int) = 8 * (q : Int) + 8 := by omega
      have e2 : IntKind.i64.wrap (8 * (q : Int) + 8 - 8) = 8 * (q : Int) := by rw [show 8 * (q : Int) + 8 - 8 = 8 * (q : Int) by omega]; exact IntWalk.i64_in _ (by omega)
      have e3 : (0 : Int) < 8 * (q : Int) + 8 := by omega
      rw [e1]
      clear e1
      obtain ⟨c, hcc⟩ : ∃ c, c = byteF (n / 2 ^ (8 * q)) := ⟨_, rfl⟩
      have hc : n / 2 ^ (8 * q) % 256 = (c.toNat : Int) := by rw [hcc, byteF_val]
      have HXX : Hid (R = (m ++ [c]) ++ beL q n) := by show _ = _; rw [HX.out, beL, hcc]; simp
      clear HX hcc
      go_wp2_with (at_builtin; refine app_byte (.tmp 44) (.tmp 50) rfl rfl (c := c) rfl (HO2.out.alloc _) rfl (Blk.at_ _ _ _ (by simp)) (by have := HM.out; omega) (by have := HB.out.size; simp only [World.size_alloc]; omega) ?_; intro v' w3 hown hbw)
      go_roundg q
      case measure => omega
      case rel => exact ⟨m ++ [c], HXX.out, by have := HHK.out; omega, by first | rfl | go_num, hown, by have := HM.out; simp; omega, HB.out.trans ((Below.mono (B := wr.heap.size) bel HB.out.size).trans hbw)⟩
set_option maxHeartbeats 8000000 in
set_option maxRecDepth 100000 in
theorem ref01_PutX (n : Int) (k : Nat) (h1 : 1 ≤ k) (h4 : k ≤ 4) (w : World) (h0 : 0 ≤ n) (hn : n < powB k) :
    Calls Tryz.prog 64 #[.slice none 0 0, .int .i64 n, .int .i64 (k : Int)] w (RowP (beL k n) w) := by
  obtain ⟨R, hR⟩ : ∃ R, R = beL k n := ⟨_, rfl⟩
  rw [← hR]
  have HR := Lib.hid hR
  have HNB : Hid (n < 4294967296) := by
    have : powB k ≤ 4294967296 := by rw [powB_two h4]; obtain rfl | rfl | rfl | rfl : k = 1 ∨ k = 2 ∨ k = 3 ∨ k = 4 := by omega
                                     all_goals decide
    show _ < _
    omega
  clear hR
  have HP : Hid (∀ (q : Nat), q ≤ 4 → ∀ W, Calls Tryz.prog 86 #[.int .i64 (q : Int)] W fun e w' => e = .returned (.int .i64 (powB q)) ∧ W = w') := fun q hq W => ref01_power q hq W
  have HK : Hid (∀ W, Calls Tryz.prog 86 #[.int .i64 (k : Int)] W fun e w' => e = .returned (.int .i64 (powB k)) ∧ W = w') := HP.out k h4
  have k1 : ¬ (k : Int) < 1 := by omega
  have k4 : ¬ (4 : Int) < (k : Int) := by omega
  have n0 : ¬ n < 0 := by omega
  have n1 : ¬ powB k ≤ n := by omega
  unfold RowP
  go_enter Tryz.func64, Tryz.ntmps64
  go_wp2_with (go_at_call 86; (with_reducible refine (HK.out _).mono ?_); rintro e w' ⟨rfl, rfl⟩)
  have HW0 : Hid (OwnB w.heap.size (w.alloc (.cells #[] 5)) (.slice (some ⟨w.heap.size, 0, none⟩) 0 0) []) := World.ownsRow_made w #[] 0 (Nat.le_refl _) (by decide) rfl
  have HPOS : Hid (∀ q : Nat, 0 < powB q) := powB_pos
  clear n1 HK
  go_loopg [8, 9] k (fun g v i wr => ∃ (q : Nat) (l : List UInt8), Hid (R = l ++ beL g n) ∧ q + g = k ∧ i = .int .i64 q ∧ OwnB w.heap.size wr v l ∧ l.length = q ∧ Below w.heap.size w wr)
  case atStart => exact ⟨0, [], HR.out, by omega, rfl, HW0.out, rfl, bel⟩
  case round =>
    obtain ⟨q, l, HX, hqg, rfl, ho, hlq, hb⟩ := hrel
    have HQG := Lib.hid hqg
    have HO := Lib.hid ho
    have HLQ := Lib.hid hlq
    have HB := Lib.hid hb
    clear ho hlq hb
    by_cases hlt : q < k
    · obtain ⟨g, rfl⟩ : ∃ g, gk = g + 1 := ⟨gk - 1, by omega⟩
      have HPE : Hid (powB (k - 1 - q) = 2 ^ (8 * g)) := by show _ = _; rw [show k - 1 - q = g by omega]; exact powB_two (by omega)
      have hlt2 : (q : Int) < k := by omega
      have e1 : (k : Int) - 1 - q = ((k - 1 - q : Nat) : Int) := by omega
      have w1 : IntKind.i64.wrap ((k : Int) - 1) = (k : Int) - 1 := IntWalk.i64_in _ (by omega)
      have w2 : IntKind.i64.wrap ((k : Int) - 1 - q) = (k : Int) - 1 - q := IntWalk.i64_in _ (by omega)
      have HQ : Hid (∀ W, Calls Tryz.prog 86 #[.int .i64 ((k : Int) - 1 - q)] W fun e w' => e = .returned (.int .i64 (powB (k - 1 - q))) ∧ W = w') := fun W => by
        rw [e1]
        exact HP.out (k - 1 - q) (by omega) W
      have hp := HPOS.out (k - 1 - q)
      obtain ⟨c, hcc⟩ : ∃ c, c = byteF (n / 2 ^ (8 * g)) := ⟨_, rfl⟩
      have hc0 : n / 2 ^ (8 * g) % 256 = (c.toNat : Int) := by rw [hcc, byteF_val]
      rw [← HPE.out] at hc0
      have HXX : Hid (R = (l ++ [c]) ++ beL g n) := by show _ = _; rw [HX.out, beL, hcc]; simp
      clear HX hcc HPE
      generalize powB (k - 1 - q) = P at HQ hp hc0
      have hp0 : ¬ P = 0 := by omega
      have hc : ((wrap64 (n.tdiv P)).tmod 256) % 256 = (c.toNat : Int) := by
        have hq0 : 0 ≤ n / P := Int.ediv_nonneg h0 (by omega)
        have hq1 : n / P ≤ n := Int.ediv_le_self _ h0
        have := HNB.out
        rw [Int.tdiv_eq_ediv_of_nonneg h0, IntWalk.wrap64_in _ (by omega), Int.tmod_eq_emod_of_nonneg hq0]
        omega
      clear e1 hqg hc0
      go_wp2_with (first | (go_at_call 86; (with_reducible refine (HQ.out _).mono ?_); rintro e w' ⟨rfl, rfl⟩) | (at_builtin; refine app_byte (.tmp 32) (.tmp 42) rfl rfl (c := c) rfl (HO.out.alloc _) rfl (Blk.at_ _ _ _ (by simp)) (by have := HLQ.out; omega) (by have := HB.out.size; simp only [World.size_alloc]; omega) ?_; intro v' w3 hown hbw))
      go_roundg g
      case measure => have := HQG.out; omega
      case rel => exact ⟨q + 1, l ++ [c], HXX.out, by have := HQG.out; omega, by go_num, hown, by have := HLQ.out; simp; omega, HB.out.trans ((Below.mono (B := wr.heap.size) bel HB.out.size).trans hbw)⟩
    · obtain rfl : q = k := by have := HQG.out; omega
      obtain rfl : gk = 0 := by have := HQG.out; omega
      have hlt2 : ¬ (q : Int) < q := by omega
      go_wp2_with fail
      go_ret2
      exact ⟨_, rfl, by rw [HX.out, beL, List.append_nil]; exact HO.out, HB.out⟩
end Go.Proofs.YtmlbomblbdbikaaGreatDoor
/-
  One setting as bytes: both roads.
-/
namespace Go.Proofs.YtmlbomblbdbikaaGreatDoor
set_option linter.unusedSimpArgs false
set_option linter.unusedVariables false
set_option linter.unusedSectionVars false
open Go.ChangeShapes Go.WideShapes Go.ChangeAt Go.RowKit Go.Deep Go.Shelf

theorem beL_len : ∀ (k : Nat) (n : Int), (beL k n).length = k
  | 0, _ => rfl
  | k + 1, n => by simp only [beL, List.length_cons, beL_len k n]
set_option maxHeartbeats 8000000 in
set_option maxRecDepth 100000 in
theorem setting_Put1 (g c : Nat) (i v : Int) (hi : 0 ≤ i ∧ i ≤ 65535) (hv : 0 ≤ v ∧ v ≤ 4294967295) (w : World) (hb : Blk w g 93 #[.int .i64 i, .int .i64 v]) :
    Calls Tryz.prog 50 #[.slice (some ⟨g, 0, none⟩) 1 c] w (RowP (beL 2 i ++ beL 4 v) w) := by
  have HQ1 : Hid (∀ W, Calls Tryz.prog 67 #[.slice none 0 0, .int .i64 i, .int .i64 2] W (RowP (beL 2 i) W)) := fun W => octet_PutX 2 65535 (by omega) octet_top2 none [] 0 i hi.1 hi.2 (by simp) W SlR.nil
  have HQ2 : Hid (∀ a n c (l : List UInt8) W, l.length = n → l.length ≤ 100 → SlB W W.heap.size a l → Calls Tryz.prog 67 #[.slice a n c, .int .i64 v, .int .i64 4] W (RowP (l ++ beL 4 v) W)) := by
    intro a n c l W hn hl hS
    subst hn
    exact octet_PutX 4 4294967295 (by omega) octet_top4 a l c v hv.1 hv.2 (by omega) W hS
  have HL1 := Lib.hid (beL_len 2 i)
  generalize beL 2 i = L1 at HQ1 HL1 ⊢
  generalize beL 4 v = L2 at HQ2 ⊢
  have c0 : w.cell? ⟨g, 0, none⟩ = some (.int .i64 i) := hb.cell 0
  have c1 : w.cell? ⟨g, 1, none⟩ = some (.int .i64 v) := hb.cell 1
  have hg := hb.lt
  clear hb hi hv
  unfold RowP
  go_enter Tryz.func50, Tryz.ntmps50
  go_wp2_with fail
  refine wp_loop_rounds 2 ?_
  rw [rounds_succ]
  go_wp2_with (first | (go_at_call 67; (with_reducible refine (HQ1.out _).mono ?_); rintro e w3 ⟨v3, rfl, ho3, hb3⟩; obtain ⟨a3, c3, rfl, hs3⟩ := ho3.read; have HS3 := Lib.hid hs3; have HB3 : Hid (Below w.heap.size w w3) := (show Below w.heap.size w _ from bel).trans (Below.mono hb3 (by simp)); have hz3 := HB3.out.size; have x31 := hb3.cell (p := ⟨w.heap.size, 1, none⟩) (by simp); clear hb3 ho3 hs3) | (go_at_call 67; (with_reducible refine (HQ2.out _ _ _ L1 _ rfl (by have := HL1.out; omega) HS3.out).mono ?_); rintro e w4 ⟨v4, rfl, ho4, hb4⟩; have HO4 := Lib.hid (ownB_low ho4 hz3); have HB4 := Lib.hid (HB3.out.trans (Below.mono hb4 hz3)); clear hb4 ho4))
  rw [rounds_succ]
  go_wp2_with fail
  go_ret2
  exact ⟨_, rfl, HO4.out, HB4.out⟩
theorem slB_grn {w w' : World} {a : Option Addr} {l : List UInt8} {row : Option Nat} (h : SlB w w.heap.size a l) (hg : w.grownBy w' row) (hr : ∀ k, row ≠ some k) : SlB w' w'.heap.size a l := by
  intro k hk
  obtain ⟨b, off, cs, ha, hlt, hx, hc⟩ := h k hk
  refine ⟨b, off, cs, ha, Nat.lt_of_lt_of_le hlt hg.size, hx, fun j u hu => ?_⟩
  have hblk := hg.block b hlt (fun e => hr b e.symm)
  exact (World.cell?_of_block (a := ⟨b, _, none⟩) hblk).trans (hc j u hu)
/-- What one setting's bytes leave. -/
def RowB (l : List UInt8) (w : World) (e : Ending) (w' : World) : Prop := ∃ v, e = .returned (.tuple #[v, .bool true]) ∧ OwnB w.heap.size w' v l ∧ Below w.heap.size w w'
set_option maxHeartbeats 8000000 in
set_option maxRecDepth 100000 in
theorem ref13_Put1 (g c : Nat) (i v : Int) (hi : 0 ≤ i ∧ i ≤ 65535) (hv : 0 ≤ v ∧ v ≤ 4294967295) (w : World) (hb : Blk w g 93 #[.int .i64 i, .int .i64 v]) :
    Calls Tryz.prog 46 #[.slice (some ⟨g, 0, none⟩) 1 c] w (RowB (beL 2 i ++ beL 4 v) w) := by
  have HQ1 : Hid (∀ W, Calls Tryz.prog 64 #[.slice none 0 0, .int .i64 i, .int .i64 2] W (RowP (beL 2 i) W)) := fun W => ref01_PutX i 2 (by omega) (by omega) W hi.1 (Int.lt_of_le_of_lt hi.2 (by decide))
  have HQ2 : Hid (∀ W, Calls Tryz.prog 64 #[.slice none 0 0, .int .i64 v, .int .i64 4] W (RowP (beL 4 v) W)) := fun W => ref01_PutX v 4 (by omega) (by omega) W hv.1 (Int.lt_of_le_of_lt hv.2 (by decide))
  have HL1 := Lib.hid (beL_len 2 i)
  have HL2 := Lib.hid (beL_len 4 v)
  generalize beL 2 i = L1 at HQ1 HL1 ⊢
  generalize beL 4 v = L2 at HQ2 HL2 ⊢
  have c0 : w.cell? ⟨g, 0, none⟩ = some (.int .i64 i) := hb.cell 0
  have c1 : w.cell? ⟨g, 1, none⟩ = some (.int .i64 v) := hb.cell 1
  have hg := hb.lt
  clear hb hi hv
  unfold RowB
  go_enter Tryz.func46, Tryz.ntmps46
  go_wp2_with fail
  refine wp_loop_rounds 2 ?_
  rw [rounds_succ]
  go_wp2_with (first | (go_at_call 64; (with_reducible refine (HQ1.out _).mono ?_); rintro e w3 ⟨v3, rfl, ho3, hb3⟩; obtain ⟨a3, c3, rfl, hs3⟩ := ho3.read; have HS3 := Lib.hid hs3; have HB3 := Lib.hid hb3; have hz3 := hb3.size; have x31 := (hb3.cell (p := ⟨g, 1, none⟩) hg).trans c1; clear hb3 ho3 hs3) | (go_at_call 64; (with_reducible refine (HQ2.out _).mono ?_); rintro e w4 ⟨v4, rfl, ho4, hb4⟩; obtain ⟨a4, c4, rfl, hs4⟩ := ho4.read; have HS4 := Lib.hid hs4; have HB4 := Lib.hid hb4; have hz4 := hb4.size; clear hb4 ho4 hs4) | (at_builtin; refine app_bytes (.tmp 40) (.tmp 41) rfl rfl rfl (OwnB.nil w.heap.size _) rfl rfl (HS3.out.below HB4.out (Nat.le_refl _)) (by have := HL1.out; simp; omega) (by omega) ?_; intro v5 w5 hown5 hbw5 hgw5; have HO5 := Lib.hid hown5; have HB5 := Lib.hid hbw5; have hz5 := hbw5.size; have hne5 := Lib.hid hgw5; clear hown5 hbw5 hgw5) | (at_builtin; refine app_bytes (.tmp 42) (.tmp 43) rfl rfl rfl HO5.out rfl rfl (slB_grn HS4.out hne5.out (fun k h => by cases (show (none : Option Nat) = some k from h))) (by have := HL1.out; have := HL2.out; simp; omega) (by omega) ?_; intro v6 w6 hown6 hbw6 hgw6; have HO6 := Lib.hid hown6; have HB6 := Lib.hid hbw6; clear hown6 hbw6 hgw6))
  rw [rounds_succ]
  go_wp2_with fail
  go_ret2
  exact ⟨_, rfl, HO6.out, HB3.out.trans ((Below.mono HB4.out hz3).trans (HB5.out.trans HB6.out))⟩
end Go.Proofs.YtmlbomblbdbikaaGreatDoor
/-
  Field blocks, written outside of tables: the program's road.
-/
namespace Go.Proofs.YtmlbomblbdbikaaGreatDoor
set_option linter.unusedSimpArgs false
set_option linter.unusedVariables false
set_option linter.unusedSectionVars false
open Go.ChangeShapes Go.WideShapes Go.ChangeAt Go.RowKit Go.Deep Go.Shelf

set_option maxHeartbeats 4000000 in
set_option maxRecDepth 100000 in
theorem slices_ContainsI0 (g : Value) (w : World) : Calls Tryz.prog 93 #[.slice none 0 0, g] w fun e w' => e = .returned (.bool false) ∧ w = w' := by
  have HI : Hid (∀ W, Calls Tryz.prog 115 #[.slice none 0 0, g] W fun e w' => e = .returned (.int .i64 (-1)) ∧ W = w') := by
    intro W
    go_enter Tryz.func115, Tryz.ntmps115
    go_wp2_with fail
    refine wp_loop_rounds 1 ?_
    rw [rounds_succ]
    go_wp2_with fail
    go_ret
    exact ⟨rfl, rfl⟩
  go_enter Tryz.func93, Tryz.ntmps93
  go_wp2_with (go_at_call 115; (with_reducible refine (HI.out _).mono ?_); rintro e w' ⟨rfl, rfl⟩)
  go_ret
  exact ⟨rfl, rfl⟩
abbrev EncT : TypeId := 145
/-- What a new encoder leaves. -/
def EncP (w : World) (e : Ending) (w' : World) : Prop := ∃ g b, e = .returned (.tuple #[.pointer (some ⟨g, 0, none⟩), .int .i64 0]) ∧ w.heap.size ≤ g ∧ w.heap.size ≤ b ∧ Blk w' g EncT #[.pointer (some ⟨b, 0, none⟩)] ∧ Blk w' b TbPT #[.slice none 0 0, .int .i64 0, .int .i64 0] ∧ Below w.heap.size w w'
set_option maxHeartbeats 4000000 in
set_option maxRecDepth 100000 in
theorem encoder_New0 (w : World) : Calls Tryz.prog 72 #[.int .i64 0] w (EncP w) := by
  have HD : Hid (∀ W, Calls Tryz.prog 92 #[.int .i64 0] W fun e w' => e = .returned (.tuple #[.pointer (some ⟨W.heap.size, 0, none⟩), .int .i64 0]) ∧ w' = W.alloc (.cells #[.slice none 0 0, .int .i64 0, .int .i64 0] TbPT)) := by
    intro W
    have HM : Hid (∀ W, Calls Tryz.prog 114 #[.int .i64 0] W fun e w' => e = .returned (.bool true) ∧ W = w') := by
      intro W
      go_enter Tryz.func114, Tryz.ntmps114
      go_wp2_with fail
      go_ret
      exact ⟨rfl, rfl⟩
    go_enter Tryz.func92, Tryz.ntmps92
    go_wp2_with (go_at_call 114; (with_reducible refine (HM.out _).mono ?_); rintro e w' ⟨rfl, rfl⟩)
    go_ret2
    exact ⟨rfl, rfl⟩
  unfold EncP
  go_enter Tryz.func72, Tryz.ntmps72
  go_wp2_with (go_at_call 92; (with_reducible refine (HD.out _).mono ?_); rintro e w' ⟨rfl, rfl⟩)
  go_ret2
  exact ⟨_, _, rfl, by simp, Nat.le_refl _, blk, blk, bel⟩
end Go.Proofs.YtmlbomblbdbikaaGreatDoor
/-
  Field blocks, written outside of tables: the program's road, whole.
-/
namespace Go.Proofs.YtmlbomblbdbikaaGreatDoor
set_option linter.unusedSimpArgs false
set_option linter.unusedVariables false
set_option linter.unusedSectionVars false
open Go.ChangeShapes Go.WideShapes Go.ChangeAt Go.RowKit Go.Deep Go.Shelf

def idxF (f : Fd) : Nat := (fndS f.name []).1.toNat
def encF (f : Fd) : List UInt8 := repW (idxF f) (if idxF f = 0 then f.name else []) f.value
def encL (l : List Fd) : List UInt8 := l.flatMap encF
/-- A field that is found in the static table at once, or not at all. -/
structure FdEn (f : Fd) : Prop where
  never : f.never = false
  nm : NmOne f.name (idxF f : Int)
  dc : nmdF f.name = (idxF f : Int)
  ne : f.name ≠ []
  ln : f.name.length ≤ 100
  lv : f.value.length ≤ 100
theorem litW_len (s : List UInt8) : (litW s).length ≤ s.length + 6 := by have := putL_len 0 7 s.length; simp only [litW, List.length_append]; omega
theorem encF_len {f : Fd} (h : FdEn f) : (encF f).length ≤ 300 := by
  have h1 := putL_len 0 4 (idxF f)
  have h2 := litW_len f.name
  have h3 := litW_len f.value
  have h4 := litW_len []
  have h5 := h.ln
  have h6 := h.lv
  simp only [encF, repW, List.length_append]
  split
  · omega
  · simp only [List.length_nil]; omega
theorem idxF_le (f : Fd) (h : FdEn f) : idxF f ≤ 61 := by
  rcases h.nm.2 with h | h <;> omega
theorem encL_drop {l : List Fd} {k : Nat} (h : k < l.length) : encL (l.drop k) = encF l[k] ++ encL (l.drop (k + 1)) := by
  rw [List.drop_eq_getElem_cons h]
  unfold encL
  rw [List.flatMap_cons]
abbrev OpnT : TypeId := 123
abbrev op2 : Array Value := #[.int .i64 2, .bool false, .bool false, .bool false]
set_option maxHeartbeats 16000000 in
set_option maxRecDepth 100000 in
theorem encoder_Encode0 (g b ob : Nat) (fa : Option Addr) (fc : Nat) (l : List Fd) (hl : l.length ≤ 100) (hf : ∀ f ∈ l, FdEn f) (w : World) (hG : GF w) (hg : Blk w g EncT #[.pointer (some ⟨b, 0, none⟩)]) (hb : Blk w b TbPT #[.slice none 0 0, .int .i64 0, .int .i64 0]) (ho : Blk w ob OpnT op2) (hS : SlF w w.heap.size fa l) :
    Calls Tryz.prog 73 #[.pointer (some ⟨g, 0, none⟩), .slice none 0 0, .slice fa l.length fc, .slice (some ⟨ob, 0, none⟩) 1 1] w (RowP (encL l) w) := by
  have HCI : Hid (∀ v W, Calls Tryz.prog 93 #[.slice none 0 0, v] W fun e w' => e = .returned (.bool false) ∧ W = w') := slices_ContainsI0
  have HE : Hid (encL l = encL (l.drop 0)) := rfl
  obtain ⟨R, hR⟩ : ∃ R, R = encL l := ⟨_, rfl⟩
  rw [← hR] at HE ⊢
  have HG := Lib.hid hG
  have HGB := Lib.hid hg
  have HTB := Lib.hid hb
  have HOB := Lib.hid ho
  have HS := Lib.hid hS
  have HF := Lib.hid hf
  have HL := Lib.hid hl
  have c0 : w.cell? ⟨g, 0, none⟩ = some (.pointer (some ⟨b, 0, none⟩)) := HGB.out.cell 0
  clear hG hg hb ho hS hf hR hl
  unfold RowP
  go_enter Tryz.func73, Tryz.ntmps73
  go_wp2_with (go_at_call 93; (with_reducible refine (HCI.out _ _).mono ?_); rintro e w' ⟨rfl, rfl⟩)
  refine wp_loop_rounds 1 ?_
  rw [rounds_succ]
  go_wp2_with fail
  go_loopg [10, 60] l.length (fun gk v i wr => ∃ (k : Nat) (out : List UInt8), k + gk = l.length ∧ i = .int .i64 (k : Int) ∧ OwnB w.heap.size wr v out ∧ out.length ≤ 300 * k ∧ Hid (R = out ++ encL (l.drop k)) ∧ Below w.heap.size w wr)
  case atStart => exact ⟨0, [], by omega, rfl, OwnB.nil _ _, by simp, HE.out, Below.refl _ _⟩
  case round =>
    obtain ⟨k, out, hkg, rfl, hown, hlen, HX, hbel⟩ := hrel
    have HKG := Lib.hid hkg
    have HOW := Lib.hid hown
    have HLEN := Lib.hid hlen
    have HB := Lib.hid hbel
    have hzr := hbel.size
    clear hown hlen hbel HE
    by_cases hlt : k < l.length
    · have d1 : decide ((k : Int) < (l.length : Int)) = true := decide_eq_true (by omega)
      have w1 : IntKind.i64.wrap ((k : Int) + 1) = (k : Int) + 1 := IntWalk.i64_in _ (by have := HL.out; omega)
      obtain ⟨fb, off, rfl, hfb, q0, q1, q2, _, _⟩ := SlR.atF HS.out hlt
      have HFK := Lib.hid (HF.out _ (List.getElem_mem hlt))
      have HXX : Hid (R = out ++ (encF l[k] ++ encL (l.drop (k + 1)))) := by show _ = _; rw [HX.out, encL_drop hlt]
      generalize l[k] = f at q0 q1 q2 HFK HXX
      obtain ⟨fn, fv, fne⟩ := f
      obtain rfl : fne = false := HFK.out.never
      simp only at q0 q1 q2
      have r0 := (HB.out.cell (p := ⟨fb, off + k * 3, none⟩) hfb).trans q0
      have r1 := (HB.out.cell (p := ⟨fb, off + k * 3 + 1, none⟩) hfb).trans q1
      have r2 := (HB.out.cell (p := ⟨fb, off + k * 3 + 2, none⟩) hfb).trans q2
      have rg := (HB.out.cell (p := ⟨g, 0, none⟩) HGB.out.lt).trans c0
      have ro0 : wr.cell? ⟨ob, 0, none⟩ = some (.int .i64 2) := (HOB.out.below HB.out HOB.out.lt).cell 0
      have ro1 : wr.cell? ⟨ob, 1, none⟩ = some (.bool false) := (HOB.out.below HB.out HOB.out.lt).cell 1
      have ro2 : wr.cell? ⟨ob, 2, none⟩ = some (.bool false) := (HOB.out.below HB.out HOB.out.lt).cell 2
      have ro3 : wr.cell? ⟨ob, 3, none⟩ = some (.bool false) := (HOB.out.below HB.out HOB.out.lt).cell 3
      have hfbr : fb < wr.heap.size := by omega
      have hgr : g < wr.heap.size := by have := HGB.out.lt; omega
      have hobr : ob < wr.heap.size := by have := HOB.out.lt; omega
      clear q0 q1 q2 hkg HX HS
      go_wp2_with fail
      have hi61 := idxF_le _ HFK.out
      have HONE : Hid (∀ W, Blk W b TbPT #[.slice none 0 0, .int .i64 0, .int .i64 0] → Calls Tryz.prog 96 #[.pointer (some ⟨b, 0, none⟩), .agg #[bstr fn, bstr fv, .bool false], .agg op2] W fun e w' => e = .returned (.agg (reC ((idxF ⟨fn, fv, false⟩ : Nat) : Int) (if idxF ⟨fn, fv, false⟩ = 0 then fn else []) fv)) ∧ ∃ j, w' = W.more j) := fun W hW => by
        have := encoder_one0 b fn fv _ HFK.out.nm W hW
        rwa [show (if ((idxF ⟨fn, fv, false⟩ : Nat) : Int) = 0 then fn else []) = (if idxF ⟨fn, fv, false⟩ = 0 then fn else []) from by split <;> split <;> first | rfl | omega] at this
      have HPUT : Hid (∀ W, GF W → Calls Tryz.prog 52 #[.agg (reC ((idxF ⟨fn, fv, false⟩ : Nat) : Int) (if idxF ⟨fn, fv, false⟩ = 0 then fn else []) fv)] W (RowP (encF ⟨fn, fv, false⟩) W)) := fun W hW =>
        repr_Put3 _ _ _ (by omega) (by by_cases h : idxF ⟨fn, fv, false⟩ = 0; exact .inl h; exact .inr (if_neg h)) (by have := HFK.out.ln; simp only at this; split <;> simp <;> omega) (by have := HFK.out.lv; simp only at this; omega) W hW
      have HEL := Lib.hid (encF_len HFK.out)
      generalize (if idxF ⟨fn, fv, false⟩ = 0 then fn else []) = nn at HONE HPUT
      generalize encF ⟨fn, fv, false⟩ = E at HPUT HXX HEL
      generalize idxF ⟨fn, fv, false⟩ = ii at HONE HPUT
      clear hi61
      refine wnm fun w1 hw1 => ?_
      have HB1 : Hid (Below wr.heap.size wr w1) := by show Below _ _ _; rw [hw1]; exact bel
      have HX1 : Hid (Blk w1 wr.heap.size 65 #[bstr fn, bstr fv, .bool false]) := by show Blk _ _ _ _; rw [hw1]; exact blk
      have HY1 : Hid (Blk w1 (wr.heap.size + 1) OpnT op2) := by show Blk _ _ _ _; rw [hw1]; exact blk
      clear hw1
      refine gb_start w1.heap.size (by kernel_rfl) ?_
      obtain ⟨w2, hw2⟩ : ∃ w2, w2 = w1.drew := ⟨_, rfl⟩
      rw [← hw2]
      have HB2 : Hid (Below wr.heap.size wr w2) := by show Below _ _ _; rw [hw2]; exact Below.drew HB1.out
      have HX2 : Hid (Blk w2 wr.heap.size 65 #[bstr fn, bstr fv, .bool false]) := by show Blk _ _ _ _; rw [hw2]; exact HX1.out
      have HY2 : Hid (Blk w2 (wr.heap.size + 1) OpnT op2) := by show Blk _ _ _ _; rw [hw2]; exact HY1.out
      have hs2 : w2.heap.size = w1.heap.size := by rw [hw2]; rfl
      rw [← hs2]
      have y0 : w2.cell? ⟨g, 0, none⟩ = some (.pointer (some ⟨b, 0, none⟩)) := (HB2.out.cell (p := ⟨g, 0, none⟩) hgr).trans rg
      have zx : wr.heap.size < w2.heap.size := HX2.out.lt
      have zy : wr.heap.size + 1 < w2.heap.size := HY2.out.lt
      have zg : g < w2.heap.size := by omega
      have HT2 := Lib.hid ((HTB.out.below HB.out HTB.out.lt).below HB2.out (by have := HTB.out.lt; omega))
      have HG2 := Lib.hid ((HG.out.below HB.out).below HB2.out)
      clear hw2 hs2 HX1 HY1 HB1
      refine tk 0 ?_
      refine tk 1 ?_
      refine tk 2 ?_
      refine tk 3 ?_
      refine gb_load 4 rfl (by kernel_rfl) (by kernel_rfl) (by kernel_rfl) 65 _ _ (fun _ _ _ h => h) (by first | kernel_rfl | rfl) rfl _ rfl HX2.out zx _ Tryz.underlying65 rfl (by kernel_rfl) ?_
      try simp only [Act.put, nfa, nfb, nfc, nfd, List.set_cons_zero, List.set_cons_succ]
      refine gb_load 5 rfl (by kernel_rfl) (by kernel_rfl) (by kernel_rfl) OpnT _ _ (fun _ _ _ h => h) (by first | kernel_rfl | rfl) rfl _ rfl HY2.out zy _ Tryz.underlying123 rfl (by kernel_rfl) ?_
      try simp only [Act.put, nfa, nfb, nfc, nfd, List.set_cons_zero, List.set_cons_succ]
      refine gb_step 6 (by kernel_rfl) rfl (fun K hK => ?_)
      go_simp
      go_wp2_with fail
      refine (HONE.out _ HT2.out).mono ?_
      rintro e w' ⟨rfl, j, rfl⟩
      go_wp2_with fail
      refine hK.out _ _ (show Below _ _ _ from bel) ?_
      clear hK K
      try simp only [Act.put, nfa, nfb, nfc, nfd, List.set_cons_zero, List.set_cons_succ]
      refine gb_step 7 (by kernel_rfl) rfl (fun K hK => ?_)
      go_simp
      go_wp2_with fail
      refine (HPUT.out _ (HG2.out.more j)).mono ?_
      rintro e w3 ⟨v3, rfl, ho3, hb3⟩
      obtain ⟨a3, c3, rfl, hs3⟩ := ho3.read
      have HS3 := Lib.hid hs3
      have HB3 : Hid (Below w2.heap.size w2 w3) := (show Below w2.heap.size w2 (w2.more j) from bel).trans (Below.mono hb3 (by simp))
      have HB3' := Lib.hid hb3
      have hz3 : w2.heap.size ≤ w3.heap.size := HB3.out.size
      clear hb3 ho3 hs3
      go_wp2_with fail
      refine hK.out _ _ (show Below _ _ _ from Below.mono HB3'.out (by simp)) ?_
      clear hK K HB3'
      try simp only [Act.put, nfa, nfb, nfc, nfd, List.set_cons_zero, List.set_cons_succ]
      refine tk 8 ?_
      refine tk 9 ?_
      refine tk 10 ?_
      refine tk 11 ?_
      refine tk 12 ?_
      refine wpAnyH_done (by kernel_rfl) ?_ _
      have HBW : Hid (Below wr.heap.size wr w3) := HB2.out.trans (Below.mono HB3.out (by omega))
      clear y0 r0 r1 r2 rg ro0 ro1 ro2 ro3
      go_wp2_with (at_builtin; refine app_bytes (.tmp 86) (.tmp 87) rfl rfl rfl (HOW.out.below HBW.out (Nat.le_refl _)) rfl rfl HS3.out (by have := HEL.out; have := HLEN.out; have := HL.out; omega) (by omega) ?_; intro v4 w4 hown4 hbw4 hgw4)
      go_roundg (l.length - (k + 1))
      case measure => have := HKG.out; omega
      case rel => exact ⟨k + 1, out ++ E, by have := HKG.out; omega, by have := HL.out; go_num, hown4, by have := HEL.out; have := HLEN.out; simp only [List.length_append]; omega, by show _ = _; rw [HXX.out, List.append_assoc], HB.out.trans ((Below.mono HBW.out hzr).trans hbw4)⟩
    · obtain rfl : k = l.length := by omega
      have d1 : decide ((l.length : Int) < (l.length : Int)) = false := decide_eq_false (by omega)
      have HY : Hid (R = out) := by show _ = _; rw [HX.out]; simp [encL]
      clear HX hkg
      go_wp2_with fail
      go_ret2
      exact ⟨_, rfl, by rw [HY.out]; exact HOW.out, HB.out⟩
end Go.Proofs.YtmlbomblbdbikaaGreatDoor
