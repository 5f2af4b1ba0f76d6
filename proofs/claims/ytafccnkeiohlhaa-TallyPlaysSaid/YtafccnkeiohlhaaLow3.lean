/-
  Small letters: the contract of the document's Lower, and the law TokenLowers.
-/
import Derived.Test.YtafccnkeiohlhaaLow2
import Derived.Test.YtafccnkeiohlhaaTokLaw
import Derived.Lib.AtoiErrMem
import Derived.Lib.Buffer
namespace Go.Proofs.Ytafccnkeiohlhaa
open Go.ChangeShapes Go.WideShapes Go.ChangeAt Go.RowKit Go.Deep Go.Shelf

/-- The bytes l stand in block g. -/
def ByR (w : World) (g : Nat) (l : List UInt8) : Prop := ∀ (j : Nat) (h : j < l.length), w.cell? ⟨g, j, none⟩ = some (.int .u8 l[j].toNat) ∧ w.frozen? ⟨g, j, none⟩ = false
theorem ByR.set {w : World} {g : Nat} {l : List UInt8} (h : ByR w g l) {k : Nat} (hk : k < l.length) {c : UInt8} : ByR (w.setCell ⟨g, k, none⟩ (.int .u8 c.toNat)) g (l.set k c) := by
  intro j hj
  have hj' : j < l.length := by simpa using hj
  refine ⟨?_, by rw [World.frozen?_setCell]; exact (h j hj').2⟩
  by_cases e : k = j
  · subst e
    rw [World.cell?_setCell_same' _ _ _ (by rw [(h k hk).1]; rfl), List.getElem_set_self]
  · rw [World.cell?_setCell_other (h := fun h => e (by injection h)), (h j hj').1, List.getElem_set_ne e]
def lowAt (l : List UInt8) (k : Nat) : List UInt8 := (l.take k).map lowB ++ l.drop k
theorem lowAt_len (l : List UInt8) (k : Nat) : (lowAt l k).length = l.length := by simp [lowAt]; omega
theorem lowAt_get {l : List UInt8} {k : Nat} (h : k < l.length) (h' : k < (lowAt l k).length) : (lowAt l k)[k] = l[k] := by
  simp [lowAt, Nat.min_eq_left (Nat.le_of_lt h)]
theorem lowAt_set {l : List UInt8} {k : Nat} (h : k < l.length) : (lowAt l k).set k (lowB l[k]) = lowAt l (k + 1) := by
  unfold lowAt
  rw [low_step h, List.set_append, List.drop_eq_getElem_cons h]
  simp only [List.length_map, List.length_take, Nat.min_eq_left (Nat.le_of_lt h), Nat.lt_irrefl, if_false, Nat.sub_self, List.set_cons_zero, List.append_assoc, List.singleton_append]
theorem lowAt_keep {l : List UInt8} {k : Nat} (h : k < l.length) (hs : isLarge l[k].toNat = false) : lowAt l k = lowAt l (k + 1) := by
  rw [← lowAt_set h, lowB_small hs]
  have h' : k < (lowAt l k).length := by rw [lowAt_len]; exact h
  have e : l[k] = (lowAt l k)[k] := (lowAt_get h h').symm
  rw [e, List.set_getElem_self]
theorem lowAt_all (l : List UInt8) : lowAt l l.length = lowF l := by simp [lowAt, lowF]
theorem bytes_world (w : World) (l : List UInt8) : ∃ W cap, (convert 9 42 (bstr l)).run Try.prog w = .ok (.slice (some ⟨w.heap.size, 0, none⟩) l.length cap) W ∧ Below w.heap.size w W ∧ w.heap.size < W.heap.size ∧ ByR W w.heap.size l := by
  refine ⟨Lib.bytesWorld w BytT ⟨l.toArray⟩, grownCap w l.length 0 BytT, Lib.run_convert_string_bytes (P := Try.prog) w 9 42 5 ⟨l.toArray⟩ (u := .string) Try.underlying9 Try.underlying42 Try.underlying5, Lib.bytesWorld_below w BytT _, by rw [Lib.bytesWorld_size]; omega, ?_⟩
  intro j hj
  refine ⟨?_, ?_⟩
  · rw [Lib.bytesWorld_cell w BytT ⟨l.toArray⟩ j (by simpa [ByteArray.size] using hj)]
    simp [List.getD, hj]
  · simp only [World.frozen?, Lib.bytesWorld_at_new]
    have : j < (Lib.bytesCells w BytT ⟨l.toArray⟩).size := by simp [Lib.bytesCells]; omega
    simp
    omega

set_option maxHeartbeats 2000000 in
set_option maxRecDepth 100000 in
theorem ref25_Lower (l : List UInt8) (hm : l.length ≤ 1048576) (w : World) :
    Calls Try.prog 48 #[bstr l] w fun e w' => e = .returned (bstr (lowF l)) ∧ Below w.heap.size w w' := by
  obtain ⟨W1, cap, hcv, hb1, hz1, hR⟩ := bytes_world w l
  go_enter Try.func48, Try.ntmps48
  go_wp2_with fail
  go_loopg [4] l.length (fun g i wr => ∃ k : Nat, k + g = l.length ∧ i = .int .i64 k ∧ Below w.heap.size w wr ∧ w.heap.size < wr.heap.size ∧ ByR wr w.heap.size (lowAt l k))
  case atStart => exact ⟨0, by omega, rfl, hb1, hz1, hR⟩
  case round =>
    clear hcv hb1 hz1 hR
    obtain ⟨k, hkg, rfl, hb, hz, hR⟩ := hrel
    by_cases hlt : k < l.length
    · have hc := l[k].toNat_lt
      have hk' : k < (lowAt l k).length := by rw [lowAt_len]; exact hlt
      obtain ⟨c0, f0⟩ := hR k hk'
      rw [lowAt_get hlt hk'] at c0
      have HK := Lib.hid hkg
      have e0 : isLarge l[k].toNat = true → ((l[k].toNat : Int) + 32) = (lowB l[k]).toNat := fun h1 => (lowB_large h1).symm
      have e1 : isLarge l[k].toNat = false → lowAt l k = lowAt l (k + 1) := lowAt_keep hlt
      have E0 := Lib.hid e0
      have E1 := Lib.hid e1
      clear hkg e0 e1
      by_cases t1 : 65 ≤ (l[k].toNat : Int)
      · by_cases t2 : (l[k].toNat : Int) ≤ 90
        · go_wp2_with fail
          rw [E0.out (by simp [isLarge]; omega)]
          have hR2 := hR.set hk' (c := lowB l[k])
          rw [lowAt_set hlt] at hR2
          go_roundg (l.length - (k + 1))
          case measure => have := HK.out; omega
          case rel => exact ⟨k + 1, by omega, by go_num, hb.setCell (p := ⟨w.heap.size, k, none⟩) (Nat.le_refl _) _, by simpa using hz, hR2⟩
        · go_wp2_with fail
          go_roundg (l.length - (k + 1))
          case measure => have := HK.out; omega
          case rel => exact ⟨k + 1, by omega, by go_num, hb, hz, E1.out (by simp [isLarge]; omega) ▸ hR⟩
      · go_wp2_with fail
        go_roundg (l.length - (k + 1))
        case measure => have := HK.out; omega
        case rel => exact ⟨k + 1, by omega, by go_num, hb, hz, E1.out (by simp [isLarge]; omega) ▸ hR⟩
    · have hk : k = l.length := by omega
      subst hk
      rw [lowAt_all] at hR
      have hcv := run_convert_bytes_back (P := Try.prog) wr 42 9 5 ⟨w.heap.size, 0, none⟩ cap (lowF l) Try.underlying42 Try.underlying5 Try.underlying9 (fun j hj => by rw [Lib.addr_add, Nat.zero_add]; exact (hR j hj).1)
      rw [lowF_len] at hcv
      go_wp2_with fail
      go_ret
      exact ⟨rfl, hb⟩

set_option maxHeartbeats 2000000 in
set_option maxRecDepth 100000 in
theorem tokenLowers_law (l : List UInt8) (w : World) (hm : l.length ≤ maxLen) :
    Calls Try.prog 11 #[bstr l] w fun e w' => e = .returned (.bool true) ∧ Below w.heap.size w w' := by
  by_cases hl : 500 < l.length
  · go_enter Try.func11, Try.ntmps11
    go_wp2_with (first
      | (go_at_call 23; refine (law25_alive _).mono ?_; rintro e w' ⟨rfl, rfl⟩))
    go_ret
    exact ⟨rfl, Below.refl _ _⟩
  · have hm' : l.length ≤ 1048576 := by omega
    have hmF : (lowF l).length ≤ 1048576 := by rw [lowF_len]; exact hm'
    have T1 : ∀ W, Below w.heap.size w W → Calls Try.prog 47 #[bstr l] W fun e w' => e = .returned (bstr (lowF l)) ∧ Below w.heap.size w w' := fun W h => (token_Lower l hm' W).mono fun e w' ⟨he, hb⟩ => ⟨he, h.trans (hb.mono h.size)⟩
    have T2 : ∀ W, Below w.heap.size w W → Calls Try.prog 47 #[bstr (lowF l)] W fun e w' => e = .returned (bstr (lowF l)) ∧ Below w.heap.size w w' := fun W h => (token_Lower (lowF l) hmF W).mono fun e w' ⟨he, hb⟩ => ⟨by rw [he, lowF_idem], h.trans (hb.mono h.size)⟩
    have T3 : ∀ W, Below w.heap.size w W → Calls Try.prog 48 #[bstr l] W fun e w' => e = .returned (bstr (lowF l)) ∧ Below w.heap.size w w' := fun W h => (ref25_Lower l hm' W).mono fun e w' ⟨he, hb⟩ => ⟨he, h.trans (hb.mono h.size)⟩
    have q1 : (lowF l == lowF l) = true := by simp
    have q2 : nameF l = true → (lowF l == l) = true := fun h => by rw [lowF_name l h]; simp
    generalize lowF l = L at T1 T2 T3 q1 q2 hmF
    have H1 := Lib.hid T1
    have H2 := Lib.hid T2
    have H3 := Lib.hid T3
    have hX : Below w.heap.size w w := Below.refl _ _
    clear T1 T2 T3
    cases e1 : nameF l <;> cases e2 : barF l
    all_goals first
      | have q3 := q2 e1
      | skip
    all_goals
      clear q2
      go_enter Try.func11, Try.ntmps11
      go_wp2_with (first
        | (go_at_call 47; first | (refine (H1.out _ (by assumption)).mono ?_; clear H1; rintro e w' ⟨rfl, hbw⟩) | (refine (H2.out _ (by assumption)).mono ?_; rintro e w' ⟨rfl, hbw⟩))
        | (go_at_call 48; refine (H3.out _ (by assumption)).mono ?_; rintro e w' ⟨rfl, hbw⟩)
        | (go_at_call 24; refine (token_Name l hm _).mono ?_; rintro e w' ⟨rfl, rfl⟩)
        | (go_at_call 49; refine (token_Barred l _).mono ?_; rintro e w' ⟨rfl, rfl⟩)
        | (go_at_call 50; refine (ref25_Barred l _).mono ?_; rintro e w' ⟨rfl, rfl⟩)
        | (go_at_call 23; refine (law25_alive _).mono ?_; rintro e w' ⟨rfl, rfl⟩))
    all_goals go_ret
    all_goals exact ⟨rfl, (by assumption : Below w.heap.size w _)⟩
