/-
  What begins a request and a response, as the document says it.
-/
import Derived.Test.YtafccnkeiohlhaaPse2
import Derived.Test.YtafccnkeiohlhaaBlk
namespace Go.Proofs.Ytafccnkeiohlhaa
open Go.ChangeShapes Go.WideShapes Go.ChangeAt Go.RowKit Go.Deep

structure Hd where
  method : List UInt8
  scheme : List UInt8
  authority : List UInt8
  path : List UInt8
  status : Int
abbrev hdVal (h : Hd) : Value := .agg #[bstr h.method, bstr h.scheme, bstr h.authority, bstr h.path, .int .i64 h.status]
abbrev noHd : Hd := ⟨[], [], [], [], 0⟩
abbrev nMethod : List UInt8 := [58, 109, 101, 116, 104, 111, 100]
abbrev nScheme : List UInt8 := [58, 115, 99, 104, 101, 109, 101]
abbrev nAuthority : List UInt8 := [58, 97, 117, 116, 104, 111, 114, 105, 116, 121]
abbrev nPath : List UInt8 := [58, 112, 97, 116, 104]
abbrev nStatus : List UInt8 := [58, 115, 116, 97, 116, 117, 115]
abbrev vConnect : List UInt8 := [67, 79, 78, 78, 69, 67, 84]
def reqNames : List (List UInt8) := [nMethod, nScheme, nAuthority, nPath]
def stNames : List (List UInt8) := [nStatus]
def reqHd (l : List Fd) : Hd := ⟨valueR l nMethod, valueR l nScheme, valueR l nAuthority, valueR l nPath, 0⟩
/-- Are the values those of a request? -/
def reqOk (h : Hd) (others : Int) : Bool := if (h.method == vConnect) = true then !(decide (0 < others) || h.authority.isEmpty) else !(h.method.isEmpty || h.scheme.isEmpty || h.path.isEmpty)
def refReq (l : List Fd) : Hd × Bool :=
  if orderedF l reqNames = true then (if reqOk (reqHd l) (manyF l nScheme + manyF l nPath) = true then (reqHd l, true) else (noHd, false)) else (noHd, false)
theorem refReq_no {l : List Fd} (h : orderedF l reqNames = false) : refReq l = (noHd, false) := by simp [refReq, h]
theorem refReq_bad {l : List Fd} (h : reqOk (reqHd l) (manyF l nScheme + manyF l nPath) = false) : refReq l = (noHd, false) := by simp [refReq, h]
theorem refReq_ok {l : List Fd} (h : orderedF l reqNames = true) (h2 : reqOk (reqHd l) (manyF l nScheme + manyF l nPath) = true) : refReq l = (reqHd l, true) := by simp [refReq, h, h2]
theorem ne_empty {l : List UInt8} (h : ¬ l = []) : l.isEmpty = false := by cases l <;> simp_all
theorem st_RefHead : StructTy Try.prog 61 5 := ⟨_, Try.underlying61, rfl, by kernel_rfl⟩
theorem slS_new {w : World} {g : Nat} {t : TypeId} {cs : Array Value} {l : List (List UInt8)} (h : Blk w g t cs) (hl : cs.toList = l.flatMap fun s => [bstr s]) (hR : (l.all fun s => decide (s.length ≤ maxLen)) = true) : SlS w (g + 1) (some ⟨g, 0, none⟩) l :=
  SlR.of_blk h hl (fun _ _ => rfl) (fun x hx => ⟨rfl, by simpa using List.all_eq_true.1 hR x hx⟩)
theorem valueR_le {w : World} {B : Nat} {a : Option Addr} {l : List Fd} (h : SlF w B a l) (n : List UInt8) : (valueR l n).length ≤ maxLen := by
  have hb : ∀ f ∈ l, f.value.length ≤ maxLen := by
    intro f hf
    obtain ⟨k, hk, rfl⟩ := List.getElem_of_mem hf
    obtain ⟨_, _, _, _, _, hi, _⟩ := h k hk
    exact hi.2.2
  clear h
  induction l with
  | nil => simp [valueR, maxLen]
  | cons f r ih =>
    unfold valueR
    split
    · exact hb f (by simp)
    · exact ih (fun f hf => hb f (by simp [hf]))

set_option maxRecDepth 100000 in
set_option maxHeartbeats 2000000 in
theorem ref27_Request (a : Option Addr) (cap B : Nat) (l : List Fd) (w : World) (hm0 : l.length ≤ 1048576) (hB : B ≤ w.heap.size) (hs : SlF w B a l) :
    Calls Try.prog 43 #[.slice a l.length cap] w fun e w' => e = .returned (.tuple #[hdVal (refReq l).1, .bool (refReq l).2]) ∧ Below w.heap.size w w' := by
  have hm : l.length ≤ maxLen := by unfold maxLen; omega
  have k1 := manyF_le l [58, 115, 99, 104, 101, 109, 101]
  have k2 := manyF_le l [58, 112, 97, 116, 104]
  go_enter Try.func43, Try.ntmps43
  go_wp2_with fail
  have hbW : Below w.heap.size w ((w.alloc (.cells #[bstr [], bstr [], bstr [], bstr [], .int .i64 0] 61)).alloc (.cells #[bstr nMethod, bstr nScheme, bstr nAuthority, bstr nPath] 9)) := ((Below.refl _ _).alloc (Nat.le_refl _) _).alloc (by simp) _
  have hsn : SlS ((w.alloc (.cells #[bstr [], bstr [], bstr [], bstr [], .int .i64 0] 61)).alloc (.cells #[bstr nMethod, bstr nScheme, bstr nAuthority, bstr nPath] 9)) (w.heap.size + 2) (some ⟨w.heap.size + 1, 0, none⟩) reqNames := slS_new (Blk.at_ _ _ _ (by simp)) rfl (by decide)
  refine (ref27_ordered a (some ⟨w.heap.size + 1, 0, none⟩) cap 4 B _ l reqNames _ hm (by simp; omega) (hs.below hbW hB) (by decide) (by simp) hsn).mono ?_
  rintro e w1 ⟨rfl, hb1⟩
  have hb2 := hbW.trans (hb1.mono hbW.size)
  have B0 := ((Blk.new w 61 #[bstr [], bstr [], bstr [], bstr [], .int .i64 0]).alloc (.cells #[bstr nMethod, bstr nScheme, bstr nAuthority, bstr nPath] 9)).below hb1 (by simp; omega)
  have hs1 := hs.below hb2 hB
  obtain ⟨⟨q0, q1, q2, q3, q4⟩, ⟨f0, f1, f2, f3, f4⟩, hz⟩ := B0.all5
  clear hbW hb1 hs
  cases ho : orderedF l reqNames with
  | false =>
    have HR := Lib.hid (refReq_no ho)
    go_wp2_with fail
    refine bodyPost_ret (res_cell_tmp rfl st_RefHead rfl B0.put5 rfl rfl) rfl ⟨by rw [HR.out]; rfl, below_put5 hb2 (Nat.le_refl _)⟩
  | true =>
    have HO := Lib.hid ho
    clear ho
    cases hc : (valueR l nMethod == vConnect) with
    | true =>
      by_cases hq : 0 < manyF l [58, 115, 99, 104, 101, 109, 101] + manyF l [58, 112, 97, 116, 104]
      · have HR := Lib.hid (refReq_bad (l := l) (by simp only [reqOk, reqHd, hc, if_true, decide_eq_true hq]; rfl))
        go_wp2_with (first
          | (go_at_call 77; refine (ref27_value _ _ _ _ _ _ hm hs1).mono ?_; rintro e w' ⟨rfl, rfl⟩)
          | (go_at_call 78; refine (ref27_many _ _ _ _ _ _ hm (hs1.below ((Below.refl w1.heap.size w1).alloc (Nat.le_refl _) _) (by have := hb2.size; omega))).mono ?_; rintro e w' ⟨rfl, rfl⟩))
        refine bodyPost_ret (res_cell_tmp rfl st_RefHead rfl (B0.put5.alloc _) rfl rfl) rfl ⟨by rw [HR.out]; rfl, (below_put5 hb2 (Nat.le_refl _)).alloc (by have := hb2.size; simp; omega) _⟩
      · cases ha : (valueR l [58, 97, 117, 116, 104, 111, 114, 105, 116, 121]).isEmpty
        case true =>
          have HR := Lib.hid (refReq_bad (l := l) (by simp only [reqOk, reqHd, hc, if_true, decide_eq_false hq, ha]; rfl))
          go_wp2_with (first
            | (go_at_call 77; refine (ref27_value _ _ _ _ _ _ hm hs1).mono ?_; rintro e w' ⟨rfl, rfl⟩)
            | (go_at_call 78; refine (ref27_many _ _ _ _ _ _ hm (hs1.below ((Below.refl w1.heap.size w1).alloc (Nat.le_refl _) _) (by have := hb2.size; omega))).mono ?_; rintro e w' ⟨rfl, rfl⟩))
          refine bodyPost_ret (res_cell_tmp rfl st_RefHead rfl (B0.put5.alloc _) rfl rfl) rfl ⟨by rw [HR.out]; rfl, (below_put5 hb2 (Nat.le_refl _)).alloc (by have := hb2.size; simp; omega) _⟩
        case false =>
          have HR := Lib.hid (refReq_ok HO.out (by simp only [reqOk, reqHd, hc, if_true, decide_eq_false hq, ha]; rfl))
          go_wp2_with (first
            | (go_at_call 77; refine (ref27_value _ _ _ _ _ _ hm hs1).mono ?_; rintro e w' ⟨rfl, rfl⟩)
            | (go_at_call 78; refine (ref27_many _ _ _ _ _ _ hm (hs1.below ((Below.refl w1.heap.size w1).alloc (Nat.le_refl _) _) (by have := hb2.size; omega))).mono ?_; rintro e w' ⟨rfl, rfl⟩))
          refine bodyPost_ret (res_cell_tmp rfl st_RefHead rfl (B0.put5.alloc _) rfl rfl) rfl ⟨by rw [HR.out]; rfl, (below_put5 hb2 (Nat.le_refl _)).alloc (by have := hb2.size; simp; omega) _⟩
    | false =>
      cases h1 : (valueR l [58, 109, 101, 116, 104, 111, 100]).isEmpty
      case true =>
        have HR := Lib.hid (refReq_bad (l := l) (by simp only [reqOk, reqHd, hc, h1]; rfl))
        go_wp2_with (go_at_call 77; refine (ref27_value _ _ _ _ _ _ hm hs1).mono ?_; rintro e w' ⟨rfl, rfl⟩)
        refine bodyPost_ret (res_cell_tmp rfl st_RefHead rfl (B0.put5.alloc _) rfl rfl) rfl ⟨by rw [HR.out]; rfl, (below_put5 hb2 (Nat.le_refl _)).alloc (by have := hb2.size; simp; omega) _⟩
      cases h2 : (valueR l [58, 115, 99, 104, 101, 109, 101]).isEmpty
      case true =>
        have HR := Lib.hid (refReq_bad (l := l) (by simp only [reqOk, reqHd, hc, h1, h2]; rfl))
        go_wp2_with (go_at_call 77; refine (ref27_value _ _ _ _ _ _ hm hs1).mono ?_; rintro e w' ⟨rfl, rfl⟩)
        refine bodyPost_ret (res_cell_tmp rfl st_RefHead rfl (B0.put5.alloc _) rfl rfl) rfl ⟨by rw [HR.out]; rfl, (below_put5 hb2 (Nat.le_refl _)).alloc (by have := hb2.size; simp; omega) _⟩
      cases h3 : (valueR l [58, 112, 97, 116, 104]).isEmpty
      case true =>
        have HR := Lib.hid (refReq_bad (l := l) (by simp only [reqOk, reqHd, hc, h1, h2, h3]; rfl))
        go_wp2_with (go_at_call 77; refine (ref27_value _ _ _ _ _ _ hm hs1).mono ?_; rintro e w' ⟨rfl, rfl⟩)
        refine bodyPost_ret (res_cell_tmp rfl st_RefHead rfl (B0.put5.alloc _) rfl rfl) rfl ⟨by rw [HR.out]; rfl, (below_put5 hb2 (Nat.le_refl _)).alloc (by have := hb2.size; simp; omega) _⟩
      case false =>
        have HR := Lib.hid (refReq_ok HO.out (by simp only [reqOk, reqHd, hc, h1, h2, h3]; rfl))
        go_wp2_with (go_at_call 77; refine (ref27_value _ _ _ _ _ _ hm hs1).mono ?_; rintro e w' ⟨rfl, rfl⟩)
        refine bodyPost_ret (res_cell_tmp rfl st_RefHead rfl (B0.put5.alloc _) rfl rfl) rfl ⟨by rw [HR.out]; rfl, (below_put5 hb2 (Nat.le_refl _)).alloc (by have := hb2.size; simp; omega) _⟩
end Go.Proofs.Ytafccnkeiohlhaa
