/-
  Reports as arguments: their parts.
-/
import Derived.Test.YtfgldglelijekaaGreatDoorSum4
namespace Go.Proofs.YtfgldglelijekaaGreatDoor
set_option linter.unusedSimpArgs false
set_option linter.unusedVariables false
set_option linter.unusedSectionVars false
open Go.ChangeShapes Go.WideShapes Go.ChangeAt Go.RowKit Go.Deep Go.Shelf

/-- A report's parts. -/
structure Rp where
  c0 : Int
  c1 : Int
  c2 : Int
  c3 : Int
  c4 : Int
  c5 : Int
  a : Option Addr
  l : List Rec
  c : Nat
  v : Int
  t : Int
  fa : Option Addr
  fn : Nat
  fc : Nat
  ua : Option Addr
  u : List Int
  uc : Nat
  f0 : Int
  f1 : Int
def Rp.val (r : Rp) : Value := .agg #[.int .i64 r.c0, .int .i64 r.c1, .int .i64 r.c2, .int .i64 r.c3, .int .i64 r.c4, .int .i64 r.c5, .slice r.a r.l.length r.c, .int .i64 r.v, .int .i64 r.t, .slice r.fa r.fn r.fc, .slice r.ua r.u.length r.uc, .int .i64 r.f0, .int .i64 r.f1]
structure Rp.Ok (W : World) (r : Rp) : Prop where
  recs : SlRc W W.heap.size r.a r.l
  rules : SlI W W.heap.size r.ua r.u
  len : r.l.length ≤ maxLen
end Go.Proofs.YtfgldglelijekaaGreatDoor
