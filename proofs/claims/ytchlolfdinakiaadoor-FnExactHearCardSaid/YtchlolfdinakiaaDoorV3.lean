/- Unary: both sides come to the same plain function. -/
import Derived.Test.YtchlolfdinakiaaDoorV2
namespace Go.Proofs.YtchlolfdinakiaaDoor
open Go.RowKit
theorem bl_set {B : Nat} {a w : World} {p : Addr} (hp : B ≤ p.block) (u : Value) (h : Below B a w) : Below B a (w.setCell p u) := h.setCell hp u
theorem bl_alloc {B : Nat} {a w : World} (hB : B ≤ w.heap.size) (o : Obj) (h : Below B a w) : Below B a (w.alloc o) := h.alloc hB o
def fneg (b : Nat) : Nat := Op.negFloat .f64 b
theorem unary_neg_float (b : Nat) : Op.unary .neg (.float .f64 b) = pure (.float .f64 (fneg b)) := rfl
attribute [local go_sem] run_store_float unary_neg_float

/-- An answer: a code and a value. -/
structure Vd where
  c : Int
  k : Int
  n : Int
  f : Nat
  s : ByteArray
  r : Int
def errVd (code : Int) : Vd := ⟨code, 0, 0, 0, ⟨#[]⟩, 0⟩
def intVd (n : Int) : Vd := ⟨0, 2, n, 0, ⟨#[]⟩, 0⟩

def un (op k n : Int) (f : Nat) (s : ByteArray) (r : Int) : Vd :=
  if vOk k n f s r = false then errVd 1
  else if op = 21 then ⟨0, 1, b01 (!vTruth k n f s r), 0, ⟨#[]⟩, 0⟩
  else if op = 19 ∧ k = 2 then intVd (wrap64 (-n))
  else if op = 19 ∧ k = 3 then ⟨0, 3, 0, fneg f, ⟨#[]⟩, 0⟩
  else if op = 20 ∧ k = 2 then intVd (bits BinOp.xor IntKind.i64 (-1) n)
  else if op = 22 ∧ k = 4 then intVd s.size
  else errVd 1


end Go.Proofs.YtchlolfdinakiaaDoor
