/- Contracts: the small makers of values and answers; equality of a value, an answer with itself. -/
import Derived.Test.YtchlolfdinakiaaDoorB0
import Derived.Test.YtchlolfdinakiaaDoorFl2
import Derived.Lib.Hide
namespace Go.Proofs.YtchlolfdinakiaaDoor
open Go.RowKit
attribute [local go_sem] run_store_float

theorem below_new2 (w : World) (a b : Obj) : Below w.heap.size w ((w.alloc a).alloc b) := ((Below.refl _ _).alloc (Nat.le_refl _) _).alloc (by simp) _
theorem below_new3 (w : World) (a b c : Obj) : Below w.heap.size w (((w.alloc a).alloc b).alloc c) := (((Below.refl _ _).alloc (Nat.le_refl _) _).alloc (by simp) _).alloc (by simp; omega) _

def b01 (b : Bool) : Int := if b then 1 else 0
end Go.Proofs.YtchlolfdinakiaaDoor
