/- Contracts of the helper that asks whether the unused fields of a value are empty, both sides. -/
import Derived.Test.YtchlolfdinakiaaRows
import Derived.WalkKit
import Derived.WalkLawsBesides
import Derived.WalkSpells
import Derived.Outline
namespace Go.Proofs.Ytchlolfdinakiaa
open Go.RowKit

def fz (f : Nat) : Bool := FloatKind.f64.format.order f 0 == some .eq
def vZero (a b c d : Bool) (n : Int) (f : Nat) (s : ByteArray) (r : Int) : Bool :=
  (a || n == 0) && (b || fz f) && (c || s.toList.isEmpty) && (d || r == 0)

theorem bare_any (a b c d : Bool) (k n r : Int) (f : Nat) (s : ByteArray) (w : World) :
    Calls Try.prog 46 #[.agg #[.int .i64 k, .int .i64 n, .float .f64 f, .string s, .int .i64 r], .bool a, .bool b, .bool c, .bool d] w fun e w' => e = .returned (.bool (vZero a b c d n f s r)) ∧ Below w.heap.size w w' := by
  have hb := fun o => (Below.refl w.heap.size w).alloc (Nat.le_refl _) o
  go_enter Try.func46, Try.ntmps46
  go_wp2
  all_goals go_ret
  all_goals exact ⟨by simp_all [vZero, fz], (Below.refl w.heap.size w).alloc (Nat.le_refl _) _⟩
theorem zero_any (a b c d : Bool) (k n r : Int) (f : Nat) (s : ByteArray) (w : World) :
    Calls Try.prog 45 #[.agg #[.int .i64 k, .int .i64 n, .float .f64 f, .string s, .int .i64 r], .bool a, .bool b, .bool c, .bool d] w fun e w' => e = .returned (.bool (vZero a b c d n f s r)) ∧ Below w.heap.size w w' := by
  go_enter Try.func45, Try.ntmps45
  go_wp2
  all_goals go_ret
  all_goals exact ⟨by simp_all [vZero, fz], (Below.refl w.heap.size w).alloc (Nat.le_refl _) _⟩
end Go.Proofs.Ytchlolfdinakiaa
