/- Contracts: the small makers of values and answers; equality of a value, an answer with itself. -/
import Derived.Test.YtchlolfdinakiaaB0
import Derived.Test.YtchlolfdinakiaaFl2
import Derived.Lib.Hide
namespace Go.Proofs.Ytchlolfdinakiaa
open Go.RowKit
attribute [local go_sem] run_store_float

theorem below_new2 (w : World) (a b : Obj) : Below w.heap.size w ((w.alloc a).alloc b) := ((Below.refl _ _).alloc (Nat.le_refl _) _).alloc (by simp) _
theorem below_new3 (w : World) (a b c : Obj) : Below w.heap.size w (((w.alloc a).alloc b).alloc c) := (((Below.refl _ _).alloc (Nat.le_refl _) _).alloc (by simp) _).alloc (by simp; omega) _

theorem fail_any (code : Int) (w : World) : Calls Try.prog 50 #[.int .i64 code] w fun e w' => e = .returned (.agg #[.int .i64 code, .int .i64 0, .int .i64 0, .float .f64 0, .string ⟨#[]⟩, .int .i64 0]) ∧ Below w.heap.size w w' := by
  go_enter Try.func50, Try.ntmps50
  go_wp2
  refine bodyPost_ret (by simp [results, Try.results50, go_sem]; rfl) rfl ?_
  exact ⟨rfl, below_new _ _⟩
theorem no_any (code : Int) (w : World) : Calls Try.prog 55 #[.int .i64 code] w fun e w' => e = .returned (.agg #[.int .i64 code, .int .i64 0, .int .i64 0, .float .f64 0, .string ⟨#[]⟩, .int .i64 0]) ∧ Below w.heap.size w w' := by
  go_enter Try.func55, Try.ntmps55
  go_wp2
  refine bodyPost_ret (by simp [results, Try.results55, go_sem]; rfl) rfl ?_
  exact ⟨rfl, below_new _ _⟩
theorem got_any (k n r : Int) (f : Nat) (s : ByteArray) (w : World) : Calls Try.prog 51 #[.agg #[.int .i64 k, .int .i64 n, .float .f64 f, .string s, .int .i64 r]] w fun e w' => e = .returned (.agg #[.int .i64 0, .int .i64 k, .int .i64 n, .float .f64 f, .string s, .int .i64 r]) ∧ Below w.heap.size w w' := by
  go_enter Try.func51, Try.ntmps51
  go_wp2
  refine bodyPost_ret (by simp [results, Try.results51, go_sem]; rfl) rfl ?_
  exact ⟨rfl, below_new2 _ _ _⟩
theorem yes_any (k n r : Int) (f : Nat) (s : ByteArray) (w : World) : Calls Try.prog 56 #[.agg #[.int .i64 k, .int .i64 n, .float .f64 f, .string s, .int .i64 r]] w fun e w' => e = .returned (.agg #[.int .i64 0, .int .i64 k, .int .i64 n, .float .f64 f, .string s, .int .i64 r]) ∧ Below w.heap.size w w' := by
  go_enter Try.func56, Try.ntmps56
  go_wp2
  refine bodyPost_ret (by simp [results, Try.results56, go_sem]; rfl) rfl ?_
  exact ⟨rfl, below_new2 _ _ _⟩

def b01 (b : Bool) : Int := if b then 1 else 0
theorem boo_any (b : Bool) (w : World) : Calls Try.prog 52 #[.bool b] w fun e w' => e = .returned (.agg #[.int .i64 1, .int .i64 (b01 b), .float .f64 0, .string ⟨#[]⟩, .int .i64 0]) ∧ Below w.heap.size w w' := by
  cases b
  all_goals
    go_enter Try.func52, Try.ntmps52
    go_wp2
    refine bodyPost_ret (by simp [results, Try.results52, go_sem]; rfl) rfl ?_
    exact ⟨rfl, below_new _ _⟩
theorem boolean_any (b : Bool) (w : World) : Calls Try.prog 59 #[.bool b] w fun e w' => e = .returned (.agg #[.int .i64 1, .int .i64 (b01 b), .float .f64 0, .string ⟨#[]⟩, .int .i64 0]) ∧ Below w.heap.size w w' := by
  cases b
  all_goals
    go_enter Try.func59, Try.ntmps59
    go_wp2
    refine bodyPost_ret (by simp [results, Try.results59, go_sem]; rfl) rfl ?_
    exact ⟨rfl, by first | exact below_new2 _ _ _ | exact below_new _ _⟩
theorem l1int_any (n : Int) (w : World) : Calls Try.prog 53 #[.int .i64 n] w fun e w' => e = .returned (.agg #[.int .i64 2, .int .i64 n, .float .f64 0, .string ⟨#[]⟩, .int .i64 0]) ∧ Below w.heap.size w w' := by
  go_enter Try.func53, Try.ntmps53
  go_wp2
  refine bodyPost_ret (by simp [results, Try.results53, go_sem]; rfl) rfl ?_
  exact ⟨rfl, below_new _ _⟩
theorem integer_any (n : Int) (w : World) : Calls Try.prog 57 #[.int .i64 n] w fun e w' => e = .returned (.agg #[.int .i64 2, .int .i64 n, .float .f64 0, .string ⟨#[]⟩, .int .i64 0]) ∧ Below w.heap.size w w' := by
  go_enter Try.func57, Try.ntmps57
  go_wp2
  refine bodyPost_ret (by simp [results, Try.results57, go_sem]; rfl) rfl ?_
  exact ⟨rfl, below_new _ _⟩
theorem l1flt_any (f : Nat) (w : World) : Calls Try.prog 54 #[.float .f64 f] w fun e w' => e = .returned (.agg #[.int .i64 3, .int .i64 0, .float .f64 f, .string ⟨#[]⟩, .int .i64 0]) ∧ Below w.heap.size w w' := by
  go_enter Try.func54, Try.ntmps54
  go_wp2
  refine bodyPost_ret (by simp [results, Try.results54, go_sem]; rfl) rfl ?_
  exact ⟨rfl, below_new _ _⟩
theorem float_any (f : Nat) (w : World) : Calls Try.prog 58 #[.float .f64 f] w fun e w' => e = .returned (.agg #[.int .i64 3, .int .i64 0, .float .f64 f, .string ⟨#[]⟩, .int .i64 0]) ∧ Below w.heap.size w w' := by
  go_enter Try.func58, Try.ntmps58
  go_wp2
  refine bodyPost_ret (by simp [results, Try.results58, go_sem]; rfl) rfl ?_
  exact ⟨rfl, below_new _ _⟩

theorem samef_any (f : Nat) (w : World) : Calls Try.prog 82 #[.float .f64 f, .float .f64 f] w fun e w' => e = .returned (.bool true) ∧ w = w' := by
  rcases Flt.order_self f with ⟨_, h⟩ | h
  · have h1 : (FloatKind.f64.format.order f f != some Ordering.eq) = true := by
      show (Flt.F.order f f != _) = true
      rw [h]; rfl
    clear h
    go_enter Try.func82, Try.ntmps82
    go_wp2
    go_ret
    exact ⟨rfl, rfl⟩
  · have h1 : (FloatKind.f64.format.order f f != some Ordering.eq) = false := by
      show (Flt.F.order f f != _) = false
      rw [h]; rfl
    have h2 : (FloatKind.f64.format.order f f == some Ordering.eq) = true := by
      show (Flt.F.order f f == _) = true
      rw [h]; rfl
    by_cases hz : FloatKind.f64.format.order f 0 = some .eq
    · have h3 : (FloatKind.f64.format.order f 0 == some Ordering.eq) = true := by rw [hz]; rfl
      obtain ⟨r, hr⟩ := Flt.inv_zero hz
      have h4 := fun (W : World) => run_float_arith (P := Try.prog) W .quo 23 .f64 4607182418800017408 f r hr
      clear hz hr h
      go_enter Try.func82, Try.ntmps82
      go_wp2
      go_ret
      exact ⟨by simp, rfl⟩
    · have h3 : (FloatKind.f64.format.order f 0 == some Ordering.eq) = false := by simpa using hz
      clear hz h
      go_enter Try.func82, Try.ntmps82
      go_wp2
      go_ret
      exact ⟨rfl, rfl⟩

theorem eqv_any (k n r : Int) (f : Nat) (s : ByteArray) (w : World) :
    Calls Try.prog 60 #[.agg #[.int .i64 k, .int .i64 n, .float .f64 f, .string s, .int .i64 r], .agg #[.int .i64 k, .int .i64 n, .float .f64 f, .string s, .int .i64 r]] w fun e w' => e = .returned (.bool true) ∧ Below w.heap.size w w' := by
  go_enter Try.func60, Try.ntmps60
  go_wp2_with (go_at_call 82; refine (samef_any _ _).mono ?_; rintro e w1 ⟨rfl, rfl⟩)
  go_ret
  exact ⟨rfl, below_new2 _ _ _⟩
theorem eqvd_any (code k n r : Int) (f : Nat) (s : ByteArray) (w : World) :
    Calls Try.prog 25 #[.agg #[.int .i64 code, .int .i64 k, .int .i64 n, .float .f64 f, .string s, .int .i64 r], .agg #[.int .i64 code, .int .i64 k, .int .i64 n, .float .f64 f, .string s, .int .i64 r]] w fun e w' => e = .returned (.bool true) ∧ Below w.heap.size w w' := by
  go_enter Try.func25, Try.ntmps25
  go_wp2_with (go_at_call 60; refine (eqv_any _ _ _ _ _ _).mono ?_; rintro e w1 ⟨rfl, hb1⟩)
  go_ret
  exact ⟨rfl, (below_new2 _ _ _).trans (hb1.mono (by simp; omega))⟩
end Go.Proofs.Ytchlolfdinakiaa
