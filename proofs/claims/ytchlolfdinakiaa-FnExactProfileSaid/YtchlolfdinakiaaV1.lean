/- Contracts: ValueOk and Truth of both sides come to the same plain function; copying a value copies it; the size guard. -/
import Derived.Test.YtchlolfdinakiaaV0
namespace Go.Proofs.Ytchlolfdinakiaa
open Go.RowKit

theorem run_store_float (P : Program) (w : World) (a : Addr) (m : Mode) (k : FloatKind) (b : Nat) : (store a (.float k b) m).run P w = stored P w a (.float k b) m := run_store P w a _ m rfl
attribute [local go_sem] run_store_float

def vOk (k n : Int) (f : Nat) (s : ByteArray) (r : Int) : Bool :=
  if k = 0 then vZero false false false false n f s r
  else if k = 1 then vZero true false false false n f s r && (n == 0 || n == 1)
  else if k = 2 then vZero true false false false n f s r
  else if k = 3 then vZero false true false false n f s r
  else if k = 4 then vZero false false true false n f s r && decide ((s.size : Int) ≤ 4000)
  else if k = 5 ∨ k = 6 ∨ k = 7 then vZero false false false true n f s r && decide (0 ≤ r)
  else if k = 8 then vZero true false false false n f s r && (decide (0 ≤ n) && decide (n < 15))
  else false

theorem bcell {W w1 : World} (hb : Below W.heap.size W w1) : (∀ b o, b < W.heap.size → w1.cell? ⟨b, o, none⟩ = W.cell? ⟨b, o, none⟩) ∧ (∀ b o, b < W.heap.size → w1.frozen? ⟨b, o, none⟩ = W.frozen? ⟨b, o, none⟩) :=
  ⟨fun b o h => hb.cell (p := ⟨b, o, none⟩) h, fun b o h => hb.frozen (p := ⟨b, o, none⟩) h⟩

/-- A new block, then a callee that keeps all that was there. -/
theorem below_then {w w1 : World} {o : Obj} (h : Below (w.alloc o).heap.size (w.alloc o) w1) : Below w.heap.size w w1 :=
  ((Below.refl _ _).alloc (Nat.le_refl _) _).trans (h.mono (by simp))
theorem below_new (w : World) (o : Obj) : Below w.heap.size w (w.alloc o) := (Below.refl _ _).alloc (Nat.le_refl _) _

theorem ivok_any (k n r : Int) (f : Nat) (s : ByteArray) (w : World) :
    Calls Try.prog 15 #[.agg #[.int .i64 k, .int .i64 n, .float .f64 f, .string s, .int .i64 r]] w fun e w' => e = .returned (.bool (vOk k n f s r)) ∧ Below w.heap.size w w' := by
  go_enter Try.func15, Try.ntmps15
  go_wp2_with (go_at_call 46; refine (bare_any _ _ _ _ _ _ _ _ _ _).mono ?_; rintro e w1 ⟨rfl, hb1⟩; obtain ⟨hc1, hf1⟩ := bcell hb1)
  all_goals go_ret
  all_goals refine ⟨?_, ?_⟩
  all_goals first
    | exact below_new _ _
    | exact below_then hb1
    | skip
  all_goals ((try clear hc1 hf1 hb1); (try simp_all [vOk]) <;> omega)

theorem svok_any (k n r : Int) (f : Nat) (s : ByteArray) (w : World) :
    Calls Try.prog 13 #[.agg #[.int .i64 k, .int .i64 n, .float .f64 f, .string s, .int .i64 r]] w fun e w' => e = .returned (.bool (vOk k n f s r)) ∧ Below w.heap.size w w' := by
  go_enter Try.func13, Try.ntmps13
  go_wp2_with (go_at_call 45; refine (zero_any _ _ _ _ _ _ _ _ _ _).mono ?_; rintro e w1 ⟨rfl, hb1⟩; obtain ⟨hc1, hf1⟩ := bcell hb1)
  all_goals go_ret
  all_goals refine ⟨?_, ?_⟩
  all_goals first
    | exact below_new _ _
    | exact below_then hb1
    | skip
  all_goals ((try clear hc1 hf1 hb1); (try simp_all [vOk]) <;> omega)

def vTruth (k n : Int) (f : Nat) (s : ByteArray) (r : Int) : Bool := vOk k n f s r && (k != 0) && ((k != 1) || n == 1)

theorem itruth_any (k n r : Int) (f : Nat) (s : ByteArray) (w : World) :
    Calls Try.prog 17 #[.agg #[.int .i64 k, .int .i64 n, .float .f64 f, .string s, .int .i64 r]] w fun e w' => e = .returned (.bool (vTruth k n f s r)) ∧ Below w.heap.size w w' := by
  go_enter Try.func17, Try.ntmps17
  go_wp2_with (go_at_call 15; refine (ivok_any _ _ _ _ _ _).mono ?_; rintro e w1 ⟨rfl, hb1⟩; obtain ⟨hc1, hf1⟩ := bcell hb1)
  all_goals go_ret
  all_goals refine ⟨?_, below_then hb1⟩
  all_goals ((try clear hc1 hf1 hb1); (try simp_all [vTruth]))

theorem struth_any (k n r : Int) (f : Nat) (s : ByteArray) (w : World) :
    Calls Try.prog 16 #[.agg #[.int .i64 k, .int .i64 n, .float .f64 f, .string s, .int .i64 r]] w fun e w' => e = .returned (.bool (vTruth k n f s r)) ∧ Below w.heap.size w w' := by
  go_enter Try.func16, Try.ntmps16
  go_wp2_with (go_at_call 13; refine (svok_any _ _ _ _ _ _).mono ?_; rintro e w1 ⟨rfl, hb1⟩; obtain ⟨hc1, hf1⟩ := bcell hb1)
  all_goals go_ret
  all_goals refine ⟨?_, below_then hb1⟩
  all_goals ((try clear hc1 hf1 hb1); (try simp_all [vTruth]))

theorem tov_any (k n r : Int) (f : Nat) (s : ByteArray) (w : World) :
    Calls Try.prog 14 #[.agg #[.int .i64 k, .int .i64 n, .float .f64 f, .string s, .int .i64 r]] w fun e w' => e = .returned (.agg #[.int .i64 k, .int .i64 n, .float .f64 f, .string s, .int .i64 r]) ∧ Below w.heap.size w w' := by
  go_enter Try.func14, Try.ntmps14
  go_wp2
  refine bodyPost_ret (v := .agg #[.int .i64 k, .int .i64 n, .float .f64 f, .string s, .int .i64 r]) (by simp [results, Try.results14, go_sem]) rfl ⟨rfl, ?_⟩
  exact (((Below.refl _ _).alloc (Nat.le_refl _) _).alloc (by simp) _).alloc (by simp; omega) _

def szV (s : ByteArray) (left : Int) : Int := if left - s.size < 0 then -1 else left - s.size

theorem szv_any (k n r : Int) (f : Nat) (s : ByteArray) (left : Int) (w : World) (hs : s.size ≤ maxLen) (h0 : 0 ≤ left) (h1 : left ≤ 1048576) :
    Calls Try.prog 12 #[.agg #[.int .i64 k, .int .i64 n, .float .f64 f, .string s, .int .i64 r], .int .i64 left] w fun e w' => e = .returned (.int .i64 (szV s left)) ∧ Below w.heap.size w w' := by
  unfold maxLen at hs
  go_enter Try.func12, Try.ntmps12
  go_wp2
  all_goals go_ret
  all_goals refine ⟨?_, below_new _ _⟩
  all_goals (unfold szV; first | (rw [if_pos (by omega)]; rfl) | (rw [if_neg (by omega)]; rfl))

end Go.Proofs.Ytchlolfdinakiaa
