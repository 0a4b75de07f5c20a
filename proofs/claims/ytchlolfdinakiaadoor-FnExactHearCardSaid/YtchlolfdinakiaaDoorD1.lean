/- The library's small float functions: Abs, Signbit, IsInf, normalize, Frexp. -/
import Derived.Test.YtchlolfdinakiaaDoorV4
import Derived.Test.YtchlolfdinakiaaDoorFl4
import Derived.Laws.Externs
import Derived.Lib.Hide
namespace Go.Proofs.YtchlolfdinakiaaDoor
open Go.RowKit
attribute [local go_sem] run_store_float unary_neg_float

theorem bits_run (f : Nat) (w : World) : (callFunc 72 #[.float .f64 f]).run Tryd.prog w = .ok (.value (.int .u64 f)) w := by
  rw [run_callFunc_extern Tryd.func72 (by kernel_rfl) (by kernel_rfl) (by kernel_rfl) (e := Extern.MathFloatBits.float64bits) (by kernel_rfl)]
  rfl
theorem frombits_run (n : Int) (w : World) : (callFunc 87 #[.int .u64 n]).run Tryd.prog w = .ok (.value (.float .f64 n.toNat)) w := by
  rw [run_callFunc_extern Tryd.func87 (by kernel_rfl) (by kernel_rfl) (by kernel_rfl) (e := Extern.MathFloatBits.float64frombits) (by kernel_rfl)]
  rfl

theorem abs_any (f : Nat) (hf : f < 2 ^ 64) (w : World) : Calls Tryd.prog 71 #[.float .f64 f] w fun e w' => e = .returned (.float .f64 (f % 2 ^ 63)) ∧ w = w' := by
  have h1 := fun W => bits_run f W
  have h2 := fun n W => frombits_run n W
  have h3 := Flt.abs_bits f hf
  go_enter Tryd.func71, Tryd.ntmps71
  go_wp2
  go_ret
  exact ⟨rfl, rfl⟩
theorem wrap64_neg (f : Nat) (hf : f < 2 ^ 64) : decide (wrap64 (f : Int) < 0) = decide (2 ^ 63 ≤ f) := by
  apply decide_eq_decide.2
  unfold wrap64
  omega
theorem signbit_any (f : Nat) (hf : f < 2 ^ 64) (w : World) : Calls Tryd.prog 55 #[.float .f64 f] w fun e w' => e = .returned (.bool (decide (2 ^ 63 ≤ f))) ∧ w = w' := by
  have h1 := fun W => bits_run f W
  have h3 := wrap64_neg f hf
  go_enter Tryd.func55, Tryd.ntmps55
  go_wp2
  go_ret
  exact ⟨rfl, rfl⟩
theorem isinf_pos (f : Nat) (w : World) : Calls Tryd.prog 54 #[.float .f64 f, .int .i64 1] w fun e w' => e = .returned (.bool (Flt.F.order f Flt.bMax == some .gt)) ∧ w = w' := by
  go_enter Tryd.func54, Tryd.ntmps54
  go_wp2
  go_ret
  exact ⟨rfl, rfl⟩
theorem isinf_neg (f : Nat) (w : World) : Calls Tryd.prog 54 #[.float .f64 f, .int .i64 (-1)] w fun e w' => e = .returned (.bool (Flt.F.order (fneg f) Flt.bMax == some .gt)) ∧ w = w' := by
  go_enter Tryd.func54, Tryd.ntmps54
  go_wp2
  go_ret
  exact ⟨rfl, rfl⟩
theorem isinf_zero (f : Nat) (hf : f < 2 ^ 64) (w : World) : Calls Tryd.prog 54 #[.float .f64 f, .int .i64 0] w fun e w' => e = .returned (.bool (Flt.F.order (f % 2 ^ 63) Flt.bMax == some .gt)) ∧ w = w' := by
  go_enter Tryd.func54, Tryd.ntmps54
  go_wp2_with (go_at_call 71; refine (abs_any f hf _).mono ?_; rintro e w1 ⟨rfl, rfl⟩)
  go_ret
  exact ⟨rfl, rfl⟩

theorem norm_any (f : Nat) (s : Bool) (M : Nat) (hM : Flt.FN f s M) (h0 : 0 < M) (hf : f < 2 ^ 64) (w : World) :
    Calls Tryd.prog 88 #[.float .f64 f] w fun e w' => (∃ g a : Nat, e = .returned (.tuple #[.float .f64 g, .int .i64 (-(a : Int))]) ∧ Flt.FN g s (M * 2 ^ a) ∧ 2 ^ 52 ≤ M * 2 ^ a ∧ g < 2 ^ 64 ∧ (a = 0 ∨ a = 52)) ∧ w = w' := by
  have hA := Flt.fn_abs hM
  have hmin : Flt.FN 4503599627370496 false (2 ^ 52) := ⟨2 ^ 52, -1074, by decide +kernel, by decide, by decide, by decide, by decide⟩
  have hord : (FloatKind.f64.format.order (f % 2 ^ 63) 4503599627370496 == some .lt) = decide (M < 2 ^ 52) := by
    show (Flt.F.order _ _ == _) = _
    rw [Flt.fin_order hA.fin hmin.fin]
    unfold Flt.sgn
    simp only [Bool.false_eq_true, if_false]
    generalize 2 ^ 52 = N
    rcases Flt.cmp_cases (M : Int) (N : Int) with ⟨g', g⟩ | ⟨g', g⟩ | ⟨g', g⟩
    · rw [g]; have : M < N := by omega
      simp [this]
    · rw [g]; have : ¬ M < N := by omega
      simp [this]
    · rw [g]; have : ¬ M < N := by omega
      simp [this]
  by_cases hlt : M < 2 ^ 52
  · rw [decide_eq_true hlt] at hord
    have hB := Flt.B_eq
    have hM52 : M * 2 ^ 52 < 2 ^ (1024 + Flt.B) := by
      have : M * 2 ^ 52 < 2 ^ 52 * 2 ^ 52 := Nat.mul_lt_mul_of_pos_right hlt (by decide)
      rw [← Nat.pow_add] at this
      exact Nat.lt_of_lt_of_le this (Nat.pow_le_pow_right (by decide) (by omega))
    obtain ⟨g, hg, hgM⟩ := Flt.mul_up hM h0 Flt.bP52 52 0 Flt.read_p52 (by omega) hM52
    have hg64 : g < 2 ^ 64 := Ieee.Format.mul_lt _ hg
    have hk := fun W => run_float_arith (P := Tryd.prog) W .mul 22 .f64 f 4841369599423283200 g hg
    have HG := Lib.hid hgM
    clear hM hgM hg hM52 hmin hA
    go_enter Tryd.func88, Tryd.ntmps88
    go_wp2_with (go_at_call 71; refine (abs_any f hf _).mono ?_; rintro e w1 ⟨rfl, rfl⟩)
    refine bodyPost_ret (by simp [results, Tryd.results88, go_sem]; rfl) rfl ?_
    exact ⟨⟨g, 52, rfl, HG.out, by omega, hg64, .inr rfl⟩, rfl⟩
  · rw [decide_eq_false hlt] at hord
    have HG := Lib.hid hM
    clear hM hmin hA
    go_enter Tryd.func88, Tryd.ntmps88
    go_wp2_with (go_at_call 71; refine (abs_any f hf _).mono ?_; rintro e w1 ⟨rfl, rfl⟩)
    refine bodyPost_ret (by simp [results, Tryd.results88, go_sem]; rfl) rfl ?_
    exact ⟨⟨f, 0, rfl, by rw [Nat.pow_zero, Nat.mul_one]; exact HG.out, by omega, hf, .inl rfl⟩, rfl⟩

/-- What Frexp hands back for a finite number that is not zero. -/
def FrexpIs (s : Bool) (M : Nat) (g : Nat) (x : Int) : Prop := ∃ m k a : Nat, M * 2 ^ a = m * 2 ^ k ∧ 2 ^ 52 ≤ m ∧ m < 2 ^ 53 ∧ Flt.FN g s (m * 2 ^ 1021) ∧ x = (k : Int) - 1074 + 53 - a ∧ k ≤ 2046 ∧ a ≤ 52

theorem order_zero_of {f : Nat} {s : Bool} {M : Nat} (hM : Flt.FN f s M) (h0 : 0 < M) : (FloatKind.f64.format.order f 0 == some .eq) = false := by
  show (Flt.F.order f 0 == _) = _
  rw [(Flt.order_zero hM).1]; simp; omega
theorem okf_of {f : Nat} {s : Bool} {M : Nat} (hM : Flt.FN f s M) : okf f = true := by
  show (Flt.F.order f f == _) = _
  rw [Flt.fin_order hM.fin hM.fin, Flt.cmp_eq]; rfl

theorem frexp_plain {g : Nat} {s : Bool} {M a : Nat} (hg1 : Flt.FN g s (M * 2 ^ a)) (hg2 : 2 ^ 52 ≤ M * 2 ^ a) (hg3 : g < 2 ^ 64) (ha : a = 0 ∨ a = 52) :
    FrexpIs s M (bits .or .u64 (bits .andNot .u64 (g : Int) 9218868437227405312) 4602678819172646912).toNat (wrap64 (-(a : Int) + wrap64 (wrap64 (wrap64 (bits .and .u64 ((g : Int) / 4503599627370496) 2047) - 1023) + 1))) := by
  obtain ⟨m, e1, e2, e3, e4, e5⟩ := Flt.fn_frac hg1 hg2
  have hE : g / 2 ^ 52 % 2048 ≤ 2047 := by omega
  refine ⟨m, g / 2 ^ 52 % 2048 - 1, a, e3, e1, e2, ?_, ?_, by omega, by omega⟩
  · rw [Flt.frac_bits g hg3]; exact e5
  · rw [Flt.exp_bits g hg3]
    clear e3 hg1 hg2 e5
    generalize g / 2 ^ 52 % 2048 = E at *
    unfold wrap64
    omega

theorem frexp_any (f : Nat) (s : Bool) (M : Nat) (hM : Flt.FN f s M) (h0 : 0 < M) (hf : f < 2 ^ 64) (w : World) :
    Calls Tryd.prog 74 #[.float .f64 f] w fun e w' => (∃ g x, e = .returned (.tuple #[.float .f64 g, .int .i64 x]) ∧ FrexpIs s M g x) ∧ w = w' := by
  have h1 := fun f W => bits_run f W
  have h2 := fun n W => frombits_run n W
  have h3 := order_zero_of hM h0
  have h4 : (Flt.F.order (f % 2 ^ 63) Flt.bMax == some .gt) = false := Flt.not_above_max (Flt.fn_abs hM).fin
  have h5 := okf_of hM
  have HM := Lib.hid hM
  clear hM
  go_enter Tryd.func74, Tryd.ntmps74
  go_wp2_with (first
    | (go_at_call 54; refine (isinf_zero f hf _).mono ?_; rintro e w1 ⟨rfl, rfl⟩)
    | (go_at_call 53; refine (isnan_any f _).mono ?_; rintro e w1 ⟨rfl, rfl⟩)
    | (go_at_call 88; refine (norm_any f s M HM.out h0 hf _).mono ?_; rintro e w1 ⟨⟨g, a, rfl, hg1, hg2, hg3, hg4⟩, rfl⟩; have HG := Lib.hid (And.intro hg1 (And.intro hg2 (And.intro hg3 hg4))); clear hg1 hg2 hg3 hg4))
  obtain ⟨hg1, hg2, hg3, hg4⟩ := HG.out
  refine bodyPost_ret (by simp [results, Tryd.results74, go_sem]; rfl) rfl ?_
  exact ⟨⟨_, _, rfl, frexp_plain hg1 hg2 hg3 hg4⟩, rfl⟩
theorem Frexp_any (f : Nat) (s : Bool) (M : Nat) (hM : Flt.FN f s M) (h0 : 0 < M) (hf : f < 2 ^ 64) (w : World) :
    Calls Tryd.prog 56 #[.float .f64 f] w fun e w' => (∃ g x, e = .returned (.tuple #[.float .f64 g, .int .i64 x]) ∧ FrexpIs s M g x) ∧ w = w' := by
  go_enter Tryd.func56, Tryd.ntmps56
  go_wp2_with (go_at_call 74; refine (frexp_any f s M hM h0 hf _).mono ?_; rintro e w1 ⟨⟨g, x, rfl, hg1⟩, rfl⟩)
  refine bodyPost_ret (by simp [results, Tryd.results56, go_sem]; rfl) rfl ?_
  exact ⟨⟨g, x, rfl, hg1⟩, rfl⟩
end Go.Proofs.YtchlolfdinakiaaDoor
