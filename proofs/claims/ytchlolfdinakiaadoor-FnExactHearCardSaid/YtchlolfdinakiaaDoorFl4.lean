/- Plain laws on binary floats: a float's bits taken apart; the greatest float; one over a zero. No Go text in sight. -/
import Derived.Test.YtchlolfdinakiaaDoorFl3
import Derived.Laws.BitsAllLaws
import Derived.Laws.FloatBits
namespace Go.Proofs.YtchlolfdinakiaaDoor.Flt
open Ieee Go

theorem abs_bits (f : Nat) (hf : f < 2 ^ 64) : (bits .andNot .u64 (f : Int) 9223372036854775808).toNat = f % 2 ^ 63 := by
  have := u64_andNot_nat f 9223372036854775808 (by omega) (by omega)
  rw [show ((9223372036854775808 : Nat) : Int) = 9223372036854775808 by rfl] at this
  rw [this, show 18446744073709551615 - 9223372036854775808 = 2 ^ 63 - 1 by decide, Nat.and_two_pow_sub_one_eq_mod]
  rfl
theorem exp_bits (g : Nat) (hg : g < 2 ^ 64) : bits .and .u64 ((g : Int) / 4503599627370496) 2047 = ((g / 2 ^ 52 % 2048 : Nat) : Int) := by
  have := u64_and_nat (g / 4503599627370496) 2047 (by omega) (by omega)
  rw [show ((g / 4503599627370496 : Nat) : Int) = (g : Int) / 4503599627370496 by omega, show ((2047 : Nat) : Int) = 2047 by rfl] at this
  rw [this, show 2047 = 2 ^ 11 - 1 by decide, Nat.and_two_pow_sub_one_eq_mod]
theorem frac_bits (g : Nat) (hg : g < 2 ^ 64) : (bits .or .u64 (bits .andNot .u64 (g : Int) 9218868437227405312) 4602678819172646912).toNat = 2 ^ 63 * (g / 2 ^ 63) + (2 ^ 52 * 1022 + g % 2 ^ 52) := by
  have h1 := u64_andNot_nat g 9218868437227405312 (by omega) (by omega)
  rw [show ((9218868437227405312 : Nat) : Int) = 9218868437227405312 by rfl] at h1
  have h2 : g &&& (18446744073709551615 - 9218868437227405312) = 2 ^ 63 * (g / 2 ^ 63) ||| g % 2 ^ 52 := by
    rw [show 18446744073709551615 - 9218868437227405312 = 2 ^ 63 ||| (2 ^ 52 - 1) by decide, Nat.and_or_distrib_left, Nat.and_two_pow_sub_one_eq_mod]
    have m1 : (g &&& 2 ^ 63) % 2 ^ 63 = 0 := by rw [Nat.and_mod_two_pow]; simp
    have m2 : (g &&& 2 ^ 63) / 2 ^ 63 = g / 2 ^ 63 % 2 := by rw [Nat.and_div_two_pow, Nat.div_self (Nat.two_pow_pos 63), Nat.and_one_is_mod]
    have m3 : g &&& 2 ^ 63 = 2 ^ 63 * (g / 2 ^ 63) := by
      generalize g &&& 2 ^ 63 = x at *
      omega
    rw [m3]
  rw [h2] at h1
  rw [h1]
  have hlt : (2 ^ 63 * (g / 2 ^ 63) ||| g % 2 ^ 52) < 2 ^ 64 := Nat.or_lt_two_pow (by omega) (by omega)
  have h3 := u64_or_nat (2 ^ 63 * (g / 2 ^ 63) ||| g % 2 ^ 52) 4602678819172646912 (by omega) (by omega)
  rw [show ((4602678819172646912 : Nat) : Int) = 4602678819172646912 by rfl] at h3
  rw [h3, Nat.or_assoc, Nat.or_comm (g % 2 ^ 52), show 4602678819172646912 = 2 ^ 52 * 1022 by decide, ← Nat.two_pow_add_eq_or_of_lt (Nat.mod_lt _ (by decide)), ← Nat.two_pow_add_eq_or_of_lt (by omega)]
  rfl

/-- A finite word taken apart. -/
theorem fn_rung {g : Nat} {s : Bool} {N : Nat} (h : FN g s N) : (g / 2 ^ 63 % 2 == 1) = s ∧ g % 2 ^ 63 < 2047 * 2 ^ 52 ∧ (g % 2 ^ 63 < 2 ^ 52 → N = g % 2 ^ 63) ∧ (2 ^ 52 ≤ g % 2 ^ 63 → N = (2 ^ 52 + g % 2 ^ 52) * 2 ^ (g % 2 ^ 63 / 2 ^ 52 - 1)) := by
  obtain ⟨m, e, h1, h2, h3, h4, rfl⟩ := h
  rw [read_eq] at h1
  have hmod : g % 2 ^ 63 % 2 ^ 52 = g % 2 ^ 52 := by omega
  unfold readAt at h1
  by_cases c1 : g % 2 ^ 63 < 2 ^ 52
  · rw [if_pos c1] at h1
    cases h1
    exact ⟨rfl, by omega, fun _ => by simp, fun h => absurd c1 (by omega)⟩
  · rw [if_neg c1] at h1
    by_cases c2 : g % 2 ^ 63 < 2047 * 2 ^ 52
    · rw [if_pos c2] at h1
      cases h1
      refine ⟨rfl, c2, fun h => absurd h c1, fun _ => ?_⟩
      rw [hmod]
      congr 2
      omega
    · rw [if_neg c2] at h1
      split at h1 <;> cases h1

theorem fn_abs {f : Nat} {s : Bool} {M : Nat} (h : FN f s M) : FN (f % 2 ^ 63) false M := by
  obtain ⟨m, e, h1, h2, h3, h4, h5⟩ := h
  refine ⟨m, e, ?_, h2, h3, h4, h5⟩
  rw [read_eq] at h1 ⊢
  have e1 : f % 2 ^ 63 / 2 ^ 63 % 2 = 0 := by omega
  rw [e1, Nat.mod_mod]
  unfold readAt at h1 ⊢
  split at h1
  · cases h1; simp [*]
  · split at h1
    · cases h1; simp [*]
    · split at h1 <;> cases h1

/-- The fraction that Frexp hands back. -/
theorem fn_frac {g : Nat} {s : Bool} {N : Nat} (h : FN g s N) (h52 : 2 ^ 52 ≤ N) : ∃ M : Nat, 2 ^ 52 ≤ M ∧ M < 2 ^ 53 ∧ N = M * 2 ^ (g / 2 ^ 52 % 2048 - 1) ∧ 1 ≤ g / 2 ^ 52 % 2048 ∧ FN (2 ^ 63 * (g / 2 ^ 63) + (2 ^ 52 * 1022 + g % 2 ^ 52)) s (M * 2 ^ 1021) := by
  obtain ⟨h1, h2, h3, h4⟩ := fn_rung h
  have hge : 2 ^ 52 ≤ g % 2 ^ 63 := by
    rcases Nat.lt_or_ge (g % 2 ^ 63) (2 ^ 52) with h | h
    · have := h3 h; omega
    · exact h
  have e1 : g % 2 ^ 63 / 2 ^ 52 = g / 2 ^ 52 % 2048 := by omega
  refine ⟨2 ^ 52 + g % 2 ^ 52, by omega, by omega, by rw [← e1]; exact h4 hge, by omega, ?_⟩
  refine ⟨2 ^ 52 + g % 2 ^ 52, -1074 + (1022 - 1 : Nat), ?_, by omega, by omega, by omega, by congr 2⟩
  rw [read_eq]
  have d1 : (2 ^ 63 * (g / 2 ^ 63) + (2 ^ 52 * 1022 + g % 2 ^ 52)) / 2 ^ 63 % 2 = g / 2 ^ 63 % 2 := by omega
  have d2 : (2 ^ 63 * (g / 2 ^ 63) + (2 ^ 52 * 1022 + g % 2 ^ 52)) % 2 ^ 63 = 2 ^ 52 * 1022 + g % 2 ^ 52 := by omega
  rw [d1, d2, h1]
  unfold readAt
  rw [if_neg (by omega), if_pos (by omega)]
  congr 1
  · omega
  · congr 2; omega

def bMax : Nat := 9218868437227405311
theorem read_max : F.read bMax = .number false (2 ^ 53 - 1) 971 := by decide +kernel
theorem not_above_max {f : Nat} {v : Int} (h : Fin f v) : (F.order f bMax == some .gt) = false := by
  obtain ⟨s, M, ⟨m, e, h1, h2, h3, h4, h5⟩, rfl⟩ := fn_of_fin h
  unfold Format.order
  rw [h1, read_max, order_num h3 (by decide), val_nat, val_nat]
  have hle : m * 2 ^ (e + 1074).toNat ≤ (2 ^ 53 - 1) * 2 ^ ((971 : Int) + 1074).toNat :=
    Nat.mul_le_mul (by omega) (Nat.pow_le_pow_right (by decide) (by omega))
  generalize m * 2 ^ (e + 1074).toNat = x at *
  generalize (2 ^ 53 - 1) * 2 ^ ((971 : Int) + 1074).toNat = y at *
  have hng : ¬ ((if s = true then -(x : Int) else (x : Int)) > (y : Int)) := by split <;> omega
  simp only [Bool.false_eq_true, if_false]
  rcases cmp_cases (if s = true then -(x : Int) else (x : Int)) (y : Int) with ⟨_, g⟩ | ⟨_, g⟩ | ⟨g', g⟩
  · rw [g]; decide
  · rw [g]; decide
  · exact absurd g' hng
theorem inf_above_max {f : Nat} {s : Bool} (h : F.read f = .infinity s) : (F.order f bMax == some .gt) = !s := by
  have : Fin bMax (((2 ^ 53 - 1) * 2 ^ ((971 : Int) + 1074).toNat : Nat) : Int) := ⟨false, _, _, read_max, by decide, by decide, by decide, val_nat false _ _⟩
  rw [order_inf_fin h this]
  cases s <;> rfl

/-- One over a zero: the infinity of its sign. -/
theorem inv_zero_sign {b : Nat} {s : Bool} (h : FN b s 0) : ∃ r, F.div bOne b = some r ∧ (F.order r 0 == some .lt) = s := by
  have r1 : F.read bOne = .number false (2 ^ 52) (-52) := by decide +kernel
  obtain ⟨m, e, h1, h2, h3, h4, h5⟩ := h
  have hm : m = 0 := by
    rcases Nat.mul_eq_zero.1 h5.symm with h | h
    · exact h
    · exact absurd h (Nat.ne_of_gt (Nat.two_pow_pos _))
  subst hm
  refine ⟨F.word s F.infRung, ?_, ?_⟩
  · unfold Format.div
    rw [r1, h1]
    simp [Datum.quotient, Format.write]
  · have e1 : F.read (F.word s F.infRung) = .infinity s := by
      rw [infRung_eq, word_read _ _ (by decide)]
      rfl
    rw [order_inf_fin e1 fin_zero]
    cases s <;> rfl
/-- Half an infinity is that infinity. -/
theorem half_inf {b : Nat} {s : Bool} (h : F.read b = .infinity s) : ∃ r, F.mul b bHalf = some r ∧ F.order r b = some .eq := by
  refine ⟨F.word s F.infRung, ?_, ?_⟩
  · unfold Format.mul
    rw [h, read_half]
    simp [Datum.product, Format.write]
  · have e1 : F.read (F.word s F.infRung) = .infinity s := by
      rw [infRung_eq, word_read _ _ (by decide)]
      rfl
    unfold Format.order
    rw [e1, h]
    cases s <;> rfl
theorem sign_bit {f : Nat} (hf : f < 2 ^ 64) {s : Bool} {M : Nat} (h : FN f s M) : decide (2 ^ 63 ≤ f) = s := by
  have h1 := (fn_rung h).1
  rw [← h1]
  by_cases hc : 2 ^ 63 ≤ f
  · have : f / 2 ^ 63 % 2 = 1 := by omega
    rw [this]; simp [hc]
  · have : f / 2 ^ 63 % 2 = 0 := by omega
    rw [this]; simp [hc]

/-- Order of a finite number with zero. -/
theorem order_zero {f : Nat} {s : Bool} {M : Nat} (h : FN f s M) : (F.order f 0 == some .eq) = decide (M = 0) ∧ (F.order f 0 == some .lt) = (s && decide (M ≠ 0)) := by
  rw [fin_order h.fin fin_zero]
  unfold sgn
  cases s
  · simp only [Bool.false_eq_true, if_false]
    rcases cmp_cases (M : Int) 0 with ⟨g', g⟩ | ⟨g', g⟩ | ⟨g', g⟩
    · omega
    · rw [g', cmp_eq]; have : M = 0 := by omega
      simp [this]
    · rw [g]; have : M ≠ 0 := by omega
      simp [this]
  · simp only [if_true]
    rcases cmp_cases (-(M : Int)) 0 with ⟨g', g⟩ | ⟨g', g⟩ | ⟨g', g⟩
    · rw [g]; have : M ≠ 0 := by omega
      simp [this]
    · rw [g', cmp_eq]; have : M = 0 := by omega
      simp [this]
    · omega
end Go.Proofs.YtchlolfdinakiaaDoor.Flt
