/- Plain laws on binary floats: doubling and halving are exact; the odd part of a float. No Go text in sight. -/
import Derived.Test.YtchlolfdinakiaaDoorFl2
namespace Go.Proofs.YtchlolfdinakiaaDoor.Flt
open Ieee

/-- b is a finite number of that sign and magnitude (as a multiple of 2 ^ -1074). -/
def FN (b : Nat) (s : Bool) (M : Nat) : Prop := ∃ m e, F.read b = .number s m e ∧ m < 2 ^ 53 ∧ -1074 ≤ e ∧ e ≤ 971 ∧ M = m * 2 ^ (e + 1074).toNat
def sgn (s : Bool) (M : Nat) : Int := if s then -(M : Int) else (M : Int)

theorem FN.fin {b : Nat} {s : Bool} {M : Nat} (h : FN b s M) : Fin b (sgn s M) := by
  obtain ⟨m, e, h1, h2, h3, h4, rfl⟩ := h
  exact ⟨s, m, e, h1, h2, h3, h4, val_nat s m e⟩
theorem fn_of_fin {b : Nat} {v : Int} (h : Fin b v) : ∃ s M, FN b s M ∧ v = sgn s M := by
  obtain ⟨s, m, e, h1, h2, h3, h4, h5⟩ := h
  exact ⟨s, _, ⟨m, e, h1, h2, h3, h4, rfl⟩, by rw [← h5, val_nat]; rfl⟩

theorem log_lt {m x N : Nat} (hm : 0 < m) (h : m * 2 ^ x < 2 ^ N) : m.log2 + x < N := by
  have h2 := Nat.log2_self_le (n := m) (by omega)
  have h3 : 2 ^ m.log2 * 2 ^ x ≤ m * 2 ^ x := Nat.mul_le_mul_right _ h2
  rw [← Nat.pow_add] at h3
  exact (Nat.pow_lt_pow_iff_right (by decide)).1 (Nat.lt_of_le_of_lt h3 h)

theorem fn_near (s : Bool) (m t : Nat) (e : Int) (hm : 0 < m) (h53 : m < 2 ^ 53) (hL : -1074 ≤ e + t) (hhi : e + t + m.log2 ≤ 1023) :
    FN (F.nearest s (m * 2 ^ t) e) s (m * 2 ^ (e + t + 1074).toNat) := by
  obtain ⟨k, h1, h2, h3⟩ := read_nearest s m t e hm h53 hL hhi
  refine ⟨_, _, h1, h3, h2, ?_, ?_⟩
  · rcases read_cases (F.nearest s (m * 2 ^ t) e) with ⟨_, _, _, g1, _, _, _, g4⟩ | ⟨_, g⟩ | ⟨_, _, g⟩
    · rw [g1] at h1; cases h1; exact g4
    · rw [g] at h1; cases h1
    · rw [g] at h1; cases h1
  · rw [Nat.mul_assoc, ← Nat.pow_add]; congr 2; omega

theorem mul_up {b : Nat} {s : Bool} {M : Nat} (h : FN b s M) (h0 : 0 < M) (c j : Nat) (i : Int) (hc : F.read c = .number false (2 ^ 52) i) (hi : i = j - 52) (hlt : M * 2 ^ j < 2 ^ (1024 + B)) :
    ∃ r, F.mul b c = some r ∧ FN r s (M * 2 ^ j) := by
  obtain ⟨m, e, h1, h2, h3, h4, rfl⟩ := h
  have hB := B_eq
  have hm : 0 < m := Nat.pos_of_mul_pos_right h0
  rw [Nat.mul_assoc, ← Nat.pow_add] at hlt
  have hl := log_lt hm hlt
  refine ⟨F.nearest s (m * 2 ^ 52) (e + i), ?_, ?_⟩
  · unfold Format.mul
    rw [h1, hc]
    simp [Datum.product, Format.write]
  · have := fn_near s m 52 (e + i) hm h2 (by omega) (by omega)
    have e1 : m * 2 ^ (e + 1074).toNat * 2 ^ j = m * 2 ^ (e + i + (52 : Nat) + 1074).toNat := by
      rw [Nat.mul_assoc, ← Nat.pow_add]; congr 2; omega
    rw [e1]; exact this

def bTwo : Nat := 4611686018427387904
def bHalf : Nat := 4602678819172646912
def bP52 : Nat := 4841369599423283200
def bP53 : Nat := 4845873199050653696
theorem read_two : F.read bTwo = .number false (2 ^ 52) (-51) := by decide +kernel
theorem read_half : F.read bHalf = .number false (2 ^ 52) (-53) := by decide +kernel
theorem read_p52 : F.read bP52 = .number false (2 ^ 52) 0 := by decide +kernel
theorem read_p53 : F.read bP53 = .number false (2 ^ 52) 1 := by decide +kernel

theorem mul_two {b : Nat} {s : Bool} {M : Nat} (h : FN b s M) (h0 : 0 < M) (hlt : M < 2 ^ (53 + B)) : ∃ r, F.mul b bTwo = some r ∧ FN r s (M * 2) := by
  refine mul_up h h0 bTwo 1 _ read_two (by omega) ?_
  have : M * 2 ^ 1 < 2 ^ (53 + B) * 2 ^ 1 := Nat.mul_lt_mul_of_pos_right hlt (by decide)
  rw [← Nat.pow_add] at this
  exact Nat.lt_of_lt_of_le this (Nat.pow_le_pow_right (by decide) (by omega))

theorem mul_half {b : Nat} {s : Bool} {u : Nat} (h : FN b s (u * 2)) (h0 : 0 < u) : ∃ r, F.mul b bHalf = some r ∧ FN r s u := by
  obtain ⟨m, e, h1, h2, h3, h4, h5⟩ := h
  have hm : 0 < m := by
    rcases Nat.eq_zero_or_pos m with h | h
    · subst h; simp at h5; omega
    · exact h
  have hl52 : m.log2 < 53 := (Nat.log2_lt (by omega)).2 h2
  refine ⟨F.nearest s (m * 2 ^ 52) (e - 53), ?_, ?_⟩
  · unfold Format.mul
    rw [h1, read_half]
    simp [Datum.product, Format.write]
    rfl
  · by_cases he : e = -1074
    · subst he
      have e1 : m = u * 2 := by simpa using h5.symm
      subst e1
      have hl : u.log2 < 53 := (Nat.log2_lt (by omega)).2 (by omega)
      have := fn_near s u 53 (-1074 - 53) h0 (by omega) (by omega) (by omega)
      have e2 : u * 2 * 2 ^ 52 = u * 2 ^ 53 := by rw [Nat.mul_assoc]
      rw [e2]
      simpa using this
    · have := fn_near s m 52 (e - 53) hm h2 (by omega) (by omega)
      have e3 : (e + 1074).toNat = (e - 53 + (52 : Nat) + 1074).toNat + 1 := by omega
      rw [e3, Nat.pow_succ, ← Nat.mul_assoc] at h5
      have : u = m * 2 ^ (e - 53 + (52 : Nat) + 1074).toNat := by omega
      rw [this]; assumption

/-- Half of a float is not that float. -/
theorem half_ne {b : Nat} {s : Bool} {M : Nat} (h : FN b s M) (h0 : 0 < M) : ∃ r, F.mul b bHalf = some r ∧ F.order r b ≠ some .eq := by
  by_cases hev : M % 2 = 0
  · obtain ⟨u, rfl⟩ : ∃ u, M = u * 2 := ⟨M / 2, by omega⟩
    obtain ⟨r, h1, h2⟩ := mul_half h (by omega)
    refine ⟨r, h1, ?_⟩
    rw [fin_order h2.fin h.fin]
    rcases cmp_cases (sgn s u) (sgn s (u * 2)) with ⟨_, g⟩ | ⟨g, _⟩ | ⟨_, g⟩
    · rw [g]; decide
    · exfalso; unfold sgn at g; cases s <;> simp at g <;> omega
    · rw [g]; decide
  · obtain ⟨m, e, h1, h2, h3, h4, h5⟩ := h
    have he : e = -1074 := by
      rcases Int.lt_or_eq_of_le h3 with h | h
      · exfalso
        have e3 : (e + 1074).toNat = (e + 1073).toNat + 1 := by omega
        rw [e3, Nat.pow_succ, ← Nat.mul_assoc] at h5
        omega
      · exact h.symm
    subst he
    have e1 : M = m := by simpa using h5
    subst e1
    clear h5
    have hM53 : M.log2 < 53 := (Nat.log2_lt (by omega)).2 h2
    refine ⟨F.nearest s (M * 2 ^ 52) (-1074 - 53), ?_, ?_⟩
    · unfold Format.mul
      rw [h1, read_half]
      simp [Datum.product, Format.write]
    · have hkept : Toward.even.cut s (M * 2 ^ 52) 53 < M := by
        unfold Toward.cut
        have hl : (M * 2 ^ 52).log2 = M.log2 + 52 := log2_mul_pow M 52 h0
        have hg : min 53 ((M * 2 ^ 52).log2 + 2) = 53 := by omega
        simp only [hg, Nat.shiftLeft_eq, Nat.one_mul]
        have d1 : M * 2 ^ 52 / 2 ^ 53 = M / 2 := by
          rw [show (2 : Nat) ^ 53 = 2 * 2 ^ 52 by decide, Nat.mul_div_mul_right _ _ (by decide)]
        have d2 : M * 2 ^ 52 % 2 ^ 53 = 2 ^ 52 := by
          rw [show (2 : Nat) ^ 53 = 2 * 2 ^ 52 by decide, Nat.mul_mod_mul_right]; omega
        rw [d1, d2]
        by_cases hodd : M / 2 % 2 = 1
        · simp [hodd]; omega
        · have : M / 2 % 2 = 0 := by omega
          simp [this]; omega
      have hread : F.read (F.nearest s (M * 2 ^ 52) (-1074 - 53)) = .number s (Toward.even.cut s (M * 2 ^ 52) 53) (-1074) := by
        unfold Format.nearest
        have hne : M * 2 ^ 52 ≠ 0 := by omega
        rw [if_neg hne]
        simp only [log2_mul_pow M 52 h0, binade_eq, infRung_eq, leastPlace_eq]
        have e3 : max ((-1074 - 53 : Int) + ((M.log2 + 52 : Nat) : Int) - (F.fractionBits : Nat)) (-1074) = -1074 := by
          have : F.fractionBits = 52 := rfl
          rw [this]; omega
        rw [e3]
        have e4 : ((-1074 : Int) - -1074).toNat = 0 := by decide
        have e5 : ((-1074 - 53 : Int) - -1074).toNat = 0 := by decide
        have e6 : ((-1074 : Int) - (-1074 - 53)).toNat = 53 := by decide
        rw [e4, e5, e6, Nat.shiftLeft_zero, Nat.zero_mul, Nat.zero_add, Nat.min_eq_left (by omega), word_read _ _ (by omega)]
        generalize Toward.even.cut s (M * 2 ^ 52) 53 = c at *
        unfold readAt
        by_cases hc : c < 2 ^ 52
        · rw [if_pos hc]
        · rw [if_neg hc, if_pos (by omega)]
          congr 1
          · omega
          · omega
      unfold Format.order
      rw [hread, h1, order_num (by decide) (by decide), val_nat, val_nat]
      simp only [show ((-1074 : Int) + 1074).toNat = 0 by decide, Nat.pow_zero, Nat.mul_one]
      generalize Toward.even.cut s (M * 2 ^ 52) 53 = c at *
      rcases cmp_cases (if s = true then -(c : Int) else (c : Int)) (if s = true then -(M : Int) else (M : Int)) with ⟨_, g⟩ | ⟨g, _⟩ | ⟨_, g⟩
      · rw [g]; decide
      · exfalso; cases s <;> simp at g <;> omega
      · rw [g]; decide

theorem sgn_whole (s : Bool) (M : Nat) : sgn s M / one * one = sgn s M ↔ 2 ^ B ∣ M := by
  have hpos := one_pos
  constructor
  · intro h
    have h1 : one ∣ sgn s M := ⟨sgn s M / one, by rw [Int.mul_comm]; exact h.symm⟩
    have h2 : one ∣ (M : Int) := by
      unfold sgn at h1
      cases s
      · exact h1
      · exact Int.dvd_neg.1 h1
    rw [one_eq] at h2
    have := Int.natCast_dvd_natCast.1 h2
    rwa [D_eq] at this
  · rintro ⟨q, rfl⟩
    have : sgn s (2 ^ B * q) = (if s then -(q : Int) else q) * one := by
      unfold sgn
      rw [one_eq, D_eq]
      cases s
      · simp [Int.mul_comm]
      · simp only [if_true]; push_cast; rw [Int.neg_mul, Int.mul_comm]
    rw [this, Int.mul_ediv_cancel _ (by omega)]

/-- Whole or not, by the reference's floor. -/
theorem floor_eq {b : Nat} {s : Bool} {M : Nat} (h : FN b s M) : (F.order b (sfloor b) == some .eq) = decide (2 ^ B ∣ M) := by
  rw [fin_order h.fin (sfloor_fin h.fin)]
  by_cases hd : 2 ^ B ∣ M
  · rw [(sgn_whole s M).2 hd, cmp_eq]; simp [hd]
  · have hne : sgn s M ≠ sgn s M / one * one := fun h => hd ((sgn_whole s M).1 h.symm)
    rcases cmp_cases (sgn s M) (sgn s M / one * one) with ⟨_, g⟩ | ⟨g, _⟩ | ⟨_, g⟩
    · rw [g]; simp [hd]
    · exact absurd g hne
    · rw [g]; simp [hd]

theorem small_of_part {b : Nat} {s : Bool} {M : Nat} (h : FN b s M) (hn : ¬ 2 ^ B ∣ M) : M < 2 ^ (53 + B) := by
  obtain ⟨m, e, h1, h2, h3, h4, rfl⟩ := h
  have hB := B_eq
  have he : (e + 1074).toNat < B := by
    rcases Nat.lt_or_ge (e + 1074).toNat B with h | h
    · exact h
    · exfalso
      apply hn
      have : (e + 1074).toNat = B + ((e + 1074).toNat - B) := by omega
      rw [this, Nat.pow_add, ← Nat.mul_assoc, Nat.mul_comm m, Nat.mul_assoc]
      exact Nat.dvd_mul_right _ _
  have : m * 2 ^ (e + 1074).toNat < 2 ^ 53 * 2 ^ (e + 1074).toNat := Nat.mul_lt_mul_of_pos_right h2 (Nat.two_pow_pos _)
  rw [← Nat.pow_add] at this
  exact Nat.lt_of_lt_of_le this (Nat.pow_le_pow_right (by decide) (by omega))

/-- Every magnitude has an odd part. -/
theorem odd_part : ∀ (M : Nat), 0 < M → ∃ q k, M = q * 2 ^ k ∧ q % 2 = 1 := by
  intro M
  induction M using Nat.strongRecOn with
  | ind M ih =>
    intro h0
    by_cases h : M % 2 = 1
    · exact ⟨M, 0, by simp, h⟩
    · obtain ⟨q, k, h1, h2⟩ := ih (M / 2) (by omega) (by omega)
      refine ⟨q, k + 1, ?_, h2⟩
      rw [Nat.pow_succ, ← Nat.mul_assoc]; omega

theorem dvd_odd {q a b : Nat} (hq : q % 2 = 1) : 2 ^ a ∣ q * 2 ^ b ↔ a ≤ b := by
  constructor
  · intro h
    rcases Nat.lt_or_ge b a with hlt | hge
    · exfalso
      have : a = (a - b - 1) + 1 + b := by omega
      rw [this, Nat.pow_add, Nat.pow_succ] at h
      have h2 := Nat.dvd_of_mul_dvd_mul_right (Nat.two_pow_pos b) h
      have h3 : 2 ∣ q := Nat.dvd_trans ⟨2 ^ (a - b - 1), by rw [Nat.mul_comm]⟩ h2
      omega
    · exact hge
  · intro h
    exact Nat.dvd_trans (Nat.pow_dvd_pow 2 h) (Nat.dvd_mul_left _ _)

theorem odd_unique {q k p j : Nat} (hq : q % 2 = 1) (hp : p % 2 = 1) (h : q * 2 ^ k = p * 2 ^ j) : q = p ∧ k = j := by
  have h1 : k ≤ j := (dvd_odd hp).1 (by rw [← h]; exact Nat.dvd_mul_left _ _)
  have h2 : j ≤ k := (dvd_odd hq).1 (by rw [h]; exact Nat.dvd_mul_left _ _)
  have : k = j := by omega
  subst this
  exact ⟨Nat.eq_of_mul_eq_mul_right (Nat.two_pow_pos _) h, rfl⟩

/-- The odd part of a float is small. -/
theorem odd_small {b : Nat} {s : Bool} {q k : Nat} (h : FN b s (q * 2 ^ k)) (hq : q % 2 = 1) : q < 2 ^ 53 := by
  obtain ⟨m, e, h1, h2, h3, h4, h5⟩ := h
  have hm : 0 < m := by
    rcases Nat.eq_zero_or_pos m with h | h
    · have : 0 < q * 2 ^ k := Nat.mul_pos (by omega) (Nat.two_pow_pos _)
      rw [h, Nat.zero_mul] at h5; omega
    · exact h
  have h6 : (e + 1074).toNat ≤ k := (dvd_odd hq).1 (by rw [h5]; exact Nat.dvd_mul_left _ _)
  have h7 : q * 2 ^ (k - (e + 1074).toNat) = m := by
    apply Nat.eq_of_mul_eq_mul_right (Nat.two_pow_pos (e + 1074).toNat)
    rw [Nat.mul_assoc, ← Nat.pow_add, ← h5]; congr 2; omega
  have h8 : q * 1 ≤ q * 2 ^ (k - (e + 1074).toNat) := Nat.mul_le_mul_left _ (Nat.two_pow_pos _)
  omega

theorem read_neg (b : Nat) : F.read (b ^^^ 2 ^ 63) = (F.read b).opposite := by
  have e1 : (b ^^^ 2 ^ 63) % 2 ^ 63 = b % 2 ^ 63 := by
    rw [Nat.xor_mod_two_pow]; simp
  have e2 : (b ^^^ 2 ^ 63) / 2 ^ 63 % 2 = (b / 2 ^ 63 + 1) % 2 := by
    rw [Nat.xor_div_two_pow, Nat.div_self (Nat.two_pow_pos 63)]
    have h := @Nat.xor_mod_two_eq_one (b / 2 ^ 63) 1
    generalize (b / 2 ^ 63) ^^^ 1 = x at *
    generalize b / 2 ^ 63 = y at *
    omega
  rw [read_eq, read_eq, e1, e2]
  have e3 : ((b / 2 ^ 63 + 1) % 2 == 1) = !(b / 2 ^ 63 % 2 == 1) := by
    rcases Nat.mod_two_eq_zero_or_one (b / 2 ^ 63) with h | h
    · rw [h, show (b / 2 ^ 63 + 1) % 2 = 1 by omega]; rfl
    · rw [h, show (b / 2 ^ 63 + 1) % 2 = 0 by omega]; rfl
  rw [e3]
  unfold readAt
  split
  · rfl
  · split
    · rfl
    · split <;> rfl
theorem FN.neg {b : Nat} {s : Bool} {M : Nat} (h : FN b s M) : FN (b ^^^ 2 ^ 63) (!s) M := by
  obtain ⟨m, e, h1, h2, h3, h4, h5⟩ := h
  exact ⟨m, e, by rw [read_neg, h1]; rfl, h2, h3, h4, h5⟩
end Go.Proofs.YtchlolfdinakiaaDoor.Flt
