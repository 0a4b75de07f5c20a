/- Plain laws on binary floats: reading, rounding of what is exact, order, floor and cut. No Go text in sight. -/
import Derived.Laws.FloatArith
namespace Go.Proofs.Ytcpjplkbmflglaa.Flt
open Ieee

abbrev F : Format := Ieee.double

theorem binade_eq : F.binade = 2 ^ 52 := rfl
theorem signWeight_eq : F.signWeight = 2 ^ 63 := rfl
theorem infRung_eq : F.infRung = 2047 * 2 ^ 52 := rfl
theorem leastPlace_eq : F.leastPlace = -1074 := rfl

/-- What a rung reads as. -/
def readAt (neg : Bool) (rung : Nat) : Datum :=
  if rung < 2 ^ 52 then .number neg rung (-1074)
  else if rung < 2047 * 2 ^ 52 then .number neg (2 ^ 52 + rung % 2 ^ 52) (-1074 + (rung / 2 ^ 52 - 1 : Nat))
  else if rung = 2047 * 2 ^ 52 then .infinity neg
  else .nan neg (rung - 2047 * 2 ^ 52)

theorem read_eq (b : Nat) : F.read b = readAt (b / 2 ^ 63 % 2 == 1) (b % 2 ^ 63) := rfl

theorem readAt_cases (neg : Bool) (rung : Nat) : (∃ m e, readAt neg rung = .number neg m e ∧ m < 2 ^ 53 ∧ -1074 ≤ e ∧ (2 ^ 52 ≤ m ∨ e = -1074) ∧ e ≤ 971) ∨ readAt neg rung = .infinity neg ∨ (∃ t, readAt neg rung = .nan neg t) := by
  unfold readAt
  by_cases h1 : rung < 2 ^ 52
  · rw [if_pos h1]; left; exact ⟨_, _, rfl, by omega, by omega, by omega, by omega⟩
  · rw [if_neg h1]
    by_cases h2 : rung < 2047 * 2 ^ 52
    · rw [if_pos h2]; left; exact ⟨_, _, rfl, by omega, by omega, by omega, by omega⟩
    · rw [if_neg h2]
      by_cases h3 : rung = 2047 * 2 ^ 52
      · rw [if_pos h3]; right; left; rfl
      · rw [if_neg h3]; right; right; exact ⟨_, rfl⟩

/-- What a word reads as. -/
theorem read_cases (b : Nat) : (∃ s m e, F.read b = .number s m e ∧ m < 2 ^ 53 ∧ -1074 ≤ e ∧ (2 ^ 52 ≤ m ∨ e = -1074) ∧ e ≤ 971) ∨ (∃ s, F.read b = .infinity s) ∨ (∃ s t, F.read b = .nan s t) := by
  rw [read_eq]
  rcases readAt_cases (b / 2 ^ 63 % 2 == 1) (b % 2 ^ 63) with ⟨m, e, h⟩ | h | ⟨t, h⟩
  · exact .inl ⟨_, m, e, h⟩
  · exact .inr (.inl ⟨_, h⟩)
  · exact .inr (.inr ⟨_, t, h⟩)

theorem word_read (neg : Bool) (rung : Nat) (h : rung < 2 ^ 63) : F.read (F.word neg rung) = readAt neg rung := by
  rw [read_eq]
  unfold Format.word
  rw [signWeight_eq]
  cases neg
  · have e1 : rung / 2 ^ 63 % 2 = 0 := by omega
    have e2 : rung % 2 ^ 63 = rung := by omega
    simp only [Bool.false_eq_true, if_false]
    rw [e1, e2]; rfl
  · have e1 : (2 ^ 63 + rung) / 2 ^ 63 % 2 = 1 := by omega
    have e2 : (2 ^ 63 + rung) % 2 ^ 63 = rung := by omega
    simp only [if_true]
    rw [e1, e2]; rfl

/-- The number that a finite datum stands for, as a multiple of 2 ^ -1074. -/
def val : Datum → Int
  | .number s m e => signed s m (e + 1074).toNat
  | _ => 0

def isNum : Datum → Bool
  | .number .. => true
  | _ => false

theorem signed_eq (s : Bool) (m k : Nat) : signed s m k = if s then -((m * 2 ^ k : Nat) : Int) else ((m * 2 ^ k : Nat) : Int) := by
  unfold signed
  rw [Nat.shiftLeft_eq]

theorem signed_scale (s : Bool) (m k t : Nat) : signed s m (k + t) = signed s m k * 2 ^ t := by
  rw [signed_eq, signed_eq, Nat.pow_add, ← Nat.mul_assoc]
  cases s <;> simp [Int.neg_mul]

theorem cmp_lt {x y : Int} (h : x < y) : compare x y = .lt := by simp [compare, compareOfLessAndEq, h]
theorem cmp_eq (x : Int) : compare x x = .eq := by simp [compare, compareOfLessAndEq]
theorem cmp_gt {x y : Int} (h : y < x) : compare x y = .gt := by
  have h1 : ¬ x < y := by omega
  have h2 : ¬ x = y := by omega
  simp [compare, compareOfLessAndEq, h1, h2]
theorem cmp_cases (x y : Int) : (x < y ∧ compare x y = .lt) ∨ (x = y ∧ compare x y = .eq) ∨ (y < x ∧ compare x y = .gt) := by
  rcases Int.lt_trichotomy x y with h | h | h
  · exact .inl ⟨h, cmp_lt h⟩
  · subst h; exact .inr (.inl ⟨rfl, cmp_eq x⟩)
  · exact .inr (.inr ⟨h, cmp_gt h⟩)

theorem compare_scale (x y : Int) (t : Nat) : compare (x * 2 ^ t) (y * 2 ^ t) = compare x y := by
  have hp : (0 : Int) < 2 ^ t := Int.pow_pos (by decide)
  rcases Int.lt_trichotomy x y with h | h | h
  · rw [cmp_lt h, cmp_lt (Int.mul_lt_mul_of_pos_right h hp)]
  · subst h; rw [cmp_eq, cmp_eq]
  · rw [cmp_gt h, cmp_gt (Int.mul_lt_mul_of_pos_right h hp)]

/-- Finite numbers stand to each other as their multiples do. -/
theorem order_num {s t : Bool} {m n : Nat} {i j : Int} (hi : -1074 ≤ i) (hj : -1074 ≤ j) :
    (Datum.number s m i).order (Datum.number t n j) = some (compare (val (.number s m i)) (val (.number t n j))) := by
  simp only [Datum.order, val]
  congr 1
  have e1 : (i + 1074).toNat = (i - min i j).toNat + (min i j + 1074).toNat := by omega
  have e2 : (j + 1074).toNat = (j - min i j).toNat + (min i j + 1074).toNat := by omega
  rw [e1, e2, signed_scale, signed_scale, compare_scale]

theorem log2_mul_pow (m t : Nat) (hm : 0 < m) : (m * 2 ^ t).log2 = m.log2 + t := by
  have hp : 0 < 2 ^ t := Nat.two_pow_pos t
  have hne : m * 2 ^ t ≠ 0 := by
    have := Nat.mul_pos hm hp
    omega
  rw [Nat.log2_eq_iff hne]
  have h1 := Nat.log2_self_le (n := m) (by omega)
  have h2 := Nat.lt_log2_self (n := m)
  refine ⟨?_, ?_⟩
  · rw [Nat.pow_add]; exact Nat.mul_le_mul_right _ h1
  · rw [Nat.add_right_comm, Nat.pow_add]; exact Nat.mul_lt_mul_of_pos_right h2 hp

theorem gap_or (n d : Nat) : min d (n.log2 + 2) = d ∨ (n < 2 ^ (min d (n.log2 + 2)) ∧ n < 2 ^ d) := by
  by_cases h : d ≤ n.log2 + 2
  · left; omega
  · right
    have h2 := Nat.lt_log2_self (n := n)
    have e : min d (n.log2 + 2) = n.log2 + 2 := by omega
    rw [e]
    exact ⟨Nat.lt_of_lt_of_le h2 (Nat.pow_le_pow_right (by decide) (by omega)), Nat.lt_of_lt_of_le h2 (Nat.pow_le_pow_right (by decide) (by omega))⟩

theorem gap_div (n d : Nat) : n / (1 <<< min d (n.log2 + 2)) = n / 2 ^ d ∧ n % (1 <<< min d (n.log2 + 2)) = n % 2 ^ d := by
  rw [Nat.shiftLeft_eq, Nat.one_mul]
  rcases gap_or n d with h | ⟨h1, h2⟩
  · rw [h]; exact ⟨rfl, rfl⟩
  · rw [Nat.div_eq_of_lt h1, Nat.div_eq_of_lt h2, Nat.mod_eq_of_lt h1, Nat.mod_eq_of_lt h2]; exact ⟨rfl, rfl⟩

theorem cut_zero (neg : Bool) (n d : Nat) : Toward.zero.cut neg n d = n / 2 ^ d := by
  unfold Toward.cut
  simp [(gap_div n d).1]

theorem cut_down (neg : Bool) (n d : Nat) : Toward.down.cut neg n d = n / 2 ^ d + (neg && n % 2 ^ d != 0).toNat := by
  unfold Toward.cut
  simp [(gap_div n d).1, (gap_div n d).2]

theorem cut_exact (neg : Bool) (n d : Nat) : Toward.even.cut neg (n * 2 ^ d) d = n := by
  unfold Toward.cut
  have hp : 0 < 2 ^ d := Nat.two_pow_pos d
  have h1 := (gap_div (n * 2 ^ d) d).1
  have h2 := (gap_div (n * 2 ^ d) d).2
  rw [Nat.mul_div_cancel _ hp] at h1
  rw [Nat.mul_mod_left] at h2
  simp [h1, h2]

/-- Rounding what is exact changes nothing. -/
theorem read_nearest (neg : Bool) (m t : Nat) (e : Int) (hm : 0 < m) (h53 : m < 2 ^ 53) (hL : -1074 ≤ e + t) (hhi : e + t + m.log2 ≤ 1023) :
    ∃ k : Nat, F.read (F.nearest neg (m * 2 ^ t) e) = .number neg (m * 2 ^ k) (e + t - k) ∧ -1074 ≤ e + t - k ∧ m * 2 ^ k < 2 ^ 53 := by
  have hl52 : m.log2 < 53 := (Nat.log2_lt (by omega)).2 h53
  have hp : 0 < 2 ^ t := Nat.two_pow_pos t
  have hne : m * 2 ^ t ≠ 0 := by
    have := Nat.mul_pos hm hp
    omega
  generalize hlast : max (e + t + m.log2 - 52) (-1074) = last
  have hkn : last ≤ e + t := by omega
  refine ⟨(e + t - last).toNat, ?_⟩
  generalize hk : (e + t - last).toNat = k
  have hk' : e + t - k = last := by omega
  have hkept : Toward.even.cut neg ((m * 2 ^ t) <<< (e - last).toNat) (last - e).toNat = m * 2 ^ k := by
    rw [Nat.shiftLeft_eq, Nat.mul_assoc, ← Nat.pow_add]
    have e1 : t + (e - last).toNat = k + (last - e).toNat := by omega
    rw [e1, Nat.pow_add, ← Nat.mul_assoc]
    exact cut_exact _ _ _
  have hmk : m * 2 ^ k < 2 ^ 53 := by
    have h2 := Nat.lt_log2_self (n := m)
    have h3 : m * 2 ^ k < 2 ^ (m.log2 + 1) * 2 ^ k := Nat.mul_lt_mul_of_pos_right h2 (Nat.two_pow_pos k)
    rw [← Nat.pow_add] at h3
    exact Nat.lt_of_lt_of_le h3 (Nat.pow_le_pow_right (by decide) (by omega))
  have hmk2 : last ≠ -1074 → 2 ^ 52 ≤ m * 2 ^ k := by
    intro hl
    have h2 := Nat.log2_self_le (n := m) (by omega)
    have h3 : 2 ^ m.log2 * 2 ^ k ≤ m * 2 ^ k := Nat.mul_le_mul_right _ h2
    rw [← Nat.pow_add] at h3
    have e2 : m.log2 + k = 52 := by omega
    rwa [e2] at h3
  refine ⟨?_, by omega, hmk⟩
  have hrung : F.nearest neg (m * 2 ^ t) e = F.word neg ((last + 1074).toNat * 2 ^ 52 + m * 2 ^ k) := by
    unfold Format.nearest
    rw [if_neg hne]
    simp only [log2_mul_pow m t hm, binade_eq, infRung_eq, leastPlace_eq]
    have e3 : max (e + ((m.log2 + t : Nat) : Int) - (F.fractionBits : Nat)) (-1074) = last := by
      have : F.fractionBits = 52 := rfl
      rw [this]; omega
    rw [e3, hkept]
    have e4 : (last - -1074).toNat = (last + 1074).toNat := by omega
    rw [e4, Nat.min_eq_left (by omega)]
  rw [hrung, word_read _ _ (by omega)]
  unfold readAt
  by_cases hl : last = -1074
  · have e5 : (last + 1074).toNat = 0 := by omega
    rw [e5, Nat.zero_mul, Nat.zero_add, hk', hl]
    by_cases h1 : m * 2 ^ k < 2 ^ 52
    · rw [if_pos h1]
    · rw [if_neg h1, if_pos (by omega)]
      congr 1
      · omega
      · omega
  · have h1 := hmk2 hl
    rw [if_neg (by omega), if_pos (by omega)]
    congr 1
    · omega
    · rw [hk']; omega

theorem val_scale (s : Bool) (m k : Nat) (e : Int) (h : -1074 ≤ e - k) : val (.number s (m * 2 ^ k) (e - k)) = val (.number s m e) := by
  simp only [val, signed_eq, Nat.mul_assoc, ← Nat.pow_add]
  have : k + (e - k + 1074).toNat = (e + 1074).toNat := by omega
  rw [this]

/-- The multiple that stands for 1: 2 ^ 1074, under a name. -/
def B : Nat := 1074
theorem B_eq : B = 1074 := rfl
def D : Nat := 2 ^ B
theorem D_eq : D = 2 ^ B := rfl
theorem D_pos : 0 < D := Nat.two_pow_pos _
def one : Int := (D : Int)
theorem one_eq : one = (D : Int) := rfl
theorem one_pos : 0 < one := by have := D_pos; rw [one_eq]; omega
attribute [irreducible] B D one

/-- The whole part and the rest of a magnitude, by its own digits. -/
theorem whole_nat (m : Nat) (e : Int) (he : -1074 ≤ e) :
    (m * 2 ^ (e + 1074).toNat) / D = (m * 2 ^ e.toNat) / 2 ^ (-e).toNat ∧ ((m * 2 ^ (e + 1074).toNat) % D = 0 ↔ (m * 2 ^ e.toNat) % 2 ^ (-e).toNat = 0) := by
  have hB := B_eq
  have hD : D = 2 ^ (-e).toNat * 2 ^ (B - (-e).toNat) := by rw [D_eq, ← Nat.pow_add]; congr 1; omega
  have hM : m * 2 ^ (e + 1074).toNat = (m * 2 ^ e.toNat) * 2 ^ (B - (-e).toNat) := by rw [Nat.mul_assoc, ← Nat.pow_add]; congr 2; omega
  have hp : 0 < 2 ^ (B - (-e).toNat) := Nat.two_pow_pos _
  rw [hD, hM]
  refine ⟨Nat.mul_div_mul_right _ _ hp, ?_⟩
  rw [Nat.mul_mod_mul_right]
  constructor
  · intro h; rcases Nat.mul_eq_zero.1 h with h | h
    · exact h
    · omega
  · intro h; rw [h, Nat.zero_mul]

theorem val_nat (s : Bool) (m : Nat) (e : Int) : val (.number s m e) = if s then -((m * 2 ^ (e + 1074).toNat : Nat) : Int) else ((m * 2 ^ (e + 1074).toNat : Nat) : Int) := by
  simp only [val, signed_eq]

theorem val_whole (s : Bool) (c : Nat) : val (.number s c 0) = if s then -((c : Int) * one) else (c : Int) * one := by
  have hB := B_eq
  rw [val_nat, one_eq, D_eq]
  have e0 : ((0 : Int) + 1074).toNat = B := by omega
  rw [e0]
  cases s <;> simp

/-- Cut towards zero. -/
theorem toInt_zero (s : Bool) (m : Nat) (e : Int) (he : -1074 ≤ e) : (Datum.number s m e).toInt .zero = some (Int.tdiv (val (.number s m e)) one) := by
  simp only [Datum.toInt, Datum.integral, cut_zero, Nat.shiftLeft_eq]
  rw [← (whole_nat m e he).1, signed_eq, val_nat, one_eq]
  generalize m * 2 ^ (e + 1074).toNat = M
  cases s
  · simp only [Bool.false_eq_true, if_false, Nat.pow_zero, Nat.mul_one]
    congr 1
  · simp only [if_true, Int.neg_tdiv, Nat.pow_zero, Nat.mul_one]
    congr 1

theorem neg_div (M D : Nat) (hD : 0 < D) : (-(M : Int)) / (D : Int) = -((M / D + (M % D != 0).toNat : Nat) : Int) := by
  have hdm := Nat.div_add_mod M D
  have hlt := Nat.mod_lt M hD
  have e2 : (M : Int) = (D : Int) * ((M / D : Nat) : Int) + ((M % D : Nat) : Int) := by rw [← Int.natCast_mul]; omega
  by_cases h0 : M % D = 0
  · have e1 : -(M : Int) = -((M / D : Nat) : Int) * (D : Int) := by
      rw [Int.neg_mul, Int.mul_comm]; omega
    have hDne : (D : Int) ≠ 0 := by omega
    rw [e1, Int.mul_ediv_cancel _ hDne, h0]
    simp
  · have e1 : -(M : Int) = ((D : Int) - (M % D : Nat)) + (-(((M / D : Nat) : Int) + 1)) * (D : Int) := by
      rw [Int.neg_mul, Int.add_mul, Int.one_mul, Int.mul_comm ((M / D : Nat) : Int)]
      omega
    have hDne : (D : Int) ≠ 0 := by omega
    have h2 : (M % D != 0) = true := by simpa using h0
    rw [e1, Int.add_mul_ediv_right _ _ hDne, Int.ediv_eq_zero_of_lt (by omega) (by omega), Int.zero_add, h2]
    simp only [Bool.toNat_true]
    omega

/-- The greatest whole number not above, as a datum. -/
theorem floor_val (s : Bool) (m : Nat) (e : Int) (he : -1074 ≤ e) :
    ∃ c, (Datum.number s m e).integral .down = .number s c 0 ∧ val (.number s c 0) = (val (.number s m e) / one) * one ∧ (c = m * 2 ^ e.toNat ∨ (e < 0 ∧ c ≤ m / 2 + 1)) := by
  have hw := whole_nat m e he
  refine ⟨_, rfl, ?_, ?_⟩
  · rw [cut_down, Nat.shiftLeft_eq, ← hw.1, val_whole, val_nat, one_eq]
    generalize m * 2 ^ (e + 1074).toNat = M at *
    have hDp := D_pos
    cases s
    · simp
    · simp only [if_true, Bool.true_and]
      rw [neg_div M D hDp, Int.neg_mul]
      congr 3
      congr 1
      by_cases h0 : M % D = 0
      · have h1 := hw.2.1 h0
        rw [h0, h1]
      · have h1 : ¬ (m * 2 ^ e.toNat) % 2 ^ (-e).toNat = 0 := fun h => h0 (hw.2.2 h)
        have h2 : ((m * 2 ^ e.toNat) % 2 ^ (-e).toNat != 0) = true := by simpa using h1
        have h3 : (M % D != 0) = true := by simpa using h0
        rw [h2, h3]
  · rw [cut_down, Nat.shiftLeft_eq]
    by_cases h : e < 0
    · right
      refine ⟨h, ?_⟩
      have e1 : e.toNat = 0 := by omega
      rw [e1, Nat.pow_zero, Nat.mul_one]
      have h2 : m / 2 ^ (-e).toNat ≤ m / 2 := by
        have : 2 ≤ 2 ^ (-e).toNat := by
          have := Nat.pow_le_pow_right (n := 2) (by decide) (show 1 ≤ (-e).toNat by omega)
          simpa using this
        exact Nat.div_le_div_left this (by decide)
      have h3 : (s && (m % 2 ^ (-e).toNat != 0)).toNat ≤ 1 := Bool.toNat_le _
      omega
    · left
      have e1 : (-e).toNat = 0 := by omega
      rw [e1]
      simp [Nat.mod_one]

/-- What is written of a whole number that is exact. -/
theorem read_whole (s : Bool) (c m : Nat) (t : Nat) (hc : c = m * 2 ^ t) (h53 : m < 2 ^ 53) (ht : t ≤ 971) :
    ∃ m' e', F.read (F.nearest s c 0) = .number s m' e' ∧ -1074 ≤ e' ∧ m' < 2 ^ 53 ∧ val (.number s m' e') = val (.number s c 0) := by
  by_cases hm : m = 0
  · subst hm
    have hc0 : c = 0 := by rw [hc, Nat.zero_mul]
    subst hc0
    refine ⟨0, -1074, ?_, by omega, by decide, ?_⟩
    · unfold Format.nearest
      rw [if_pos rfl, word_read _ _ (by decide)]
      rfl
    · simp only [val, signed_eq, Nat.zero_mul]
  · have hl52 : m.log2 < 53 := (Nat.log2_lt hm).2 h53
    obtain ⟨k, h1, h2, h3⟩ := read_nearest s m t 0 (by omega) h53 (by omega) (by omega)
    refine ⟨_, _, by rw [hc]; exact h1, h2, h3, ?_⟩
    rw [val_scale _ _ _ _ h2, hc]
    simp only [val, signed_eq, Nat.mul_assoc, ← Nat.pow_add]
    have e1 : ((0 : Int) + t + 1074).toNat = t + ((0 : Int) + 1074).toNat := by omega
    rw [e1]

end Go.Proofs.Ytcpjplkbmflglaa.Flt
