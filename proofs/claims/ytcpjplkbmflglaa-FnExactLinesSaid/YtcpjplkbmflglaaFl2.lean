/- Plain laws on binary floats: the two ways to the greatest whole number not above a float agree. No Go text in sight. -/
import Derived.Test.YtcpjplkbmflglaaFlt
namespace Go.Proofs.Ytcpjplkbmflglaa.Flt
open Ieee

/-- f is a finite number of value v (as a multiple of 2 ^ -1074). -/
def Fin (b : Nat) (v : Int) : Prop := ∃ s m e, F.read b = .number s m e ∧ m < 2 ^ 53 ∧ -1074 ≤ e ∧ e ≤ 971 ∧ val (.number s m e) = v

theorem fin_order {a b : Nat} {v u : Int} (ha : Fin a v) (hb : Fin b u) : F.order a b = some (compare v u) := by
  obtain ⟨s, m, e, h1, _, h3, _, h4⟩ := ha
  obtain ⟨t, n, j, g1, _, g3, _, g4⟩ := hb
  unfold Format.order
  rw [h1, g1, order_num h3 g3, h4, g4]

theorem cases_fin (b : Nat) : (∃ v, Fin b v) ∨ (∃ s, F.read b = .infinity s) ∨ (∃ s t, F.read b = .nan s t) := by
  rcases read_cases b with ⟨s, m, e, h1, h2, h3, _, h4⟩ | h | h
  · exact .inl ⟨_, s, m, e, h1, h2, h3, h4, rfl⟩
  · exact .inr (.inl h)
  · exact .inr (.inr h)

theorem whole_of_word (s : Bool) (c m : Nat) (t : Nat) (hc : c = m * 2 ^ t) (h53 : m < 2 ^ 53) (ht : t ≤ 971) : Fin (F.nearest s c 0) (if s then -((c : Int) * one) else (c : Int) * one) := by
  obtain ⟨m', e', h1, h2, h3, h4⟩ := read_whole s c m t hc h53 ht
  refine ⟨s, m', e', h1, h3, h2, ?_, by rw [h4, val_whole]⟩
  rcases read_cases (F.nearest s c 0) with ⟨_, _, _, g1, _, _, _, g4⟩ | ⟨_, g⟩ | ⟨_, _, g⟩
  · rw [g1] at h1; cases h1; exact g4
  · rw [g] at h1; cases h1
  · rw [g] at h1; cases h1

/-- The library's floor. -/
def ifloor (b : Nat) : Nat := F.write ((F.read b).integral .down)

theorem ifloor_fin {b : Nat} {v : Int} (h : Fin b v) : Fin (ifloor b) ((v / one) * one) := by
  obtain ⟨s, m, e, h1, h2, h3, h4, h5⟩ := h
  obtain ⟨c, hc, hv, hor⟩ := floor_val s m e h3
  unfold ifloor
  rw [h1, hc]
  rw [h5] at hv
  rw [← hv, val_whole]
  show Fin (F.nearest s c 0) _
  rcases hor with hor | ⟨_, hor⟩
  · exact whole_of_word s c m e.toNat hor h2 (by omega)
  · exact whole_of_word s c c 0 (by simp) (by omega) (by omega)

theorem ifloor_inf {b : Nat} {s : Bool} (h : F.read b = .infinity s) : F.order b (ifloor b) = some .eq := by
  have e1 : F.read (ifloor b) = .infinity s := by
    unfold ifloor
    rw [h]
    show F.read (F.word s F.infRung) = _
    rw [infRung_eq, word_read _ _ (by decide)]
    rfl
  unfold Format.order
  rw [h, e1]
  cases s <;> rfl

def bOne : Nat := 4607182418800017408
def b63 : Nat := 4890909195324358656
def n63 : Nat := 14114281232179134464

theorem one_two (k : Nat) : (2 : Int) ^ k * one = ((2 ^ (k + B) : Nat) : Int) := by
  rw [one_eq, D_eq, Nat.pow_add]; push_cast; rfl

theorem fin_one : Fin bOne one := by
  refine ⟨false, 2 ^ 52, -52, by decide +kernel, by decide, by decide, by decide, ?_⟩
  have hB := B_eq
  have h := one_two 0
  rw [val_nat]
  have e1 : (2 : Nat) ^ 52 * 2 ^ ((-52 : Int) + 1074).toNat = 2 ^ (0 + B) := by rw [← Nat.pow_add]; congr 1; omega
  rw [e1]
  simpa using h.symm
theorem fin_b63 : Fin b63 (2 ^ 63 * one) := by
  refine ⟨false, 2 ^ 52, 11, by decide +kernel, by decide, by decide, by decide, ?_⟩
  have hB := B_eq
  rw [val_nat, one_two 63]
  have e1 : (2 : Nat) ^ 52 * 2 ^ ((11 : Int) + 1074).toNat = 2 ^ (63 + B) := by rw [← Nat.pow_add]; congr 1; omega
  rw [e1]
  rfl
theorem fin_n63 : Fin n63 (-(2 ^ 63 * one)) := by
  refine ⟨true, 2 ^ 52, 11, by decide +kernel, by decide, by decide, by decide, ?_⟩
  have hB := B_eq
  rw [val_nat, one_two 63]
  have e1 : (2 : Nat) ^ 52 * 2 ^ ((11 : Int) + 1074).toNat = 2 ^ (63 + B) := by rw [← Nat.pow_add]; congr 1; omega
  rw [e1]
  rfl

/-- A float of 2 ^ 53 or more is whole; so is one whose digits end above the point. -/
theorem whole_of_big {b : Nat} {v : Int} (h : Fin b v) (hbig : 2 ^ 63 * one ≤ v ∨ v ≤ -(2 ^ 63 * one)) : (v / one) * one = v := by
  obtain ⟨s, m, e, h1, h2, h3, h4, h5⟩ := h
  have hB := B_eq
  by_cases he : e < 0
  · exfalso
    have hM : m * 2 ^ (e + 1074).toNat < 2 ^ (53 + B) := by
      have : m * 2 ^ (e + 1074).toNat < 2 ^ 53 * 2 ^ (e + 1074).toNat := Nat.mul_lt_mul_of_pos_right h2 (Nat.two_pow_pos _)
      rw [← Nat.pow_add] at this
      exact Nat.lt_of_lt_of_le this (Nat.pow_le_pow_right (by decide) (by omega))
    have h63 : (2 : Nat) ^ (53 + B) ≤ 2 ^ (63 + B) := Nat.pow_le_pow_right (by decide) (by omega)
    rw [one_two 63] at hbig
    rw [val_nat] at h5
    generalize (2 : Nat) ^ (53 + B) = p at *
    generalize (2 : Nat) ^ (63 + B) = q at *
    generalize m * 2 ^ (e + 1074).toNat = M at *
    cases s <;> simp at h5 <;> omega
  · have e1 : m * 2 ^ (e + 1074).toNat = (m * 2 ^ e.toNat) * D := by
      rw [D_eq, Nat.mul_assoc, ← Nat.pow_add]; congr 2; omega
    have hD := D_pos
    have hne : one ≠ 0 := by have := one_pos; omega
    have : ∃ q : Int, v = q * one := by
      rw [val_nat, e1] at h5
      rw [one_eq]
      cases s
      · exact ⟨((m * 2 ^ e.toNat : Nat) : Int), by rw [← h5]; push_cast; simp⟩
      · exact ⟨-((m * 2 ^ e.toNat : Nat) : Int), by rw [← h5, Int.neg_mul]; push_cast; simp⟩
    obtain ⟨q, rfl⟩ := this
    rw [Int.mul_ediv_cancel _ hne]

/-- The cut number as a float: exact. -/
theorem trunc_fin {b : Nat} {v : Int} (h : Fin b v) : Fin (F.nearest (decide (Int.tdiv v one < 0)) (Int.tdiv v one).natAbs 0) (Int.tdiv v one * one) := by
  obtain ⟨s, m, e, h1, h2, h3, h4, h5⟩ := h
  have hw := (whole_nat m e h3).1
  have hn : (Int.tdiv v one).natAbs = (m * 2 ^ e.toNat) / 2 ^ (-e).toNat := by
    rw [← hw, ← h5, val_nat, one_eq]
    cases s
    · simp only [Bool.false_eq_true, if_false]; rw [← Int.ofNat_tdiv]; exact Int.natAbs_natCast _
    · simp only [if_true, Int.neg_tdiv, Int.natAbs_neg]; rw [← Int.ofNat_tdiv]; exact Int.natAbs_natCast _
  have hval : (if decide (Int.tdiv v one < 0) then -(((Int.tdiv v one).natAbs : Int) * one) else ((Int.tdiv v one).natAbs : Int) * one) = Int.tdiv v one * one := by
    generalize Int.tdiv v one = n
    by_cases hneg : n < 0
    · simp only [hneg, decide_true, if_true]
      have : (n.natAbs : Int) = -n := by omega
      rw [this, Int.neg_mul, Int.neg_neg]
    · simp only [hneg, decide_false, Bool.false_eq_true, if_false]
      have : (n.natAbs : Int) = n := by omega
      rw [this]
  rw [← hval]
  by_cases he : e < 0
  · refine whole_of_word _ _ (Int.tdiv v one).natAbs 0 (by simp) ?_ (by omega)
    rw [hn]
    have : e.toNat = 0 := by omega
    rw [this, Nat.pow_zero, Nat.mul_one]
    exact Nat.lt_of_le_of_lt (Nat.div_le_self _ _) h2
  · refine whole_of_word _ _ m e.toNat ?_ h2 (by omega)
    rw [hn]
    have : (-e).toNat = 0 := by omega
    rw [this, Nat.pow_zero, Nat.div_one]

/-- One less than a small whole number: exact. -/
theorem sub_one {t : Nat} {n : Int} (h : Fin t (n * one)) (h0 : n ≤ 0) (h1 : -(2 ^ 52) ≤ n) : ∃ r, F.sub t bOne = some r ∧ Fin r ((n - 1) * one) := by
  obtain ⟨s, m, e, g1, g2, g3, g4, g5⟩ := h
  have hB := B_eq
  have r1 : F.read bOne = .number false (2 ^ 52) (-52) := by decide +kernel
  unfold Format.sub
  rw [g1, r1]
  simp only [Datum.opposite, Bool.not_false, Datum.sum, Option.map_some]
  refine ⟨_, rfl, ?_⟩
  generalize hb : min e (-52) = base
  generalize htot : signed s m (e - base).toNat + signed true (2 ^ 52) (-52 - base).toNat = tot
  -- the sum, as a multiple of 2 ^ -1074
  have hscale : tot * 2 ^ (base + 1074).toNat = (n - 1) * one := by
    rw [← htot, Int.add_mul, ← signed_scale, ← signed_scale]
    have e1 : (e - base).toNat + (base + 1074).toNat = (e + 1074).toNat := by omega
    obtain ⟨c, hc⟩ : ∃ c : Nat, c = 1022 := ⟨_, rfl⟩
    have e2 : (-52 - base).toNat + (base + 1074).toNat = c := by omega
    rw [e1, e2]
    have e3 : signed s m (e + 1074).toNat = n * one := g5
    rw [e3, Int.sub_mul, Int.one_mul]
    have e4 : signed true (2 ^ 52) c = -one := by
      rw [signed_eq, ← Nat.pow_add]
      have := one_two 0
      have e5 : 52 + c = 0 + B := by omega
      rw [e5]
      simp only [if_true]
      rw [← this]; simp
    rw [e4]; omega
  have hone : one = 2 ^ (-base).toNat * 2 ^ (base + 1074).toNat := by
    rw [one_eq, D_eq, ← Int.pow_add]
    have : (-base).toNat + (base + 1074).toNat = B := by omega
    rw [this]; push_cast; rfl
  have htot2 : tot = (n - 1) * 2 ^ (-base).toNat := by
    rw [hone, ← Int.mul_assoc] at hscale
    have hp : (2 : Int) ^ (base + 1074).toNat ≠ 0 := by have : (0 : Int) < 2 ^ (base + 1074).toNat := Int.pow_pos (by decide); omega
    exact Int.eq_of_mul_eq_mul_right hp hscale
  have hneg : tot < 0 := by
    rw [htot2]
    exact Int.mul_neg_of_neg_of_pos (by omega) (Int.pow_pos (by decide))
  have hnat : tot.natAbs = (n - 1).natAbs * 2 ^ (-base).toNat := by
    rw [htot2, Int.natAbs_mul, Int.natAbs_pow]; rfl
  have hlt : (n - 1).natAbs < 2 ^ 53 := by omega
  have hpos : 0 < (n - 1).natAbs := by omega
  have hl52 : (n - 1).natAbs.log2 < 53 := (Nat.log2_lt (by omega)).2 hlt
  have hif : (if tot = 0 then s && true else decide (tot < 0)) = true := by
    rw [if_neg (by omega)]; simpa using hneg
  obtain ⟨k, k1, k2, k3⟩ := read_nearest true (n - 1).natAbs (-base).toNat base hpos hlt (by omega) (by omega)
  refine ⟨true, _, _, ?_, k3, k2, by omega, ?_⟩
  · show F.read (F.nearest _ _ _) = _
    rw [hnat]
    first
      | (rw [hif]; exact k1)
      | (simp only [htot] at *; rw [hif]; exact k1)
  · rw [val_scale _ _ _ _ k2]
    have e6 : base + (-base).toNat = 0 := by omega
    rw [e6, val_whole]
    simp only [if_true]
    have : ((n - 1).natAbs : Int) = -(n - 1) := by omega
    rw [this, Int.neg_mul, Int.neg_neg]

/-- The reference's floor: what it answers. 'n' is the number cut towards zero. -/
def sfloor (b : Nat) : Nat :=
  if (F.order b b != some .eq) || F.order b 0 == some .eq || (F.order b b63 == some .gt || F.order b b63 == some .eq) || (F.order b n63 == some .lt || F.order b n63 == some .eq) then b
  else
    let t := F.nearest (decide ((floatToIntVal .f64 b .i64).getD 0 < 0)) ((floatToIntVal .f64 b .i64).getD 0).natAbs 0
    if F.order t b == some .gt then (F.sub t bOne).getD 0 else t

theorem fin_zero : Fin 0 0 := ⟨false, 0, -1074, by decide +kernel, by decide, by decide, by decide, by rw [val_nat]; simp⟩

theorem toInt_fin {b : Nat} {v : Int} (h : Fin b v) (h1 : -(2 ^ 63 * one) < v) (h2 : v < 2 ^ 63 * one) : floatToIntVal .f64 b .i64 = some (Int.tdiv v one) ∧ -(2 ^ 63) < Int.tdiv v one ∧ Int.tdiv v one < 2 ^ 63 := by
  have hpos := one_pos
  have hb1 : Int.tdiv v one < 2 ^ 63 := by
    by_cases hv : 0 ≤ v
    · rw [Int.tdiv_eq_ediv_of_nonneg hv]; exact Int.ediv_lt_of_lt_mul hpos h2
    · have : Int.tdiv v one ≤ 0 := by
        have := Int.tdiv_nonneg (a := -v) (b := one) (by omega) (by omega)
        rw [Int.neg_tdiv] at this; omega
      have h3 : (0 : Int) < 2 ^ 63 := by decide
      omega
  have hb2 : -(2 ^ 63) < Int.tdiv v one := by
    by_cases hv : 0 ≤ v
    · have : 0 ≤ Int.tdiv v one := Int.tdiv_nonneg hv (by omega)
      have h3 : (0 : Int) < 2 ^ 63 := by decide
      omega
    · have e1 : Int.tdiv (-v) one < 2 ^ 63 := by
        rw [Int.tdiv_eq_ediv_of_nonneg (by omega)]; exact Int.ediv_lt_of_lt_mul hpos (by omega)
      rw [Int.neg_tdiv] at e1; omega
  refine ⟨?_, hb2, hb1⟩
  obtain ⟨s, m, e, g1, g2, g3, g4, g5⟩ := h
  unfold floatToIntVal
  have : FloatKind.f64.decode b = .number s m e := g1
  rw [this, toInt_zero s m e g3, g5]
  simp only
  rw [if_pos]
  constructor
  · show -(2 ^ 63) ≤ _; omega
  · show _ ≤ 2 ^ 63 - 1; omega

theorem sfloor_fin {b : Nat} {v : Int} (h : Fin b v) : Fin (sfloor b) ((v / one) * one) := by
  have hpos := one_pos
  have hne : one ≠ 0 := by omega
  have o1 := fin_order h h
  have o2 := fin_order h fin_zero
  have o3 := fin_order h fin_b63
  have o4 := fin_order h fin_n63
  unfold sfloor
  rw [o1, o2, o3, o4, cmp_eq]
  simp only [bne_self_eq_false, Bool.false_or]
  by_cases hc : v = 0 ∨ 2 ^ 63 * one ≤ v ∨ v ≤ -(2 ^ 63 * one)
  · rw [if_pos]
    · rcases hc with hc | hc
      · subst hc; simpa using h
      · rw [whole_of_big h hc]; exact h
    · rcases hc with hc | hc | hc
      · subst hc; simp
      · rcases Int.lt_or_eq_of_le hc with hc | hc
        · rw [cmp_gt hc]; simp
        · rw [← hc]; simp
      · rcases Int.lt_or_eq_of_le hc with hc | hc
        · rw [cmp_lt hc]; simp
        · rw [hc]; simp
  · have c1 : v ≠ 0 := fun h => hc (.inl h)
    have c2 : v < 2 ^ 63 * one := by
      rcases Int.lt_or_le v (2 ^ 63 * one) with h | h
      · exact h
      · exact absurd (.inr (.inl h)) hc
    have c3 : -(2 ^ 63 * one) < v := by
      rcases Int.lt_or_le (-(2 ^ 63 * one)) v with h | h
      · exact h
      · exact absurd (.inr (.inr h)) hc
    rw [if_neg]
    · obtain ⟨t1, t2, t3⟩ := toInt_fin h c3 c2
      rw [t1]
      simp only [Option.getD_some]
      have ht := trunc_fin h
      generalize hn : Int.tdiv v one = n at *
      have o5 := fin_order ht h
      rw [o5]
      have hdm := Int.mul_tdiv_add_tmod v one
      rw [hn, Int.mul_comm] at hdm
      by_cases hg : v < n * one
      · rw [cmp_gt hg]
        simp only [beq_self_eq_true, if_true]
        have hvneg : v < 0 := by
          rcases Int.lt_or_le v 0 with h | h
          · exact h
          · have := Int.tmod_nonneg one h; omega
        have hmod : -one < Int.tmod v one := by
          have := Int.tmod_lt_of_pos (-v) hpos
          rw [Int.neg_tmod] at this; omega
        have hn0 : n ≤ 0 := by
          have := Int.tdiv_nonneg (a := -v) (b := one) (by omega) (by omega)
          rw [Int.neg_tdiv, hn] at this; omega
        have hfl : v / one = n - 1 := by
          have e1 : v = (one + Int.tmod v one) + (n - 1) * one := by rw [Int.sub_mul, Int.one_mul]; omega
          rw [e1, Int.add_mul_ediv_right _ _ hne, Int.ediv_eq_zero_of_lt (by omega) (by omega), Int.zero_add]
        rw [hfl]
        -- the number is small: it has a rest
        have hsmall : -(2 ^ 52) ≤ n := by
          obtain ⟨s, m, e, g1, g2, g3, g4, g5⟩ := h
          have hw := (whole_nat m e g3).1
          have he : e < 0 := by
            rcases Int.lt_or_le e 0 with h | h
            · exact h
            · exfalso
              have e1 : m * 2 ^ (e + 1074).toNat = (m * 2 ^ e.toNat) * D := by
                have hB := B_eq
                rw [D_eq, Nat.mul_assoc, ← Nat.pow_add]; congr 2; omega
              have hz : Int.tmod v one = 0 := by
                rw [← g5, val_nat, e1, one_eq]
                cases s
                · simp only [Bool.false_eq_true, if_false]
                  rw [Int.natCast_mul]; exact Int.mul_tmod_left _ _
                · simp only [if_true, Int.neg_tmod]
                  rw [Int.natCast_mul, Int.mul_tmod_left]; rfl
              omega
          have hnn : n.natAbs = (m * 2 ^ e.toNat) / 2 ^ (-e).toNat := by
            rw [← hn, ← hw, ← g5, val_nat, one_eq]
            cases s
            · simp only [Bool.false_eq_true, if_false]; rw [← Int.ofNat_tdiv]; exact Int.natAbs_natCast _
            · simp only [if_true, Int.neg_tdiv, Int.natAbs_neg]; rw [← Int.ofNat_tdiv]; exact Int.natAbs_natCast _
          have e0 : e.toNat = 0 := by omega
          rw [e0, Nat.pow_zero, Nat.mul_one] at hnn
          have h2 : m / 2 ^ (-e).toNat ≤ m / 2 := by
            have : 2 ≤ 2 ^ (-e).toNat := by
              have := Nat.pow_le_pow_right (n := 2) (by decide) (show 1 ≤ (-e).toNat by omega)
              simpa using this
            exact Nat.div_le_div_left this (by decide)
          omega
        obtain ⟨r, hr, hfin⟩ := sub_one ht hn0 hsmall
        rw [hr]
        exact hfin
      · have hle : n * one ≤ v := by omega
        have hnotgt : (some (compare (n * one) v) == some Ordering.gt) = false := by
          rcases Int.lt_or_eq_of_le hle with h | h
          · rw [cmp_lt h]; rfl
          · rw [h, cmp_eq]; rfl
        rw [hnotgt]
        simp only [Bool.false_eq_true, if_false]
        have hfl : v / one = n := by
          have hmod : Int.tmod v one < one := Int.tmod_lt_of_pos v hpos
          have e1 : v = Int.tmod v one + n * one := by omega
          rw [e1, Int.add_mul_ediv_right _ _ hne, Int.ediv_eq_zero_of_lt (by omega) (by omega), Int.zero_add]
        rw [hfl]
        exact ht
    · simp only [Bool.or_eq_true, not_or, Bool.not_eq_true]
      rcases Int.lt_or_lt_of_ne c1 with h0 | h0
      · rw [cmp_lt h0, cmp_lt c2, cmp_gt c3]; decide
      · rw [cmp_gt h0, cmp_lt c2, cmp_gt c3]; decide

theorem order_nan {b : Nat} {s : Bool} {t : Nat} (h : F.read b = .nan s t) (c : Nat) : F.order b c = none := by
  unfold Format.order
  rw [h]
  cases F.read c <;> rfl
theorem order_nan' {b : Nat} {s : Bool} {t : Nat} (h : F.read b = .nan s t) (c : Nat) : F.order c b = none := by
  unfold Format.order
  rw [h]
  cases F.read c <;> rfl
theorem order_inf_fin {b c : Nat} {s : Bool} {v : Int} (h : F.read b = .infinity s) (hc : Fin c v) : F.order b c = some (if s then .lt else .gt) := by
  obtain ⟨t, m, e, g1, _⟩ := hc
  unfold Format.order
  rw [h, g1]; rfl
theorem order_inf_self {b : Nat} {s : Bool} (h : F.read b = .infinity s) : F.order b b = some .eq := by
  unfold Format.order
  rw [h]
  cases s <;> rfl
theorem sfloor_inf {b : Nat} {s : Bool} (h : F.read b = .infinity s) : sfloor b = b := by
  unfold sfloor
  rw [order_inf_self h, order_inf_fin h fin_zero, order_inf_fin h fin_b63, order_inf_fin h fin_n63]
  cases s <;> rfl
theorem order_self (b : Nat) : (∃ s t, F.read b = .nan s t) ∧ F.order b b = none ∨ F.order b b = some .eq := by
  rcases cases_fin b with ⟨v, h⟩ | ⟨s, h⟩ | ⟨s, t, h⟩
  · right; rw [fin_order h h, cmp_eq]
  · right; exact order_inf_self h
  · left; exact ⟨⟨s, t, h⟩, order_nan h b⟩

/-- Whole by the library's floor just where it is whole by the reference's. -/
theorem whole_agree {b : Nat} (hn : F.order b b = some .eq) : F.order b (ifloor b) = F.order b (sfloor b) := by
  rcases cases_fin b with ⟨v, h⟩ | ⟨s, h⟩ | ⟨s, t, h⟩
  · rw [fin_order h (ifloor_fin h), fin_order h (sfloor_fin h)]
  · rw [ifloor_inf h, sfloor_inf h, order_inf_self h]
  · rw [order_nan h] at hn; cases hn

theorem toInt_in {b : Nat} (h1 : F.order b n63 = some .gt ∨ F.order b n63 = some .eq) (h2 : F.order b b63 = some .lt) : ∃ n, floatToIntVal .f64 b .i64 = some n ∧ -(2 ^ 63) ≤ n ∧ n < 2 ^ 63 := by
  rcases cases_fin b with ⟨v, h⟩ | ⟨s, h⟩ | ⟨s, t, h⟩
  · rw [fin_order h fin_n63] at h1
    rw [fin_order h fin_b63] at h2
    have hv2 : v < 2 ^ 63 * one := by
      rcases cmp_cases v (2 ^ 63 * one) with ⟨h, _⟩ | ⟨_, h⟩ | ⟨_, h⟩
      · exact h
      · rw [h] at h2; cases h2
      · rw [h] at h2; cases h2
    rcases cmp_cases v (-(2 ^ 63 * one)) with ⟨_, g⟩ | ⟨g, _⟩ | ⟨g, _⟩
    · rw [g] at h1; rcases h1 with h1 | h1 <;> cases h1
    · obtain ⟨s, m, e, g1, g2, g3, g4, g5⟩ := h
      have hne : one ≠ 0 := by have := one_pos; omega
      have e1 : Int.tdiv v one = -(2 ^ 63) := by
        rw [g, Int.neg_tdiv, Int.mul_tdiv_cancel _ hne]
      refine ⟨-(2 ^ 63), ?_, by omega, by omega⟩
      unfold floatToIntVal
      have : FloatKind.f64.decode b = .number s m e := g1
      rw [this, toInt_zero s m e g3, g5, e1]
      rfl
    · obtain ⟨t1, t2, t3⟩ := toInt_fin h g hv2
      exact ⟨_, t1, by omega, t3⟩
  · rw [order_inf_fin h fin_n63] at h1
    rw [order_inf_fin h fin_b63] at h2
    cases s <;> simp at h1 h2
  · rw [order_nan h] at h2; cases h2

/-- One over a zero is no NaN. -/
theorem inv_zero {b : Nat} (h : F.order b 0 = some .eq) : ∃ r, F.div bOne b = some r := by
  have r1 : F.read bOne = .number false (2 ^ 52) (-52) := by decide +kernel
  have r0 : F.read 0 = .number false 0 (-1074) := by decide +kernel
  rcases read_cases b with ⟨s, m, e, h1, h2, h3, h4, h5⟩ | ⟨s, h1⟩ | ⟨s, t, h1⟩
  · have hf : Fin b (val (.number s m e)) := ⟨s, m, e, h1, h2, h3, h5, rfl⟩
    rw [fin_order hf fin_zero] at h
    unfold Format.div
    rw [r1, h1]
    simp only [Datum.quotient]
    by_cases hm : m = 0
    · rw [if_pos hm, if_neg (by decide)]; exact ⟨_, rfl⟩
    · rw [if_neg hm]; exact ⟨_, rfl⟩
  · rw [order_inf_fin h1 fin_zero] at h; cases s <;> simp at h
  · rw [order_nan h1] at h; cases h

end Go.Proofs.Ytcpjplkbmflglaa.Flt
