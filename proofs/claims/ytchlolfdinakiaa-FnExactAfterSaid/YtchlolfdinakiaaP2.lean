/- Keys of a table: canonical keys; sameness of two of them. -/
import Derived.Test.YtchlolfdinakiaaP0
namespace Go.Proofs.Ytchlolfdinakiaa
open Go.RowKit
attribute [local go_sem] run_store_float

/-- A key as a table holds it. -/
def canon (k n : Int) (f : Nat) (s : ByteArray) (r : Int) : Bool := (key k n f s r).c == 0 && (key k n f s r).k == k
/-- Go's == on two values. -/
def veq (k n : Int) (f : Nat) (s : ByteArray) (r : Int) (k' n' : Int) (f' : Nat) (s' : ByteArray) (r' : Int) : Bool :=
  k == k' && n == n' && FloatKind.f64.format.order f f' == some .eq && decide (s.toList = s'.toList) && r == r'

theorem canon_spec {k n : Int} {f : Nat} {s : ByteArray} {r : Int} (h : canon k n f s r = true) : vOk k n f s r = true ∧ k ≠ 0 ∧ (k = 3 → okf f = true ∧ keyInt (Flt.sfloor f) f = false) := by
  unfold canon key keyOf at h
  split at h
  · simp [errVd] at h
  · rename_i hv
    split at h
    · simp [errVd] at h
    · rename_i h0
      simp only [not_or, not_and, Bool.not_eq_false] at h0
      split at h
      · rename_i h1
        simp [intVd] at h
        omega
      · rename_i h1
        refine ⟨by simpa using hv, h0.1, fun hk => ⟨h0.2 hk, ?_⟩⟩
        simp only [not_and, Bool.not_eq_true] at h1
        exact h1 hk
theorem canon_key {k n : Int} {f : Nat} {s : ByteArray} {r : Int} (h : canon k n f s r = true) : key k n f s r = ⟨0, k, n, f, s, r⟩ := by
  obtain ⟨h1, h2, h3⟩ := canon_spec h
  unfold key keyOf
  rw [if_neg (by simp [h1]), if_neg (by
    simp only [not_or, not_and, Bool.not_eq_false]
    exact ⟨h2, fun hk => (h3 hk).1⟩), if_neg (by
    simp only [not_and, Bool.not_eq_true]
    exact fun hk => (h3 hk).2)]

theorem keyok_any (k n r : Int) (f : Nat) (s : ByteArray) (w : World) :
    Calls Try.prog 66 #[.agg #[.int .i64 k, .int .i64 n, .float .f64 f, .string s, .int .i64 r]] w fun e w' => e = .returned (.bool (canon k n f s r)) ∧ Below w.heap.size w w' := by
  unfold canon
  go_enter Try.func66, Try.ntmps66
  go_wp2_with fail
  refine (skey_any _ _ _ _ _ _).mono ?_
  rintro e w1 ⟨rfl, hb1⟩
  obtain ⟨hc1, hf1⟩ := bcell hb1
  have hq1 := hb1.size
  try simp only [dN_size, dN_cell, dN_frozen] at hc1 hf1 hq1
  try simp only [World.size_alloc] at hq1
  try simp only [World.size_setCell] at hq1
  have hz1_0 : w.heap.size < w1.heap.size := by omega
  have HB1 : Below w.heap.size w w1 := Below.trans (by (repeat (first | with_reducible assumption | with_reducible exact Below.refl _ _ | with_reducible refine Below.drew ?_ | with_reducible refine bl_drewN _ ?_ | ((with_reducible refine bl_alloc ?_ _ ?_); · (first | omega | (simp; done) | (simp; omega))) | ((with_reducible refine bl_set ?_ _ ?_); · (first | omega | (simp; done) | (simp; omega)))))) (hb1.mono (by (try simp) <;> omega))
  clear hb1
  go_wp2
  all_goals go_ret
  all_goals refine ⟨?_, by (repeat (first | with_reducible assumption | with_reducible exact Below.refl _ _ | with_reducible refine Below.drew ?_ | with_reducible refine bl_drewN _ ?_ | ((with_reducible refine bl_alloc ?_ _ ?_); · (first | omega | (simp; done) | (simp; omega))) | ((with_reducible refine bl_set ?_ _ ?_); · (first | omega | (simp; done) | (simp; omega)))))⟩
  all_goals simp_all

theorem num_any (k n r : Int) (f : Nat) (s : ByteArray) (w : World) :
    Calls Try.prog 86 #[.agg #[.int .i64 k, .int .i64 n, .float .f64 f, .string s, .int .i64 r]] w fun e w' => e = .returned (.bool (k == 2 || k == 3)) ∧ Below w.heap.size w w' := by
  go_enter Try.func86, Try.ntmps86
  go_wp2
  all_goals go_ret
  all_goals refine ⟨?_, below_new _ _⟩
  all_goals simp_all

theorem part_float {f : Nat} (hf : okf f = true) (hk : keyInt (Flt.sfloor f) f = false) (h1 : (FloatKind.f64.format.order f 4890909195324358656 == some .gt || FloatKind.f64.format.order f 4890909195324358656 == some .eq) = false) (h2 : (FloatKind.f64.format.order f 14114281232179134464 == some .lt) = false) :
    (∃ n, floatToIntVal .f64 (Flt.sfloor f) .i64 = some n) ∧ FloatKind.f64.format.order f (Flt.sfloor f) = some .gt := by
  have h1' : (Flt.F.order f Flt.b63 == some .gt || Flt.F.order f Flt.b63 == some .eq) = false := h1
  have h2' : (Flt.F.order f Flt.n63 == some .lt) = false := h2
  have hk' : (Flt.F.order f (Flt.sfloor f) == some .eq && (Flt.F.order f Flt.n63 == some .gt || Flt.F.order f Flt.n63 == some .eq) && Flt.F.order f Flt.b63 == some .lt) = false := hk
  have hpos := Flt.one_pos
  rcases Flt.cases_fin f with ⟨v, h⟩ | ⟨s, h⟩ | ⟨s, t, h⟩
  · have hl := Flt.sfloor_fin h
    rw [Flt.fin_order h Flt.fin_b63] at h1' hk'
    rw [Flt.fin_order h Flt.fin_n63] at h2' hk'
    rw [Flt.fin_order h hl] at hk'
    have hle : v / Flt.one * Flt.one ≤ v := Int.ediv_mul_le v (by omega)
    have hb : v < 2 ^ 63 * Flt.one := by
      rcases Flt.cmp_cases v (2 ^ 63 * Flt.one) with ⟨g, _⟩ | ⟨_, g⟩ | ⟨_, g⟩
      · exact g
      · rw [g] at h1'; simp at h1'
      · rw [g] at h1'; simp at h1'
    have hn : -(2 ^ 63 * Flt.one) ≤ v := by
      rcases Flt.cmp_cases v (-(2 ^ 63 * Flt.one)) with ⟨_, g⟩ | ⟨g, _⟩ | ⟨g, _⟩
      · rw [g] at h2'; simp at h2'
      · omega
      · omega
    have hne : v / Flt.one * Flt.one < v := by
      rcases Int.lt_or_eq_of_le hle with g | g
      · exact g
      · exfalso
        rw [g, Flt.cmp_eq, Flt.cmp_lt hb] at hk'
        rcases Int.lt_or_eq_of_le hn with g2 | g2
        · rw [Flt.cmp_gt g2] at hk'; simp at hk'
        · rw [← g2, Flt.cmp_eq] at hk'; simp at hk'
    refine ⟨?_, ?_⟩
    · have hlo : -(2 ^ 63 * Flt.one) ≤ v / Flt.one * Flt.one := by
        have : -(2 ^ 63) ≤ v / Flt.one := Int.le_ediv_of_mul_le hpos (by omega)
        have := Int.mul_le_mul_of_nonneg_right this (show 0 ≤ Flt.one by omega)
        omega
      obtain ⟨n, hn', _⟩ := Flt.toInt_in (b := Flt.sfloor f) (by
        rw [Flt.fin_order hl Flt.fin_n63]
        rcases Int.lt_or_eq_of_le hlo with g | g
        · left; rw [Flt.cmp_gt g]
        · right; rw [← g, Flt.cmp_eq]) (by rw [Flt.fin_order hl Flt.fin_b63, Flt.cmp_lt (by omega)])
      exact ⟨n, hn'⟩
    · show Flt.F.order f (Flt.sfloor f) = _
      rw [Flt.fin_order h hl, Flt.cmp_gt hne]
  · rw [Flt.order_inf_fin h Flt.fin_b63] at h1'
    rw [Flt.order_inf_fin h Flt.fin_n63] at h2'
    cases s <;> simp at h1' h2'
  · have := okf_eq hf
    rw [Flt.order_nan h] at this; cases this

def PM (e : Ending) : Prop := e = .returned (.int .i64 (-1)) ∨ e = .returned (.int .i64 1)
set_option maxRecDepth 100000 in
theorem intflt_any (i : Int) (f : Nat) (hf : okf f = true) (hk : keyInt (Flt.sfloor f) f = false) (w : World) : Calls Try.prog 101 #[.int .i64 i, .float .f64 f] w fun e w' => PM e ∧ w = w' := by
  cases h1 : (FloatKind.f64.format.order f 4890909195324358656 == some .gt || FloatKind.f64.format.order f 4890909195324358656 == some .eq)
  · cases h2 : (FloatKind.f64.format.order f 14114281232179134464 == some .lt)
    · obtain ⟨⟨n, hn⟩, ho⟩ := part_float hf hk h1 h2
      have k1 := fun (W : World) => run_convert_float_int (P := Try.prog) (w := W) 23 2 .f64 .i64 (Flt.sfloor f) n (by rw [Try.underlying23]; rfl) Try.underlying2 hn
      have ho' : (FloatKind.f64.format.order f (Flt.sfloor f) == some .gt) = true := by rw [ho]; rfl
      clear hn ho hk
      have HF := Lib.hid hf
      clear hf
      go_enter Try.func101, Try.ntmps101
      go_wp2_with fail
      refine (l1floor_any _ HF.out _).mono ?_
      rintro e w1 ⟨rfl, rfl⟩
      by_cases h3 : i < n
      · go_wp2
        go_ret
        exact ⟨.inl rfl, rfl⟩
      · by_cases h4 : n < i
        · go_wp2
          go_ret
          exact ⟨.inr rfl, rfl⟩
        · go_wp2
          go_ret
          exact ⟨.inl rfl, rfl⟩
    · clear hf hk
      go_enter Try.func101, Try.ntmps101
      go_wp2
      go_ret
      exact ⟨.inr rfl, rfl⟩
  · clear hf hk
    go_enter Try.func101, Try.ntmps101
    go_wp2
    go_ret
    exact ⟨.inl rfl, rfl⟩

end Go.Proofs.Ytchlolfdinakiaa
