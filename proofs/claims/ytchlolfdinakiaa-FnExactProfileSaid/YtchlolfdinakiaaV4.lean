/- Key: both sides come to the same plain function. -/
import Derived.Test.YtchlolfdinakiaaV3
import Derived.Laws.FloatArith
namespace Go.Proofs.Ytchlolfdinakiaa
open Go.RowKit
attribute [local go_sem] run_store_float

/-- Is it no NaN? -/
def okf (f : Nat) : Bool := FloatKind.f64.format.order f f == some .eq
theorem bne_okf (f : Nat) : (FloatKind.f64.format.order f f != some .eq) = !okf f := rfl

theorem l1nan_any (f : Nat) (w : World) : Calls Try.prog 61 #[.float .f64 f] w fun e w' => e = .returned (.bool (!okf f)) ∧ w = w' := by
  go_enter Try.func61, Try.ntmps61
  go_wp2
  go_ret
  exact ⟨rfl, rfl⟩
theorem isnan_any (f : Nat) (w : World) : Calls Try.prog 63 #[.float .f64 f] w fun e w' => e = .returned (.bool (!okf f)) ∧ w = w' := by
  go_enter Try.func63, Try.ntmps63
  go_wp2
  go_ret
  exact ⟨rfl, rfl⟩

theorem arch_floor (f : Nat) (hf : okf f = true) (w : World) : (callFunc 83 #[.float .f64 f]).run Try.prog w = .ok (.value (.float .f64 (Flt.ifloor f))) w := by
  rw [run_callFunc_extern Try.func83 (by kernel_rfl) (by kernel_rfl) (by kernel_rfl) (e := Extern.MathFloor.toIntegral "math.archFloor" .down) (by kernel_rfl)]
  have : (Extern.MathFloor.toIntegral "math.archFloor" .down #[.float .f64 f]).run Try.prog w = .ok (.float .f64 (Flt.ifloor f)) w := by
    unfold Flt.ifloor
    rcases Flt.read_cases f with ⟨s, m, e, h, _⟩ | ⟨s, h⟩ | ⟨s, t, h⟩
    · have h' : FloatKind.f64.decode f = .number s m e := h
      rw [h]
      change Sem.run Try.prog (match FloatKind.f64.decode f with
        | .nan s t => _
        | d => (Pure.pure (Value.float FloatKind.f64 (FloatKind.f64.encode (d.integral .down))) : Sem Value)) w = _
      rw [h']
      rfl
    · have h' : FloatKind.f64.decode f = .infinity s := h
      rw [h]
      change Sem.run Try.prog (match FloatKind.f64.decode f with
        | .nan s t => _
        | d => (Pure.pure (Value.float FloatKind.f64 (FloatKind.f64.encode (d.integral .down))) : Sem Value)) w = _
      rw [h']
      rfl
    · exfalso
      have := Flt.order_nan h f
      have h2 : FloatKind.f64.format.order f f = none := this
      unfold okf at hf
      rw [h2] at hf
      cases hf
  rw [this]; rfl

set_option maxRecDepth 100000 in
theorem floor_any (f : Nat) (hf : okf f = true) (w : World) : Calls Try.prog 64 #[.float .f64 f] w fun e w' => e = .returned (.float .f64 (Flt.ifloor f)) ∧ w = w' := by
  have h1 := fun W => arch_floor f hf W
  clear hf
  go_enter Try.func64, Try.ntmps64
  go_wp2
  go_ret
  exact ⟨rfl, rfl⟩

/-- The reference's floor hands back what it was given. -/
def sguard (f : Nat) : Bool := FloatKind.f64.format.order f 0 == some .eq || (FloatKind.f64.format.order f 4890909195324358656 == some .gt || FloatKind.f64.format.order f 4890909195324358656 == some .eq) || (FloatKind.f64.format.order f 14114281232179134464 == some .lt || FloatKind.f64.format.order f 14114281232179134464 == some .eq)

set_option maxRecDepth 100000 in
theorem l1floor_yes (f : Nat) (hf : okf f = true) (hg : sguard f = true) (w : World) : Calls Try.prog 62 #[.float .f64 f] w fun e w' => e = .returned (.float .f64 f) ∧ w = w' := by
  unfold sguard at hg
  by_cases h0 : (FloatKind.f64.format.order f 0 == some .eq) = true
  · clear hg
    go_enter Try.func62, Try.ntmps62
    go_wp2_with (go_at_call 61; refine (l1nan_any _ _).mono ?_; rintro e w1 ⟨rfl, rfl⟩)
    go_ret
    exact ⟨rfl, rfl⟩
  · rw [Bool.not_eq_true] at h0
    rw [h0, Bool.false_or] at hg
    by_cases h1 : (FloatKind.f64.format.order f 4890909195324358656 == some .gt || FloatKind.f64.format.order f 4890909195324358656 == some .eq) = true
    · clear hg
      go_enter Try.func62, Try.ntmps62
      go_wp2_with (go_at_call 61; refine (l1nan_any _ _).mono ?_; rintro e w1 ⟨rfl, rfl⟩)
      go_ret
      exact ⟨rfl, rfl⟩
    · rw [Bool.not_eq_true] at h1
      rw [h1, Bool.false_or] at hg
      go_enter Try.func62, Try.ntmps62
      go_wp2_with (go_at_call 61; refine (l1nan_any _ _).mono ?_; rintro e w1 ⟨rfl, rfl⟩)
      go_ret
      exact ⟨rfl, rfl⟩

theorem okf_eq {f : Nat} (hf : okf f = true) : Flt.F.order f f = some .eq := by
  unfold okf at hf
  have : FloatKind.f64.format.order f f = some .eq := by simpa using hf
  exact this

theorem sguard_no {f : Nat} (hf : okf f = true) (hg : sguard f = false) : ∃ v, Flt.Fin f v ∧ v ≠ 0 ∧ -(2 ^ 63 * Flt.one) < v ∧ v < 2 ^ 63 * Flt.one := by
  have hg' : (Flt.F.order f 0 == some .eq || (Flt.F.order f Flt.b63 == some .gt || Flt.F.order f Flt.b63 == some .eq) || (Flt.F.order f Flt.n63 == some .lt || Flt.F.order f Flt.n63 == some .eq)) = false := hg
  rcases Flt.cases_fin f with ⟨v, h⟩ | ⟨s, h⟩ | ⟨s, t, h⟩
  · refine ⟨v, h, ?_⟩
    rw [Flt.fin_order h Flt.fin_zero, Flt.fin_order h Flt.fin_b63, Flt.fin_order h Flt.fin_n63] at hg'
    refine ⟨?_, ?_, ?_⟩
    · rintro rfl; rw [Flt.cmp_eq] at hg'; simp at hg'
    · rcases Flt.cmp_cases v (-(2 ^ 63 * Flt.one)) with ⟨_, g⟩ | ⟨_, g⟩ | ⟨g, _⟩
      · rw [g] at hg'; simp at hg'
      · rw [g] at hg'; simp at hg'
      · exact g
    · rcases Flt.cmp_cases v (2 ^ 63 * Flt.one) with ⟨g, _⟩ | ⟨_, g⟩ | ⟨_, g⟩
      · exact g
      · rw [g] at hg'; simp at hg'
      · rw [g] at hg'; simp at hg'
  · rw [Flt.order_inf_fin h Flt.fin_zero, Flt.order_inf_fin h Flt.fin_b63, Flt.order_inf_fin h Flt.fin_n63] at hg'
    cases s <;> simp at hg'
  · have := okf_eq hf
    rw [Flt.order_nan h] at this; cases this

theorem sub_some {t : Nat} {v : Int} (h : Flt.Fin t v) : ∃ r, Flt.F.sub t Flt.bOne = some r := by
  obtain ⟨s, m, e, g1, _⟩ := h
  obtain ⟨s2, m2, e2, g2, _⟩ := Flt.fin_one
  unfold Ieee.Format.sub
  rw [g1, g2]
  exact ⟨_, rfl⟩

/-- The number cut towards zero, as a float. -/
def cutf (f : Nat) : Nat := floatOfInt .f64 ((floatToIntVal .f64 f .i64).getD 0)

theorem sfloor_no {f : Nat} (hf : okf f = true) (hg : sguard f = false) :
    ∃ n, floatToIntVal .f64 f .i64 = some n ∧ cutf f = floatOfInt .f64 n ∧ ∃ r, Flt.F.sub (floatOfInt .f64 n) 4607182418800017408 = some r ∧
      Flt.sfloor f = if FloatKind.f64.format.order (floatOfInt .f64 n) f == some .gt then r else floatOfInt .f64 n := by
  obtain ⟨v, h, h0, h1, h2⟩ := sguard_no hf hg
  obtain ⟨t1, _, _⟩ := Flt.toInt_fin h h1 h2
  refine ⟨_, t1, by unfold cutf; rw [t1]; rfl, ?_⟩
  have ht := Flt.trunc_fin h
  obtain ⟨r, hr⟩ := sub_some ht
  refine ⟨r, hr, ?_⟩
  unfold Flt.sfloor
  have hg' : (Flt.F.order f 0 == some .eq || (Flt.F.order f Flt.b63 == some .gt || Flt.F.order f Flt.b63 == some .eq) || (Flt.F.order f Flt.n63 == some .lt || Flt.F.order f Flt.n63 == some .eq)) = false := hg
  rw [okf_eq hf, bne_self_eq_false, Bool.false_or, hg', t1]
  simp only [Bool.false_eq_true, if_false, Option.getD_some]
  rw [hr]
  rfl

set_option maxRecDepth 100000 in
theorem l1floor_no (f : Nat) (hf : okf f = true) (hg : sguard f = false) (w : World) : Calls Try.prog 62 #[.float .f64 f] w fun e w' => e = .returned (.float .f64 (Flt.sfloor f)) ∧ w = w' := by
  obtain ⟨n, hn, _, r, hr, hs⟩ := sfloor_no hf hg
  rw [hs]
  unfold sguard at hg
  simp only [Bool.or_eq_false_iff] at hg
  obtain ⟨⟨h0, h1, h1'⟩, h2, h2'⟩ := hg
  have k1 := fun (W : World) => run_convert_float_int (P := Try.prog) (w := W) 23 2 .f64 .i64 f n (by rw [Try.underlying23]; rfl) Try.underlying2 hn
  have k2 := fun (W : World) => run_convert_int_float (P := Try.prog) (w := W) 2 23 .i64 .f64 n (by rw [Try.underlying2]; rfl) Try.underlying23
  have k3 := fun (W : World) => run_float_arith (P := Try.prog) W .sub 23 .f64 (floatOfInt .f64 n) 4607182418800017408 r hr
  clear hs hn hr
  generalize floatOfInt .f64 n = t at *
  by_cases hgt : (FloatKind.f64.format.order t f == some .gt) = true
  · go_enter Try.func62, Try.ntmps62
    go_wp2_with (go_at_call 61; refine (l1nan_any _ _).mono ?_; rintro e w1 ⟨rfl, rfl⟩)
    all_goals first | (go_ret; exact ⟨rfl, rfl⟩) | (exfalso; simp_all; done)
  · rw [Bool.not_eq_true] at hgt
    go_enter Try.func62, Try.ntmps62
    go_wp2_with (go_at_call 61; refine (l1nan_any _ _).mono ?_; rintro e w1 ⟨rfl, rfl⟩)
    all_goals first | (go_ret; exact ⟨rfl, rfl⟩) | (exfalso; simp_all; done)

theorem l1floor_any (f : Nat) (hf : okf f = true) (w : World) : Calls Try.prog 62 #[.float .f64 f] w fun e w' => e = .returned (.float .f64 (Flt.sfloor f)) ∧ w = w' := by
  cases hg : sguard f
  · exact l1floor_no f hf hg w
  · have : Flt.sfloor f = f := by
      unfold Flt.sfloor
      have hg' : (Flt.F.order f 0 == some .eq || (Flt.F.order f Flt.b63 == some .gt || Flt.F.order f Flt.b63 == some .eq) || (Flt.F.order f Flt.n63 == some .lt || Flt.F.order f Flt.n63 == some .eq)) = true := hg
      rw [okf_eq hf, bne_self_eq_false, Bool.false_or, hg']
      rfl
    rw [this]
    exact l1floor_yes f hf hg w

end Go.Proofs.Ytchlolfdinakiaa
