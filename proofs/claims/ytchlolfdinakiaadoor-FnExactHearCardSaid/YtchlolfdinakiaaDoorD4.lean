/- The program's text of a float. -/
import Derived.Test.YtchlolfdinakiaaDoorD3
import Derived.Lib.AppendIntMem
namespace Go.Proofs.YtchlolfdinakiaaDoor
open Go.RowKit
attribute [local go_sem] run_store_float unary_neg_float

def Tab (w : World) : Prop := Lib.TabBelow Tryd.prog w.heap.size w "internal/strconv.uint64pow10" .u64 Lib.pow10Tab
theorem FN_neg {f : Nat} {s : Bool} {M : Nat} (h : Flt.FN f s M) : Flt.FN (fneg f) (!s) M := h.neg
def infp (f : Nat) (sg : Int) : Bool := if sg < 0 then Flt.F.order (fneg f) Flt.bMax == some .gt else Flt.F.order f Flt.bMax == some .gt
theorem isinf_any (f : Nat) (sg : Int) (h : sg = 1 ∨ sg = -1) (w : World) : Calls Tryd.prog 54 #[.float .f64 f, .int .i64 sg] w fun e w' => e = .returned (.bool (infp f sg)) ∧ w = w' := by
  rcases h with rfl | rfl
  · exact isinf_pos f w
  · exact isinf_neg f w
theorem sgn_false (M : Nat) : Flt.sgn false M = (M : Int) := rfl
theorem sgn_true (M : Nat) : Flt.sgn true M = -(M : Int) := rfl
theorem three {m : Nat} (h : m < 2 ^ 53) (a b C : Nat) (hC : 53 + a + b ≤ C) : m * 2 ^ a * 2 ^ b < 2 ^ C := by
  refine Nat.lt_of_lt_of_le ?_ (Nat.pow_le_pow_right (by decide) hC)
  rw [Nat.pow_add, Nat.pow_add]
  exact Nat.mul_lt_mul_of_pos_right (Nat.mul_lt_mul_of_pos_right h (Nat.two_pow_pos _)) (Nat.two_pow_pos _)
theorem mulpos {m : Nat} (h : 0 < m) (a : Nat) : 0 < m * 2 ^ a := Nat.mul_pos h (Nat.two_pow_pos _)
theorem iftx_eq (s : Bool) (q k : Nat) (E : Int) (h1 : 1 ≤ q) (hE : E = (k : Int) - 1074) : (⟨(Lib.itoa (Flt.sgn s q)).toArray⟩ : ByteArray) ++ ⟨#[112]⟩ ++ ⟨(Lib.itoa E).toArray⟩ = ⟨(ftx s q k).toArray⟩ := by
  subst hE
  have e1 : (⟨#[112]⟩ : ByteArray) = ⟨[112].toArray⟩ := rfl
  have e2 : Lib.itoa (Flt.sgn s q) = sgs s ++ Lib.itoa (q : Int) := by
    cases s
    · rfl
    · rw [sgn_true, Lib.itoa_neg q h1, Lib.itoa_nonneg]; rfl
  rw [e1, e2, bcat, bcat]
  unfold ftx
  simp only [List.append_assoc]
theorem frexp_odd {s : Bool} {q k g : Nat} {x : Int} (h : FrexpIs s (q * 2 ^ k) g x) (hq : q % 2 = 1) :
    ∃ t r : Nat, x = (k : Int) - 1074 + 53 - t ∧ t ≤ 52 ∧ q * 2 ^ t < 2 ^ 53 ∧ Flt.F.mul g 4845873199050653696 = some r ∧ floatToIntVal .f64 r .i64 = some (Flt.sgn s (q * 2 ^ t)) := by
  obtain ⟨m, k', a, h1, h2, h3, h4, h5, h6, h7⟩ := h
  have hB := Flt.B_eq
  obtain ⟨P, hP⟩ : ∃ P, P = 1021 := ⟨_, rfl⟩
  rw [← hP] at h4
  rw [Nat.mul_assoc, ← Nat.pow_add] at h1
  have hle : k' ≤ k + a := (Flt.dvd_odd hq).1 (by rw [h1]; exact Nat.dvd_mul_left _ _)
  have hm : m = q * 2 ^ (k + a - k') := by
    apply Nat.eq_of_mul_eq_mul_right (Nat.two_pow_pos k')
    rw [← h1, Nat.mul_assoc, ← Nat.pow_add]; congr 2; omega
  have ht : k + a - k' ≤ 52 := by
    have : 2 ^ (k + a - k') ≤ m := by rw [hm]; exact Nat.le_mul_of_pos_left _ (by omega)
    have h8 : 2 ^ (k + a - k') < 2 ^ 53 := Nat.lt_of_le_of_lt this h3
    have := (Nat.pow_lt_pow_iff_right (a := 2) (by decide)).1 h8
    omega
  have hm0 : 0 < m := by omega
  have hlt : m * 2 ^ P * 2 ^ 53 < 2 ^ (1024 + Flt.B) := three h3 P 53 _ (by omega)
  obtain ⟨r, hr, hr2⟩ := Flt.mul_up h4 (mulpos hm0 P) Flt.bP53 53 1 Flt.read_p53 (by decide) hlt
  refine ⟨k + a - k', r, by omega, ht, by omega, hr, ?_⟩
  rw [← hm]
  rw [Nat.mul_assoc, ← Nat.pow_add] at hr2
  have hpos := Flt.one_pos
  have e1 : Flt.sgn s (m * 2 ^ (P + 53)) = Flt.sgn s m * Flt.one := by
    unfold Flt.sgn
    rw [Flt.one_eq, Flt.D_eq, show Flt.B = P + 53 by omega]
    cases s
    · simp only [Bool.false_eq_true, if_false]; push_cast; rfl
    · simp only [if_true]; rw [Int.neg_mul]; push_cast; rfl
  have h9 := hr2.fin
  rw [e1] at h9
  have hb : -(2 ^ 63) < Flt.sgn s m ∧ Flt.sgn s m < 2 ^ 63 := by
    unfold Flt.sgn; cases s <;> simp <;> omega
  have := (Flt.toInt_fin h9 (by
    have := Int.mul_lt_mul_of_pos_right hb.1 hpos
    rwa [Int.neg_mul] at this) (Int.mul_lt_mul_of_pos_right hb.2 hpos)).1
  rw [this, Int.mul_tdiv_cancel _ (by omega)]

set_option maxRecDepth 100000 in
theorem iftx_false (f : Nat) (q k : Nat) (hf : f < 2 ^ 64) (h : Flt.FN f false (q * 2 ^ k)) (hq : q % 2 = 1) (hk2 : k < 2098) (w : World) (hT : Tab w) :
    Calls Tryd.prog 28 #[.float .f64 f] w fun e w' => e = .returned (.string ⟨(ftx false q k).toArray⟩) ∧ Below w.heap.size w w' := by
  have h0 : 0 < q * 2 ^ k := Nat.mul_pos (by omega) (Nat.two_pow_pos _)
  have hok := okf_of h
  have hi1 : infp f 1 = false := Flt.not_above_max h.fin
  have hi2 : infp f (-1) = false := Flt.not_above_max (FN_neg h).fin
  have heq := order_zero_of h h0
  have hbel := Below.refl w.heap.size w
  have HH := Lib.hid h
  clear h
  go_enter Tryd.func28, Tryd.ntmps28
  go_wp2_with (first
    | (go_at_call 53; refine (isnan_any f _).mono ?_; rintro e w1 ⟨rfl, rfl⟩)
    | (go_at_call 54; refine (isinf_any f _ (by decide) _).mono ?_; rintro e w1 ⟨rfl, rfl⟩)
    | (go_at_call 56; refine (Frexp_any f false (q * 2 ^ k) HH.out h0 hf _).mono ?_; rintro e w1 ⟨⟨g, x, rfl, hfr⟩, rfl⟩; refine Hid.out ?_))
  refine Lib.hid ?_
  obtain ⟨t, r, hx, ht, hm, hr, hti⟩ := frexp_odd hfr hq
  rw [sgn_false] at hti
  have hkm := fun W => run_float_arith (P := Tryd.prog) W .mul 22 .f64 g 4845873199050653696 r hr
  have hkc := fun (W : World) => run_convert_float_int (P := Tryd.prog) (w := W) 22 2 .f64 .i64 r (((q * 2 ^ t : Nat) : Int)) (by rw [Tryd.underlying22]; rfl) Tryd.underlying2 hti
  have hx2 : wrap64 (x - 53) = x - 53 := by unfold wrap64; omega
  have hxx := Lib.hid hx
  have hx3 : -2000 ≤ x ∧ x ≤ 3000 := by omega
  clear hfr hr hti hx hok hi1 hi2 heq
  go_wp2
  go_loop [5, 4] (fun n e => ∃ i : Nat, i ≤ t ∧ n = .int .i64 (((q * 2 ^ (t - i) : Nat) : Int)) ∧ e = .int .i64 (x - 53 + i)) (fun _ e => t - (intOf e - x + 53).toNat)
  case atStart => exact ⟨0, Nat.zero_le _, by simp, by simp⟩
  case round =>
    obtain ⟨i, hi, rfl, rfl⟩ := hrel
    by_cases hit : i < t
    · have hX : q * 2 ^ (t - i) = q * 2 ^ (t - (i + 1)) * 2 := by
        rw [Nat.mul_assoc, ← Nat.pow_succ]; congr 2; omega
      generalize hYY : q * 2 ^ (t - (i + 1)) = Y at hX
      have hY : Y < 2 ^ 53 := by
        have : q * 2 ^ (t - i) ≤ q * 2 ^ t := Nat.mul_le_mul_left _ (Nat.pow_le_pow_right (by decide) (by omega))
        omega
      rw [hX]
      have HY := Lib.hid hYY
      clear hX hYY
      have r1 : Int.tmod (((Y * 2 : Nat) : Int)) 2 = 0 := by push_cast; simp
      have r2 : Int.tdiv (((Y * 2 : Nat) : Int)) 2 = ((Y : Nat) : Int) := by push_cast; simp
      go_wp2
      refine ⟨⟨i + 1, by omega, by rw [HY.out], by go_num⟩, by simp [intOf]; omega⟩
    · have hii : i = t := by omega
      subst hii
      rw [Nat.sub_self, Nat.pow_zero, Nat.mul_one]
      have hq53 : q < 2 ^ 53 := by
        have : q * 1 ≤ q * 2 ^ i := Nat.mul_le_mul_left _ (Nat.two_pow_pos _)
        omega
      have r3 : Int.tmod (((q : Nat) : Int)) 2 = 1 := by
        have : Int.tmod (q : Int) 2 = 1 := by rw [Int.tmod_eq_emod_of_nonneg (by omega)]; omega
        exact this
      have hxE : x - 53 + (i : Int) = (k : Int) - 1074 := by have := hxx.out; omega
      have hE := Lib.hid hxE
      clear hxE
      have L1 := Lib.itoa_length_le (((q : Nat) : Int)) (by omega) (by omega)
      have L2 := Lib.itoa_length_le (x - 53 + (i : Int)) (by omega) (by omega)
      go_wp2_with (first
        | (go_at_call 27; refine (Tryd.strconv_FormatInt_10 _ (by omega) (by omega) _ (Lib.TabBelow.here hT)).mono ?_; rintro e w1 ⟨rfl, kk, os, hw⟩; have hb1 : Below w.heap.size w w1 := (by rw [hw]; exact Lib.below_grow w.heap.size w (Nat.le_refl _) kk os); have hT1 := Lib.TabBelow.on hT hb1; clear hw)
        | (go_at_call 57; refine (Tryd.strconv_Itoa _ (by omega) (by omega) _ (Lib.TabBelow.here hT1)).mono ?_; rintro e w2 ⟨rfl, kk, os, hw⟩; have hb2 : Below w.heap.size w w2 := (by rw [hw]; exact hb1.trans (Lib.below_grow w.heap.size w1 hb1.size kk os)); clear hw))
      go_ret
      exact ⟨congrArg (fun x => Ending.returned (.string x)) (iftx_eq false q k _ (by omega) hE.out), hb2⟩

set_option maxRecDepth 100000 in
theorem iftx_true (f : Nat) (q k : Nat) (hf : f < 2 ^ 64) (h : Flt.FN f true (q * 2 ^ k)) (hq : q % 2 = 1) (hk2 : k < 2098) (w : World) (hT : Tab w) :
    Calls Tryd.prog 28 #[.float .f64 f] w fun e w' => e = .returned (.string ⟨(ftx true q k).toArray⟩) ∧ Below w.heap.size w w' := by
  have h0 : 0 < q * 2 ^ k := Nat.mul_pos (by omega) (Nat.two_pow_pos _)
  have hok := okf_of h
  have hi1 : infp f 1 = false := Flt.not_above_max h.fin
  have hi2 : infp f (-1) = false := Flt.not_above_max (FN_neg h).fin
  have heq := order_zero_of h h0
  have hbel := Below.refl w.heap.size w
  have HH := Lib.hid h
  clear h
  go_enter Tryd.func28, Tryd.ntmps28
  go_wp2_with (first
    | (go_at_call 53; refine (isnan_any f _).mono ?_; rintro e w1 ⟨rfl, rfl⟩)
    | (go_at_call 54; refine (isinf_any f _ (by decide) _).mono ?_; rintro e w1 ⟨rfl, rfl⟩)
    | (go_at_call 56; refine (Frexp_any f true (q * 2 ^ k) HH.out h0 hf _).mono ?_; rintro e w1 ⟨⟨g, x, rfl, hfr⟩, rfl⟩; refine Hid.out ?_))
  refine Lib.hid ?_
  obtain ⟨t, r, hx, ht, hm, hr, hti⟩ := frexp_odd hfr hq
  rw [sgn_true] at hti
  have hkm := fun W => run_float_arith (P := Tryd.prog) W .mul 22 .f64 g 4845873199050653696 r hr
  have hkc := fun (W : World) => run_convert_float_int (P := Tryd.prog) (w := W) 22 2 .f64 .i64 r (-((q * 2 ^ t : Nat) : Int)) (by rw [Tryd.underlying22]; rfl) Tryd.underlying2 hti
  have hx2 : wrap64 (x - 53) = x - 53 := by unfold wrap64; omega
  have hxx := Lib.hid hx
  have hx3 : -2000 ≤ x ∧ x ≤ 3000 := by omega
  clear hfr hr hti hx hok hi1 hi2 heq
  go_wp2
  go_loop [5, 4] (fun n e => ∃ i : Nat, i ≤ t ∧ n = .int .i64 (-((q * 2 ^ (t - i) : Nat) : Int)) ∧ e = .int .i64 (x - 53 + i)) (fun _ e => t - (intOf e - x + 53).toNat)
  case atStart => exact ⟨0, Nat.zero_le _, by simp, by simp⟩
  case round =>
    obtain ⟨i, hi, rfl, rfl⟩ := hrel
    by_cases hit : i < t
    · have hX : q * 2 ^ (t - i) = q * 2 ^ (t - (i + 1)) * 2 := by
        rw [Nat.mul_assoc, ← Nat.pow_succ]; congr 2; omega
      generalize hYY : q * 2 ^ (t - (i + 1)) = Y at hX
      have hY : Y < 2 ^ 53 := by
        have : q * 2 ^ (t - i) ≤ q * 2 ^ t := Nat.mul_le_mul_left _ (Nat.pow_le_pow_right (by decide) (by omega))
        omega
      rw [hX]
      have HY := Lib.hid hYY
      clear hX hYY
      have r1 : Int.tmod (-((Y * 2 : Nat) : Int)) 2 = 0 := by push_cast; simp
      have r2 : Int.tdiv (-((Y * 2 : Nat) : Int)) 2 = -((Y : Nat) : Int) := by push_cast; simp
      go_wp2
      refine ⟨⟨i + 1, by omega, by rw [HY.out], by go_num⟩, by simp [intOf]; omega⟩
    · have hii : i = t := by omega
      subst hii
      rw [Nat.sub_self, Nat.pow_zero, Nat.mul_one]
      have hq53 : q < 2 ^ 53 := by
        have : q * 1 ≤ q * 2 ^ i := Nat.mul_le_mul_left _ (Nat.two_pow_pos _)
        omega
      have r3 : Int.tmod (-((q : Nat) : Int)) 2 = -1 := by
        have : Int.tmod (q : Int) 2 = 1 := by rw [Int.tmod_eq_emod_of_nonneg (by omega)]; omega
        rw [Int.neg_tmod, this]
      have hxE : x - 53 + (i : Int) = (k : Int) - 1074 := by have := hxx.out; omega
      have hE := Lib.hid hxE
      clear hxE
      have L1 := Lib.itoa_length_le (-((q : Nat) : Int)) (by omega) (by omega)
      have L2 := Lib.itoa_length_le (x - 53 + (i : Int)) (by omega) (by omega)
      go_wp2_with (first
        | (go_at_call 27; refine (Tryd.strconv_FormatInt_10 _ (by omega) (by omega) _ (Lib.TabBelow.here hT)).mono ?_; rintro e w1 ⟨rfl, kk, os, hw⟩; have hb1 : Below w.heap.size w w1 := (by rw [hw]; exact Lib.below_grow w.heap.size w (Nat.le_refl _) kk os); have hT1 := Lib.TabBelow.on hT hb1; clear hw)
        | (go_at_call 57; refine (Tryd.strconv_Itoa _ (by omega) (by omega) _ (Lib.TabBelow.here hT1)).mono ?_; rintro e w2 ⟨rfl, kk, os, hw⟩; have hb2 : Below w.heap.size w w2 := (by rw [hw]; exact hb1.trans (Lib.below_grow w.heap.size w1 hb1.size kk os)); clear hw))
      go_ret
      exact ⟨congrArg (fun x => Ending.returned (.string x)) (iftx_eq true q k _ (by omega) hE.out), hb2⟩
end Go.Proofs.YtchlolfdinakiaaDoor
