/- The reference's text of a float. -/
import Derived.Test.YtchlolfdinakiaaDoorD2
namespace Go.Proofs.YtchlolfdinakiaaDoor
open Go.RowKit
attribute [local go_sem] run_store_float unary_neg_float

theorem whole_no {b q k j : Nat} (h : Flt.FN b false (q * 2 ^ (k + j))) (hq : q % 2 = 1) (hlt : k + j < 1074) : (FloatKind.f64.format.order b (Flt.sfloor b) != some .eq) = true := by
  have h1 := Flt.floor_eq h
  have hB := Flt.B_eq
  rw [decide_eq_false (fun hd => by have := (Flt.dvd_odd hq).1 hd; omega)] at h1
  show (Flt.F.order b (Flt.sfloor b) != some .eq) = true
  rw [bne, h1]; rfl
theorem whole_yes {b q k j : Nat} (h : Flt.FN b false (q * 2 ^ (k + j))) (hq : q % 2 = 1) (hlt : 1074 ≤ k + j) : (FloatKind.f64.format.order b (Flt.sfloor b) != some .eq) = false := by
  have h1 := Flt.floor_eq h
  have hB := Flt.B_eq
  rw [decide_eq_true ((Flt.dvd_odd hq).2 (by omega))] at h1
  show (Flt.F.order b (Flt.sfloor b) != some .eq) = false
  rw [bne, h1]; rfl
theorem whole_no' {b q n : Nat} (h : Flt.FN b false (q * 2 ^ n)) (hq : q % 2 = 1) (hlt : n < 1074) : (FloatKind.f64.format.order b (Flt.sfloor b) == some .eq) = false := by
  have h1 := Flt.floor_eq h
  have hB := Flt.B_eq
  rw [decide_eq_false (fun hd => by have := (Flt.dvd_odd hq).1 hd; omega)] at h1
  exact h1
theorem whole_yes' {b q n : Nat} (h : Flt.FN b false (q * 2 ^ n)) (hq : q % 2 = 1) (hlt : 1074 ≤ n) : (FloatKind.f64.format.order b (Flt.sfloor b) == some .eq) = true := by
  have h1 := Flt.floor_eq h
  have hB := Flt.B_eq
  rw [decide_eq_true ((Flt.dvd_odd hq).2 (by omega))] at h1
  exact h1
theorem dbl {b q k j : Nat} (h : Flt.FN b false (q * 2 ^ (k + j))) (hq : q % 2 = 1) (hlt : k + j < 1074) : ∃ r, Flt.F.mul b 4611686018427387904 = some r ∧ Flt.FN r false (q * 2 ^ (k + (j + 1))) := by
  have hB := Flt.B_eq
  have h0 : 0 < q * 2 ^ (k + j) := Nat.mul_pos (by omega) (Nat.two_pow_pos _)
  obtain ⟨r, h1, h2⟩ := Flt.mul_two h h0 (Flt.small_of_part h (fun hd => by have := (Flt.dvd_odd hq).1 hd; omega))
  refine ⟨r, h1, ?_⟩
  rw [Nat.mul_assoc, ← Nat.pow_succ] at h2
  exact h2
theorem hlf {b q n : Nat} (h : Flt.FN b false (q * 2 ^ (1074 + n))) (hq : q % 2 = 1) : ∃ r, Flt.F.mul b 4602678819172646912 = some r ∧ Flt.FN r false (q * 2 ^ (1074 + n - 1)) := by
  have e1 : 1074 + n = (1074 + n - 1) + 1 := by omega
  rw [e1, Nat.pow_succ, ← Nat.mul_assoc] at h
  exact Flt.mul_half h (Nat.mul_pos (by omega) (Nat.two_pow_pos _))
theorem to_odd {b q : Nat} (h : Flt.FN b false (q * 2 ^ 1074)) (hq : q < 2 ^ 53) : floatToIntVal .f64 b .i64 = some (q : Int) := by
  have hB := Flt.B_eq
  have hpos := Flt.one_pos
  have e1 : Flt.sgn false (q * 2 ^ 1074) = (q : Int) * Flt.one := by
    unfold Flt.sgn
    rw [Flt.one_eq, Flt.D_eq, ← hB]
    simp
  have h2 := h.fin
  rw [e1] at h2
  have := (Flt.toInt_fin h2 (by
    have : (0 : Int) ≤ q * Flt.one := Int.mul_nonneg (by omega) (by omega)
    have : (0 : Int) < 2 ^ 63 * Flt.one := Int.mul_pos (by decide) hpos
    omega) (Int.mul_lt_mul_of_pos_right (by omega) hpos)).1
  rw [this, Int.mul_tdiv_cancel _ (by omega)]

def sgs (s : Bool) : List UInt8 := if s then [45] else []
def ftx (s : Bool) (q k : Nat) : List UInt8 := sgs s ++ (Lib.itoa (q : Int) ++ ([112] ++ Lib.itoa ((k : Int) - 1074)))

theorem ftx_eq (s : Bool) (q k : Nat) (E : Int) (hE : E = (k : Int) - 1074) : (⟨(sgs s).toArray⟩ : ByteArray) ++ ⟨(Lib.itoa (q : Int)).toArray⟩ ++ ⟨#[112]⟩ ++ ⟨(Lib.itoa E).toArray⟩ = ⟨(ftx s q k).toArray⟩ := by
  subst hE
  have e1 : (⟨#[112]⟩ : ByteArray) = ⟨[112].toArray⟩ := rfl
  rw [e1, bcat, bcat, bcat]
  unfold ftx
  simp only [List.append_assoc]

set_option maxRecDepth 100000 in
theorem sftx_any (f : Nat) (s : Bool) (q k : Nat) (h : Flt.FN f s (q * 2 ^ k)) (hq : q % 2 = 1) (hk2 : k < 2098) (w : World) :
    Calls Tryd.prog 25 #[.float .f64 f] w fun e w' => e = .returned (.string ⟨(ftx s q k).toArray⟩) ∧ Below w.heap.size w w' := by
  have h0 : 0 < q * 2 ^ k := Nat.mul_pos (by omega) (Nat.two_pow_pos _)
  have hok := okf_of h
  have hlt : (FloatKind.f64.format.order f 0 == some .lt) = s := by
    have := (Flt.order_zero h).2
    have hne : q * 2 ^ k ≠ 0 := by omega
    rw [show (FloatKind.f64.format.order f 0 == some .lt) = _ from this, decide_eq_true hne, Bool.and_true]
  have heq := order_zero_of h h0
  have hbel := Below.refl w.heap.size w
  cases s
  · have HF := h
    obtain ⟨r, hr, hne⟩ := Flt.half_ne HF h0
    have hk1 := fun W => run_float_arith (P := Tryd.prog) W .mul 22 .f64 f 4602678819172646912 r hr
    have hn : (FloatKind.f64.format.order r f == some .eq) = false := beq_eq_false_iff_ne.2 hne
    clear h hr hne
    go_enter Tryd.func25, Tryd.ntmps25
    go_wp2_with (go_at_call 49; refine (l1nan_any f _).mono ?_; rintro e w1 ⟨rfl, rfl⟩)
    clear hok hlt heq hn
    go_loop [0, 4] (fun g e => ∃ (j b : Nat), e = .int .i64 (j : Int) ∧ g = .float .f64 b ∧ Hid (Flt.FN b false (q * 2 ^ (k + j)) ∧ (j = 0 ∨ k + j ≤ 1074))) (fun _ e => 1075 - (intOf e).toNat)
    case atStart => exact ⟨0, _, rfl, rfl, Lib.hid ⟨HF, .inl rfl⟩⟩
    case round =>
      obtain ⟨j, b, rfl, rfl, HL⟩ := hrel
      have hok := okf_of HL.out.1
      by_cases hlt : k + j < 1074
      · obtain ⟨r, hr, hr2⟩ := dbl HL.out.1 hq hlt
        have hord := whole_no HL.out.1 hq hlt
        have hk := fun W => run_float_arith (P := Tryd.prog) W .mul 22 .f64 b 4611686018427387904 r hr
        have HR := Lib.hid hr2
        clear hr2 hr
        go_wp2_with (go_at_call 50; refine (l1floor_any b hok _).mono ?_; rintro e w1 ⟨rfl, rfl⟩)
        exact ⟨⟨j + 1, r, by go_num, rfl, Lib.hid ⟨HR.out, .inr (by omega)⟩⟩, by simp [intOf]; omega⟩
      · have hord := whole_yes HL.out.1 hq (by omega)
        have hj : j ≤ 1074 := by have := HL.out.2; omega
        have hwj : wrap64 (-(j : Int)) = -(j : Int) := by unfold wrap64; omega
        go_wp2_with (go_at_call 50; refine (l1floor_any b hok _).mono ?_; rintro e w1 ⟨rfl, rfl⟩)
        have HF2 : Flt.FN b false (q * 2 ^ (1074 + (k + j - 1074 - 0))) := by
          have e1 : 1074 + (k + j - 1074 - 0) = k + j := by omega
          rw [e1]; exact HL.out.1
        clear hwj hord hok HF
        go_loop [0, 4] (fun g e => ∃ (i b : Nat), i ≤ k + j - 1074 ∧ e = .int .i64 (-(j : Int) + i) ∧ g = .float .f64 b ∧ Hid (Flt.FN b false (q * 2 ^ (1074 + (k + j - 1074 - i))))) (fun _ e => k + j - 1074 - (intOf e + j).toNat)
        case atStart => exact ⟨0, _, Nat.zero_le _, by go_num, rfl, Lib.hid HF2⟩
        case round =>
          obtain ⟨i, c, hi, rfl, rfl, HC⟩ := hrel
          obtain ⟨r, hr, hr2⟩ := hlf HC.out hq
          have hokr := okf_of hr2
          have hk := fun W => run_float_arith (P := Tryd.prog) W .mul 22 .f64 c 4602678819172646912 r hr
          by_cases hit : i < k + j - 1074
          · have hord := whole_yes' hr2 hq (by omega)
            have HR := Lib.hid hr2
            clear hr2 hr
            go_wp2_with (go_at_call 50; refine (l1floor_any r hokr _).mono ?_; rintro e w1 ⟨rfl, rfl⟩)
            refine ⟨⟨i + 1, r, by omega, by go_num, rfl, Lib.hid ?_⟩, by simp [intOf]; omega⟩
            have e1 : 1074 + (k + j - 1074 - (i + 1)) = 1074 + (k + j - 1074 - i) - 1 := by omega
            rw [e1]; exact HR.out
          · have hii : i = k + j - 1074 := by omega
            subst hii
            have hord := whole_no' hr2 hq (by omega)
            have hq53 := Flt.odd_small HC.out hq
            have hti := to_odd (b := c) (q := q) (by have := HC.out; rw [Nat.sub_self, Nat.add_zero] at this; exact this) hq53
            have hkc := fun (W : World) => run_convert_float_int (P := Tryd.prog) (w := W) 22 2 .f64 .i64 c (q : Int) (by rw [Tryd.underlying22]; rfl) Tryd.underlying2 hti
            have he : -(j : Int) + (k + j - 1074 : Nat) = (k : Int) - 1074 := by omega
            have hE : Hid (-(j : Int) + (k + j - 1074 : Nat) = (k : Int) - 1074) := Lib.hid he
            have L1 := Lib.itoa_length_le (q : Int) (by omega) (by omega)
            have L2 := Lib.itoa_length_le (-(j : Int) + (k + j - 1074 : Nat)) (by omega) (by omega)
            clear hr2 hr hk1 he
            go_wp2_with (first
              | (go_at_call 50; refine (l1floor_any r hokr _).mono ?_; rintro e w1 ⟨rfl, rfl⟩)
              | (go_at_call 24; refine (dec_any _ (by omega) (by omega) _).mono ?_; rintro e w1 ⟨rfl, hb1⟩; have HB1 := hbel.trans (hb1.mono hbel.size); clear hb1; replace hbel := HB1))
            go_ret
            exact ⟨congrArg (fun x => Ending.returned (.string x)) (ftx_eq false q k _ hE.out), HB1⟩

  · have HF : Flt.FN (fneg f) false (q * 2 ^ k) := h.neg
    have heq2 := order_zero_of HF h0
    obtain ⟨r, hr, hne⟩ := Flt.half_ne HF h0
    have hk1 := fun W => run_float_arith (P := Tryd.prog) W .mul 22 .f64 (fneg f) 4602678819172646912 r hr
    have hn : (FloatKind.f64.format.order r (fneg f) == some .eq) = false := beq_eq_false_iff_ne.2 hne
    clear h hr hne
    go_enter Tryd.func25, Tryd.ntmps25
    go_wp2_with (go_at_call 49; refine (l1nan_any f _).mono ?_; rintro e w1 ⟨rfl, rfl⟩)
    clear hok hlt heq hn heq2
    go_loop [0, 4] (fun g e => ∃ (j b : Nat), e = .int .i64 (j : Int) ∧ g = .float .f64 b ∧ Hid (Flt.FN b false (q * 2 ^ (k + j)) ∧ (j = 0 ∨ k + j ≤ 1074))) (fun _ e => 1075 - (intOf e).toNat)
    case atStart => exact ⟨0, _, rfl, rfl, Lib.hid ⟨HF, .inl rfl⟩⟩
    case round =>
      obtain ⟨j, b, rfl, rfl, HL⟩ := hrel
      have hok := okf_of HL.out.1
      by_cases hlt : k + j < 1074
      · obtain ⟨r, hr, hr2⟩ := dbl HL.out.1 hq hlt
        have hord := whole_no HL.out.1 hq hlt
        have hk := fun W => run_float_arith (P := Tryd.prog) W .mul 22 .f64 b 4611686018427387904 r hr
        have HR := Lib.hid hr2
        clear hr2 hr
        go_wp2_with (go_at_call 50; refine (l1floor_any b hok _).mono ?_; rintro e w1 ⟨rfl, rfl⟩)
        exact ⟨⟨j + 1, r, by go_num, rfl, Lib.hid ⟨HR.out, .inr (by omega)⟩⟩, by simp [intOf]; omega⟩
      · have hord := whole_yes HL.out.1 hq (by omega)
        have hj : j ≤ 1074 := by have := HL.out.2; omega
        have hwj : wrap64 (-(j : Int)) = -(j : Int) := by unfold wrap64; omega
        go_wp2_with (go_at_call 50; refine (l1floor_any b hok _).mono ?_; rintro e w1 ⟨rfl, rfl⟩)
        have HF2 : Flt.FN b false (q * 2 ^ (1074 + (k + j - 1074 - 0))) := by
          have e1 : 1074 + (k + j - 1074 - 0) = k + j := by omega
          rw [e1]; exact HL.out.1
        clear hwj hord hok HF
        go_loop [0, 4] (fun g e => ∃ (i b : Nat), i ≤ k + j - 1074 ∧ e = .int .i64 (-(j : Int) + i) ∧ g = .float .f64 b ∧ Hid (Flt.FN b false (q * 2 ^ (1074 + (k + j - 1074 - i))))) (fun _ e => k + j - 1074 - (intOf e + j).toNat)
        case atStart => exact ⟨0, _, Nat.zero_le _, by go_num, rfl, Lib.hid HF2⟩
        case round =>
          obtain ⟨i, c, hi, rfl, rfl, HC⟩ := hrel
          obtain ⟨r, hr, hr2⟩ := hlf HC.out hq
          have hokr := okf_of hr2
          have hk := fun W => run_float_arith (P := Tryd.prog) W .mul 22 .f64 c 4602678819172646912 r hr
          by_cases hit : i < k + j - 1074
          · have hord := whole_yes' hr2 hq (by omega)
            have HR := Lib.hid hr2
            clear hr2 hr
            go_wp2_with (go_at_call 50; refine (l1floor_any r hokr _).mono ?_; rintro e w1 ⟨rfl, rfl⟩)
            refine ⟨⟨i + 1, r, by omega, by go_num, rfl, Lib.hid ?_⟩, by simp [intOf]; omega⟩
            have e1 : 1074 + (k + j - 1074 - (i + 1)) = 1074 + (k + j - 1074 - i) - 1 := by omega
            rw [e1]; exact HR.out
          · have hii : i = k + j - 1074 := by omega
            subst hii
            have hord := whole_no' hr2 hq (by omega)
            have hq53 := Flt.odd_small HC.out hq
            have hti := to_odd (b := c) (q := q) (by have := HC.out; rw [Nat.sub_self, Nat.add_zero] at this; exact this) hq53
            have hkc := fun (W : World) => run_convert_float_int (P := Tryd.prog) (w := W) 22 2 .f64 .i64 c (q : Int) (by rw [Tryd.underlying22]; rfl) Tryd.underlying2 hti
            have he : -(j : Int) + (k + j - 1074 : Nat) = (k : Int) - 1074 := by omega
            have hE : Hid (-(j : Int) + (k + j - 1074 : Nat) = (k : Int) - 1074) := Lib.hid he
            have L1 := Lib.itoa_length_le (q : Int) (by omega) (by omega)
            have L2 := Lib.itoa_length_le (-(j : Int) + (k + j - 1074 : Nat)) (by omega) (by omega)
            clear hr2 hr hk1 he
            go_wp2_with (first
              | (go_at_call 50; refine (l1floor_any r hokr _).mono ?_; rintro e w1 ⟨rfl, rfl⟩)
              | (go_at_call 24; refine (dec_any _ (by omega) (by omega) _).mono ?_; rintro e w1 ⟨rfl, hb1⟩; have HB1 := hbel.trans (hb1.mono hbel.size); clear hb1; replace hbel := HB1))
            go_ret
            exact ⟨congrArg (fun x => Ending.returned (.string x)) (ftx_eq true q k _ hE.out), HB1⟩

end Go.Proofs.YtchlolfdinakiaaDoor
