/- A float's text on both sides: NaN, the infinities, the zeros; and all together. -/
import Derived.Test.YtchlolfdinakiaaDoorD4
namespace Go.Proofs.YtchlolfdinakiaaDoor
open Go.RowKit
attribute [local go_sem] run_store_float unary_neg_float

def nanT : ByteArray := ⟨#[110, 97, 110]⟩
def infT (s : Bool) : ByteArray := if s then ⟨#[45, 105, 110, 102]⟩ else ⟨#[105, 110, 102]⟩
def zerT (s : Bool) : ByteArray := if s then ⟨#[45, 48, 112, 48]⟩ else ⟨#[48, 112, 48]⟩

theorem cat1 : (⟨#[]⟩ : ByteArray) ++ ⟨#[105, 110, 102]⟩ = infT false := by decide +kernel
theorem cat2 : (⟨#[45]⟩ : ByteArray) ++ ⟨#[105, 110, 102]⟩ = infT true := by decide +kernel
theorem cat3 : (⟨#[]⟩ : ByteArray) ++ ⟨#[48, 112, 48]⟩ = zerT false := by decide +kernel
theorem cat4 : (⟨#[45]⟩ : ByteArray) ++ ⟨#[48, 112, 48]⟩ = zerT true := by decide +kernel
theorem Flt.odd_bound {b : Nat} {s : Bool} {q k : Nat} (h : Flt.FN b s (q * 2 ^ k)) (hq : q % 2 = 1) : k < 2098 := by
  obtain ⟨m, e, h1, h2, h3, h4, h5⟩ := h
  have h6 : 2 ^ k ≤ m * 2 ^ (e + 1074).toNat := by rw [← h5]; exact Nat.le_mul_of_pos_left _ (by omega)
  have h7 := three h2 (e + 1074).toNat 0 2098 (by omega)
  rw [Nat.pow_zero, Nat.mul_one] at h7
  exact (Nat.pow_lt_pow_iff_right (a := 2) (by decide)).1 (Nat.lt_of_le_of_lt h6 h7)
theorem snan_any (f : Nat) (hok : okf f = false) (w : World) : Calls Tryd.prog 25 #[.float .f64 f] w fun e w' => e = .returned (.string nanT) ∧ Below w.heap.size w w' := by
  go_enter Tryd.func25, Tryd.ntmps25
  go_wp2_with (go_at_call 49; refine (l1nan_any f _).mono ?_; rintro e w1 ⟨rfl, rfl⟩)
  go_ret
  exact ⟨rfl, Below.refl _ _⟩
theorem inan_any (f : Nat) (hok : okf f = false) (w : World) : Calls Tryd.prog 28 #[.float .f64 f] w fun e w' => e = .returned (.string nanT) ∧ Below w.heap.size w w' := by
  go_enter Tryd.func28, Tryd.ntmps28
  go_wp2_with (go_at_call 53; refine (isnan_any f _).mono ?_; rintro e w1 ⟨rfl, rfl⟩)
  go_ret
  exact ⟨rfl, Below.refl _ _⟩

theorem okf_inf {f : Nat} {s : Bool} (h : Flt.F.read f = .infinity s) : okf f = true := by
  show (Flt.F.order f f == _) = _
  rw [Flt.order_inf_self h]; rfl
theorem inf_lt {f : Nat} {s : Bool} (h : Flt.F.read f = .infinity s) : (FloatKind.f64.format.order f 0 == some .lt) = s := by
  show (Flt.F.order f 0 == _) = _
  rw [Flt.order_inf_fin h Flt.fin_zero]; cases s <;> rfl
theorem inf_eq {f : Nat} {s : Bool} (h : Flt.F.read f = .infinity s) : (FloatKind.f64.format.order f 0 == some .eq) = false := by
  show (Flt.F.order f 0 == _) = _
  rw [Flt.order_inf_fin h Flt.fin_zero]; cases s <;> rfl
theorem inf_neg {f : Nat} {s : Bool} (h : Flt.F.read f = .infinity s) : Flt.F.read (fneg f) = .infinity (!s) := by
  have : Flt.F.read (fneg f) = (Flt.F.read f).opposite := Flt.read_neg f
  rw [this, h]; rfl

theorem sinf_any (f : Nat) (s : Bool) (h : Flt.F.read f = .infinity s) (w : World) : Calls Tryd.prog 25 #[.float .f64 f] w fun e w' => e = .returned (.string (infT s)) ∧ Below w.heap.size w w' := by
  have hok := okf_inf h
  have h1 := inf_lt h
  have h2 := inf_eq h
  cases s
  · obtain ⟨r, hr, he⟩ := Flt.half_inf h
    have hk1 := fun W => run_float_arith (P := Tryd.prog) W .mul 22 .f64 f 4602678819172646912 r hr
    have hn : (FloatKind.f64.format.order r f == some .eq) = true := by show (Flt.F.order r f == _) = _; rw [he]; rfl
    clear h hr he
    go_enter Tryd.func25, Tryd.ntmps25
    go_wp2_with (go_at_call 49; refine (l1nan_any f _).mono ?_; rintro e w1 ⟨rfl, rfl⟩)
    go_ret
    exact ⟨congrArg (fun x => Ending.returned (.string x)) cat1, Below.refl _ _⟩
  · have hi := inf_neg h
    have h3 := inf_eq hi
    obtain ⟨r, hr, he⟩ := Flt.half_inf hi
    have hk1 := fun W => run_float_arith (P := Tryd.prog) W .mul 22 .f64 (fneg f) 4602678819172646912 r hr
    have hn : (FloatKind.f64.format.order r (fneg f) == some .eq) = true := by show (Flt.F.order r (fneg f) == _) = _; rw [he]; rfl
    clear h hr he hi
    go_enter Tryd.func25, Tryd.ntmps25
    go_wp2_with (go_at_call 49; refine (l1nan_any f _).mono ?_; rintro e w1 ⟨rfl, rfl⟩)
    go_ret
    exact ⟨congrArg (fun x => Ending.returned (.string x)) cat2, Below.refl _ _⟩
theorem iinf_any (f : Nat) (s : Bool) (h : Flt.F.read f = .infinity s) (w : World) : Calls Tryd.prog 28 #[.float .f64 f] w fun e w' => e = .returned (.string (infT s)) ∧ Below w.heap.size w w' := by
  have hok := okf_inf h
  have h1 : infp f 1 = !s := Flt.inf_above_max h
  have h2 : infp f (-1) = s := by
    have := Flt.inf_above_max (inf_neg h)
    rw [Bool.not_not] at this; exact this
  cases s
  all_goals
    clear h
    go_enter Tryd.func28, Tryd.ntmps28
    go_wp2_with (first
      | (go_at_call 53; refine (isnan_any f _).mono ?_; rintro e w1 ⟨rfl, rfl⟩)
      | (go_at_call 54; refine (isinf_any f _ (by decide) _).mono ?_; rintro e w1 ⟨rfl, rfl⟩))
    go_ret
    exact ⟨rfl, Below.refl _ _⟩

theorem szer_any (f : Nat) (s : Bool) (h : Flt.FN f s 0) (w : World) : Calls Tryd.prog 25 #[.float .f64 f] w fun e w' => e = .returned (.string (zerT s)) ∧ Below w.heap.size w w' := by
  have hok := okf_of h
  have h1 : (FloatKind.f64.format.order f 0 == some .lt) = false := by
    rw [show (FloatKind.f64.format.order f 0 == some .lt) = _ from (Flt.order_zero h).2]; cases s <;> rfl
  have h2 : (FloatKind.f64.format.order f 0 == some .eq) = true := (Flt.order_zero h).1
  obtain ⟨r, hr, hl⟩ := Flt.inv_zero_sign h
  have hk1 := fun W => run_float_arith (P := Tryd.prog) W .quo 22 .f64 4607182418800017408 f r hr
  have hl2 : (FloatKind.f64.format.order r 0 == some .lt) = s := hl
  cases s
  · clear h hr hl
    go_enter Tryd.func25, Tryd.ntmps25
    go_wp2_with (go_at_call 49; refine (l1nan_any f _).mono ?_; rintro e w1 ⟨rfl, rfl⟩)
    go_ret
    exact ⟨congrArg (fun x => Ending.returned (.string x)) cat3, Below.refl _ _⟩
  · have h3 : (FloatKind.f64.format.order (fneg f) 0 == some .eq) = true := (Flt.order_zero (FN_neg h)).1
    clear h hr hl
    go_enter Tryd.func25, Tryd.ntmps25
    go_wp2_with (go_at_call 49; refine (l1nan_any f _).mono ?_; rintro e w1 ⟨rfl, rfl⟩)
    go_ret
    exact ⟨congrArg (fun x => Ending.returned (.string x)) cat4, Below.refl _ _⟩
theorem izer_any (f : Nat) (s : Bool) (hf : f < 2 ^ 64) (h : Flt.FN f s 0) (w : World) : Calls Tryd.prog 28 #[.float .f64 f] w fun e w' => e = .returned (.string (zerT s)) ∧ Below w.heap.size w w' := by
  have hok := okf_of h
  have hi1 : infp f 1 = false := Flt.not_above_max h.fin
  have hi2 : infp f (-1) = false := Flt.not_above_max (FN_neg h).fin
  have h2 : (FloatKind.f64.format.order f 0 == some .eq) = true := (Flt.order_zero h).1
  have hs := Flt.sign_bit hf h
  have hS := fun W => signbit_any f hf W
  rw [hs] at hS
  clear hs h hf
  cases s
  all_goals
    go_enter Tryd.func28, Tryd.ntmps28
    go_wp2_with (first
      | (go_at_call 53; refine (isnan_any f _).mono ?_; rintro e w1 ⟨rfl, rfl⟩)
      | (go_at_call 54; refine (isinf_any f _ (by decide) _).mono ?_; rintro e w1 ⟨rfl, rfl⟩)
      | (go_at_call 55; refine (hS _).mono ?_; rintro e w1 ⟨rfl, rfl⟩))
    go_ret
    exact ⟨rfl, Below.refl _ _⟩

/-- Both sides write the same text. -/
theorem ftext_both (f : Nat) (hf : f < 2 ^ 64) : ∃ t : ByteArray,
    (∀ w, Calls Tryd.prog 25 #[.float .f64 f] w fun e w' => e = .returned (.string t) ∧ Below w.heap.size w w') ∧
    (∀ w, Tab w → Calls Tryd.prog 28 #[.float .f64 f] w fun e w' => e = .returned (.string t) ∧ Below w.heap.size w w') := by
  rcases Flt.cases_fin f with ⟨v, h⟩ | ⟨s, h⟩ | ⟨s, m, h⟩
  · obtain ⟨s, M, hM, _⟩ := Flt.fn_of_fin h
    rcases Nat.eq_zero_or_pos M with h0 | h0
    · subst h0
      exact ⟨_, fun w => szer_any f s hM w, fun w _ => izer_any f s hf hM w⟩
    · obtain ⟨q, k, rfl, hq⟩ := Flt.odd_part M h0
      have hk := Flt.odd_bound hM hq
      refine ⟨_, fun w => sftx_any f s q k hM hq hk w, fun w hT => ?_⟩
      cases s
      · exact iftx_false f q k hf hM hq hk w hT
      · exact iftx_true f q k hf hM hq hk w hT
  · exact ⟨_, fun w => sinf_any f s h w, fun w _ => iinf_any f s h w⟩
  · have hok : okf f = false := by
      show (Flt.F.order f f == _) = _
      rw [Flt.order_nan h]; rfl
    exact ⟨_, fun w => snan_any f hok w, fun w _ => inan_any f hok w⟩
end Go.Proofs.YtchlolfdinakiaaDoor
