/- Compare and Same of two canonical keys. -/
import Derived.Test.YtchlolfdinakiaaP2
namespace Go.Proofs.Ytchlolfdinakiaa
open Go.RowKit
attribute [local go_sem] run_store_float
def CmpR (q : Bool) (e : Ending) : Prop := ∃ c : Int, (c == 0) = q ∧ e = .returned (.int .i64 c)
theorem order_total {a b : Nat} (ha : okf a = true) (hb : okf b = true) : FloatKind.f64.format.order a b = some .lt ∨ FloatKind.f64.format.order a b = some .eq ∨ FloatKind.f64.format.order a b = some .gt := by
  have h : ∃ o, FloatKind.f64.format.order a b = some o := by
    show ∃ o, Flt.F.order a b = some o
    unfold Ieee.Format.order
    rcases Flt.read_cases a with ⟨s, m, e, h, _⟩ | ⟨s, h⟩ | ⟨s, t, h⟩
    · rcases Flt.read_cases b with ⟨s', m', e', h', _⟩ | ⟨s', h'⟩ | ⟨s', t', h'⟩
      · rw [h, h']; exact ⟨_, rfl⟩
      · rw [h, h']; exact ⟨_, rfl⟩
      · have := okf_eq hb; rw [Flt.order_nan h'] at this; cases this
    · rcases Flt.read_cases b with ⟨s', m', e', h', _⟩ | ⟨s', h'⟩ | ⟨s', t', h'⟩
      · rw [h, h']; exact ⟨_, rfl⟩
      · rw [h, h']; exact ⟨_, rfl⟩
      · have := okf_eq hb; rw [Flt.order_nan h'] at this; cases this
    · have := okf_eq ha; rw [Flt.order_nan h] at this; cases this
  obtain ⟨o, ho⟩ := h
  rw [ho]
  cases o <;> simp


set_option maxRecDepth 100000 in
theorem cmp_ii (na ra nb rb : Int) (fa fb : Nat) (sa sb : ByteArray) (hva : vOk 2 na fa sa ra = true) (hvb : vOk 2 nb fb sb rb = true)  (w : World) :
    Calls Try.prog 87 #[.agg #[.int .i64 2, .int .i64 na, .float .f64 fa, .string sa, .int .i64 ra], .agg #[.int .i64 2, .int .i64 nb, .float .f64 fb, .string sb, .int .i64 rb]] w fun e w' => CmpR (na == nb) e ∧ Below w.heap.size w w' := by
  by_cases h1 : na < nb
  · have g : (na == nb) = false := by simp; omega
    go_enter Try.func87, Try.ntmps87
    go_wp2_with (first
    | (go_at_call 13; refine (svok_any _ _ _ _ _ _).mono ?_; rintro e w1 ⟨rfl, hb1⟩; obtain ⟨hc1, hf1⟩ := bcell hb1; have hq1 := hb1.size; (try simp only [dN_size, dN_cell, dN_frozen] at hc1 hf1 hq1); (try simp only [World.size_alloc, World.heap_setCell_size] at hq1); (try simp at hq1); have hz1_0 : w.heap.size < w1.heap.size := (by omega); have hz1_1 : w.heap.size + 1 < w1.heap.size := (by omega); have HB1 : Below w.heap.size w w1 := Below.trans (by (repeat (first | with_reducible assumption | with_reducible exact Below.refl _ _ | with_reducible refine Below.drew ?_ | with_reducible refine bl_drewN _ ?_ | ((with_reducible refine bl_alloc ?_ _ ?_); · (first | omega | (simp; done) | (simp; omega))) | ((with_reducible refine bl_set ?_ _ ?_); · (first | omega | (simp; done) | (simp; omega)))))) (hb1.mono (by (try simp) <;> omega)); clear hb1)
    | (go_at_call 86; refine (num_any _ _ _ _ _ _).mono ?_; rintro e w2 ⟨rfl, hb2⟩; obtain ⟨hc2, hf2⟩ := bcell hb2; have hq2 := hb2.size; (try simp only [dN_size, dN_cell, dN_frozen] at hc2 hf2 hq2); (try simp only [World.size_alloc, World.heap_setCell_size] at hq2); (try simp at hq2); have hz2_0 : w.heap.size < w2.heap.size := (by omega); have hz2_1 : w.heap.size + 1 < w2.heap.size := (by omega); have HB2 : Below w.heap.size w w2 := Below.trans (by (repeat (first | with_reducible assumption | with_reducible exact Below.refl _ _ | with_reducible refine Below.drew ?_ | with_reducible refine bl_drewN _ ?_ | ((with_reducible refine bl_alloc ?_ _ ?_); · (first | omega | (simp; done) | (simp; omega))) | ((with_reducible refine bl_set ?_ _ ?_); · (first | omega | (simp; done) | (simp; omega)))))) (hb2.mono (by (try simp) <;> omega)); clear hb2)
    | (go_at_call 61; refine (l1nan_any _ _).mono ?_; rintro e wn ⟨rfl, rfl⟩))
    go_ret
    exact ⟨⟨-1, by rw [g]; rfl, rfl⟩, by (repeat (first | with_reducible assumption | with_reducible exact Below.refl _ _ | with_reducible refine Below.drew ?_ | with_reducible refine bl_drewN _ ?_ | ((with_reducible refine bl_alloc ?_ _ ?_); · (first | omega | (simp; done) | (simp; omega))) | ((with_reducible refine bl_set ?_ _ ?_); · (first | omega | (simp; done) | (simp; omega)))))⟩
  · by_cases h2 : nb < na
    · have g : (na == nb) = false := by simp; omega
      go_enter Try.func87, Try.ntmps87
      go_wp2_with (first
    | (go_at_call 13; refine (svok_any _ _ _ _ _ _).mono ?_; rintro e w1 ⟨rfl, hb1⟩; obtain ⟨hc1, hf1⟩ := bcell hb1; have hq1 := hb1.size; (try simp only [dN_size, dN_cell, dN_frozen] at hc1 hf1 hq1); (try simp only [World.size_alloc, World.heap_setCell_size] at hq1); (try simp at hq1); have hz1_0 : w.heap.size < w1.heap.size := (by omega); have hz1_1 : w.heap.size + 1 < w1.heap.size := (by omega); have HB1 : Below w.heap.size w w1 := Below.trans (by (repeat (first | with_reducible assumption | with_reducible exact Below.refl _ _ | with_reducible refine Below.drew ?_ | with_reducible refine bl_drewN _ ?_ | ((with_reducible refine bl_alloc ?_ _ ?_); · (first | omega | (simp; done) | (simp; omega))) | ((with_reducible refine bl_set ?_ _ ?_); · (first | omega | (simp; done) | (simp; omega)))))) (hb1.mono (by (try simp) <;> omega)); clear hb1)
    | (go_at_call 86; refine (num_any _ _ _ _ _ _).mono ?_; rintro e w2 ⟨rfl, hb2⟩; obtain ⟨hc2, hf2⟩ := bcell hb2; have hq2 := hb2.size; (try simp only [dN_size, dN_cell, dN_frozen] at hc2 hf2 hq2); (try simp only [World.size_alloc, World.heap_setCell_size] at hq2); (try simp at hq2); have hz2_0 : w.heap.size < w2.heap.size := (by omega); have hz2_1 : w.heap.size + 1 < w2.heap.size := (by omega); have HB2 : Below w.heap.size w w2 := Below.trans (by (repeat (first | with_reducible assumption | with_reducible exact Below.refl _ _ | with_reducible refine Below.drew ?_ | with_reducible refine bl_drewN _ ?_ | ((with_reducible refine bl_alloc ?_ _ ?_); · (first | omega | (simp; done) | (simp; omega))) | ((with_reducible refine bl_set ?_ _ ?_); · (first | omega | (simp; done) | (simp; omega)))))) (hb2.mono (by (try simp) <;> omega)); clear hb2)
    | (go_at_call 61; refine (l1nan_any _ _).mono ?_; rintro e wn ⟨rfl, rfl⟩))
      go_ret
      exact ⟨⟨1, by rw [g]; rfl, rfl⟩, by (repeat (first | with_reducible assumption | with_reducible exact Below.refl _ _ | with_reducible refine Below.drew ?_ | with_reducible refine bl_drewN _ ?_ | ((with_reducible refine bl_alloc ?_ _ ?_); · (first | omega | (simp; done) | (simp; omega))) | ((with_reducible refine bl_set ?_ _ ?_); · (first | omega | (simp; done) | (simp; omega)))))⟩
    · have g : (na == nb) = true := by simp; omega
      go_enter Try.func87, Try.ntmps87
      go_wp2_with (first
    | (go_at_call 13; refine (svok_any _ _ _ _ _ _).mono ?_; rintro e w1 ⟨rfl, hb1⟩; obtain ⟨hc1, hf1⟩ := bcell hb1; have hq1 := hb1.size; (try simp only [dN_size, dN_cell, dN_frozen] at hc1 hf1 hq1); (try simp only [World.size_alloc, World.heap_setCell_size] at hq1); (try simp at hq1); have hz1_0 : w.heap.size < w1.heap.size := (by omega); have hz1_1 : w.heap.size + 1 < w1.heap.size := (by omega); have HB1 : Below w.heap.size w w1 := Below.trans (by (repeat (first | with_reducible assumption | with_reducible exact Below.refl _ _ | with_reducible refine Below.drew ?_ | with_reducible refine bl_drewN _ ?_ | ((with_reducible refine bl_alloc ?_ _ ?_); · (first | omega | (simp; done) | (simp; omega))) | ((with_reducible refine bl_set ?_ _ ?_); · (first | omega | (simp; done) | (simp; omega)))))) (hb1.mono (by (try simp) <;> omega)); clear hb1)
    | (go_at_call 86; refine (num_any _ _ _ _ _ _).mono ?_; rintro e w2 ⟨rfl, hb2⟩; obtain ⟨hc2, hf2⟩ := bcell hb2; have hq2 := hb2.size; (try simp only [dN_size, dN_cell, dN_frozen] at hc2 hf2 hq2); (try simp only [World.size_alloc, World.heap_setCell_size] at hq2); (try simp at hq2); have hz2_0 : w.heap.size < w2.heap.size := (by omega); have hz2_1 : w.heap.size + 1 < w2.heap.size := (by omega); have HB2 : Below w.heap.size w w2 := Below.trans (by (repeat (first | with_reducible assumption | with_reducible exact Below.refl _ _ | with_reducible refine Below.drew ?_ | with_reducible refine bl_drewN _ ?_ | ((with_reducible refine bl_alloc ?_ _ ?_); · (first | omega | (simp; done) | (simp; omega))) | ((with_reducible refine bl_set ?_ _ ?_); · (first | omega | (simp; done) | (simp; omega)))))) (hb2.mono (by (try simp) <;> omega)); clear hb2)
    | (go_at_call 61; refine (l1nan_any _ _).mono ?_; rintro e wn ⟨rfl, rfl⟩))
      go_ret
      exact ⟨⟨0, by rw [g]; rfl, rfl⟩, by (repeat (first | with_reducible assumption | with_reducible exact Below.refl _ _ | with_reducible refine Below.drew ?_ | with_reducible refine bl_drewN _ ?_ | ((with_reducible refine bl_alloc ?_ _ ?_); · (first | omega | (simp; done) | (simp; omega))) | ((with_reducible refine bl_set ?_ _ ?_); · (first | omega | (simp; done) | (simp; omega)))))⟩

set_option maxRecDepth 100000 in
theorem cmp_if (na ra nb rb : Int) (fa fb : Nat) (sa sb : ByteArray) (hva : vOk 2 na fa sa ra = true) (hvb : vOk 3 nb fb sb rb = true) (hf : okf fb = true) (hk : keyInt (Flt.sfloor fb) fb = false) (w : World) :
    Calls Try.prog 87 #[.agg #[.int .i64 2, .int .i64 na, .float .f64 fa, .string sa, .int .i64 ra], .agg #[.int .i64 3, .int .i64 nb, .float .f64 fb, .string sb, .int .i64 rb]] w fun e w' => CmpR (false) e ∧ Below w.heap.size w w' := by
  have HF := Lib.hid hf; have HK := Lib.hid hk; clear hk
  go_enter Try.func87, Try.ntmps87
  go_wp2_with (first
    | (go_at_call 13; refine (svok_any _ _ _ _ _ _).mono ?_; rintro e w1 ⟨rfl, hb1⟩; obtain ⟨hc1, hf1⟩ := bcell hb1; have hq1 := hb1.size; (try simp only [dN_size, dN_cell, dN_frozen] at hc1 hf1 hq1); (try simp only [World.size_alloc, World.heap_setCell_size] at hq1); (try simp at hq1); have hz1_0 : w.heap.size < w1.heap.size := (by omega); have hz1_1 : w.heap.size + 1 < w1.heap.size := (by omega); have HB1 : Below w.heap.size w w1 := Below.trans (by (repeat (first | with_reducible assumption | with_reducible exact Below.refl _ _ | with_reducible refine Below.drew ?_ | with_reducible refine bl_drewN _ ?_ | ((with_reducible refine bl_alloc ?_ _ ?_); · (first | omega | (simp; done) | (simp; omega))) | ((with_reducible refine bl_set ?_ _ ?_); · (first | omega | (simp; done) | (simp; omega)))))) (hb1.mono (by (try simp) <;> omega)); clear hb1)
    | (go_at_call 86; refine (num_any _ _ _ _ _ _).mono ?_; rintro e w2 ⟨rfl, hb2⟩; obtain ⟨hc2, hf2⟩ := bcell hb2; have hq2 := hb2.size; (try simp only [dN_size, dN_cell, dN_frozen] at hc2 hf2 hq2); (try simp only [World.size_alloc, World.heap_setCell_size] at hq2); (try simp at hq2); have hz2_0 : w.heap.size < w2.heap.size := (by omega); have hz2_1 : w.heap.size + 1 < w2.heap.size := (by omega); have HB2 : Below w.heap.size w w2 := Below.trans (by (repeat (first | with_reducible assumption | with_reducible exact Below.refl _ _ | with_reducible refine Below.drew ?_ | with_reducible refine bl_drewN _ ?_ | ((with_reducible refine bl_alloc ?_ _ ?_); · (first | omega | (simp; done) | (simp; omega))) | ((with_reducible refine bl_set ?_ _ ?_); · (first | omega | (simp; done) | (simp; omega)))))) (hb2.mono (by (try simp) <;> omega)); clear hb2)
    | (go_at_call 61; refine (l1nan_any _ _).mono ?_; rintro e wn ⟨rfl, rfl⟩)
    | (go_at_call 101; refine (intflt_any _ _ HF.out HK.out _).mono ?_; rintro e wn ⟨hpm, rfl⟩; rcases hpm with rfl | rfl))
  all_goals go_ret
  · exact ⟨⟨_, by decide, rfl⟩, by (repeat (first | with_reducible assumption | with_reducible exact Below.refl _ _ | with_reducible refine Below.drew ?_ | with_reducible refine bl_drewN _ ?_ | ((with_reducible refine bl_alloc ?_ _ ?_); · (first | omega | (simp; done) | (simp; omega))) | ((with_reducible refine bl_set ?_ _ ?_); · (first | omega | (simp; done) | (simp; omega)))))⟩
  · exact ⟨⟨_, by decide, rfl⟩, by (repeat (first | with_reducible assumption | with_reducible exact Below.refl _ _ | with_reducible refine Below.drew ?_ | with_reducible refine bl_drewN _ ?_ | ((with_reducible refine bl_alloc ?_ _ ?_); · (first | omega | (simp; done) | (simp; omega))) | ((with_reducible refine bl_set ?_ _ ?_); · (first | omega | (simp; done) | (simp; omega)))))⟩

set_option maxRecDepth 100000 in
theorem cmp_fi (na ra nb rb : Int) (fa fb : Nat) (sa sb : ByteArray) (hva : vOk 3 na fa sa ra = true) (hvb : vOk 2 nb fb sb rb = true) (hf : okf fa = true) (hk : keyInt (Flt.sfloor fa) fa = false) (w : World) :
    Calls Try.prog 87 #[.agg #[.int .i64 3, .int .i64 na, .float .f64 fa, .string sa, .int .i64 ra], .agg #[.int .i64 2, .int .i64 nb, .float .f64 fb, .string sb, .int .i64 rb]] w fun e w' => CmpR (false) e ∧ Below w.heap.size w w' := by
  have HF := Lib.hid hf; have HK := Lib.hid hk; clear hk
  go_enter Try.func87, Try.ntmps87
  go_wp2_with (first
    | (go_at_call 13; refine (svok_any _ _ _ _ _ _).mono ?_; rintro e w1 ⟨rfl, hb1⟩; obtain ⟨hc1, hf1⟩ := bcell hb1; have hq1 := hb1.size; (try simp only [dN_size, dN_cell, dN_frozen] at hc1 hf1 hq1); (try simp only [World.size_alloc, World.heap_setCell_size] at hq1); (try simp at hq1); have hz1_0 : w.heap.size < w1.heap.size := (by omega); have hz1_1 : w.heap.size + 1 < w1.heap.size := (by omega); have HB1 : Below w.heap.size w w1 := Below.trans (by (repeat (first | with_reducible assumption | with_reducible exact Below.refl _ _ | with_reducible refine Below.drew ?_ | with_reducible refine bl_drewN _ ?_ | ((with_reducible refine bl_alloc ?_ _ ?_); · (first | omega | (simp; done) | (simp; omega))) | ((with_reducible refine bl_set ?_ _ ?_); · (first | omega | (simp; done) | (simp; omega)))))) (hb1.mono (by (try simp) <;> omega)); clear hb1)
    | (go_at_call 86; refine (num_any _ _ _ _ _ _).mono ?_; rintro e w2 ⟨rfl, hb2⟩; obtain ⟨hc2, hf2⟩ := bcell hb2; have hq2 := hb2.size; (try simp only [dN_size, dN_cell, dN_frozen] at hc2 hf2 hq2); (try simp only [World.size_alloc, World.heap_setCell_size] at hq2); (try simp at hq2); have hz2_0 : w.heap.size < w2.heap.size := (by omega); have hz2_1 : w.heap.size + 1 < w2.heap.size := (by omega); have HB2 : Below w.heap.size w w2 := Below.trans (by (repeat (first | with_reducible assumption | with_reducible exact Below.refl _ _ | with_reducible refine Below.drew ?_ | with_reducible refine bl_drewN _ ?_ | ((with_reducible refine bl_alloc ?_ _ ?_); · (first | omega | (simp; done) | (simp; omega))) | ((with_reducible refine bl_set ?_ _ ?_); · (first | omega | (simp; done) | (simp; omega)))))) (hb2.mono (by (try simp) <;> omega)); clear hb2)
    | (go_at_call 61; refine (l1nan_any _ _).mono ?_; rintro e wn ⟨rfl, rfl⟩)
    | (go_at_call 101; refine (intflt_any _ _ HF.out HK.out _).mono ?_; rintro e wn ⟨hpm, rfl⟩; rcases hpm with rfl | rfl))
  all_goals go_ret
  · exact ⟨⟨_, by decide, rfl⟩, by (repeat (first | with_reducible assumption | with_reducible exact Below.refl _ _ | with_reducible refine Below.drew ?_ | with_reducible refine bl_drewN _ ?_ | ((with_reducible refine bl_alloc ?_ _ ?_); · (first | omega | (simp; done) | (simp; omega))) | ((with_reducible refine bl_set ?_ _ ?_); · (first | omega | (simp; done) | (simp; omega)))))⟩
  · exact ⟨⟨_, by decide, rfl⟩, by (repeat (first | with_reducible assumption | with_reducible exact Below.refl _ _ | with_reducible refine Below.drew ?_ | with_reducible refine bl_drewN _ ?_ | ((with_reducible refine bl_alloc ?_ _ ?_); · (first | omega | (simp; done) | (simp; omega))) | ((with_reducible refine bl_set ?_ _ ?_); · (first | omega | (simp; done) | (simp; omega)))))⟩

set_option maxRecDepth 100000 in
theorem cmp_ff (na ra nb rb : Int) (fa fb : Nat) (sa sb : ByteArray) (hva : vOk 3 na fa sa ra = true) (hvb : vOk 3 nb fb sb rb = true) (ha : okf fa = true) (hb : okf fb = true) (w : World) :
    Calls Try.prog 87 #[.agg #[.int .i64 3, .int .i64 na, .float .f64 fa, .string sa, .int .i64 ra], .agg #[.int .i64 3, .int .i64 nb, .float .f64 fb, .string sb, .int .i64 rb]] w fun e w' => CmpR (FloatKind.f64.format.order fa fb == some .eq) e ∧ Below w.heap.size w w' := by
  rcases order_total ha hb with ho | ho | ho
  · have h1 : (FloatKind.f64.format.order fa fb == some .lt) = true := by rw [ho]; rfl
    have h2 : (FloatKind.f64.format.order fa fb == some .gt) = false := by rw [ho]; rfl
    have h3 := Lib.hid ho; clear ho
    go_enter Try.func87, Try.ntmps87
    go_wp2_with (first
    | (go_at_call 13; refine (svok_any _ _ _ _ _ _).mono ?_; rintro e w1 ⟨rfl, hb1⟩; obtain ⟨hc1, hf1⟩ := bcell hb1; have hq1 := hb1.size; (try simp only [dN_size, dN_cell, dN_frozen] at hc1 hf1 hq1); (try simp only [World.size_alloc, World.heap_setCell_size] at hq1); (try simp at hq1); have hz1_0 : w.heap.size < w1.heap.size := (by omega); have hz1_1 : w.heap.size + 1 < w1.heap.size := (by omega); have HB1 : Below w.heap.size w w1 := Below.trans (by (repeat (first | with_reducible assumption | with_reducible exact Below.refl _ _ | with_reducible refine Below.drew ?_ | with_reducible refine bl_drewN _ ?_ | ((with_reducible refine bl_alloc ?_ _ ?_); · (first | omega | (simp; done) | (simp; omega))) | ((with_reducible refine bl_set ?_ _ ?_); · (first | omega | (simp; done) | (simp; omega)))))) (hb1.mono (by (try simp) <;> omega)); clear hb1)
    | (go_at_call 86; refine (num_any _ _ _ _ _ _).mono ?_; rintro e w2 ⟨rfl, hb2⟩; obtain ⟨hc2, hf2⟩ := bcell hb2; have hq2 := hb2.size; (try simp only [dN_size, dN_cell, dN_frozen] at hc2 hf2 hq2); (try simp only [World.size_alloc, World.heap_setCell_size] at hq2); (try simp at hq2); have hz2_0 : w.heap.size < w2.heap.size := (by omega); have hz2_1 : w.heap.size + 1 < w2.heap.size := (by omega); have HB2 : Below w.heap.size w w2 := Below.trans (by (repeat (first | with_reducible assumption | with_reducible exact Below.refl _ _ | with_reducible refine Below.drew ?_ | with_reducible refine bl_drewN _ ?_ | ((with_reducible refine bl_alloc ?_ _ ?_); · (first | omega | (simp; done) | (simp; omega))) | ((with_reducible refine bl_set ?_ _ ?_); · (first | omega | (simp; done) | (simp; omega)))))) (hb2.mono (by (try simp) <;> omega)); clear hb2)
    | (go_at_call 61; refine (l1nan_any _ _).mono ?_; rintro e wn ⟨rfl, rfl⟩))
    go_ret
    exact ⟨⟨-1, by rw [h3.out]; rfl, rfl⟩, by (repeat (first | with_reducible assumption | with_reducible exact Below.refl _ _ | with_reducible refine Below.drew ?_ | with_reducible refine bl_drewN _ ?_ | ((with_reducible refine bl_alloc ?_ _ ?_); · (first | omega | (simp; done) | (simp; omega))) | ((with_reducible refine bl_set ?_ _ ?_); · (first | omega | (simp; done) | (simp; omega)))))⟩
  · have h1 : (FloatKind.f64.format.order fa fb == some .lt) = false := by rw [ho]; rfl
    have h2 : (FloatKind.f64.format.order fa fb == some .gt) = false := by rw [ho]; rfl
    have h3 := Lib.hid ho; clear ho
    go_enter Try.func87, Try.ntmps87
    go_wp2_with (first
    | (go_at_call 13; refine (svok_any _ _ _ _ _ _).mono ?_; rintro e w1 ⟨rfl, hb1⟩; obtain ⟨hc1, hf1⟩ := bcell hb1; have hq1 := hb1.size; (try simp only [dN_size, dN_cell, dN_frozen] at hc1 hf1 hq1); (try simp only [World.size_alloc, World.heap_setCell_size] at hq1); (try simp at hq1); have hz1_0 : w.heap.size < w1.heap.size := (by omega); have hz1_1 : w.heap.size + 1 < w1.heap.size := (by omega); have HB1 : Below w.heap.size w w1 := Below.trans (by (repeat (first | with_reducible assumption | with_reducible exact Below.refl _ _ | with_reducible refine Below.drew ?_ | with_reducible refine bl_drewN _ ?_ | ((with_reducible refine bl_alloc ?_ _ ?_); · (first | omega | (simp; done) | (simp; omega))) | ((with_reducible refine bl_set ?_ _ ?_); · (first | omega | (simp; done) | (simp; omega)))))) (hb1.mono (by (try simp) <;> omega)); clear hb1)
    | (go_at_call 86; refine (num_any _ _ _ _ _ _).mono ?_; rintro e w2 ⟨rfl, hb2⟩; obtain ⟨hc2, hf2⟩ := bcell hb2; have hq2 := hb2.size; (try simp only [dN_size, dN_cell, dN_frozen] at hc2 hf2 hq2); (try simp only [World.size_alloc, World.heap_setCell_size] at hq2); (try simp at hq2); have hz2_0 : w.heap.size < w2.heap.size := (by omega); have hz2_1 : w.heap.size + 1 < w2.heap.size := (by omega); have HB2 : Below w.heap.size w w2 := Below.trans (by (repeat (first | with_reducible assumption | with_reducible exact Below.refl _ _ | with_reducible refine Below.drew ?_ | with_reducible refine bl_drewN _ ?_ | ((with_reducible refine bl_alloc ?_ _ ?_); · (first | omega | (simp; done) | (simp; omega))) | ((with_reducible refine bl_set ?_ _ ?_); · (first | omega | (simp; done) | (simp; omega)))))) (hb2.mono (by (try simp) <;> omega)); clear hb2)
    | (go_at_call 61; refine (l1nan_any _ _).mono ?_; rintro e wn ⟨rfl, rfl⟩))
    go_ret
    exact ⟨⟨0, by rw [h3.out]; rfl, rfl⟩, by (repeat (first | with_reducible assumption | with_reducible exact Below.refl _ _ | with_reducible refine Below.drew ?_ | with_reducible refine bl_drewN _ ?_ | ((with_reducible refine bl_alloc ?_ _ ?_); · (first | omega | (simp; done) | (simp; omega))) | ((with_reducible refine bl_set ?_ _ ?_); · (first | omega | (simp; done) | (simp; omega)))))⟩
  · have h1 : (FloatKind.f64.format.order fa fb == some .lt) = false := by rw [ho]; rfl
    have h2 : (FloatKind.f64.format.order fa fb == some .gt) = true := by rw [ho]; rfl
    have h3 := Lib.hid ho; clear ho
    go_enter Try.func87, Try.ntmps87
    go_wp2_with (first
    | (go_at_call 13; refine (svok_any _ _ _ _ _ _).mono ?_; rintro e w1 ⟨rfl, hb1⟩; obtain ⟨hc1, hf1⟩ := bcell hb1; have hq1 := hb1.size; (try simp only [dN_size, dN_cell, dN_frozen] at hc1 hf1 hq1); (try simp only [World.size_alloc, World.heap_setCell_size] at hq1); (try simp at hq1); have hz1_0 : w.heap.size < w1.heap.size := (by omega); have hz1_1 : w.heap.size + 1 < w1.heap.size := (by omega); have HB1 : Below w.heap.size w w1 := Below.trans (by (repeat (first | with_reducible assumption | with_reducible exact Below.refl _ _ | with_reducible refine Below.drew ?_ | with_reducible refine bl_drewN _ ?_ | ((with_reducible refine bl_alloc ?_ _ ?_); · (first | omega | (simp; done) | (simp; omega))) | ((with_reducible refine bl_set ?_ _ ?_); · (first | omega | (simp; done) | (simp; omega)))))) (hb1.mono (by (try simp) <;> omega)); clear hb1)
    | (go_at_call 86; refine (num_any _ _ _ _ _ _).mono ?_; rintro e w2 ⟨rfl, hb2⟩; obtain ⟨hc2, hf2⟩ := bcell hb2; have hq2 := hb2.size; (try simp only [dN_size, dN_cell, dN_frozen] at hc2 hf2 hq2); (try simp only [World.size_alloc, World.heap_setCell_size] at hq2); (try simp at hq2); have hz2_0 : w.heap.size < w2.heap.size := (by omega); have hz2_1 : w.heap.size + 1 < w2.heap.size := (by omega); have HB2 : Below w.heap.size w w2 := Below.trans (by (repeat (first | with_reducible assumption | with_reducible exact Below.refl _ _ | with_reducible refine Below.drew ?_ | with_reducible refine bl_drewN _ ?_ | ((with_reducible refine bl_alloc ?_ _ ?_); · (first | omega | (simp; done) | (simp; omega))) | ((with_reducible refine bl_set ?_ _ ?_); · (first | omega | (simp; done) | (simp; omega)))))) (hb2.mono (by (try simp) <;> omega)); clear hb2)
    | (go_at_call 61; refine (l1nan_any _ _).mono ?_; rintro e wn ⟨rfl, rfl⟩))
    go_ret
    exact ⟨⟨1, by rw [h3.out]; rfl, rfl⟩, by (repeat (first | with_reducible assumption | with_reducible exact Below.refl _ _ | with_reducible refine Below.drew ?_ | with_reducible refine bl_drewN _ ?_ | ((with_reducible refine bl_alloc ?_ _ ?_); · (first | omega | (simp; done) | (simp; omega))) | ((with_reducible refine bl_set ?_ _ ?_); · (first | omega | (simp; done) | (simp; omega)))))⟩
end Go.Proofs.Ytchlolfdinakiaa
