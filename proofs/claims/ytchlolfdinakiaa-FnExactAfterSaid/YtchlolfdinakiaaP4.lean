/- Same of two canonical keys is Go's == on them. -/
import Derived.Test.YtchlolfdinakiaaP3
namespace Go.Proofs.Ytchlolfdinakiaa
open Go.RowKit
attribute [local go_sem] run_store_float
theorem fz_fin {f : Nat} (h : fz f = true) : Flt.Fin f 0 := by
  unfold fz at h
  have h' : Flt.F.order f 0 = some .eq := by
    have : FloatKind.f64.format.order f 0 = some .eq := by simpa using h
    exact this
  rcases Flt.cases_fin f with ⟨v, g⟩ | ⟨s, g⟩ | ⟨s, t, g⟩
  · rw [Flt.fin_order g Flt.fin_zero] at h'
    rcases Flt.cmp_cases v 0 with ⟨_, e⟩ | ⟨e, _⟩ | ⟨_, e⟩
    · rw [e] at h'; simp at h'
    · rw [← e]; exact g
    · rw [e] at h'; simp at h'
  · rw [Flt.order_inf_fin g Flt.fin_zero] at h'; cases s <;> simp at h'
  · rw [Flt.order_nan g] at h'; cases h'
theorem fz_order {a b : Nat} (ha : fz a = true) (hb : fz b = true) : (FloatKind.f64.format.order a b == some .eq) = true := by
  have : FloatKind.f64.format.order a b = some .eq := by
    show Flt.F.order a b = _
    rw [Flt.fin_order (fz_fin ha) (fz_fin hb), Flt.cmp_eq]
  rw [this]; rfl
theorem vok_fz {k n : Int} {f : Nat} {s : ByteArray} {r : Int} (h : vOk k n f s r = true) (hk : k ≠ 3) : fz f = true := by
  unfold vOk vZero at h
  rw [if_neg hk] at h
  cases hz : fz f
  · exfalso
    simp [hz] at h
  · rfl
theorem vok_int {n : Int} {f : Nat} {s : ByteArray} {r : Int} (h : vOk 2 n f s r = true) : s.toList = [] ∧ r = 0 := by
  simp [vOk, vZero] at h
  exact ⟨h.1.2, h.2⟩
theorem vok_flt {n : Int} {f : Nat} {s : ByteArray} {r : Int} (h : vOk 3 n f s r = true) : n = 0 ∧ s.toList = [] ∧ r = 0 := by
  simp [vOk, vZero] at h
  exact ⟨h.1.1, h.1.2, h.2⟩
theorem veq_ii {na nb ra rb : Int} {fa fb : Nat} {sa sb : ByteArray} (ha : vOk 2 na fa sa ra = true) (hb : vOk 2 nb fb sb rb = true) : veq 2 na fa sa ra 2 nb fb sb rb = (na == nb) := by
  obtain ⟨h1, h2⟩ := vok_int ha
  obtain ⟨h3, h4⟩ := vok_int hb
  unfold veq
  rw [fz_order (vok_fz ha (by decide)) (vok_fz hb (by decide)), h1, h2, h3, h4]
  simp
theorem veq_ff {na nb ra rb : Int} {fa fb : Nat} {sa sb : ByteArray} (ha : vOk 3 na fa sa ra = true) (hb : vOk 3 nb fb sb rb = true) : veq 3 na fa sa ra 3 nb fb sb rb = (FloatKind.f64.format.order fa fb == some .eq) := by
  obtain ⟨h0, h1, h2⟩ := vok_flt ha
  obtain ⟨h3, h4, h5⟩ := vok_flt hb
  unfold veq
  rw [h0, h1, h2, h3, h4, h5]
  simp
theorem veq_kind {ka kb na nb ra rb : Int} {fa fb : Nat} {sa sb : ByteArray} (h : ka ≠ kb) : veq ka na fa sa ra kb nb fb sb rb = false := by
  unfold veq
  simp [h]


theorem same_else (ka kb na ra nb rb : Int) (fa fb : Nat) (sa sb : ByteArray) (va : vOk ka na fa sa ra = true) (vb : vOk kb nb fb sb rb = true) (hnn : ((ka == 2 || ka == 3) = false) ∨ ((ka == 2 || ka == 3) = true ∧ (kb == 2 || kb == 3) = false)) (w : World) :
    Calls Try.prog 67 #[.agg #[.int .i64 ka, .int .i64 na, .float .f64 fa, .string sa, .int .i64 ra], .agg #[.int .i64 kb, .int .i64 nb, .float .f64 fb, .string sb, .int .i64 rb]] w fun e w' => e = .returned (.bool (veq ka na fa sa ra kb nb fb sb rb)) ∧ Below w.heap.size w w' := by
  have hq : ka = kb → (FloatKind.f64.format.order fa fb == some .eq) = true := fun e => fz_order (vok_fz va (by rintro rfl; simp at hnn; subst e; simp at hnn)) (vok_fz vb (by rintro rfl; simp at hnn; omega))
  have HQ := Lib.hid hq; clear hq
  rcases hnn with hnn | ⟨hnn, hnn2⟩
  all_goals
    go_enter Try.func67, Try.ntmps67
    go_wp2_with (first
    | (go_at_call 13; refine (svok_any _ _ _ _ _ _).mono ?_; rintro e w1 ⟨rfl, hb1⟩; obtain ⟨hc1, hf1⟩ := bcell hb1; have hq1 := hb1.size; (try simp only [dN_size, dN_cell, dN_frozen] at hc1 hf1 hq1); (try simp only [World.size_alloc, World.heap_setCell_size] at hq1); (try simp at hq1); have hz1_0 : w.heap.size < w1.heap.size := (by omega); have hz1_1 : w.heap.size + 1 < w1.heap.size := (by omega); have HB1 : Below w.heap.size w w1 := Below.trans (by (repeat (first | with_reducible assumption | with_reducible exact Below.refl _ _ | with_reducible refine Below.drew ?_ | with_reducible refine bl_drewN _ ?_ | ((with_reducible refine bl_alloc ?_ _ ?_); · (first | omega | (simp; done) | (simp; omega))) | ((with_reducible refine bl_set ?_ _ ?_); · (first | omega | (simp; done) | (simp; omega)))))) (hb1.mono (by (try simp) <;> omega)); clear hb1)
    | (go_at_call 86; refine (num_any _ _ _ _ _ _).mono ?_; rintro e w2 ⟨rfl, hb2⟩; obtain ⟨hc2, hf2⟩ := bcell hb2; have hq2 := hb2.size; (try simp only [dN_size, dN_cell, dN_frozen] at hc2 hf2 hq2); (try simp only [World.size_alloc, World.heap_setCell_size] at hq2); (try simp at hq2); have hz2_0 : w.heap.size < w2.heap.size := (by omega); have hz2_1 : w.heap.size + 1 < w2.heap.size := (by omega); have HB2 : Below w.heap.size w w2 := Below.trans (by (repeat (first | with_reducible assumption | with_reducible exact Below.refl _ _ | with_reducible refine Below.drew ?_ | with_reducible refine bl_drewN _ ?_ | ((with_reducible refine bl_alloc ?_ _ ?_); · (first | omega | (simp; done) | (simp; omega))) | ((with_reducible refine bl_set ?_ _ ?_); · (first | omega | (simp; done) | (simp; omega)))))) (hb2.mono (by (try simp) <;> omega)); clear hb2))
    all_goals go_ret
    all_goals refine ⟨?_, by (repeat (first | with_reducible assumption | with_reducible exact Below.refl _ _ | with_reducible refine Below.drew ?_ | with_reducible refine bl_drewN _ ?_ | ((with_reducible refine bl_alloc ?_ _ ?_); · (first | omega | (simp; done) | (simp; omega))) | ((with_reducible refine bl_set ?_ _ ?_); · (first | omega | (simp; done) | (simp; omega)))))⟩
    all_goals have hq := HQ.out
    all_goals clear HQ
    all_goals (unfold veq; simp_all)
theorem same_num (ka kb : Int) (q : Bool) (na ra nb rb : Int) (fa fb : Nat) (sa sb : ByteArray) (va : vOk ka na fa sa ra = true) (vb : vOk kb nb fb sb rb = true) (ha : (ka == 2 || ka == 3) = true) (hb : (kb == 2 || kb == 3) = true)
    (hc : ∀ W, Calls Try.prog 87 #[.agg #[.int .i64 ka, .int .i64 na, .float .f64 fa, .string sa, .int .i64 ra], .agg #[.int .i64 kb, .int .i64 nb, .float .f64 fb, .string sb, .int .i64 rb]] W fun e w' => CmpR q e ∧ Below W.heap.size W w') (w : World) :
    Calls Try.prog 67 #[.agg #[.int .i64 ka, .int .i64 na, .float .f64 fa, .string sa, .int .i64 ra], .agg #[.int .i64 kb, .int .i64 nb, .float .f64 fb, .string sb, .int .i64 rb]] w fun e w' => e = .returned (.bool q) ∧ Below w.heap.size w w' := by
  have HC := Lib.hid hc; clear hc
  go_enter Try.func67, Try.ntmps67
  go_wp2_with (first
    | (go_at_call 13; refine (svok_any _ _ _ _ _ _).mono ?_; rintro e w1 ⟨rfl, hb1⟩; obtain ⟨hc1, hf1⟩ := bcell hb1; have hq1 := hb1.size; (try simp only [dN_size, dN_cell, dN_frozen] at hc1 hf1 hq1); (try simp only [World.size_alloc, World.heap_setCell_size] at hq1); (try simp at hq1); have hz1_0 : w.heap.size < w1.heap.size := (by omega); have hz1_1 : w.heap.size + 1 < w1.heap.size := (by omega); have HB1 : Below w.heap.size w w1 := Below.trans (by (repeat (first | with_reducible assumption | with_reducible exact Below.refl _ _ | with_reducible refine Below.drew ?_ | with_reducible refine bl_drewN _ ?_ | ((with_reducible refine bl_alloc ?_ _ ?_); · (first | omega | (simp; done) | (simp; omega))) | ((with_reducible refine bl_set ?_ _ ?_); · (first | omega | (simp; done) | (simp; omega)))))) (hb1.mono (by (try simp) <;> omega)); clear hb1)
    | (go_at_call 86; refine (num_any _ _ _ _ _ _).mono ?_; rintro e w2 ⟨rfl, hb2⟩; obtain ⟨hc2, hf2⟩ := bcell hb2; have hq2 := hb2.size; (try simp only [dN_size, dN_cell, dN_frozen] at hc2 hf2 hq2); (try simp only [World.size_alloc, World.heap_setCell_size] at hq2); (try simp at hq2); have hz2_0 : w.heap.size < w2.heap.size := (by omega); have hz2_1 : w.heap.size + 1 < w2.heap.size := (by omega); have HB2 : Below w.heap.size w w2 := Below.trans (by (repeat (first | with_reducible assumption | with_reducible exact Below.refl _ _ | with_reducible refine Below.drew ?_ | with_reducible refine bl_drewN _ ?_ | ((with_reducible refine bl_alloc ?_ _ ?_); · (first | omega | (simp; done) | (simp; omega))) | ((with_reducible refine bl_set ?_ _ ?_); · (first | omega | (simp; done) | (simp; omega)))))) (hb2.mono (by (try simp) <;> omega)); clear hb2)
    | (go_at_call 87; refine (HC.out _).mono ?_; rintro e w3 ⟨⟨c3, hcq3, rfl⟩, hb3⟩; obtain ⟨hc3, hf3⟩ := bcell hb3; have hq3 := hb3.size; (try simp only [dN_size, dN_cell, dN_frozen] at hc3 hf3 hq3); (try simp only [World.size_alloc, World.heap_setCell_size] at hq3); (try simp at hq3); have hz3_0 : w.heap.size < w3.heap.size := (by omega); have hz3_1 : w.heap.size + 1 < w3.heap.size := (by omega); have HB3 : Below w.heap.size w w3 := Below.trans (by (repeat (first | with_reducible assumption | with_reducible exact Below.refl _ _ | with_reducible refine Below.drew ?_ | with_reducible refine bl_drewN _ ?_ | ((with_reducible refine bl_alloc ?_ _ ?_); · (first | omega | (simp; done) | (simp; omega))) | ((with_reducible refine bl_set ?_ _ ?_); · (first | omega | (simp; done) | (simp; omega)))))) (hb3.mono (by (try simp) <;> omega)); clear hb3))
  go_ret
  exact ⟨by rw [← hcq3]; rfl, HB3⟩
theorem same_any (ka kb na ra nb rb : Int) (fa fb : Nat) (sa sb : ByteArray) (ha : canon ka na fa sa ra = true) (hb : canon kb nb fb sb rb = true) (w : World) :
    Calls Try.prog 67 #[.agg #[.int .i64 ka, .int .i64 na, .float .f64 fa, .string sa, .int .i64 ra], .agg #[.int .i64 kb, .int .i64 nb, .float .f64 fb, .string sb, .int .i64 rb]] w fun e w' => e = .returned (.bool (veq ka na fa sa ra kb nb fb sb rb)) ∧ Below w.heap.size w w' := by
  obtain ⟨va, _, pa⟩ := canon_spec ha
  obtain ⟨vb, _, pb⟩ := canon_spec hb
  cases h1 : (ka == 2 || ka == 3)
  · exact same_else ka kb na ra nb rb fa fb sa sb va vb (.inl h1) w
  · cases h2 : (kb == 2 || kb == 3)
    · exact same_else ka kb na ra nb rb fa fb sa sb va vb (.inr ⟨h1, h2⟩) w
    · simp only [Bool.or_eq_true, beq_iff_eq] at h1 h2
      rcases h1 with rfl | rfl <;> rcases h2 with rfl | rfl
      · rw [veq_ii va vb]; exact same_num 2 2 _ na ra nb rb fa fb sa sb va vb rfl rfl (fun W => cmp_ii na ra nb rb fa fb sa sb va vb W) w
      · rw [veq_kind (by decide)]; exact same_num 2 3 _ na ra nb rb fa fb sa sb va vb rfl rfl (fun W => cmp_if na ra nb rb fa fb sa sb va vb (pb rfl).1 (pb rfl).2 W) w
      · rw [veq_kind (by decide)]; exact same_num 3 2 _ na ra nb rb fa fb sa sb va vb rfl rfl (fun W => cmp_fi na ra nb rb fa fb sa sb va vb (pa rfl).1 (pa rfl).2 W) w
      · rw [veq_ff va vb]; exact same_num 3 3 _ na ra nb rb fa fb sa sb va vb rfl rfl (fun W => cmp_ff na ra nb rb fa fb sa sb va vb (pa rfl).1 (pb rfl).1 W) w
end Go.Proofs.Ytchlolfdinakiaa
