/- 'laws.FnExactUnary': for every operation and value the law returns true, and both read behind the call as they read before. No condition. -/
import Derived.Test.YtchlolfdinakiaaV3
namespace Go.Proofs.Ytchlolfdinakiaa
open Go.RowKit
open Go.ChangeShapes Go.WideShapes Go.ChangeAt Go.Joins Go.Deep
set_option linter.unusedVariables false
attribute [local go_sem] run_store_float

theorem law7 (op k n r : Int) (f : Nat) (s : ByteArray) (w : World) (hs : s.size ≤ maxLen) :
    Calls Try.prog 7 #[.int .i64 op, .agg #[.int .i64 k, .int .i64 n, .float .f64 f, .string s, .int .i64 r]] w fun e w' => e = .returned (.bool true) ∧ Below w.heap.size w w' := by
  by_cases h : szV s 1048576 < 0
  · go_enter Try.func7, Try.ntmps7
    go_wp2_with (go_at_call 12; refine (szv_any _ _ _ _ _ _ _ hs (by omega) (by omega)).mono ?_; rintro e w1 ⟨rfl, hb1⟩; obtain ⟨hc1, hf1⟩ := bcell hb1; have hq1 := hb1.size; (try simp only [dN_size, dN_cell, dN_frozen] at hc1 hf1 hq1); (try simp only [World.size_alloc, World.heap_setCell_size] at hq1); (try simp at hq1); have hz1_0 : w.heap.size < w1.heap.size := (by omega); have HB1 : Below w.heap.size w w1 := Below.trans (by (repeat (first | with_reducible assumption | with_reducible exact Below.refl _ _ | with_reducible refine Below.drew ?_ | with_reducible refine bl_drewN _ ?_ | ((with_reducible refine bl_alloc ?_ _ ?_); · (first | omega | (simp; done) | (simp; omega))) | ((with_reducible refine bl_set ?_ _ ?_); · (first | omega | (simp; done) | (simp; omega)))))) (hb1.mono (by (try simp) <;> omega)); clear hb1)
    go_ret
    exact ⟨rfl, HB1⟩
  · go_enter Try.func7, Try.ntmps7
    go_wp2_with (first
    | (go_at_call 12; refine (szv_any _ _ _ _ _ _ _ hs (by omega) (by omega)).mono ?_; rintro e w1 ⟨rfl, hb1⟩; obtain ⟨hc1, hf1⟩ := bcell hb1; have hq1 := hb1.size; (try simp only [dN_size, dN_cell, dN_frozen] at hc1 hf1 hq1); (try simp only [World.size_alloc, World.heap_setCell_size] at hq1); (try simp at hq1); have hz1_0 : w.heap.size < w1.heap.size := (by omega); have HB1 : Below w.heap.size w w1 := Below.trans (by (repeat (first | with_reducible assumption | with_reducible exact Below.refl _ _ | with_reducible refine Below.drew ?_ | with_reducible refine bl_drewN _ ?_ | ((with_reducible refine bl_alloc ?_ _ ?_); · (first | omega | (simp; done) | (simp; omega))) | ((with_reducible refine bl_set ?_ _ ?_); · (first | omega | (simp; done) | (simp; omega)))))) (hb1.mono (by (try simp) <;> omega)); clear hb1)
    | (go_at_call 14; refine (tov_any _ _ _ _ _ _).mono ?_; rintro e w2 ⟨rfl, hb2⟩; obtain ⟨hc2, hf2⟩ := bcell hb2; have hq2 := hb2.size; (try simp only [dN_size, dN_cell, dN_frozen] at hc2 hf2 hq2); (try simp only [World.size_alloc, World.heap_setCell_size] at hq2); (try simp at hq2); have hz2_0 : w.heap.size < w2.heap.size := (by omega); (try have hy2_0 : w3.heap.size < w2.heap.size := (by omega)); have HB2 : Below w.heap.size w w2 := Below.trans (by (repeat (first | with_reducible assumption | with_reducible exact Below.refl _ _ | with_reducible refine Below.drew ?_ | with_reducible refine bl_drewN _ ?_ | ((with_reducible refine bl_alloc ?_ _ ?_); · (first | omega | (simp; done) | (simp; omega))) | ((with_reducible refine bl_set ?_ _ ?_); · (first | omega | (simp; done) | (simp; omega)))))) (hb2.mono (by (try simp) <;> omega)); clear hb2)
    | (go_at_call 23; refine (sunary_any _ _ _ _ _ _ _).mono ?_; rintro e w3 ⟨rfl, hb3⟩; obtain ⟨hc3, hf3⟩ := bcell hb3; have hq3 := hb3.size; (try simp only [dN_size, dN_cell, dN_frozen] at hc3 hf3 hq3); (try simp only [World.size_alloc, World.heap_setCell_size] at hq3); (try simp at hq3); have hz3_0 : w.heap.size < w3.heap.size := (by omega); have HB3 : Below w.heap.size w w3 := Below.trans (by (repeat (first | with_reducible assumption | with_reducible exact Below.refl _ _ | with_reducible refine Below.drew ?_ | with_reducible refine bl_drewN _ ?_ | ((with_reducible refine bl_alloc ?_ _ ?_); · (first | omega | (simp; done) | (simp; omega))) | ((with_reducible refine bl_set ?_ _ ?_); · (first | omega | (simp; done) | (simp; omega)))))) (hb3.mono (by (try simp) <;> omega)); clear hb3)
    | (go_at_call 24; refine (iunary_any _ _ _ _ _ _ _).mono ?_; rintro e w4 ⟨rfl, hb4⟩; obtain ⟨hc4, hf4⟩ := bcell hb4; have hq4 := hb4.size; (try simp only [dN_size, dN_cell, dN_frozen] at hc4 hf4 hq4); (try simp only [World.size_alloc, World.heap_setCell_size] at hq4); (try simp at hq4); have hz4_0 : w.heap.size < w4.heap.size := (by omega); (try have hy4_0 : w3.heap.size < w4.heap.size := (by omega)); have HB4 : Below w.heap.size w w4 := Below.trans (by (repeat (first | with_reducible assumption | with_reducible exact Below.refl _ _ | with_reducible refine Below.drew ?_ | with_reducible refine bl_drewN _ ?_ | ((with_reducible refine bl_alloc ?_ _ ?_); · (first | omega | (simp; done) | (simp; omega))) | ((with_reducible refine bl_set ?_ _ ?_); · (first | omega | (simp; done) | (simp; omega)))))) (hb4.mono (by (try simp) <;> omega)); clear hb4)
    | (go_at_call 25; refine (eqvd_any _ _ _ _ _ _ _).mono ?_; rintro e w5 ⟨rfl, hb5⟩; obtain ⟨hc5, hf5⟩ := bcell hb5; have hq5 := hb5.size; (try simp only [dN_size, dN_cell, dN_frozen] at hc5 hf5 hq5); (try simp only [World.size_alloc, World.heap_setCell_size] at hq5); (try simp at hq5); have hz5_0 : w.heap.size < w5.heap.size := (by omega); (try have hy5_0 : w3.heap.size < w5.heap.size := (by omega)); have HB5 : Below w.heap.size w w5 := Below.trans (by (repeat (first | with_reducible assumption | with_reducible exact Below.refl _ _ | with_reducible refine Below.drew ?_ | with_reducible refine bl_drewN _ ?_ | ((with_reducible refine bl_alloc ?_ _ ?_); · (first | omega | (simp; done) | (simp; omega))) | ((with_reducible refine bl_set ?_ _ ?_); · (first | omega | (simp; done) | (simp; omega)))))) (hb5.mono (by (try simp) <;> omega)); clear hb5))
    go_ret
    exact ⟨rfl, HB5⟩

theorem lawW7 (op : Int) (hop : (Lit.int .i64 op).wf = true) (a b : Int) (c : Nat) (s : ByteArray) (g : Int) (h : Value5 a b c s g) (w : World) :
    Calls Try.prog 7 #[.int .i64 op, .agg #[.int .i64 a, .int .i64 b, .float .f64 c, .string s, .int .i64 g]] w fun e w' => e = .returned (.bool true) ∧ Below w.heap.size w w' := law7 op a b g c s w h.2.2.2.1

set_option maxRecDepth 100000 in
theorem lifted7 (os : Os) (started : os.Started) (H : Type) (enc : TypeId × Value → H) :
    ReturnsInHanded {} Try.checked os 7 .any (Rows.fnExactUnarySpec.pre6 enc Try.prog Try.f7 Rows.fnExactUnaryRow.domain false) (Rows.fnExactUnarySpec.post enc Try.prog Try.f7 false true false false) := by
  refine returnsInHanded_of_change (C := Try.checked) own started (by kernel_rfl) Try.func7
    (ChangeSpec.witness6 (enc := enc) (C := Try.checked) false ⟨#[], #[.int .i64 0, .agg #[.int .i64 0, .int .i64 0, .float .f64 0, .string ⟨#[]⟩, .int .i64 0]], []⟩ 8 (by kernel_rfl) (by kernel_rfl) (by kernel_rfl) (by kernel_rfl)) ?_
  intro W base args ds gs before hval0 hW hcnd _
  have hval : ∀ (j : Nat) t v, Try.f7.params[j]? = some t → args[j]? = some v → Value.okWide Try.prog W .any base t v := hval0
  have hW' := hW
  obtain ⟨p, q, hA0, hV, rfl, hfz, hnd⟩ := hW
  have hA : DataW.TrodAll enc Try.prog W 0 (fun _ => true) true Try.f7.params.toList args.toList ds p := hA0
  rw [Try.params7] at hA hval
  obtain ⟨v0, vs0, d0, ds0, p0, q0, hargs, rfl, rfl, h0, r0⟩ := trodAll_cons hA
  obtain ⟨v1, vs1, d1, ds1, p1, q1, rfl, rfl, rfl, h1, r1⟩ := trodAll_cons r0
  obtain ⟨rfl, rfl, rfl⟩ := trodAll_nil r1
  obtain rfl : args = #[v0, v1] := by cases args; simp_all
  obtain ⟨rfl, rfl⟩ := trodVars_none hV
  have k0 := h0
  have lt0 : ∀ x ∈ p0, x.block < W.heap.size := by obtain ⟨m, hm⟩ := k0; exact DataW.trod_lt m _ _ _ hm
  have k1 := h1
  have lt1 : ∀ x ∈ p1, x.block < W.heap.size := by obtain ⟨m, hm⟩ := k1; exact DataW.trod_lt m _ _ _ hm
  obtain ⟨a0, rfl, rfl, rfl, w0⟩ := open_int Try.underlying3 (hval 0 3 v0 rfl rfl) h0
  obtain ⟨a1, b1, c1, e1, g1, rfl, hs1⟩ : ∃ (a b : Int) (c : Nat) (s : ByteArray) (g : Int), v1 = .agg #[.int .i64 a, .int .i64 b, .float .f64 c, .string s, .int .i64 g] ∧ Value5 a b c s g := by
    obtain ⟨x0, x1, x2, x3, x4, y0, y1, y2, y3, y4, m, rfl, -, -, hy0, hy1, hy2, hy3, hy4⟩ := open_agg5 Try.underlying25 (by kernel_rfl) cells25 (hval 1 25 v1 rfl rfl) h1
    obtain ⟨a, e0, -, wa⟩ := DataW.trod_int Try.underlying3 hy0
    obtain ⟨b, e1, -, wb⟩ := DataW.trod_int Try.underlying2 hy1
    obtain ⟨c, e2, -, wc⟩ := trod_float Try.underlying23 hy2
    obtain ⟨s, e3, -, ws⟩ := DataW.trod_string Try.underlying9 hy3
    obtain ⟨g, e4, -, wg⟩ := DataW.trod_int Try.underlying3 hy4
    simp at e0 e1 e2 e3 e4
    subst e0 e1 e2 e3 e4
    exact ⟨a, b, c, s, g, rfl, wa, wb, wc, ws, wg⟩
  clear hA0 hval0
  refine (lawW7 a0 w0 a1 b1 c1 e1 g1 hs1 W).mono fun e W' ⟨he, bel⟩ => ?_
  subst he
  exact ⟨_, rfl, _, _, _, [], _, [], hW', trodAll_mk1 (shut_bool Try.underlying4 _), (trodAll_cons_mk (Below.trod laidOut (by kernel_rfl) (of_decide_eq_true (by kernel_rfl)) k0 bel lt0) (trodAll_cons_mk (Below.trod laidOut (by kernel_rfl) (of_decide_eq_true (by kernel_rfl)) k1 bel lt1) trodAll_mk0)), rfl, bel.frame _, fun h => by cases h⟩

theorem FnExactUnaryHolds : Rows.FnExactUnarySaid :=
  OpenClaim.holds_of_wide 7 Try.f7 rfl rfl rfl rfl rfl rfl rfl ⟨rfl, rfl, rfl, rfl, rfl⟩ rfl rfl rfl rfl rfl (by kernel_rfl) Try.func7 (by kernel_rfl)
    (of_decide_eq_true (by kernel_rfl)) (by unfold Func.isWrapper; first | (rw [if_pos (by decide +kernel)]; kernel_rfl) | (rw [if_neg (by decide +kernel)]; exact ⟨rfl, rfl⟩))
    (fun os started H enc _ => lifted7 os started H enc)

end Go.Proofs.Ytchlolfdinakiaa
