/- 'laws.FnExactKey': for every value the law returns true, and the value reads behind the call as it read before. No condition. -/
import Derived.Test.YtchlolfdinakiaaV6
namespace Go.Proofs.Ytchlolfdinakiaa
open Go.RowKit
open Go.ChangeShapes Go.WideShapes Go.ChangeAt Go.Joins Go.Deep
set_option linter.unusedVariables false
attribute [local go_sem] run_store_float

theorem law8 (k n r : Int) (f : Nat) (s : ByteArray) (w : World) (hs : s.size ≤ maxLen) :
    Calls Try.prog 8 #[.agg #[.int .i64 k, .int .i64 n, .float .f64 f, .string s, .int .i64 r]] w fun e w' => e = .returned (.bool true) ∧ Below w.heap.size w w' := by
  by_cases h : szV s 1048576 < 0
  · go_enter Try.func8, Try.ntmps8
    go_wp2_with (go_at_call 12; refine (szv_any _ _ _ _ _ _ _ hs (by omega) (by omega)).mono ?_; rintro e w1 ⟨rfl, hb1⟩; obtain ⟨hc1, hf1⟩ := bcell hb1; have hq1 := hb1.size; (try simp only [dN_size, dN_cell, dN_frozen] at hc1 hf1 hq1); (try simp only [World.size_alloc, World.heap_setCell_size] at hq1); (try simp at hq1); have hz1_0 : w.heap.size < w1.heap.size := (by omega); have HB1 : Below w.heap.size w w1 := Below.trans (by (repeat (first | with_reducible assumption | with_reducible exact Below.refl _ _ | with_reducible refine Below.drew ?_ | with_reducible refine bl_drewN _ ?_ | ((with_reducible refine bl_alloc ?_ _ ?_); · (first | omega | (simp; done) | (simp; omega))) | ((with_reducible refine bl_set ?_ _ ?_); · (first | omega | (simp; done) | (simp; omega)))))) (hb1.mono (by (try simp) <;> omega)); clear hb1)
    go_ret
    exact ⟨rfl, HB1⟩
  · go_enter Try.func8, Try.ntmps8
    go_wp2_with (first
    | (go_at_call 12; refine (szv_any _ _ _ _ _ _ _ hs (by omega) (by omega)).mono ?_; rintro e w1 ⟨rfl, hb1⟩; obtain ⟨hc1, hf1⟩ := bcell hb1; have hq1 := hb1.size; (try simp only [dN_size, dN_cell, dN_frozen] at hc1 hf1 hq1); (try simp only [World.size_alloc, World.heap_setCell_size] at hq1); (try simp at hq1); have hz1_0 : w.heap.size < w1.heap.size := (by omega); have HB1 : Below w.heap.size w w1 := Below.trans (by (repeat (first | with_reducible assumption | with_reducible exact Below.refl _ _ | with_reducible refine Below.drew ?_ | with_reducible refine bl_drewN _ ?_ | ((with_reducible refine bl_alloc ?_ _ ?_); · (first | omega | (simp; done) | (simp; omega))) | ((with_reducible refine bl_set ?_ _ ?_); · (first | omega | (simp; done) | (simp; omega)))))) (hb1.mono (by (try simp) <;> omega)); clear hb1)
    | (go_at_call 14; refine (tov_any _ _ _ _ _ _).mono ?_; rintro e w2 ⟨rfl, hb2⟩; obtain ⟨hc2, hf2⟩ := bcell hb2; have hq2 := hb2.size; (try simp only [dN_size, dN_cell, dN_frozen] at hc2 hf2 hq2); (try simp only [World.size_alloc, World.heap_setCell_size] at hq2); (try simp at hq2); have hz2_0 : w.heap.size < w2.heap.size := (by omega); (try have hy2_0 : w3.heap.size < w2.heap.size := (by omega)); have HB2 : Below w.heap.size w w2 := Below.trans (by (repeat (first | with_reducible assumption | with_reducible exact Below.refl _ _ | with_reducible refine Below.drew ?_ | with_reducible refine bl_drewN _ ?_ | ((with_reducible refine bl_alloc ?_ _ ?_); · (first | omega | (simp; done) | (simp; omega))) | ((with_reducible refine bl_set ?_ _ ?_); · (first | omega | (simp; done) | (simp; omega)))))) (hb2.mono (by (try simp) <;> omega)); clear hb2)
    | (go_at_call 26; refine (skey_any _ _ _ _ _ _).mono ?_; rintro e w3 ⟨rfl, hb3⟩; obtain ⟨hc3, hf3⟩ := bcell hb3; have hq3 := hb3.size; (try simp only [dN_size, dN_cell, dN_frozen] at hc3 hf3 hq3); (try simp only [World.size_alloc, World.heap_setCell_size] at hq3); (try simp at hq3); have hz3_0 : w.heap.size < w3.heap.size := (by omega); have HB3 : Below w.heap.size w w3 := Below.trans (by (repeat (first | with_reducible assumption | with_reducible exact Below.refl _ _ | with_reducible refine Below.drew ?_ | with_reducible refine bl_drewN _ ?_ | ((with_reducible refine bl_alloc ?_ _ ?_); · (first | omega | (simp; done) | (simp; omega))) | ((with_reducible refine bl_set ?_ _ ?_); · (first | omega | (simp; done) | (simp; omega)))))) (hb3.mono (by (try simp) <;> omega)); clear hb3)
    | (go_at_call 27; refine (ikey_any _ _ _ _ _ _).mono ?_; rintro e w4 ⟨rfl, hb4⟩; obtain ⟨hc4, hf4⟩ := bcell hb4; have hq4 := hb4.size; (try simp only [dN_size, dN_cell, dN_frozen] at hc4 hf4 hq4); (try simp only [World.size_alloc, World.heap_setCell_size] at hq4); (try simp at hq4); have hz4_0 : w.heap.size < w4.heap.size := (by omega); (try have hy4_0 : w3.heap.size < w4.heap.size := (by omega)); have HB4 : Below w.heap.size w w4 := Below.trans (by (repeat (first | with_reducible assumption | with_reducible exact Below.refl _ _ | with_reducible refine Below.drew ?_ | with_reducible refine bl_drewN _ ?_ | ((with_reducible refine bl_alloc ?_ _ ?_); · (first | omega | (simp; done) | (simp; omega))) | ((with_reducible refine bl_set ?_ _ ?_); · (first | omega | (simp; done) | (simp; omega)))))) (hb4.mono (by (try simp) <;> omega)); clear hb4)
    | (go_at_call 25; refine (eqvd_any _ _ _ _ _ _ _).mono ?_; rintro e w5 ⟨rfl, hb5⟩; obtain ⟨hc5, hf5⟩ := bcell hb5; have hq5 := hb5.size; (try simp only [dN_size, dN_cell, dN_frozen] at hc5 hf5 hq5); (try simp only [World.size_alloc, World.heap_setCell_size] at hq5); (try simp at hq5); have hz5_0 : w.heap.size < w5.heap.size := (by omega); (try have hy5_0 : w3.heap.size < w5.heap.size := (by omega)); have HB5 : Below w.heap.size w w5 := Below.trans (by (repeat (first | with_reducible assumption | with_reducible exact Below.refl _ _ | with_reducible refine Below.drew ?_ | with_reducible refine bl_drewN _ ?_ | ((with_reducible refine bl_alloc ?_ _ ?_); · (first | omega | (simp; done) | (simp; omega))) | ((with_reducible refine bl_set ?_ _ ?_); · (first | omega | (simp; done) | (simp; omega)))))) (hb5.mono (by (try simp) <;> omega)); clear hb5))
    go_ret
    exact ⟨rfl, HB5⟩

theorem lawW8 (a b : Int) (c : Nat) (s : ByteArray) (g : Int) (h : Value5 a b c s g) (w : World) :
    Calls Try.prog 8 #[.agg #[.int .i64 a, .int .i64 b, .float .f64 c, .string s, .int .i64 g]] w fun e w' => e = .returned (.bool true) ∧ Below w.heap.size w w' := law8 a b g c s w h.2.2.2.1

set_option maxRecDepth 100000 in
theorem lifted8 (os : Os) (started : os.Started) (H : Type) (enc : TypeId × Value → H) :
    ReturnsInHanded {} Try.checked os 8 .any (Rows.fnExactKeySpec.pre6 enc Try.prog Try.f8 Rows.fnExactKeyRow.domain false) (Rows.fnExactKeySpec.post enc Try.prog Try.f8 false true false false) := by
  refine returnsInHanded_of_change (C := Try.checked) own started (by kernel_rfl) Try.func8
    (ChangeSpec.witness6 (enc := enc) (C := Try.checked) false ⟨#[], #[.agg #[.int .i64 0, .int .i64 0, .float .f64 0, .string ⟨#[]⟩, .int .i64 0]], []⟩ 8 (by kernel_rfl) (by kernel_rfl) (by kernel_rfl) (by kernel_rfl)) ?_
  intro W base args ds gs before hval0 hW hcnd _
  have hval : ∀ (j : Nat) t v, Try.f8.params[j]? = some t → args[j]? = some v → Value.okWide Try.prog W .any base t v := hval0
  have hW' := hW
  obtain ⟨p, q, hA0, hV, rfl, hfz, hnd⟩ := hW
  have hA : DataW.TrodAll enc Try.prog W 0 (fun _ => true) true Try.f8.params.toList args.toList ds p := hA0
  rw [Try.params8] at hA hval
  obtain ⟨v0, vs0, d0, ds0, p0, q0, hargs, rfl, rfl, h0, r0⟩ := trodAll_cons hA
  obtain ⟨rfl, rfl, rfl⟩ := trodAll_nil r0
  obtain rfl : args = #[v0] := by cases args; simp_all
  obtain ⟨rfl, rfl⟩ := trodVars_none hV
  have k0 := h0
  have lt0 : ∀ x ∈ p0, x.block < W.heap.size := by obtain ⟨m, hm⟩ := k0; exact DataW.trod_lt m _ _ _ hm
  obtain ⟨a0, b0, c0, e0, g0, rfl, hs0⟩ : ∃ (a b : Int) (c : Nat) (s : ByteArray) (g : Int), v0 = .agg #[.int .i64 a, .int .i64 b, .float .f64 c, .string s, .int .i64 g] ∧ Value5 a b c s g := by
    obtain ⟨x0, x1, x2, x3, x4, y0, y1, y2, y3, y4, m, rfl, -, -, hy0, hy1, hy2, hy3, hy4⟩ := open_agg5 Try.underlying25 (by kernel_rfl) cells25 (hval 0 25 v0 rfl rfl) h0
    obtain ⟨a, e0, -, wa⟩ := DataW.trod_int Try.underlying3 hy0
    obtain ⟨b, e1, -, wb⟩ := DataW.trod_int Try.underlying2 hy1
    obtain ⟨c, e2, -, wc⟩ := trod_float Try.underlying23 hy2
    obtain ⟨s, e3, -, ws⟩ := DataW.trod_string Try.underlying9 hy3
    obtain ⟨g, e4, -, wg⟩ := DataW.trod_int Try.underlying3 hy4
    simp at e0 e1 e2 e3 e4
    subst e0 e1 e2 e3 e4
    exact ⟨a, b, c, s, g, rfl, wa, wb, wc, ws, wg⟩
  clear hA0 hval0
  refine (lawW8 a0 b0 c0 e0 g0 hs0 W).mono fun e W' ⟨he, bel⟩ => ?_
  subst he
  exact ⟨_, rfl, _, _, _, [], _, [], hW', trodAll_mk1 (shut_bool Try.underlying4 _), (trodAll_cons_mk (Below.trod laidOut (by kernel_rfl) (of_decide_eq_true (by kernel_rfl)) k0 bel lt0) trodAll_mk0), rfl, bel.frame _, fun h => by cases h⟩

theorem FnExactKeyHolds : Rows.FnExactKeySaid :=
  OpenClaim.holds_of_wide 8 Try.f8 rfl rfl rfl rfl rfl rfl rfl ⟨rfl, rfl, rfl, rfl, rfl⟩ rfl rfl rfl rfl rfl (by kernel_rfl) Try.func8 (by kernel_rfl)
    (of_decide_eq_true (by kernel_rfl)) (by unfold Func.isWrapper; first | (rw [if_pos (by decide +kernel)]; kernel_rfl) | (rw [if_neg (by decide +kernel)]; exact ⟨rfl, rfl⟩))
    (fun os started H enc _ => lifted8 os started H enc)

end Go.Proofs.Ytchlolfdinakiaa
