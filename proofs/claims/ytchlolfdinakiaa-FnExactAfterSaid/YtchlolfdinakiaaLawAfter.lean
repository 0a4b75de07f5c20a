/- 'laws.FnExactAfter': for every table and turn the law returns true, and the table reads behind the call as it read before. No condition. -/
import Derived.Test.YtchlolfdinakiaaP9
import Derived.Test.YtchlolfdinakiaaP8
import Derived.Deep.RegionHeld3
namespace Go.Proofs.Ytchlolfdinakiaa
open Go.RowKit
open Go.ChangeShapes Go.WideShapes Go.ChangeAt Go.Joins Go.Deep
set_option linter.unusedVariables false
attribute [local go_sem] run_store_float
theorem szPS_small {ps : List Pr} {left : Int} (h0 : 0 ≤ left) (h : ¬ szPS ps left < 0) : (ps.length : Int) ≤ left := by
  unfold szPS negOr at h
  split at h <;> omega
theorem cells48 : Try.prog.cellsOf 48 = 2 := by kernel_rfl
def InT (W : World) (A : Option Addr) (ps : List Pr) : Prop := RdL encP 11 W 0 A ps ∧ (∀ p ∈ ps, fitP p) ∧ ps.length ≤ maxLen


set_option maxRecDepth 100000 in
set_option maxHeartbeats 1000000 in
theorem law10 (A : Option Addr) (c : Nat) (ps : List Pr) (tn turn : Int) (w : World) (lo : Nat) (h : RdL encP 11 w lo A ps) (hx : ∀ p ∈ ps, fitP p) (hn : ps.length ≤ maxLen) :
    Calls Try.prog 10 #[.agg #[.slice A ps.length c, .int .i64 tn], .int .i64 turn] w fun e w' => e = .returned (.bool true) ∧ Below w.heap.size w w' := by
  by_cases hs : szPS ps 1048576 < 0
  · go_enter Try.func10, Try.ntmps10
    go_wp2_with fail
    refine (szt_any _ _ ps _ _ _ lo (h.alloc _) hx hn (by omega) (by omega)).mono ?_
    rintro e w1 ⟨rfl, hb1⟩
    obtain ⟨hc1, hf1⟩ := bcell hb1
    have hq1 := hb1.size
    try simp only [dN_size, dN_cell, dN_frozen] at hc1 hf1 hq1
    try simp only [World.size_alloc] at hq1
    try simp only [World.size_setCell] at hq1
    have hz1_0 : w.heap.size < w1.heap.size := by omega
    have HB1 : Below w.heap.size w w1 := Below.trans (by (repeat (first | with_reducible assumption | with_reducible exact Below.refl _ _ | with_reducible refine Below.drew ?_ | with_reducible refine bl_drewN _ ?_ | ((with_reducible refine bl_alloc ?_ _ ?_); · (first | omega | (simp; done) | (simp; omega))) | ((with_reducible refine bl_set ?_ _ ?_); · (first | omega | (simp; done) | (simp; omega)))))) (hb1.mono (by (try simp) <;> omega))
    clear hb1
    go_wp2
    go_ret
    exact ⟨rfl, HB1⟩
  · have m0 := szPS_small (by omega) hs
    have m1 : ps.length ≤ 1048576 := by omega
    go_enter Try.func10, Try.ntmps10
    go_wp2_with fail
    refine (szt_any _ _ ps _ _ _ lo (h.alloc _) hx hn (by omega) (by omega)).mono ?_
    rintro e w1 ⟨rfl, hb1⟩
    obtain ⟨hc1, hf1⟩ := bcell hb1
    have hq1 := hb1.size
    try simp only [dN_size, dN_cell, dN_frozen] at hc1 hf1 hq1
    try simp only [World.size_alloc] at hq1
    try simp only [World.size_setCell] at hq1
    have hz1_0 : w.heap.size < w1.heap.size := by omega
    have HB1 : Below w.heap.size w w1 := Below.trans (by (repeat (first | with_reducible assumption | with_reducible exact Below.refl _ _ | with_reducible refine Below.drew ?_ | with_reducible refine bl_drewN _ ?_ | ((with_reducible refine bl_alloc ?_ _ ?_); · (first | omega | (simp; done) | (simp; omega))) | ((with_reducible refine bl_set ?_ _ ?_); · (first | omega | (simp; done) | (simp; omega)))))) (hb1.mono (by (try simp) <;> omega))
    clear hb1
    go_wp2_with fail
    refine (tot_any _ _ ps _ _ lo (h.below HB1) m1).mono ?_
    rintro e w2 ⟨A1, c1, rfl, g1, hb2⟩
    obtain ⟨hc2, hf2⟩ := bcell hb2
    have hq2 := hb2.size
    try simp only [dN_size, dN_cell, dN_frozen] at hc2 hf2 hq2
    try simp only [World.size_alloc] at hq2
    try simp only [World.size_setCell] at hq2
    have hz2_0 : w.heap.size < w2.heap.size := by omega
    have HB2 : Below w.heap.size w w2 := Below.trans (by (repeat (first | with_reducible assumption | with_reducible exact Below.refl _ _ | with_reducible refine Below.drew ?_ | with_reducible refine bl_drewN _ ?_ | ((with_reducible refine bl_alloc ?_ _ ?_); · (first | omega | (simp; done) | (simp; omega))) | ((with_reducible refine bl_set ?_ _ ?_); · (first | omega | (simp; done) | (simp; omega)))))) (hb2.mono (by (try simp) <;> omega))
    clear hb2
    go_wp2_with fail
    refine (saft_any _ _ ps _ _ _ _ g1 hn).mono ?_
    rintro e w3 ⟨rfl, hb3⟩
    obtain ⟨hc3, hf3⟩ := bcell hb3
    have hq3 := hb3.size
    try simp only [dN_size, dN_cell, dN_frozen] at hc3 hf3 hq3
    try simp only [World.size_alloc] at hq3
    try simp only [World.size_setCell] at hq3
    have hz3_0 : w.heap.size < w3.heap.size := by omega
    have HB3 : Below w.heap.size w w3 := Below.trans (by (repeat (first | with_reducible assumption | with_reducible exact Below.refl _ _ | with_reducible refine Below.drew ?_ | with_reducible refine bl_drewN _ ?_ | ((with_reducible refine bl_alloc ?_ _ ?_); · (first | omega | (simp; done) | (simp; omega))) | ((with_reducible refine bl_set ?_ _ ?_); · (first | omega | (simp; done) | (simp; omega)))))) (hb3.mono (by (try simp) <;> omega))
    clear hb3
    clear g1
    go_wp2_with fail
    refine (tot_any _ _ ps _ _ lo (h.below (by (repeat (first | with_reducible assumption | with_reducible exact Below.refl _ _ | with_reducible refine Below.drew ?_ | with_reducible refine bl_drewN _ ?_ | ((with_reducible refine bl_alloc ?_ _ ?_); · (first | omega | (simp; done) | (simp; omega))) | ((with_reducible refine bl_set ?_ _ ?_); · (first | omega | (simp; done) | (simp; omega))))))) m1).mono ?_
    rintro e w4 ⟨A3, c3, rfl, g3, hb4⟩
    obtain ⟨hc4, hf4⟩ := bcell hb4
    have hq4 := hb4.size
    try simp only [dN_size, dN_cell, dN_frozen] at hc4 hf4 hq4
    try simp only [World.size_alloc] at hq4
    try simp only [World.size_setCell] at hq4
    have hz4_0 : w.heap.size < w4.heap.size := by omega
    have hy4_0 : w3.heap.size < w4.heap.size := by omega
    have HB4 : Below w.heap.size w w4 := Below.trans (by (repeat (first | with_reducible assumption | with_reducible exact Below.refl _ _ | with_reducible refine Below.drew ?_ | with_reducible refine bl_drewN _ ?_ | ((with_reducible refine bl_alloc ?_ _ ?_); · (first | omega | (simp; done) | (simp; omega))) | ((with_reducible refine bl_set ?_ _ ?_); · (first | omega | (simp; done) | (simp; omega)))))) (hb4.mono (by (try simp) <;> omega))
    clear hb4
    go_wp2_with fail
    refine (iaft_any _ _ ps _ _ _ _ (g3.alloc _) hn).mono ?_
    rintro e w5 ⟨rfl, hb5⟩
    obtain ⟨hc5, hf5⟩ := bcell hb5
    have hq5 := hb5.size
    try simp only [dN_size, dN_cell, dN_frozen] at hc5 hf5 hq5
    try simp only [World.size_alloc] at hq5
    try simp only [World.size_setCell] at hq5
    have hz5_0 : w.heap.size < w5.heap.size := by omega
    have hy5_0 : w3.heap.size < w5.heap.size := by omega
    have hy5_1 : w4.heap.size < w5.heap.size := by omega
    have HB5 : Below w.heap.size w w5 := Below.trans (by (repeat (first | with_reducible assumption | with_reducible exact Below.refl _ _ | with_reducible refine Below.drew ?_ | with_reducible refine bl_drewN _ ?_ | ((with_reducible refine bl_alloc ?_ _ ?_); · (first | omega | (simp; done) | (simp; omega))) | ((with_reducible refine bl_set ?_ _ ?_); · (first | omega | (simp; done) | (simp; omega)))))) (hb5.mono (by (try simp) <;> omega))
    replace g3 := (g3.alloc _).below hb5
    clear hb5
    go_wp2_with fail
    refine (eqfd_any _ _).mono ?_
    rintro e w6 ⟨rfl, hb6⟩
    obtain ⟨hc6, hf6⟩ := bcell hb6
    have hq6 := hb6.size
    try simp only [dN_size, dN_cell, dN_frozen] at hc6 hf6 hq6
    try simp only [World.size_alloc] at hq6
    try simp only [World.size_setCell] at hq6
    have hz6_0 : w.heap.size < w6.heap.size := by omega
    have hy6_0 : w3.heap.size < w6.heap.size := by omega
    have hy6_1 : w4.heap.size < w6.heap.size := by omega
    have HB6 : Below w.heap.size w w6 := Below.trans (by (repeat (first | with_reducible assumption | with_reducible exact Below.refl _ _ | with_reducible refine Below.drew ?_ | with_reducible refine bl_drewN _ ?_ | ((with_reducible refine bl_alloc ?_ _ ?_); · (first | omega | (simp; done) | (simp; omega))) | ((with_reducible refine bl_set ?_ _ ?_); · (first | omega | (simp; done) | (simp; omega)))))) (hb6.mono (by (try simp) <;> omega))
    replace g3 := (g3.alloc _).below hb6
    clear hb6
    go_wp2
    have hz4 : w.heap.size < w4.heap.size + 1 := by omega
    have HBX := HB6
    go_region_held3 (fun w' => w'.cell? ⟨w.heap.size, 0, none⟩ = some (.slice A ps.length c) ∧ w'.cell? ⟨w.heap.size, 1, none⟩ = some (.int .i64 tn) ∧ w'.cell? ⟨w4.heap.size, 0, none⟩ = some (.slice A3 ps.length c3) ∧ w'.cell? ⟨w4.heap.size, 1, none⟩ = some (.int .i64 tn)) (simp [go_sem, World.cell?_alloc_past, *]) (first
      | (go_at_call 30; refine (tot_any _ _ ps _ _ lo (by exact h.below (by (repeat (first | with_reducible assumption | with_reducible exact Below.refl _ _ | with_reducible refine Below.drew ?_ | with_reducible refine bl_drewN _ ?_ | ((with_reducible refine bl_alloc ?_ _ ?_); · (first | omega | (simp; done) | (simp; omega))) | ((with_reducible refine bl_set ?_ _ ?_); · (first | omega | (simp; done) | (simp; omega))))))) m1).mono ?_; rintro e w8 ⟨A5, c5, rfl, g5, hb8⟩; replace hb8 := bl_undrew hb8; obtain ⟨hc8, hf8⟩ := bcell hb8; have hq8 := hb8.size; have hz8 : w.heap.size < w8.heap.size := (by omega); have hy8 : w4.heap.size < w8.heap.size := (by omega); have HB8 : Below w.heap.size w w8 := Below.trans HBX (hb8.mono (by omega)))
      | (go_at_call 32; refine (eqt_any _ _ _ _ ps _ _ _ _ (by exact g3.below hb8) g5 hn).mono ?_; rintro e w9 ⟨rfl, hb9⟩; obtain ⟨hc9, hf9⟩ := bcell hb9; have hq9 := hb9.size; have hz9 : w.heap.size < w9.heap.size := (by omega); have hy9 : w4.heap.size < w9.heap.size := (by omega); have HB9 : Below w.heap.size w w9 := HB8.trans (hb9.mono (by omega))))
    go_wp2
    go_ret
    exact ⟨rfl, HB9⟩

theorem lawW10 (A : Option Addr) (a : Nat) (ps : List Pr) (t turn : Int) (_ : (Lit.int IntKind.i64 turn).wf = true) (w : World) (h : InT w A ps) :
    Calls Try.prog 10 #[.agg #[.slice A ps.length a, .int .i64 t], .int .i64 turn] w fun e w' => e = .returned (.bool true) ∧ Below w.heap.size w w' := law10 A a ps t turn w 0 h.1 h.2.1 h.2.2

set_option maxRecDepth 100000 in
theorem lifted10 (os : Os) (started : os.Started) (H : Type) (enc : TypeId × Value → H) :
    ReturnsInHanded {} Try.checked os 10 .any (Rows.fnExactAfterSpec.pre6 enc Try.prog Try.f10 Rows.fnExactAfterRow.domain false) (Rows.fnExactAfterSpec.post enc Try.prog Try.f10 false true false false) := by
  refine returnsInHanded_of_change (C := Try.checked) own started (by kernel_rfl) Try.func10
    (ChangeSpec.witness6 (enc := enc) (C := Try.checked) false ⟨#[], #[.agg #[.slice none 0 0, .int .i64 0], .int .i64 0], []⟩ 8 (by kernel_rfl) (by kernel_rfl) (by kernel_rfl) (by kernel_rfl)) ?_
  intro W base args ds gs before hval0 hW hcnd _
  have hval : ∀ (j : Nat) t v, Try.f10.params[j]? = some t → args[j]? = some v → Value.okWide Try.prog W .any base t v := hval0
  have hW' := hW
  obtain ⟨p, q, hA0, hV, rfl, hfz, hnd⟩ := hW
  have hA : DataW.TrodAll enc Try.prog W 0 (fun _ => true) true Try.f10.params.toList args.toList ds p := hA0
  rw [Try.params10] at hA hval
  obtain ⟨v0, vs0, d0, ds0, p0, q0, hargs, rfl, rfl, h0, r0⟩ := trodAll_cons hA
  obtain ⟨v1, vs1, d1, ds1, p1, q1, rfl, rfl, rfl, h1, r1⟩ := trodAll_cons r0
  obtain ⟨rfl, rfl, rfl⟩ := trodAll_nil r1
  obtain rfl : args = #[v0, v1] := by cases args; simp_all
  obtain ⟨rfl, rfl⟩ := trodVars_none hV
  have k0 := h0
  have lt0 : ∀ x ∈ p0, x.block < W.heap.size := by obtain ⟨m, hm⟩ := k0; exact DataW.trod_lt m _ _ _ hm
  have k1 := h1
  have lt1 : ∀ x ∈ p1, x.block < W.heap.size := by obtain ⟨m, hm⟩ := k1; exact DataW.trod_lt m _ _ _ hm
  obtain ⟨A0, a0, ps0, t0, rfl, hs0⟩ : ∃ (A : Option Addr) (a : Nat) (ps : List Pr) (t : Int), v0 = .agg #[.slice A ps.length a, .int .i64 t] ∧ InT W A ps := by
    obtain ⟨x0, x1, y0, y1, m, rfl, -, -, hy0, hy1⟩ := open_agg2 Try.underlying48 (by kernel_rfl) cells48 (hval 0 48 v0 rfl rfl) h0
    obtain ⟨A, a, ps, rfl, g1, g2, g3⟩ := pairs_open hy0
    obtain ⟨t, e2, -, -⟩ := DataW.trod_int Try.underlying3 hy1
    simp at e2
    subst e2
    exact ⟨A, a, ps, t, rfl, g1, g2, g3⟩
  obtain ⟨a1, rfl, rfl, rfl, w1⟩ := open_int Try.underlying3 (hval 1 3 v1 rfl rfl) h1
  clear hA0 hval0
  refine (lawW10 A0 a0 ps0 t0 a1 w1 W hs0).mono fun e W' ⟨he, bel⟩ => ?_
  subst he
  exact ⟨_, rfl, _, _, _, [], _, [], hW', trodAll_mk1 (shut_bool Try.underlying4 _), (trodAll_cons_mk (Below.trod laidOut (by kernel_rfl) (of_decide_eq_true (by kernel_rfl)) k0 bel lt0) (trodAll_cons_mk (Below.trod laidOut (by kernel_rfl) (of_decide_eq_true (by kernel_rfl)) k1 bel lt1) trodAll_mk0)), rfl, bel.frame _, fun h => by cases h⟩

theorem FnExactAfterHolds : Rows.FnExactAfterSaid :=
  OpenClaim.holds_of_wide 10 Try.f10 rfl rfl rfl rfl rfl rfl rfl ⟨rfl, rfl, rfl, rfl, rfl⟩ rfl rfl rfl rfl rfl (by kernel_rfl) Try.func10 (by kernel_rfl)
    (of_decide_eq_true (by kernel_rfl)) (by unfold Func.isWrapper; first | (rw [if_pos (by decide +kernel)]; kernel_rfl) | (rw [if_neg (by decide +kernel)]; exact ⟨rfl, rfl⟩))
    (fun os started H enc _ => lifted10 os started H enc)

end Go.Proofs.Ytchlolfdinakiaa
