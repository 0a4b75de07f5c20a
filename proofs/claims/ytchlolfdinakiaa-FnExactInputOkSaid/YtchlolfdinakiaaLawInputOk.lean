/- 'laws.FnExactInputOk': for every input the law returns true, and the input reads behind the call as it read before. No condition. -/
import Derived.Test.YtchlolfdinakiaaS5
import Derived.Deep.RegionHeld3
namespace Go.Proofs.Ytchlolfdinakiaa
open Go.RowKit
open Go.ChangeShapes Go.WideShapes Go.ChangeAt Go.Joins Go.Deep
set_option linter.unusedVariables false
attribute [local go_sem] run_store_float
theorem bl_undrew {a w : World} (h : Below a.drew.heap.size a.drew w) : Below a.heap.size a w := ⟨h.os, h.tape, h.output, h.size, h.block⟩
theorem szIn_small {xa xl : List ByteArray} {left : Int} (h0 : 0 ≤ left) (h : ¬ szIn xa xl left < 0) : (xa.length : Int) ≤ left ∧ (xl.length : Int) ≤ left := by
  unfold szIn szS negOr at h
  split at h
  · omega
  · split at h
    · omega
    · omega


theorem law6 (A A' : Option Addr) (c c' : Nat) (xa xl : List ByteArray) (tk dp cl : Int) (w : World) (lo lo' : Nat) (h : RdL encS 1 w lo A xa) (h' : RdL encS 1 w lo' A' xl) (hx : ∀ s ∈ xa, s.size ≤ maxLen) (hx' : ∀ s ∈ xl, s.size ≤ maxLen) (hn : xa.length ≤ maxLen) (hn' : xl.length ≤ maxLen) :
    Calls Try.prog 6 #[.agg #[.slice A xa.length c, .slice A' xl.length c', .int .i64 tk, .int .i64 dp, .int .i64 cl]] w fun e w' => e = .returned (.bool true) ∧ Below w.heap.size w w' := by
  by_cases hs : szIn xa xl 1048576 < 0
  · go_enter Try.func6, Try.ntmps6
    go_wp2_with fail
    refine (szin_any _ _ _ _ xa xl _ _ _ _ _ lo lo' (h.alloc _) (h'.alloc _) hx hx' hn hn' (by omega) (by omega)).mono ?_
    rintro e w1 ⟨rfl, hb1⟩
    obtain ⟨hc1, hf1⟩ := bcell hb1
    have hq1 := hb1.size
    try simp only [dN_size, dN_cell, dN_frozen] at hc1 hf1 hq1
    try simp only [World.size_alloc] at hq1
    try simp only [World.size_setCell] at hq1
    have hz1_0 : w.heap.size < w1.heap.size := by omega
    have HB1 : Below w.heap.size w w1 := Below.trans (by (repeat (first | with_reducible assumption | with_reducible exact Below.refl _ _ | with_reducible refine Below.drew ?_ | with_reducible refine bl_drewN _ ?_ | ((with_reducible refine bl_alloc ?_ _ ?_); · (first | omega | (simp; done) | (simp; omega))) | ((with_reducible refine bl_set ?_ _ ?_); · (first | omega | (simp; done) | (simp; omega)))))) (hb1.mono (by (try simp) <;> omega))
    clear hb1
    go_wp2
    go_ret
    exact ⟨rfl, HB1⟩
  · obtain ⟨q1, q2⟩ := szIn_small (by omega) hs
    have m1 : xa.length ≤ 1048576 := by omega
    have m2 : xl.length ≤ 1048576 := by omega
    go_enter Try.func6, Try.ntmps6
    go_wp2_with fail
    refine (szin_any _ _ _ _ xa xl _ _ _ _ _ lo lo' (h.alloc _) (h'.alloc _) hx hx' hn hn' (by omega) (by omega)).mono ?_
    rintro e w1 ⟨rfl, hb1⟩
    obtain ⟨hc1, hf1⟩ := bcell hb1
    have hq1 := hb1.size
    try simp only [dN_size, dN_cell, dN_frozen] at hc1 hf1 hq1
    try simp only [World.size_alloc] at hq1
    try simp only [World.size_setCell] at hq1
    have hz1_0 : w.heap.size < w1.heap.size := by omega
    have HB1 : Below w.heap.size w w1 := Below.trans (by (repeat (first | with_reducible assumption | with_reducible exact Below.refl _ _ | with_reducible refine Below.drew ?_ | with_reducible refine bl_drewN _ ?_ | ((with_reducible refine bl_alloc ?_ _ ?_); · (first | omega | (simp; done) | (simp; omega))) | ((with_reducible refine bl_set ?_ _ ?_); · (first | omega | (simp; done) | (simp; omega)))))) (hb1.mono (by (try simp) <;> omega))
    clear hb1
    go_wp2_with fail
    refine (toin_any _ _ _ _ xa xl _ _ _ _ lo lo' (h.below HB1) (h'.below HB1) m1 m2).mono ?_
    rintro e w2 ⟨A1, c1, A2, c2, rfl, g1, g2, hb2⟩
    obtain ⟨hc2, hf2⟩ := bcell hb2
    have hq2 := hb2.size
    try simp only [dN_size, dN_cell, dN_frozen] at hc2 hf2 hq2
    try simp only [World.size_alloc] at hq2
    try simp only [World.size_setCell] at hq2
    have hz2_0 : w.heap.size < w2.heap.size := by omega
    have HB2 : Below w.heap.size w w2 := Below.trans (by (repeat (first | with_reducible assumption | with_reducible exact Below.refl _ _ | with_reducible refine Below.drew ?_ | with_reducible refine bl_drewN _ ?_ | ((with_reducible refine bl_alloc ?_ _ ?_); · (first | omega | (simp; done) | (simp; omega))) | ((with_reducible refine bl_set ?_ _ ?_); · (first | omega | (simp; done) | (simp; omega)))))) (hb2.mono (by (try simp) <;> omega))
    clear hb2
    go_wp2_with fail
    refine (sinok_any _ _ _ _ xa xl _ _ _ _ _ _ g1 g2 hn hn').mono ?_
    rintro e w3 ⟨rfl, hb3⟩
    obtain ⟨hc3, hf3⟩ := bcell hb3
    have hq3 := hb3.size
    try simp only [dN_size, dN_cell, dN_frozen] at hc3 hf3 hq3
    try simp only [World.size_alloc] at hq3
    try simp only [World.size_setCell] at hq3
    have hz3_0 : w.heap.size < w3.heap.size := by omega
    have HB3 : Below w.heap.size w w3 := Below.trans (by (repeat (first | with_reducible assumption | with_reducible exact Below.refl _ _ | with_reducible refine Below.drew ?_ | with_reducible refine bl_drewN _ ?_ | ((with_reducible refine bl_alloc ?_ _ ?_); · (first | omega | (simp; done) | (simp; omega))) | ((with_reducible refine bl_set ?_ _ ?_); · (first | omega | (simp; done) | (simp; omega)))))) (hb3.mono (by (try simp) <;> omega))
    clear hb3
    clear g1 g2
    go_wp2_with fail
    refine (toin_any _ _ _ _ xa xl _ _ _ _ lo lo' (h.below HB3) (h'.below HB3) m1 m2).mono ?_
    rintro e w4 ⟨A3, c3, A4, c4, rfl, g3, g4, hb4⟩
    obtain ⟨hc4, hf4⟩ := bcell hb4
    have hq4 := hb4.size
    try simp only [dN_size, dN_cell, dN_frozen] at hc4 hf4 hq4
    try simp only [World.size_alloc] at hq4
    try simp only [World.size_setCell] at hq4
    have hz4_0 : w.heap.size < w4.heap.size := by omega
    have HB4 : Below w.heap.size w w4 := Below.trans (by (repeat (first | with_reducible assumption | with_reducible exact Below.refl _ _ | with_reducible refine Below.drew ?_ | with_reducible refine bl_drewN _ ?_ | ((with_reducible refine bl_alloc ?_ _ ?_); · (first | omega | (simp; done) | (simp; omega))) | ((with_reducible refine bl_set ?_ _ ?_); · (first | omega | (simp; done) | (simp; omega)))))) (hb4.mono (by (try simp) <;> omega))
    clear hb4
    go_wp2_with fail
    refine (iinok_any _ _ _ _ xa xl _ _ _ _ _ _ (g3.alloc _) (g4.alloc _) hn hn').mono ?_
    rintro e w5 ⟨rfl, hb5⟩
    obtain ⟨hc5, hf5⟩ := bcell hb5
    have hq5 := hb5.size
    try simp only [dN_size, dN_cell, dN_frozen] at hc5 hf5 hq5
    try simp only [World.size_alloc] at hq5
    try simp only [World.size_setCell] at hq5
    have hz5_0 : w.heap.size < w5.heap.size := by omega
    have hy5_0 : w4.heap.size < w5.heap.size := by omega
    have HB5 : Below w.heap.size w w5 := Below.trans (by (repeat (first | with_reducible assumption | with_reducible exact Below.refl _ _ | with_reducible refine Below.drew ?_ | with_reducible refine bl_drewN _ ?_ | ((with_reducible refine bl_alloc ?_ _ ?_); · (first | omega | (simp; done) | (simp; omega))) | ((with_reducible refine bl_set ?_ _ ?_); · (first | omega | (simp; done) | (simp; omega)))))) (hb5.mono (by (try simp) <;> omega))
    replace g3 := (g3.alloc _).below hb5
    replace g4 := (g4.alloc _).below hb5
    go_wp2
    have hz4 : w.heap.size < w4.heap.size + 1 := by omega
    go_region_held3 (fun w' => w'.cell? ⟨w.heap.size, 0, none⟩ = some (Value.slice A xa.length c) ∧ w'.cell? ⟨w.heap.size, 1, none⟩ = some (Value.slice A' xl.length c') ∧ w'.cell? ⟨w.heap.size, 2, none⟩ = some (.int .i64 tk) ∧ w'.cell? ⟨w.heap.size, 3, none⟩ = some (.int .i64 dp) ∧ w'.cell? ⟨w.heap.size, 4, none⟩ = some (.int .i64 cl) ∧ w'.cell? ⟨w4.heap.size, 0, none⟩ = some (Value.slice A3 xa.length c3) ∧ w'.cell? ⟨w4.heap.size, 1, none⟩ = some (Value.slice A4 xl.length c4) ∧ w'.cell? ⟨w4.heap.size, 2, none⟩ = some (.int .i64 tk) ∧ w'.cell? ⟨w4.heap.size, 3, none⟩ = some (.int .i64 dp) ∧ w'.cell? ⟨w4.heap.size, 4, none⟩ = some (.int .i64 cl)) (simp [go_sem, World.cell?_alloc_past, *]) (first
      | (go_at_call 20; refine (toin_any _ _ _ _ xa xl _ _ _ _ lo lo' (by exact h.below (by (repeat (first | with_reducible assumption | with_reducible exact Below.refl _ _ | with_reducible refine Below.drew ?_ | with_reducible refine bl_drewN _ ?_ | ((with_reducible refine bl_alloc ?_ _ ?_); · (first | omega | (simp; done) | (simp; omega))) | ((with_reducible refine bl_set ?_ _ ?_); · (first | omega | (simp; done) | (simp; omega))))))) (by exact h'.below (by (repeat (first | with_reducible assumption | with_reducible exact Below.refl _ _ | with_reducible refine Below.drew ?_ | with_reducible refine bl_drewN _ ?_ | ((with_reducible refine bl_alloc ?_ _ ?_); · (first | omega | (simp; done) | (simp; omega))) | ((with_reducible refine bl_set ?_ _ ?_); · (first | omega | (simp; done) | (simp; omega))))))) m1 m2).mono ?_; rintro e w6 ⟨A5, c5, A6, c6, rfl, g5, g6, hb6⟩; replace hb6 := bl_undrew hb6; obtain ⟨hc6, hf6⟩ := bcell hb6; have hq6 := hb6.size; have hz6 : w.heap.size < w6.heap.size := (by omega); have hy6 : w4.heap.size < w6.heap.size := (by omega); have HB6 : Below w.heap.size w w6 := HB5.trans (hb6.mono (by omega)))
      | (go_at_call 22; refine (eqin_any _ _ _ _ _ _ _ _ xa xl _ _ _ _ _ _ _ _ (by exact g3.below hb6) (by exact g4.below hb6) g5 g6 hn hn').mono ?_; rintro e w7 ⟨rfl, hb7⟩; obtain ⟨hc7, hf7⟩ := bcell hb7; have hq7 := hb7.size; have hz7 : w.heap.size < w7.heap.size := (by omega); have hy7 : w4.heap.size < w7.heap.size := (by omega); have HB7 : Below w.heap.size w w7 := HB6.trans (hb7.mono (by omega))))
    go_wp2
    go_ret
    exact ⟨rfl, HB7⟩

theorem cells33 : Try.prog.cellsOf 33 = 5 := by kernel_rfl
def InW (W : World) (A B : Option Addr) (xa xb : List ByteArray) : Prop := RdL encS 1 W 0 A xa ∧ RdL encS 1 W 0 B xb ∧ (∀ s ∈ xa, s.size ≤ maxLen) ∧ (∀ s ∈ xb, s.size ≤ maxLen) ∧ xa.length ≤ maxLen ∧ xb.length ≤ maxLen
theorem lawW6 (A B : Option Addr) (a b : Nat) (xa xb : List ByteArray) (t u r : Int) (w : World) (h : InW w A B xa xb) :
    Calls Try.prog 6 #[.agg #[.slice A xa.length a, .slice B xb.length b, .int .i64 t, .int .i64 u, .int .i64 r]] w fun e w' => e = .returned (.bool true) ∧ Below w.heap.size w w' :=
  law6 A B a b xa xb t u r w 0 0 h.1 h.2.1 h.2.2.1 h.2.2.2.1 h.2.2.2.2.1 h.2.2.2.2.2

set_option maxRecDepth 100000 in
theorem lifted6 (os : Os) (started : os.Started) (H : Type) (enc : TypeId × Value → H) :
    ReturnsInHanded {} Try.checked os 6 .any (Rows.fnExactInputOkSpec.pre6 enc Try.prog Try.f6 Rows.fnExactInputOkRow.domain false) (Rows.fnExactInputOkSpec.post enc Try.prog Try.f6 false true false false) := by
  refine returnsInHanded_of_change (C := Try.checked) own started (by kernel_rfl) Try.func6
    (ChangeSpec.witness6 (enc := enc) (C := Try.checked) false ⟨#[], #[.agg #[.slice none 0 0, .slice none 0 0, .int .i64 0, .int .i64 0, .int .i64 0]], []⟩ 8 (by kernel_rfl) (by kernel_rfl) (by kernel_rfl) (by kernel_rfl)) ?_
  intro W base args ds gs before hval0 hW hcnd _
  have hval : ∀ (j : Nat) t v, Try.f6.params[j]? = some t → args[j]? = some v → Value.okWide Try.prog W .any base t v := hval0
  have hW' := hW
  obtain ⟨p, q, hA0, hV, rfl, hfz, hnd⟩ := hW
  have hA : DataW.TrodAll enc Try.prog W 0 (fun _ => true) true Try.f6.params.toList args.toList ds p := hA0
  rw [Try.params6] at hA hval
  obtain ⟨v0, vs0, d0, ds0, p0, q0, hargs, rfl, rfl, h0, r0⟩ := trodAll_cons hA
  obtain ⟨rfl, rfl, rfl⟩ := trodAll_nil r0
  obtain rfl : args = #[v0] := by cases args; simp_all
  obtain ⟨rfl, rfl⟩ := trodVars_none hV
  have k0 := h0
  have lt0 : ∀ x ∈ p0, x.block < W.heap.size := by obtain ⟨m, hm⟩ := k0; exact DataW.trod_lt m _ _ _ hm
  obtain ⟨A0, B0, a0, b0, xa0, xb0, t0, u0, w0, rfl, hs0⟩ : ∃ (A B : Option Addr) (a b : Nat) (xa xb : List ByteArray) (t u r : Int), v0 = .agg #[.slice A xa.length a, .slice B xb.length b, .int .i64 t, .int .i64 u, .int .i64 r] ∧ InW W A B xa xb := by
    obtain ⟨x0, x1, x2, x3, x4, y0, y1, y2, y3, y4, m, rfl, -, -, hy0, hy1, hy2, hy3, hy4⟩ := open_agg5 Try.underlying33 (by kernel_rfl) cells33 (hval 0 33 v0 rfl rfl) h0
    obtain ⟨A, a, xa, rfl, g1, g2, g3⟩ := strs_open Try.underlying31 Try.underlying9 (by kernel_rfl) hy0
    obtain ⟨B, b, xb, rfl, g4, g5, g6⟩ := strs_open Try.underlying31 Try.underlying9 (by kernel_rfl) hy1
    obtain ⟨t, e2, -, -⟩ := DataW.trod_int Try.underlying3 hy2
    obtain ⟨u, e3, -, -⟩ := DataW.trod_int Try.underlying3 hy3
    obtain ⟨r, e4, -, -⟩ := DataW.trod_int Try.underlying3 hy4
    simp at e2 e3 e4
    subst e2 e3 e4
    exact ⟨A, B, a, b, xa, xb, t, u, r, rfl, g1, g4, g2, g5, g3, g6⟩
  clear hA0 hval0
  refine (lawW6 A0 B0 a0 b0 xa0 xb0 t0 u0 w0 W hs0).mono fun e W' ⟨he, bel⟩ => ?_
  subst he
  exact ⟨_, rfl, _, _, _, [], _, [], hW', trodAll_mk1 (shut_bool Try.underlying4 _), (trodAll_cons_mk (Below.trod laidOut (by kernel_rfl) (of_decide_eq_true (by kernel_rfl)) k0 bel lt0) trodAll_mk0), rfl, bel.frame _, fun h => by cases h⟩

theorem FnExactInputOkHolds : Rows.FnExactInputOkSaid :=
  OpenClaim.holds_of_wide 6 Try.f6 rfl rfl rfl rfl rfl rfl rfl ⟨rfl, rfl, rfl, rfl, rfl⟩ rfl rfl rfl rfl rfl (by kernel_rfl) Try.func6 (by kernel_rfl)
    (of_decide_eq_true (by kernel_rfl)) (by unfold Func.isWrapper; first | (rw [if_pos (by decide +kernel)]; kernel_rfl) | (rw [if_neg (by decide +kernel)]; exact ⟨rfl, rfl⟩))
    (fun os started H enc _ => lifted6 os started H enc)

end Go.Proofs.Ytchlolfdinakiaa
