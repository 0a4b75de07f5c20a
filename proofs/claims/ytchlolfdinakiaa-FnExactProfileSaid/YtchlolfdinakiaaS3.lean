/- Input: size guard, copy, comparison. -/
import Derived.Test.YtchlolfdinakiaaS2
import Derived.Test.YtchlolfdinakiaaV5
namespace Go.Proofs.Ytchlolfdinakiaa
open Go.RowKit
attribute [local go_sem] run_store_float
theorem RdL.set_far {α : Type} {enc : α → List Value} {sz lo : Nat} {w : World} {A : Option Addr} {xs : List α} {p : Addr} (h : RdL enc sz w lo A xs) (hp : p.block < lo) (u : Value) : RdL enc sz (w.setCell p u) lo A xs := fun h0 => by
  obtain ⟨b, off, e, hlo, hb, hc⟩ := h h0
  exact ⟨b, off, e, hlo, by simpa [World.setCell] using hb, fun i x hx j v hv => (World.cell?_setCell_other w p _ u (fun e => by subst e; simp at hp; omega)).trans (hc i x hx j v hv)⟩

theorem szS_le (xs : List ByteArray) (left : Int) (h : 0 ≤ left) : -1 ≤ szS xs left ∧ szS xs left ≤ left := by
  unfold szS negOr
  split <;> omega
def szIn (xa xl : List ByteArray) (left : Int) : Int := if szS xa left < 0 then -1 else szS xl (szS xa left)
theorem szS_neg {xs : List ByteArray} {left : Int} (h : szS xs left < 0) : szS xs left = -1 := by
  unfold szS negOr at *
  split at h <;> simp_all

def InS (w : World) (xa xl : List ByteArray) (tk dp cl : Int) (e : Ending) (w' : World) : Prop := ∃ A c A' c', e = .returned (.agg #[.slice A xa.length c, .slice A' xl.length c', .int .i64 tk, .int .i64 dp, .int .i64 cl]) ∧ RdL encS 1 w' w.heap.size A xa ∧ RdL encS 1 w' w.heap.size A' xl ∧ Below w.heap.size w w'


theorem szin_any (A A' : Option Addr) (c c' : Nat) (xa xl : List ByteArray) (tk dp cl : Int) (left : Int) (w : World) (lo lo' : Nat) (h : RdL encS 1 w lo A xa) (h' : RdL encS 1 w lo' A' xl) (hx : ∀ s ∈ xa, s.size ≤ maxLen) (hx' : ∀ s ∈ xl, s.size ≤ maxLen) (hn : xa.length ≤ maxLen) (hn' : xl.length ≤ maxLen) (h0 : 0 ≤ left) (h1 : left ≤ 1048576) :
    Calls Try.prog 18 #[.agg #[.slice A xa.length c, .slice A' xl.length c', .int .i64 tk, .int .i64 dp, .int .i64 cl], .int .i64 left] w fun e w' => e = .returned (.int .i64 (szIn xa xl left)) ∧ Below w.heap.size w w' := by
  have e1 := szS_le xa left h0
  by_cases hA : szS xa left < 0
  · go_enter Try.func18, Try.ntmps18
    go_wp2_with fail
    refine (szs_any _ _ xa _ _ lo (h.alloc _) hx hn h0 h1).mono ?_
    rintro e w1 ⟨rfl, rfl⟩
    go_wp2_with fail
    go_ret
    exact ⟨by unfold szIn; rw [if_pos hA]; rfl, below_new _ _⟩
  · have e2 := szS_le xl (szS xa left) (by omega)
    have hz : szIn xa xl left = szS xl (szS xa left) := by unfold szIn; rw [if_neg hA]
    rw [hz]
    clear hz
    go_enter Try.func18, Try.ntmps18
    go_wp2_with fail
    refine (szs_any _ _ xa _ _ lo (h.alloc _) hx hn h0 h1).mono ?_
    rintro e w1 ⟨rfl, rfl⟩
    go_wp2_with fail
    refine (szs_any _ _ xl _ _ lo' (h'.alloc _) hx' hn' (by omega) (by omega)).mono ?_
    rintro e w1 ⟨rfl, rfl⟩
    by_cases hB : szS xl (szS xa left) < 0
    · go_wp2
      go_ret
      exact ⟨by rw [szS_neg hB]; rfl, below_new _ _⟩
    · go_wp2
      go_ret
      exact ⟨rfl, below_new _ _⟩

theorem toin_any (A A' : Option Addr) (c c' : Nat) (xa xl : List ByteArray) (tk dp cl : Int) (w : World) (lo lo' : Nat) (h : RdL encS 1 w lo A xa) (h' : RdL encS 1 w lo' A' xl) (hn : xa.length ≤ 1048576) (hn' : xl.length ≤ 1048576) :
    Calls Try.prog 20 #[.agg #[.slice A xa.length c, .slice A' xl.length c', .int .i64 tk, .int .i64 dp, .int .i64 cl]] w (InS w xa xl tk dp cl) := by
  go_enter Try.func20, Try.ntmps20
  go_wp2_with fail
  refine (tos_any _ _ xa _ lo (h.below (by (repeat (first | with_reducible assumption | with_reducible exact Below.refl _ _ | with_reducible refine Below.drew ?_ | with_reducible refine bl_drewN _ ?_ | ((with_reducible refine bl_alloc ?_ _ ?_); · (first | omega | (simp; done) | (simp; omega))) | ((with_reducible refine bl_set ?_ _ ?_); · (first | omega | (simp; done) | (simp; omega))))))) hn).mono ?_
  rintro e w1 ⟨A1, c1, rfl, g1, hb1⟩
  obtain ⟨hc1, hf1⟩ := bcell hb1
  have hq1 := hb1.size
  try simp only [dN_size, dN_cell, dN_frozen] at hc1 hf1 hq1
  try simp only [World.size_alloc] at hq1
  try simp only [World.size_setCell] at hq1
  have hz1_0 : w.heap.size < w1.heap.size := by omega
  have hz1_1 : w.heap.size + 1 < w1.heap.size := by omega
  have hz1_2 : w.heap.size + 1 + 1 < w1.heap.size := by omega
  have HB1 : Below w.heap.size w w1 := Below.trans (by (repeat (first | with_reducible assumption | with_reducible exact Below.refl _ _ | with_reducible refine Below.drew ?_ | with_reducible refine bl_drewN _ ?_ | ((with_reducible refine bl_alloc ?_ _ ?_); · (first | omega | (simp; done) | (simp; omega))) | ((with_reducible refine bl_set ?_ _ ?_); · (first | omega | (simp; done) | (simp; omega)))))) (hb1.mono (by (try simp) <;> omega))
  go_wp2_with fail
  refine (tos_any _ _ xl _ lo' (h'.below (by (repeat (first | with_reducible assumption | with_reducible exact Below.refl _ _ | with_reducible refine Below.drew ?_ | with_reducible refine bl_drewN _ ?_ | ((with_reducible refine bl_alloc ?_ _ ?_); · (first | omega | (simp; done) | (simp; omega))) | ((with_reducible refine bl_set ?_ _ ?_); · (first | omega | (simp; done) | (simp; omega))))))) hn').mono ?_
  rintro e w2 ⟨A2, c2, rfl, g2, hb2⟩
  obtain ⟨hc2, hf2⟩ := bcell hb2
  have hq2 := hb2.size
  try simp only [dN_size, dN_cell, dN_frozen] at hc2 hf2 hq2
  try simp only [World.size_alloc] at hq2
  try simp only [World.size_setCell] at hq2
  have hz2_0 : w.heap.size < w2.heap.size := by omega
  have hz2_1 : w.heap.size + 1 < w2.heap.size := by omega
  have hz2_2 : w.heap.size + 1 + 1 < w2.heap.size := by omega
  have HB2 : Below w.heap.size w w2 := Below.trans (by (repeat (first | with_reducible assumption | with_reducible exact Below.refl _ _ | with_reducible refine Below.drew ?_ | with_reducible refine bl_drewN _ ?_ | ((with_reducible refine bl_alloc ?_ _ ?_); · (first | omega | (simp; done) | (simp; omega))) | ((with_reducible refine bl_set ?_ _ ?_); · (first | omega | (simp; done) | (simp; omega)))))) (hb2.mono (by (try simp) <;> omega))
  simp only [World.size_alloc] at g1
  simp only [World.size_setCell] at g2
  go_wp2
  refine bodyPost_ret (by simp [results, Try.results20, go_sem, *]; rfl) rfl ?_
  exact ⟨_, _, _, _, rfl, by (refine RdL.lower (lo := w.heap.size + 1 + 1 + 1) ?_ (by omega); repeat (first | with_reducible exact g1 | ((with_reducible refine RdL.set_far ?_ ?_ _); rotate_left; · (first | (simp; done) | omega | (simp <;> omega))) | with_reducible refine RdL.alloc ?_ _ | with_reducible refine RdL.below ?_ hb2)), by (refine RdL.lower (lo := w1.heap.size) ?_ (by omega); repeat (first | with_reducible exact g2 | ((with_reducible refine RdL.set_far ?_ ?_ _); rotate_left; · (first | (simp; done) | omega | (simp <;> omega))) | with_reducible refine RdL.alloc ?_ _)), by (repeat (first | with_reducible assumption | with_reducible exact Below.refl _ _ | with_reducible refine Below.drew ?_ | with_reducible refine bl_drewN _ ?_ | ((with_reducible refine bl_alloc ?_ _ ?_); · (first | omega | (simp; done) | (simp; omega))) | ((with_reducible refine bl_set ?_ _ ?_); · (first | omega | (simp; done) | (simp; omega)))))⟩

theorem eqin_any (A A' B B' : Option Addr) (c c' d d' : Nat) (xa xl : List ByteArray) (tk dp cl : Int) (w : World) (l1 l2 l3 l4 : Nat) (h1 : RdL encS 1 w l1 A xa) (h2 : RdL encS 1 w l2 A' xl) (h3 : RdL encS 1 w l3 B xa) (h4 : RdL encS 1 w l4 B' xl) (hn : xa.length ≤ maxLen) (hn' : xl.length ≤ maxLen) :
    Calls Try.prog 22 #[.agg #[.slice A xa.length c, .slice A' xl.length c', .int .i64 tk, .int .i64 dp, .int .i64 cl], .agg #[.slice B xa.length d, .slice B' xl.length d', .int .i64 tk, .int .i64 dp, .int .i64 cl]] w fun e w' => e = .returned (.bool true) ∧ Below w.heap.size w w' := by
  go_enter Try.func22, Try.ntmps22
  go_wp2_with fail
  refine (eqs_any _ _ _ _ xa _ l1 l3 (h1.below (by (repeat (first | with_reducible assumption | with_reducible exact Below.refl _ _ | with_reducible refine Below.drew ?_ | with_reducible refine bl_drewN _ ?_ | ((with_reducible refine bl_alloc ?_ _ ?_); · (first | omega | (simp; done) | (simp; omega))) | ((with_reducible refine bl_set ?_ _ ?_); · (first | omega | (simp; done) | (simp; omega))))))) (h3.below (by (repeat (first | with_reducible assumption | with_reducible exact Below.refl _ _ | with_reducible refine Below.drew ?_ | with_reducible refine bl_drewN _ ?_ | ((with_reducible refine bl_alloc ?_ _ ?_); · (first | omega | (simp; done) | (simp; omega))) | ((with_reducible refine bl_set ?_ _ ?_); · (first | omega | (simp; done) | (simp; omega))))))) hn).mono ?_
  rintro e w1 ⟨rfl, hb1⟩
  obtain ⟨hc1, hf1⟩ := bcell hb1
  have hq1 := hb1.size
  try simp only [dN_size, dN_cell, dN_frozen] at hc1 hf1 hq1
  try simp only [World.size_alloc] at hq1
  try simp only [World.size_setCell] at hq1
  have hz1_0 : w.heap.size < w1.heap.size := by omega
  have hz1_1 : w.heap.size + 1 < w1.heap.size := by omega
  have HB1 : Below w.heap.size w w1 := Below.trans (by (repeat (first | with_reducible assumption | with_reducible exact Below.refl _ _ | with_reducible refine Below.drew ?_ | with_reducible refine bl_drewN _ ?_ | ((with_reducible refine bl_alloc ?_ _ ?_); · (first | omega | (simp; done) | (simp; omega))) | ((with_reducible refine bl_set ?_ _ ?_); · (first | omega | (simp; done) | (simp; omega)))))) (hb1.mono (by (try simp) <;> omega))
  clear hb1
  go_wp2_with fail
  refine (eqs_any _ _ _ _ xl _ l2 l4 (h2.below (by (repeat (first | with_reducible assumption | with_reducible exact Below.refl _ _ | with_reducible refine Below.drew ?_ | with_reducible refine bl_drewN _ ?_ | ((with_reducible refine bl_alloc ?_ _ ?_); · (first | omega | (simp; done) | (simp; omega))) | ((with_reducible refine bl_set ?_ _ ?_); · (first | omega | (simp; done) | (simp; omega))))))) (h4.below (by (repeat (first | with_reducible assumption | with_reducible exact Below.refl _ _ | with_reducible refine Below.drew ?_ | with_reducible refine bl_drewN _ ?_ | ((with_reducible refine bl_alloc ?_ _ ?_); · (first | omega | (simp; done) | (simp; omega))) | ((with_reducible refine bl_set ?_ _ ?_); · (first | omega | (simp; done) | (simp; omega))))))) hn').mono ?_
  rintro e w2 ⟨rfl, hb2⟩
  obtain ⟨hc2, hf2⟩ := bcell hb2
  have hq2 := hb2.size
  try simp only [dN_size, dN_cell, dN_frozen] at hc2 hf2 hq2
  try simp only [World.size_alloc] at hq2
  try simp only [World.size_setCell] at hq2
  have hz2_0 : w.heap.size < w2.heap.size := by omega
  have hz2_1 : w.heap.size + 1 < w2.heap.size := by omega
  have HB2 : Below w.heap.size w w2 := Below.trans (by (repeat (first | with_reducible assumption | with_reducible exact Below.refl _ _ | with_reducible refine Below.drew ?_ | with_reducible refine bl_drewN _ ?_ | ((with_reducible refine bl_alloc ?_ _ ?_); · (first | omega | (simp; done) | (simp; omega))) | ((with_reducible refine bl_set ?_ _ ?_); · (first | omega | (simp; done) | (simp; omega)))))) (hb2.mono (by (try simp) <;> omega))
  clear hb2
  go_wp2
  go_ret
  exact ⟨rfl, HB2⟩
end Go.Proofs.Ytchlolfdinakiaa
