/- Reports: size guard, copy, comparison, marks. -/
import Derived.Test.YtchlolfdinakiaaQw
import Derived.Deep.RegionHeld3
namespace Go.Proofs.Ytchlolfdinakiaa.Q
open Go.RowKit
attribute [local go_sem] run_store_float

/-- Of the blocks that were there those alone for which P holds may have turned. -/
structure But (P : Nat → Prop) (w w' : World) : Prop where
  os : w'.os = w.os
  tape : w'.tape = w.tape
  output : w'.output = w.output
  size : w.heap.size ≤ w'.heap.size
  block : ∀ k, k < w.heap.size → ¬ P k → w'.heap[k]? = w.heap[k]?
section
variable {P Q : Nat → Prop} {a b c w w' : World}
theorem But.refl (P : Nat → Prop) (w : World) : But P w w := ⟨rfl, rfl, rfl, Nat.le_refl _, fun _ _ _ => rfl⟩
theorem But.trans (h : But P a b) (k : But P b c) : But P a c :=
  ⟨k.os.trans h.os, k.tape.trans h.tape, k.output.trans h.output, Nat.le_trans h.size k.size, fun i hi hx => (k.block i (Nat.lt_of_lt_of_le hi h.size) hx).trans (h.block i hi hx)⟩
theorem But.of_below (h : Below w.heap.size w w') : But P w w' := ⟨h.os, h.tape, h.output, h.size, fun k hk _ => h.block k hk⟩
theorem But.set {g : Nat} (h : But P a w) (hp : P g) (i : Nat) (u : Value) : But P a (w.setCell ⟨g, i, none⟩ u) :=
  ⟨h.os, h.tape, h.output, by simpa using h.size, fun k hk hx => (Below.heap_setCell w ⟨g, i, none⟩ u k (by rintro rfl; exact hx hp)).trans (h.block k hk hx)⟩
theorem But.mono (h : But P w w') (hpq : ∀ k, k < w.heap.size → P k → Q k) : But Q w w' := ⟨h.os, h.tape, h.output, h.size, fun k hk hx => h.block k hk (fun hp => hx (hpq k hk hp))⟩
theorem But.below {B : Nat} (h : But P w w') (hB : ∀ k, P k → B ≤ k) (hs : B ≤ w.heap.size) : Below B w w' := ⟨h.os, h.tape, h.output, h.size, fun k hk => h.block k (by omega) (fun hp => by have := hB k hp; omega)⟩
theorem But.blk {g : Nat} {t : TypeId} {cs : Array Value} (h : But P w w') (hb : Blk w g t cs) (hg : ¬ P g) : Blk w' g t cs := (h.block g hb.lt hg).trans hb
theorem But.rd {α : Type} {enc : α → List Value} {sz lo : Nat} {A : Option Addr} {xs : List α} (h : But P w w') (hr : RdL enc sz w lo A xs) (hg : ∀ g o, 0 < xs.length → A = some ⟨g, o, none⟩ → ¬ P g) : RdL enc sz w' lo A xs := fun h0 => by
  obtain ⟨g, o, e, hlo, hlt, hc⟩ := hr h0
  exact ⟨g, o, e, hlo, Nat.lt_of_lt_of_le hlt h.size, fun i x hx j u hu => (World.cell?_of_block (h.block g hlt (hg g o h0 e))).trans (hc i x hx j u hu)⟩
end
/-- The block at whose head a slice that is not empty starts. -/
def Head (n : Nat) (A : Option Addr) (k : Nat) : Prop := 0 < n ∧ A = some ⟨k, 0, none⟩

/-- What a report weighs. -/
def wRp (r : Rp) : Nat := r.recs.length + totW wR r.recs + r.vals.length + totS r.vals + r.err.size + r.trace.size
theorem szrp_any (A A' : Option Addr) (c c' : Nat) (r : Rp) (left : Int) (w : World) (lo lo' : Nat) (h : RdL encR 5 w lo A r.recs) (h' : RdL encS 1 w lo' A' r.vals) (hx : ∀ p ∈ r.recs, fitR p) (hx' : ∀ s ∈ r.vals, s.size ≤ maxLen) (hn : r.recs.length ≤ maxLen) (hn' : r.vals.length ≤ maxLen) (he : r.err.size ≤ maxLen) (ht : r.trace.size ≤ maxLen) (h0 : 0 ≤ left) (h1 : left ≤ 1048576) :
    Calls Try.prog 36 #[.agg #[.int .i64 r.code, .slice A r.recs.length c, .slice A' r.vals.length c', .string r.err, .string r.trace, .int .i64 r.ticks, .int .i64 r.made], .int .i64 left] w fun e w' => e = .returned (.int .i64 (negOr (left - wRp r))) ∧ Below w.heap.size w w' := by
  have hE : wRp r = r.recs.length + totW wR r.recs + r.vals.length + totS r.vals + r.err.size + r.trace.size := rfl
  have hr : szRS r.recs left = negOr (left - r.recs.length - totW wR r.recs) := rfl
  unfold maxLen at he ht
  by_cases hA : left - r.recs.length - totW wR r.recs < 0
  · rw [negOr_neg (by omega)]
    rw [negOr_neg hA] at hr
    have HR := Lib.hid hr
    clear hr hE
    go_enter Try.func36, Try.ntmps36
    go_wp2_with fail
    refine (szrs_any _ _ r.recs _ _ lo (h.alloc _) hx hn h0 h1).mono ?_
    rintro e w1 ⟨rfl, hb1⟩
    obtain ⟨hc1, hf1⟩ := bcell hb1
    have hq1 := hb1.size
    try simp only [dN_size, dN_cell, dN_frozen] at hc1 hf1 hq1
    try simp only [World.size_alloc] at hq1
    try simp only [World.size_setCell] at hq1
    have hz1_0 : w.heap.size < w1.heap.size := by omega
    have HB1 : Below w.heap.size w w1 := Below.trans (by (repeat (first | with_reducible assumption | with_reducible exact Below.refl _ _ | with_reducible refine Below.drew ?_ | with_reducible refine bl_drewN _ ?_ | ((with_reducible refine bl_alloc ?_ _ ?_); · (first | omega | (simp; done) | (simp; omega))) | ((with_reducible refine bl_set ?_ _ ?_); · (first | omega | (simp; done) | (simp; omega)))))) (hb1.mono (by (try simp) <;> omega))
    clear hb1
    rw [HR.out]
    go_wp2
    go_ret
    exact ⟨rfl, HB1⟩
  · rw [negOr_pos (by omega)] at hr
    have hv : szS r.vals (left - r.recs.length - totW wR r.recs) = negOr (left - r.recs.length - totW wR r.recs - r.vals.length - totS r.vals) := rfl
    obtain ⟨l1, hl1⟩ : ∃ l1, l1 = left - r.recs.length - totW wR r.recs := ⟨_, rfl⟩
    rw [← hl1] at hr hv hA
    have HR := Lib.hid hr
    clear hr
    by_cases hB : l1 - r.vals.length - totS r.vals < 0
    · rw [negOr_neg (by omega)]
      rw [negOr_neg hB] at hv
      have HV := Lib.hid hv
      have HL := Lib.hid hl1
      clear hv hE
      have hl2 : l1 ≤ 1048576 := by omega
      clear hl1
      go_enter Try.func36, Try.ntmps36
      go_wp2_with fail
      refine (szrs_any _ _ r.recs _ _ lo (h.alloc _) hx hn h0 h1).mono ?_
      rintro e w1 ⟨rfl, hb1⟩
      obtain ⟨hc1, hf1⟩ := bcell hb1
      have hq1 := hb1.size
      try simp only [dN_size, dN_cell, dN_frozen] at hc1 hf1 hq1
      try simp only [World.size_alloc] at hq1
      try simp only [World.size_setCell] at hq1
      have hz1_0 : w.heap.size < w1.heap.size := by omega
      have HB1 : Below w.heap.size w w1 := Below.trans (by (repeat (first | with_reducible assumption | with_reducible exact Below.refl _ _ | with_reducible refine Below.drew ?_ | with_reducible refine bl_drewN _ ?_ | ((with_reducible refine bl_alloc ?_ _ ?_); · (first | omega | (simp; done) | (simp; omega))) | ((with_reducible refine bl_set ?_ _ ?_); · (first | omega | (simp; done) | (simp; omega)))))) (hb1.mono (by (try simp) <;> omega))
      clear hb1
      rw [HR.out]
      go_wp2_with fail
      refine (szs_any _ _ r.vals _ _ lo' (h'.below HB1) hx' hn' (by omega) (by omega)).mono ?_
      rintro e w2 ⟨rfl, rfl⟩
      rw [HV.out]
      go_wp2
      go_ret
      exact ⟨rfl, HB1⟩
    · rw [negOr_pos (by omega)] at hv
      obtain ⟨l2, hl2⟩ : ∃ l2, l2 = l1 - r.vals.length - totS r.vals := ⟨_, rfl⟩
      rw [← hl2] at hv hB
      have HV := Lib.hid hv
      have b1 : l1 ≤ 1048576 := by omega
      have b2 : l2 ≤ 1048576 := by omega
      have hfin : left - wRp r = l2 - r.err.size - r.trace.size := by omega
      rw [hfin]
      clear hv hE hl1 hl2 hfin
      obtain ⟨Fn, hFn⟩ : ∃ Fn, Fn = negOr (l2 - r.err.size - r.trace.size) := ⟨_, rfl⟩
      rw [← hFn]
      have HFn := Lib.hid hFn
      clear hFn
      go_enter Try.func36, Try.ntmps36
      go_wp2_with fail
      refine (szrs_any _ _ r.recs _ _ lo (h.alloc _) hx hn h0 h1).mono ?_
      rintro e w1 ⟨rfl, hb1⟩
      obtain ⟨hc1, hf1⟩ := bcell hb1
      have hq1 := hb1.size
      try simp only [dN_size, dN_cell, dN_frozen] at hc1 hf1 hq1
      try simp only [World.size_alloc] at hq1
      try simp only [World.size_setCell] at hq1
      have hz1_0 : w.heap.size < w1.heap.size := by omega
      have HB1 : Below w.heap.size w w1 := Below.trans (by (repeat (first | with_reducible assumption | with_reducible exact Below.refl _ _ | with_reducible refine Below.drew ?_ | with_reducible refine bl_drewN _ ?_ | ((with_reducible refine bl_alloc ?_ _ ?_); · (first | omega | (simp; done) | (simp; omega))) | ((with_reducible refine bl_set ?_ _ ?_); · (first | omega | (simp; done) | (simp; omega)))))) (hb1.mono (by (try simp) <;> omega))
      clear hb1
      rw [HR.out]
      go_wp2_with fail
      refine (szs_any _ _ r.vals _ _ lo' (h'.below HB1) hx' hn' (by omega) (by omega)).mono ?_
      rintro e w2 ⟨rfl, rfl⟩
      rw [HV.out]
      by_cases hC : l2 - r.err.size < 0
      · go_wp2
        go_ret
        exact ⟨by rw [HFn.out, negOr_neg (by omega)]; rfl, HB1⟩
      · by_cases hD : l2 - r.err.size - r.trace.size < 0
        · go_wp2
          go_ret
          exact ⟨by rw [HFn.out, negOr_neg hD]; rfl, HB1⟩
        · go_wp2
          go_ret
          exact ⟨by rw [HFn.out, negOr_pos (by omega)]; rfl, HB1⟩

def RpS (w : World) (r : Rp) (e : Ending) (w' : World) : Prop := ∃ A c A' c', e = .returned (.agg #[.int .i64 r.code, .slice A r.recs.length c, .slice A' r.vals.length c', .string r.err, .string r.trace, .int .i64 r.ticks, .int .i64 r.made]) ∧ RdL encR 5 w' w.heap.size A r.recs ∧ RdL encS 1 w' w.heap.size A' r.vals ∧ Wr w' w.heap.size A r.recs.length 5 99 ∧ Wr w' w.heap.size A' r.vals.length 1 9 ∧ Below w.heap.size w w'
theorem Wr.lower {w : World} {lo lo' : Nat} {A : Option Addr} {n sz : Nat} {t : TypeId} (h : Wr w lo A n sz t) (hl : lo' ≤ lo) : Wr w lo' A n sz t := fun h0 => by
  obtain ⟨g, cs, e, h1, h2⟩ := h h0
  exact ⟨g, cs, e, Nat.le_trans hl h1, h2⟩
theorem Wr.set_far {w : World} {lo : Nat} {A : Option Addr} {n sz : Nat} {t : TypeId} {p : Addr} (h : Wr w lo A n sz t) (hp : p.block < lo) (u : Value) : Wr (w.setCell p u) lo A n sz t := fun h0 => by
  obtain ⟨g, cs, e, h1, h2, h3⟩ := h h0
  exact ⟨g, cs, e, h1, h2.far (by omega) u, h3⟩
theorem Wr.alloc {w : World} {lo : Nat} {A : Option Addr} {n sz : Nat} {t : TypeId} (h : Wr w lo A n sz t) (o : Obj) : Wr (w.alloc o) lo A n sz t := fun h0 => by
  obtain ⟨g, cs, e, h1, h2, h3⟩ := h h0
  exact ⟨g, cs, e, h1, h2.alloc o, h3⟩
theorem torp_any (A A' : Option Addr) (c c' : Nat) (r : Rp) (w : World) (lo lo' : Nat) (h : RdL encR 5 w lo A r.recs) (h' : RdL encS 1 w lo' A' r.vals) (hn : r.recs.length ≤ 1048576) (hn' : r.vals.length ≤ 1048576) :
    Calls Try.prog 38 #[.agg #[.int .i64 r.code, .slice A r.recs.length c, .slice A' r.vals.length c', .string r.err, .string r.trace, .int .i64 r.ticks, .int .i64 r.made]] w (RpS w r) := by
  go_enter Try.func38, Try.ntmps38
  go_wp2_with fail
  refine (tors_any _ _ r.recs _ lo (h.below (by (repeat (first | with_reducible assumption | with_reducible exact Below.refl _ _ | with_reducible refine Below.drew ?_ | with_reducible refine bl_drewN _ ?_ | ((with_reducible refine bl_alloc ?_ _ ?_); · (first | omega | (simp; done) | (simp; omega))) | ((with_reducible refine bl_set ?_ _ ?_); · (first | omega | (simp; done) | (simp; omega))))))) hn).mono ?_
  rintro e w1 ⟨A1, c1, rfl, g1, q1, hb1⟩
  obtain ⟨hc1, hf1⟩ := bcell hb1
  have hq1 := hb1.size
  try simp only [dN_size, dN_cell, dN_frozen] at hc1 hf1 hq1
  try simp only [World.size_alloc] at hq1
  try simp only [World.size_setCell] at hq1
  have hz1_0 : w.heap.size < w1.heap.size := by omega
  have hz1_1 : w.heap.size + 1 < w1.heap.size := by omega
  have hz1_2 : w.heap.size + 1 + 1 < w1.heap.size := by omega
  have HB1 : Below w.heap.size w w1 := Below.trans (by (repeat (first | with_reducible assumption | with_reducible exact Below.refl _ _ | with_reducible refine Below.drew ?_ | with_reducible refine bl_drewN _ ?_ | ((with_reducible refine bl_alloc ?_ _ ?_); · (first | omega | (simp; done) | (simp; omega))) | ((with_reducible refine bl_set ?_ _ ?_); · (first | omega | (simp; done) | (simp; omega)))))) (hb1.mono (by (try simp) <;> omega))
  go_wp2_with fail
  refine (tos_any _ _ r.vals _ lo' (h'.below (by (repeat (first | with_reducible assumption | with_reducible exact Below.refl _ _ | with_reducible refine Below.drew ?_ | with_reducible refine bl_drewN _ ?_ | ((with_reducible refine bl_alloc ?_ _ ?_); · (first | omega | (simp; done) | (simp; omega))) | ((with_reducible refine bl_set ?_ _ ?_); · (first | omega | (simp; done) | (simp; omega))))))) hn').mono ?_
  rintro e w2 ⟨A2, c2, rfl, g2, q2, hb2⟩
  obtain ⟨hc2, hf2⟩ := bcell hb2
  have hq2 := hb2.size
  try simp only [dN_size, dN_cell, dN_frozen] at hc2 hf2 hq2
  try simp only [World.size_alloc] at hq2
  try simp only [World.size_setCell] at hq2
  have hz2_0 : w.heap.size < w2.heap.size := by omega
  have hz2_1 : w.heap.size + 1 < w2.heap.size := by omega
  have hz2_2 : w.heap.size + 1 + 1 < w2.heap.size := by omega
  have HB2 : Below w.heap.size w w2 := Below.trans (by (repeat (first | with_reducible assumption | with_reducible exact Below.refl _ _ | with_reducible refine Below.drew ?_ | with_reducible refine bl_drewN _ ?_ | ((with_reducible refine bl_alloc ?_ _ ?_); · (first | omega | (simp; done) | (simp; omega))) | ((with_reducible refine bl_set ?_ _ ?_); · (first | omega | (simp; done) | (simp; omega)))))) (hb2.mono (by (try simp) <;> omega))
  simp only [World.size_alloc] at g1 q1
  simp only [World.size_setCell] at g2 q2
  go_wp2
  refine bodyPost_ret (by simp [results, Try.results38, go_sem, *]; rfl) rfl ?_
  exact ⟨_, _, _, _, rfl, by (refine RdL.lower (lo := w.heap.size + 1 + 1 + 1) ?_ (by omega); repeat (first | with_reducible exact g1 | ((with_reducible refine RdL.set_far ?_ ?_ _); rotate_left; · (first | (simp; done) | omega | (simp <;> omega))) | with_reducible refine RdL.alloc ?_ _ | with_reducible refine RdL.below ?_ hb2)), by (refine RdL.lower (lo := w1.heap.size) ?_ (by omega); repeat (first | with_reducible exact g2 | ((with_reducible refine RdL.set_far ?_ ?_ _); rotate_left; · (first | (simp; done) | omega | (simp <;> omega))) | with_reducible refine RdL.alloc ?_ _)), by (refine Wr.lower (lo := w.heap.size + 1 + 1 + 1) ?_ (by omega); repeat (first | with_reducible exact q1 | ((with_reducible refine Wr.set_far ?_ ?_ _); rotate_left; · (first | (simp; done) | omega | (simp <;> omega))) | with_reducible refine Wr.alloc ?_ _ | with_reducible refine Wr.below ?_ hb2)), by (refine Wr.lower (lo := w1.heap.size) ?_ (by omega); repeat (first | with_reducible exact q2 | ((with_reducible refine Wr.set_far ?_ ?_ _); rotate_left; · (first | (simp; done) | omega | (simp <;> omega))) | with_reducible refine Wr.alloc ?_ _)), by (repeat (first | with_reducible assumption | with_reducible exact Below.refl _ _ | with_reducible refine Below.drew ?_ | with_reducible refine bl_drewN _ ?_ | ((with_reducible refine bl_alloc ?_ _ ?_); · (first | omega | (simp; done) | (simp; omega))) | ((with_reducible refine bl_set ?_ _ ?_); · (first | omega | (simp; done) | (simp; omega)))))⟩

theorem eqrp_any (A A' B B' : Option Addr) (c c' d d' : Nat) (r : Rp) (w : World) (l1 l2 l3 l4 : Nat) (h1 : RdL encR 5 w l1 A r.recs) (h2 : RdL encS 1 w l2 A' r.vals) (h3 : RdL encR 5 w l3 B r.recs) (h4 : RdL encS 1 w l4 B' r.vals) (hn : r.recs.length ≤ maxLen) (hn' : r.vals.length ≤ maxLen) :
    Calls Try.prog 41 #[.agg #[.int .i64 r.code, .slice A r.recs.length c, .slice A' r.vals.length c', .string r.err, .string r.trace, .int .i64 r.ticks, .int .i64 r.made], .agg #[.int .i64 r.code, .slice B r.recs.length d, .slice B' r.vals.length d', .string r.err, .string r.trace, .int .i64 r.ticks, .int .i64 r.made]] w fun e w' => e = .returned (.bool true) ∧ Below w.heap.size w w' := by
  go_enter Try.func41, Try.ntmps41
  go_wp2_with fail
  refine (eqrs_any _ _ _ _ r.recs _ l1 l3 (h1.below (by (repeat (first | with_reducible assumption | with_reducible exact Below.refl _ _ | with_reducible refine Below.drew ?_ | with_reducible refine bl_drewN _ ?_ | ((with_reducible refine bl_alloc ?_ _ ?_); · (first | omega | (simp; done) | (simp; omega))) | ((with_reducible refine bl_set ?_ _ ?_); · (first | omega | (simp; done) | (simp; omega))))))) (h3.below (by (repeat (first | with_reducible assumption | with_reducible exact Below.refl _ _ | with_reducible refine Below.drew ?_ | with_reducible refine bl_drewN _ ?_ | ((with_reducible refine bl_alloc ?_ _ ?_); · (first | omega | (simp; done) | (simp; omega))) | ((with_reducible refine bl_set ?_ _ ?_); · (first | omega | (simp; done) | (simp; omega))))))) hn).mono ?_
  rintro e w1 ⟨rfl, hb1⟩
  obtain ⟨hc1, hf1⟩ := bcell hb1
  have hq1 := hb1.size
  try simp only [dN_size, dN_cell, dN_frozen] at hc1 hf1 hq1
  try simp only [World.size_alloc] at hq1
  try simp only [World.size_setCell] at hq1
  have hz1_0 : w.heap.size < w1.heap.size := by omega
  have hz1_1 : w.heap.size + 1 < w1.heap.size := by omega
  have HB1 : Below w.heap.size w w1 := Below.trans (by (repeat (first | with_reducible assumption | with_reducible exact Below.refl _ _ | with_reducible refine Below.drew ?_ | with_reducible refine bl_drewN _ ?_ | ((with_reducible refine bl_alloc ?_ _ ?_); · (first | omega | (simp; done) | (simp; omega))) | ((with_reducible refine bl_set ?_ _ ?_); · (first | omega | (simp; done) | (simp; omega)))))) (hb1.mono (by (try simp) <;> omega))
  clear hb1
  go_wp2_with fail
  refine (eqs_any _ _ _ _ r.vals _ l2 l4 (h2.below (by (repeat (first | with_reducible assumption | with_reducible exact Below.refl _ _ | with_reducible refine Below.drew ?_ | with_reducible refine bl_drewN _ ?_ | ((with_reducible refine bl_alloc ?_ _ ?_); · (first | omega | (simp; done) | (simp; omega))) | ((with_reducible refine bl_set ?_ _ ?_); · (first | omega | (simp; done) | (simp; omega))))))) (h4.below (by (repeat (first | with_reducible assumption | with_reducible exact Below.refl _ _ | with_reducible refine Below.drew ?_ | with_reducible refine bl_drewN _ ?_ | ((with_reducible refine bl_alloc ?_ _ ?_); · (first | omega | (simp; done) | (simp; omega))) | ((with_reducible refine bl_set ?_ _ ?_); · (first | omega | (simp; done) | (simp; omega))))))) hn').mono ?_
  rintro e w2 ⟨rfl, hb2⟩
  obtain ⟨hc2, hf2⟩ := bcell hb2
  have hq2 := hb2.size
  try simp only [dN_size, dN_cell, dN_frozen] at hc2 hf2 hq2
  try simp only [World.size_alloc] at hq2
  try simp only [World.size_setCell] at hq2
  have hz2_0 : w.heap.size < w2.heap.size := by omega
  have hz2_1 : w.heap.size + 1 < w2.heap.size := by omega
  have HB2 : Below w.heap.size w w2 := Below.trans (by (repeat (first | with_reducible assumption | with_reducible exact Below.refl _ _ | with_reducible refine Below.drew ?_ | with_reducible refine bl_drewN _ ?_ | ((with_reducible refine bl_alloc ?_ _ ?_); · (first | omega | (simp; done) | (simp; omega))) | ((with_reducible refine bl_set ?_ _ ?_); · (first | omega | (simp; done) | (simp; omega)))))) (hb2.mono (by (try simp) <;> omega))
  clear hb2
  go_wp2
  go_ret
  exact ⟨rfl, HB2⟩

theorem mtxI_any (N : Nat) (z : Int) (hz : z = (N : Int)) (h0 : 0 < N) (hN : N ≤ 1000000000000) (w : World) : Calls Try.prog 97 #[.int .i64 z] w fun e w' => e = .returned (.string (mtx N)) ∧ Below w.heap.size w w' := by
  subst hz
  exact mtx_any N h0 hN w
/-- What marks are: strings, records. -/
def markS (q n : Nat) : List ByteArray := (List.range n).map fun i => mtx (q + i)
def mkR (z : Int) (t : Nat) : Rc := ⟨z, z + 1, z + 1 + 1, z + 1 + 1 + 1, mtx t⟩
def markR (q n : Nat) : List Rc := (List.range n).map fun (i : Nat) => mkR ((q : Int) + (i : Int) * 5) (q + i * 5 + 4)
theorem markS_len (q n : Nat) : (markS q n).length = n := by simp [markS]
theorem markR_len (q n : Nat) : (markR q n).length = n := by simp [markR]
theorem markS_at (q n k : Nat) (h : k < n) : (markS q n)[k]? = some (mtx (q + k)) := by simp [markS, h]
theorem markR_at (q n k : Nat) (h : k < n) : (markR q n)[k]? = some (mkR ((q : Int) + (k : Int) * 5) (q + k * 5 + 4)) := by simp [markR, h]
theorem putL_one (cs : Array Value) (k : Nat) (s : ByteArray) : putL cs (k * 1) (encS s) = cs.setIfInBounds k (.string s) := by
  rw [Nat.mul_one]; rfl
theorem rd_empty {α : Type} {enc : α → List Value} {sz lo : Nat} {w : World} {A : Option Addr} {xs : List α} (h : xs.length = 0) : RdL enc sz w lo A xs := fun h0 => absurd h0 (by omega)
theorem marks_any (A : Option Addr) (n c : Nat) (q : Nat) (w : World) (lo : Nat) (h : Wr w lo A n 1 9) (hn : n ≤ 1048576) (hq : 0 < q ∧ q ≤ 1000000000) :
    Calls Try.prog 81 #[.slice A n c, .int .i64 (q : Int)] w fun e w' => e = .returned (.int .i64 ((q + n : Nat) : Int)) ∧ RdL encS 1 w' lo A (markS q n) ∧ But (Head n A) w w' := by
  by_cases h0 : 0 < n
  · obtain ⟨g, cs0, rfl, hlo, hblk0, hcs0⟩ := h h0
    have hgl : Head n (some ⟨g, 0, none⟩) g := ⟨h0, rfl⟩
    clear h
    go_enter Try.func81, Try.ntmps81
    go_wp2
    go_loopw [1, 5] (fun l i wr => ∃ (k : Nat) (cs : Array Value), k ≤ n ∧ i = .int .i64 k ∧ l = .int .i64 ((q + k : Nat) : Int) ∧ Blk wr g 9 cs ∧ n ≤ cs.size ∧ Full encS 1 cs (markS q n) k ∧ But (Head n (some ⟨g, 0, none⟩)) w wr) (fun _ i _ => n - (intOf i).toNat)
    case atStart => exact ⟨0, cs0, Nat.zero_le _, rfl, rfl, hblk0, by omega, Full.zero, But.refl _ _⟩
    case round =>
      obtain ⟨k, cs, hk, rfl, rfl, hblk, hsz, hfull, hwin⟩ := hrel
      clear hblk0
      by_cases hlt : k < n
      · have HS := Lib.hid hsz
        have HBk := Lib.hid hblk
        have HF := Lib.hid hfull
        have HW := Lib.hid hwin
        have hgw := hblk.lt
        clear hblk hsz hcs0 hfull hwin
        go_wp2_with fail
        refine (mtxI_any (q + k) _ (by omega) (by omega) (by omega) _).mono ?_
        rintro e w1 ⟨rfl, hb1⟩
        have HB1 := Lib.hid (HBk.out.below hb1 hgw)
        obtain ⟨u0, hd⟩ : ∃ u, w1.cell? ⟨g, k, none⟩ = some u := ⟨cs[k]'(by have := HS.out; omega), by rw [HB1.out.cell, Array.getElem?_eq_getElem]⟩
        have hfz : w1.frozen? ⟨g, k, none⟩ = false := HB1.out.frozen k
        have HW1 := Lib.hid (HW.out.trans (But.of_below hb1))
        clear hb1
        go_wp2
        refine ⟨⟨k + 1, putL cs (k * 1) (encS (mtx (q + k))), by omega, by go_num, by go_num, ?_, by rw [putL_size]; exact HS.out, HF.out.put (markS_at q n k hlt) (fun _ => rfl) (by rw [markS_len, Nat.mul_one]; exact HS.out), HW1.out.set hgl k _⟩, by simp [intOf]; omega⟩
        rw [putL_one]
        exact HB1.out.set_ k _
      · have hkk : k = n := by omega
        subst hkk
        have hrd : RdL encS 1 wr lo (some ⟨g, 0, none⟩) (markS q k) := rd_of_blk hblk hlo (by rw [markS_len]; exact hfull)
        clear hblk hsz hcs0 hfull
        go_wp2
        go_ret
        exact ⟨rfl, hrd, hwin⟩
  · obtain rfl : n = 0 := by omega
    clear h
    go_enter Try.func81, Try.ntmps81
    go_wp2
    go_loop [1, 5] (fun l i => i = .int .i64 0 ∧ l = .int .i64 (q : Int)) (fun _ _ => 0)
    case atStart => exact ⟨rfl, rfl⟩
    case round =>
      obtain ⟨rfl, rfl⟩ := hrel
      go_wp2
      go_ret
      exact ⟨rfl, rd_empty (markS_len _ _), But.refl _ _⟩

theorem markrs_any (A : Option Addr) (n c : Nat) (q : Nat) (w : World) (lo : Nat) (h : Wr w lo A n 5 99) (hn : n ≤ 1048576) (hq : 0 < q ∧ q ≤ 1000000000) :
    Calls Try.prog 80 #[.slice A n c, .int .i64 (q : Int)] w fun e w' => e = .returned (.int .i64 ((q + n * 5 : Nat) : Int)) ∧ RdL encR 5 w' lo A (markR q n) ∧ But (Head n A) w w' := by
  by_cases h0 : 0 < n
  · obtain ⟨g, cs0, rfl, hlo, hblk0, hcs0⟩ := h h0
    have hgl : Head n (some ⟨g, 0, none⟩) g := ⟨h0, rfl⟩
    clear h
    go_enter Try.func80, Try.ntmps80
    go_wp2
    go_loopw [1, 5] (fun l i wr => ∃ (k : Nat) (cs : Array Value), k ≤ n ∧ i = .int .i64 k ∧ l = .int .i64 ((q + k * 5 : Nat) : Int) ∧ Blk wr g 99 cs ∧ n * 5 ≤ cs.size ∧ Full encR 5 cs (markR q n) k ∧ But (Head n (some ⟨g, 0, none⟩)) w wr) (fun _ i _ => n - (intOf i).toNat)
    case atStart => exact ⟨0, cs0, Nat.zero_le _, rfl, by simp, hblk0, by omega, Full.zero, But.refl _ _⟩
    case round =>
      obtain ⟨k, cs, hk, rfl, rfl, hblk, hsz, hfull, hwin⟩ := hrel
      clear hblk0
      by_cases hlt : k < n
      · have HS := Lib.hid hsz
        have HBk := Lib.hid hblk
        have HF := Lib.hid hfull
        have HW := Lib.hid hwin
        have hgw := hblk.lt
        have hle : k * 5 + 5 ≤ cs.size := by omega
        have cellEx : ∀ j, j < 5 → ∃ u, wr.cell? ⟨g, k * 5 + j, none⟩ = some u := fun j hj => ⟨cs[k * 5 + j]'(by omega), by rw [hblk.cell, Array.getElem?_eq_getElem]⟩
        obtain ⟨d0, hd0⟩ := cellEx 0 (by omega); obtain ⟨d1, hd1⟩ := cellEx 1 (by omega); obtain ⟨d2, hd2⟩ := cellEx 2 (by omega); obtain ⟨d3, hd3⟩ := cellEx 3 (by omega)
        have fz : ∀ j, wr.frozen? ⟨g, j, none⟩ = false := fun j => hblk.frozen j
        clear hblk hsz hcs0 cellEx hfull hwin
        rw [Nat.add_zero] at hd0
        go_wp2_with fail
        refine (mtxI_any (q + k * 5 + 4) _ (by omega) (by omega) (by omega) _).mono ?_
        rintro e w1 ⟨rfl, hb1⟩
        have HB1 := Lib.hid (Blk.below (w' := w1) (((((HBk.out).set_ (k * 5) (.int .i64 ((q : Int) + (k : Int) * 5))).set_ (k * 5 + 1) (.int .i64 ((q : Int) + (k : Int) * 5 + 1))).set_ (k * 5 + 2) (.int .i64 ((q : Int) + (k : Int) * 5 + 1 + 1))).set_ (k * 5 + 3) (.int .i64 ((q : Int) + (k : Int) * 5 + 1 + 1 + 1))) hb1 (by simpa using hgw))
        have HW1 := Lib.hid (((((HW.out.set hgl (k * 5) (.int .i64 ((q : Int) + (k : Int) * 5))).set hgl (k * 5 + 1) (.int .i64 ((q : Int) + (k : Int) * 5 + 1))).set hgl (k * 5 + 2) (.int .i64 ((q : Int) + (k : Int) * 5 + 1 + 1))).set hgl (k * 5 + 3) (.int .i64 ((q : Int) + (k : Int) * 5 + 1 + 1 + 1))).trans (But.of_below (w' := w1) hb1))
        obtain ⟨u0, hd4⟩ : ∃ u, w1.cell? ⟨g, k * 5 + 4, none⟩ = some u := ⟨_, by rw [HB1.out.cell, Array.getElem?_eq_getElem (by simp; have := HS.out; omega)]⟩
        have hfz : w1.frozen? ⟨g, k * 5 + 4, none⟩ = false := HB1.out.frozen _
        clear hb1 hd0 hd1 hd2 hd3 fz
        go_wp2
        refine ⟨⟨k + 1, putL cs (k * 5) (encR (mkR ((q : Int) + (k : Int) * 5) (q + k * 5 + 4))), by omega, by go_num, ?_, ?_, by rw [putL_size]; exact HS.out, HF.out.put (markR_at q n k hlt) (fun _ => rfl) (by rw [markR_len]; exact HS.out), HW1.out.set hgl _ _⟩, by simp [intOf]; omega⟩
        · exact congrArg (Value.int .i64) (by omega)
        · exact HB1.out.set_ (k * 5 + 4) _
      · have hkk : k = n := by omega
        subst hkk
        have hrd : RdL encR 5 wr lo (some ⟨g, 0, none⟩) (markR q k) := rd_of_blk hblk hlo (by rw [markR_len]; exact hfull)
        clear hblk hsz hcs0 hfull
        go_wp2
        go_ret
        exact ⟨rfl, hrd, hwin⟩
  · obtain rfl : n = 0 := by omega
    clear h
    go_enter Try.func80, Try.ntmps80
    go_wp2
    go_loop [1, 5] (fun l i => i = .int .i64 0 ∧ l = .int .i64 (q : Int)) (fun _ _ => 0)
    case atStart => exact ⟨rfl, rfl⟩
    case round =>
      obtain ⟨rfl, rfl⟩ := hrel
      go_wp2
      go_ret
      exact ⟨rfl, rd_empty (markR_len _ _), But.refl _ _⟩

/-- The writable rows of a report: where, and apart from each other. -/
theorem wr_apart {w : World} {lo lo' : Nat} {A A' : Option Addr} {n m sz sz' : Nat} {t t' : TypeId} (h : Wr w lo A n sz t) (h' : Wr w lo' A' m sz' t') (hne : t ≠ t') {g : Nat} (h1 : Head n A g) (h2 : Head m A' g) : False := by
  obtain ⟨g1, cs1, e1, -, b1, -⟩ := h h1.1
  obtain ⟨g2, cs2, e2, -, b2, -⟩ := h' h2.1
  have e3 := e1.symm.trans h1.2
  have e4 := e2.symm.trans h2.2
  injection e3 with e3; injection e3 with e3; injection e4 with e4; injection e4 with e4
  subst e3; subst e4
  unfold Blk at b1 b2
  rw [b1] at b2
  injection b2 with b2; injection b2 with _ b2
  exact hne b2
theorem But.wr {P : Nat → Prop} {w w' : World} {lo : Nat} {A : Option Addr} {n sz : Nat} {t : TypeId} (h : But P w w') (hw : Wr w lo A n sz t) (hp : ∀ g, Head n A g → ¬ P g) : Wr w' lo A n sz t := fun h0 => by
  obtain ⟨g, cs, e, h1, h2, h3⟩ := hw h0
  exact ⟨g, cs, e, h1, h.blk h2 (hp g ⟨h0, e⟩), h3⟩
theorem markrp_any (A A' : Option Addr) (n m c c' : Nat) (code ticks made : Int) (er tr : ByteArray) (q : Nat) (w : World) (lo lo' : Nat) (h : Wr w lo A n 5 99) (h' : Wr w lo' A' m 1 9) (hn : n ≤ 1048576) (hm : m ≤ 1048576) (hq : 0 < q ∧ q ≤ 1000000) :
    Calls Try.prog 42 #[.agg #[.int .i64 code, .slice A n c, .slice A' m c', .string er, .string tr, .int .i64 ticks, .int .i64 made], .int .i64 (q : Int)] w fun e w' => e = .returned (.int .i64 ((q + n * 5 + m : Nat) : Int)) ∧ RdL encR 5 w' lo A (markR q n) ∧ RdL encS 1 w' lo' A' (markS (q + n * 5) m) ∧ But (fun g => Head n A g ∨ Head m A' g) w w' := by
  have hbox := Blk.new w 72 #[.int .i64 code, .slice A n c, .slice A' m c', .string er, .string tr, .int .i64 ticks, .int .i64 made]
  have g := h.alloc (.cells #[.int .i64 code, .slice A n c, .slice A' m c', .string er, .string tr, .int .i64 ticks, .int .i64 made] 72)
  have g' := h'.alloc (.cells #[.int .i64 code, .slice A n c, .slice A' m c', .string er, .string tr, .int .i64 ticks, .int .i64 made] 72)
  have hap : ∀ x, Head n A x → Head m A' x → False := fun x => wr_apart h h' (by decide)
  have hl1 : ∀ x, Head n A x → x < w.heap.size := fun x hx => by
    obtain ⟨y, cs, e, -, hb, -⟩ := h hx.1
    have e2 := e.symm.trans hx.2
    injection e2 with e2; injection e2 with e2
    subst e2; exact hb.lt
  have hB0 : Below w.heap.size w (w.alloc (.cells #[.int .i64 code, .slice A n c, .slice A' m c', .string er, .string tr, .int .i64 ticks, .int .i64 made] 72)) := below_new _ _
  have G' := Lib.hid g'
  have HX := Lib.hid hbox
  have HA := Lib.hid hap
  have HL := Lib.hid hl1
  have HW0 := Lib.hid h
  clear g' h h' hbox hap hl1
  go_enter Try.func42, Try.ntmps42
  go_wp2_with fail
  refine (markrs_any _ _ _ q _ lo g hn (by omega)).mono ?_
  rintro e w1 ⟨rfl, hr1, hk1⟩
  have hX1 := hk1.blk HX.out (fun hh => by have := HL.out _ hh; omega)
  have hW1 := hk1.wr G'.out (fun x hx hy => HA.out x hy hx)
  obtain ⟨x0, x1, x2, x3, x4, x5, x6⟩ := box7 hX1
  have HR1 := Lib.hid hr1
  clear hr1 hX1 g
  go_wp2_with fail
  refine (marks_any _ _ _ (q + n * 5) _ lo' hW1 hm (by omega)).mono ?_
  rintro e w2 ⟨rfl, hr2, hk2⟩
  have HR2 := Lib.hid hr2
  have HK2 := Lib.hid hk2
  clear hr2 hk2
  go_wp2
  go_ret
  refine ⟨rfl, HK2.out.rd HR1.out ?_, HR2.out, ?_⟩
  · intro x o h0 e hx
    rw [markR_len] at h0
    obtain ⟨y, cs, e1, -⟩ := HW0.out h0
    have e2 := e1.symm.trans e
    injection e2 with e2; injection e2 with e2
    subst e2
    exact HA.out y ⟨h0, e1⟩ hx
  · refine But.trans (But.of_below hB0) ((hk1.mono fun x _ hx => .inl hx).trans (HK2.out.mono fun x _ hx => .inr hx))
end Go.Proofs.Ytchlolfdinakiaa.Q
