/- Pairs of a table: words, size guard, copy, comparison. -/
import Derived.Test.YtchlolfdinakiaaS3
import Derived.Test.YtchlolfdinakiaaV6
import Derived.Deep.QuietTactic
import Derived.BigQuiet
import Derived.Deep.LoopGhost
import Derived.Deep.RegionHeld3
namespace Go.Proofs.Ytchlolfdinakiaa
open Go.RowKit
attribute [local go_sem] run_store_float

theorem bl_undrew {a w : World} (h : Below a.drew.heap.size a.drew w) : Below a.heap.size a w := ⟨h.os, h.tape, h.output, h.size, h.block⟩
theorem bl_undrewN {a w : World} {n : Nat} (h : Below (a.drewN n).heap.size (a.drewN n) w) : Below a.heap.size a w := ⟨h.os, h.tape, h.output, h.size, h.block⟩

/-- A pair: key, value, turn. -/
structure Pr where
  kk : Int
  kn : Int
  kf : Nat
  ks : ByteArray
  kr : Int
  vk : Int
  vn : Int
  vf : Nat
  vs : ByteArray
  vr : Int
  turn : Int
def encP (p : Pr) : List Value := [.int .i64 p.kk, .int .i64 p.kn, .float .f64 p.kf, .string p.ks, .int .i64 p.kr, .int .i64 p.vk, .int .i64 p.vn, .float .f64 p.vf, .string p.vs, .int .i64 p.vr, .int .i64 p.turn]

theorem rdP_at {w : World} {lo : Nat} {A : Option Addr} {ps : List Pr} (h : RdL encP 11 w lo A ps) {k : Nat} {p : Pr} (hk : ps[k]? = some p) :
    ∃ b off, A = some ⟨b, off, none⟩ ∧ lo ≤ b ∧ b < w.heap.size ∧ w.cell? ⟨b, off + k * 11, none⟩ = some (.int .i64 p.kk) ∧ w.cell? ⟨b, off + k * 11 + 1, none⟩ = some (.int .i64 p.kn) ∧ w.cell? ⟨b, off + k * 11 + 2, none⟩ = some (.float .f64 p.kf) ∧ w.cell? ⟨b, off + k * 11 + 3, none⟩ = some (.string p.ks) ∧ w.cell? ⟨b, off + k * 11 + 4, none⟩ = some (.int .i64 p.kr) ∧ w.cell? ⟨b, off + k * 11 + 5, none⟩ = some (.int .i64 p.vk) ∧ w.cell? ⟨b, off + k * 11 + 6, none⟩ = some (.int .i64 p.vn) ∧ w.cell? ⟨b, off + k * 11 + 7, none⟩ = some (.float .f64 p.vf) ∧ w.cell? ⟨b, off + k * 11 + 8, none⟩ = some (.string p.vs) ∧ w.cell? ⟨b, off + k * 11 + 9, none⟩ = some (.int .i64 p.vr) ∧ w.cell? ⟨b, off + k * 11 + 10, none⟩ = some (.int .i64 p.turn) := by
  have hlt := (List.getElem?_eq_some_iff.1 hk).1
  obtain ⟨b, off, e, hlo, hb, hc⟩ := h (by omega)
  have hj := hc k p hk
  exact ⟨b, off, e, hlo, hb, hj 0 _ rfl, hj 1 _ rfl, hj 2 _ rfl, hj 3 _ rfl, hj 4 _ rfl, hj 5 _ rfl, hj 6 _ rfl, hj 7 _ rfl, hj 8 _ rfl, hj 9 _ rfl, hj 10 _ rfl⟩

/-- What records weigh. -/
def totW {α : Type} (f : α → Nat) : List α → Nat
  | [] => 0
  | s :: r => f s + totW f r
theorem totW_take {α : Type} (f : α → Nat) (xs : List α) (k : Nat) (x : α) (hk : xs[k]? = some x) : totW f (xs.take (k + 1)) = totW f (xs.take k) + f x := by
  induction xs generalizing k with
  | nil => simp at hk
  | cons y r ih =>
    cases k with
    | zero => simp at hk; subst hk; simp [totW]
    | succ k => simp only [List.take_succ_cons, totW]; rw [ih k (by simpa using hk)]; omega
theorem totW_le {α : Type} (f : α → Nat) (xs : List α) (k : Nat) : totW f (xs.take k) ≤ totW f xs := by
  induction xs generalizing k with
  | nil => simp
  | cons x r ih => cases k with
    | zero => simp [totW]
    | succ k => simp only [List.take_succ_cons, totW]; have := ih k; omega
theorem szV_eq (s : ByteArray) (left : Int) : szV s left = negOr (left - s.size) := rfl
theorem negOr_neg {t : Int} (h : t < 0) : negOr t = -1 := by unfold negOr; rw [if_pos h]
theorem negOr_pos {t : Int} (h : 0 ≤ t) : negOr t = t := by unfold negOr; rw [if_neg (by omega)]

def wP (p : Pr) : Nat := p.ks.size + p.vs.size
def fitP (p : Pr) : Prop := p.ks.size ≤ maxLen ∧ p.vs.size ≤ maxLen

theorem szp_any (p : Pr) (left : Int) (w : World) (hp : fitP p) (h0 : 0 ≤ left) (h1 : left ≤ 1048576) :
    Calls Try.prog 85 #[.agg #[.int .i64 p.kk, .int .i64 p.kn, .float .f64 p.kf, .string p.ks, .int .i64 p.kr, .int .i64 p.vk, .int .i64 p.vn, .float .f64 p.vf, .string p.vs, .int .i64 p.vr, .int .i64 p.turn], .int .i64 left] w fun e w' => e = .returned (.int .i64 (negOr (left - wP p))) ∧ Below w.heap.size w w' := by
  obtain ⟨hp1, hp2⟩ := hp
  unfold wP
  by_cases hA : left - p.ks.size < 0
  · rw [negOr_neg (by omega)]
    have eA : szV p.ks left = -1 := by rw [szV_eq, negOr_neg hA]
    go_enter Try.func85, Try.ntmps85
    go_wp2_with fail
    refine (szv_any _ _ _ _ p.ks _ _ hp1 h0 h1).mono ?_
    rintro e w1 ⟨rfl, hb1⟩
    obtain ⟨hc1, hf1⟩ := bcell hb1
    have hq1 := hb1.size
    try simp only [dN_size, dN_cell, dN_frozen] at hc1 hf1 hq1
    try simp only [World.size_alloc] at hq1
    try simp only [World.size_setCell] at hq1
    have hz1_0 : w.heap.size < w1.heap.size := by omega
    have HB1 : Below w.heap.size w w1 := Below.trans (by (repeat (first | with_reducible assumption | with_reducible exact Below.refl _ _ | with_reducible refine Below.drew ?_ | with_reducible refine bl_drewN _ ?_ | ((with_reducible refine bl_alloc ?_ _ ?_); · (first | omega | (simp; done) | (simp; omega))) | ((with_reducible refine bl_set ?_ _ ?_); · (first | omega | (simp; done) | (simp; omega)))))) (hb1.mono (by (try simp) <;> omega))
    clear hb1
    rw [eA]
    go_wp2
    go_ret
    exact ⟨rfl, HB1⟩
  · have eA : szV p.ks left = left - p.ks.size := by rw [szV_eq, negOr_pos (by omega)]
    have eB : szV p.vs (left - p.ks.size) = negOr (left - (p.ks.size + p.vs.size : Nat)) := by rw [szV_eq]; congr 1; omega
    have HA := Lib.hid eA; have HB := Lib.hid eB
    clear eA eB
    by_cases hB : left - (p.ks.size + p.vs.size : Nat) < 0
    · rw [negOr_neg hB] at *
      go_enter Try.func85, Try.ntmps85
      go_wp2_with fail
      refine (szv_any _ _ _ _ p.ks _ _ hp1 h0 h1).mono ?_
      rintro e w1 ⟨rfl, hb1⟩
      obtain ⟨hc1, hf1⟩ := bcell hb1
      have hq1 := hb1.size
      try simp only [dN_size, dN_cell, dN_frozen] at hc1 hf1 hq1
      try simp only [World.size_alloc] at hq1
      try simp only [World.size_setCell] at hq1
      have hz1_0 : w.heap.size < w1.heap.size := by omega
      have HB1 : Below w.heap.size w w1 := Below.trans (by (repeat (first | with_reducible assumption | with_reducible exact Below.refl _ _ | with_reducible refine Below.drew ?_ | with_reducible refine bl_drewN _ ?_ | ((with_reducible refine bl_alloc ?_ _ ?_); · (first | omega | (simp; done) | (simp; omega))) | ((with_reducible refine bl_set ?_ _ ?_); · (first | omega | (simp; done) | (simp; omega)))))) (hb1.mono (by (try simp) <;> omega))
      clear hb1
      rw [HA.out]
      go_wp2_with fail
      refine (szv_any _ _ _ _ p.vs _ _ hp2 (by omega) (by omega)).mono ?_
      rintro e w2 ⟨rfl, hb2⟩
      obtain ⟨hc2, hf2⟩ := bcell hb2
      have hq2 := hb2.size
      try simp only [dN_size, dN_cell, dN_frozen] at hc2 hf2 hq2
      try simp only [World.size_alloc] at hq2
      try simp only [World.size_setCell] at hq2
      have hz2_0 : w.heap.size < w2.heap.size := by omega
      have HB2 : Below w.heap.size w w2 := Below.trans (by (repeat (first | with_reducible assumption | with_reducible exact Below.refl _ _ | with_reducible refine Below.drew ?_ | with_reducible refine bl_drewN _ ?_ | ((with_reducible refine bl_alloc ?_ _ ?_); · (first | omega | (simp; done) | (simp; omega))) | ((with_reducible refine bl_set ?_ _ ?_); · (first | omega | (simp; done) | (simp; omega)))))) (hb2.mono (by (try simp) <;> omega))
      clear hb2
      rw [HB.out]
      go_wp2
      go_ret
      exact ⟨rfl, HB2⟩
    · rw [negOr_pos (by omega)] at *
      go_enter Try.func85, Try.ntmps85
      go_wp2_with fail
      refine (szv_any _ _ _ _ p.ks _ _ hp1 h0 h1).mono ?_
      rintro e w1 ⟨rfl, hb1⟩
      obtain ⟨hc1, hf1⟩ := bcell hb1
      have hq1 := hb1.size
      try simp only [dN_size, dN_cell, dN_frozen] at hc1 hf1 hq1
      try simp only [World.size_alloc] at hq1
      try simp only [World.size_setCell] at hq1
      have hz1_0 : w.heap.size < w1.heap.size := by omega
      have HB1 : Below w.heap.size w w1 := Below.trans (by (repeat (first | with_reducible assumption | with_reducible exact Below.refl _ _ | with_reducible refine Below.drew ?_ | with_reducible refine bl_drewN _ ?_ | ((with_reducible refine bl_alloc ?_ _ ?_); · (first | omega | (simp; done) | (simp; omega))) | ((with_reducible refine bl_set ?_ _ ?_); · (first | omega | (simp; done) | (simp; omega)))))) (hb1.mono (by (try simp) <;> omega))
      clear hb1
      rw [HA.out]
      go_wp2_with fail
      refine (szv_any _ _ _ _ p.vs _ _ hp2 (by omega) (by omega)).mono ?_
      rintro e w2 ⟨rfl, hb2⟩
      obtain ⟨hc2, hf2⟩ := bcell hb2
      have hq2 := hb2.size
      try simp only [dN_size, dN_cell, dN_frozen] at hc2 hf2 hq2
      try simp only [World.size_alloc] at hq2
      try simp only [World.size_setCell] at hq2
      have hz2_0 : w.heap.size < w2.heap.size := by omega
      have HB2 : Below w.heap.size w w2 := Below.trans (by (repeat (first | with_reducible assumption | with_reducible exact Below.refl _ _ | with_reducible refine Below.drew ?_ | with_reducible refine bl_drewN _ ?_ | ((with_reducible refine bl_alloc ?_ _ ?_); · (first | omega | (simp; done) | (simp; omega))) | ((with_reducible refine bl_set ?_ _ ?_); · (first | omega | (simp; done) | (simp; omega)))))) (hb2.mono (by (try simp) <;> omega))
      clear hb2
      rw [HB.out]
      go_wp2
      all_goals first | (exfalso; omega) | (go_ret; exact ⟨rfl, HB2⟩)

def szPS (ps : List Pr) (left : Int) : Int := negOr (left - ps.length - totW wP ps)
theorem szps_any (A : Option Addr) (c : Nat) (ps : List Pr) (left : Int) (w : World) (lo : Nat) (h : RdL encP 11 w lo A ps) (hx : ∀ p ∈ ps, fitP p) (hn : ps.length ≤ maxLen) (h0 : 0 ≤ left) (h1 : left ≤ 1048576) :
    Calls Try.prog 65 #[.slice A ps.length c, .int .i64 left] w fun e w' => e = .returned (.int .i64 (szPS ps left)) ∧ Below w.heap.size w w' := by
  unfold maxLen at hn
  by_cases hl : left - ps.length < 0
  · go_enter Try.func65, Try.ntmps65
    go_wp2
    go_ret
    refine ⟨?_, Below.refl _ _⟩
    unfold szPS
    rw [negOr_neg (by omega)]; rfl
  · go_enter Try.func65, Try.ntmps65
    go_wp2
    go_loopw [1, 5] (fun l i wr => ∃ k : Nat, k ≤ ps.length ∧ i = .int .i64 k ∧ l = .int .i64 (left - ps.length - totW wP (ps.take k)) ∧ 0 ≤ left - ps.length - totW wP (ps.take k) ∧ Below w.heap.size w wr) (fun _ i _ => ps.length - (intOf i).toNat)
    case atStart => exact ⟨0, Nat.zero_le _, rfl, by simp [totW], by simp [totW]; omega, Below.refl _ _⟩
    case round =>
      obtain ⟨k, hk, rfl, rfl, hp, hbel⟩ := hrel
      by_cases hlt : k < ps.length
      · obtain ⟨p, hpk⟩ : ∃ p, ps[k]? = some p := ⟨_, List.getElem?_eq_getElem hlt⟩
        obtain ⟨b, off, rfl, hlo, hb, c0, c1, c2, c3, c4, c5, c6, c7, c8, c9, c10⟩ := rdP_at (h.below hbel) hpk
        have hfit := hx p (List.mem_of_getElem? hpk)
        have ht := Lib.hid (totW_take wP ps k p hpk)
        have hle := totW_le wP ps (k + 1)
        have HP := Lib.hid hpk
        clear hx h hpk
        go_wp2_with fail
        refine (szp_any p _ _ hfit (by omega) (by omega)).mono ?_
        rintro e w1 ⟨rfl, hb1⟩
        have HB1 := hbel.trans (hb1.mono hbel.size)
        have ht' := ht.out
        by_cases hneg : left - ps.length - totW wP (ps.take k) - wP p < 0
        · rw [negOr_neg hneg]
          clear ht'
          go_wp2
          go_ret
          have ht' := ht.out
          refine ⟨?_, HB1⟩
          unfold szPS
          rw [negOr_neg (by omega)]; rfl
        · rw [negOr_pos (by omega)]
          clear ht'
          go_wp2
          have ht' := ht.out
          refine ⟨⟨k + 1, by omega, by go_num, ?_, by omega, HB1⟩, by simp [intOf]; omega⟩
          rw [ht']; push_cast; go_num
      · have hkk : k = ps.length := by omega
        subst hkk
        clear hx h
        rw [List.take_length] at hp
        go_wp2
        go_ret
        refine ⟨?_, hbel⟩
        unfold szPS
        rw [negOr_pos (by omega)]
        exact congrArg (fun l => Ending.returned (Value.int .i64 (left - ps.length - (totW wP l : Nat)))) List.take_length

theorem top_any (p : Pr) (w : World) : Calls Try.prog 88 #[.agg #[.int .i64 p.kk, .int .i64 p.kn, .float .f64 p.kf, .string p.ks, .int .i64 p.kr, .int .i64 p.vk, .int .i64 p.vn, .float .f64 p.vf, .string p.vs, .int .i64 p.vr, .int .i64 p.turn]] w fun e w' => e = .returned (.agg #[.int .i64 p.kk, .int .i64 p.kn, .float .f64 p.kf, .string p.ks, .int .i64 p.kr, .int .i64 p.vk, .int .i64 p.vn, .float .f64 p.vf, .string p.vs, .int .i64 p.vr, .int .i64 p.turn]) ∧ Below w.heap.size w w' := by
  go_enter Try.func88, Try.ntmps88
  go_wp2_with fail
  refine (tov_any _ _ _ _ _ _).mono ?_
  rintro e w1 ⟨rfl, hb1⟩
  obtain ⟨hc1, hf1⟩ := bcell hb1
  have hq1 := hb1.size
  try simp only [dN_size, dN_cell, dN_frozen] at hc1 hf1 hq1
  try simp only [World.size_alloc] at hq1
  try simp only [World.size_setCell] at hq1
  have hz1_0 : w.heap.size < w1.heap.size := by omega
  have hz1_1 : w.heap.size + 1 < w1.heap.size := by omega
  have hz1_2 : w.heap.size + 1 + 1 < w1.heap.size := by omega
  have HB1 : Below w.heap.size w w1 := Below.trans (by (repeat (first | with_reducible assumption | with_reducible exact Below.refl _ _ | with_reducible refine Below.drew ?_ | with_reducible refine bl_drewN _ ?_ | ((with_reducible refine bl_alloc ?_ _ ?_); · (first | omega | (simp; done) | (simp; omega))) | ((with_reducible refine bl_set ?_ _ ?_); · (first | omega | (simp; done) | (simp; omega)))))) (hb1.mono (by (try simp) <;> omega))
  clear hb1
  go_wp2_with fail
  refine (tov_any _ _ _ _ _ _).mono ?_
  rintro e w2 ⟨rfl, hb2⟩
  obtain ⟨hc2, hf2⟩ := bcell hb2
  have hq2 := hb2.size
  try simp only [dN_size, dN_cell, dN_frozen] at hc2 hf2 hq2
  try simp only [World.size_alloc] at hq2
  try simp only [World.size_setCell] at hq2
  have hz2_0 : w.heap.size < w2.heap.size := by omega
  have hz2_1 : w.heap.size + 1 < w2.heap.size := by omega
  have hz2_2 : w.heap.size + 1 + 1 < w2.heap.size := by omega
  have HB2 : Below w.heap.size w w2 := Below.trans (by (repeat (first | with_reducible assumption | with_reducible exact Below.refl _ _ | with_reducible refine Below.drew ?_ | with_reducible refine bl_drewN _ ?_ | ((with_reducible refine bl_alloc ?_ _ ?_); · (first | omega | (simp; done) | (simp; omega))) | ((with_reducible refine bl_set ?_ _ ?_); · (first | omega | (simp; done) | (simp; omega)))))) (hb2.mono (by (try simp) <;> omega))
  clear hb2
  go_wp2
  refine bodyPost_ret (by simp [results, Try.results88, go_sem, *]; rfl) rfl ?_
  exact ⟨rfl, by (repeat (first | with_reducible assumption | with_reducible exact Below.refl _ _ | with_reducible refine Below.drew ?_ | with_reducible refine bl_drewN _ ?_ | ((with_reducible refine bl_alloc ?_ _ ?_); · (first | omega | (simp; done) | (simp; omega))) | ((with_reducible refine bl_set ?_ _ ?_); · (first | omega | (simp; done) | (simp; omega)))))⟩

theorem eqp_any (p : Pr) (w : World) : Calls Try.prog 72 #[.agg #[.int .i64 p.kk, .int .i64 p.kn, .float .f64 p.kf, .string p.ks, .int .i64 p.kr, .int .i64 p.vk, .int .i64 p.vn, .float .f64 p.vf, .string p.vs, .int .i64 p.vr, .int .i64 p.turn], .agg #[.int .i64 p.kk, .int .i64 p.kn, .float .f64 p.kf, .string p.ks, .int .i64 p.kr, .int .i64 p.vk, .int .i64 p.vn, .float .f64 p.vf, .string p.vs, .int .i64 p.vr, .int .i64 p.turn]] w fun e w' => e = .returned (.bool true) ∧ Below w.heap.size w w' := by
  go_enter Try.func72, Try.ntmps72
  go_wp2_with fail
  refine (eqv_any _ _ _ _ _ _).mono ?_
  rintro e w1 ⟨rfl, hb1⟩
  obtain ⟨hc1, hf1⟩ := bcell hb1
  have hq1 := hb1.size
  try simp only [dN_size, dN_cell, dN_frozen] at hc1 hf1 hq1
  try simp only [World.size_alloc] at hq1
  try simp only [World.size_setCell] at hq1
  have hz1_0 : w.heap.size < w1.heap.size := by omega
  have hz1_1 : w.heap.size + 1 < w1.heap.size := by omega
  have HB1 : Below w.heap.size w w1 := Below.trans (by (repeat (first | with_reducible assumption | with_reducible exact Below.refl _ _ | with_reducible refine Below.drew ?_ | with_reducible refine bl_drewN _ ?_ | ((with_reducible refine bl_alloc ?_ _ ?_); · (first | omega | (simp; done) | (simp; omega))) | ((with_reducible refine bl_set ?_ _ ?_); · (first | omega | (simp; done) | (simp; omega)))))) (hb1.mono (by (try simp) <;> omega))
  clear hb1
  go_wp2_with fail
  refine (eqv_any _ _ _ _ _ _).mono ?_
  rintro e w2 ⟨rfl, hb2⟩
  obtain ⟨hc2, hf2⟩ := bcell hb2
  have hq2 := hb2.size
  try simp only [dN_size, dN_cell, dN_frozen] at hc2 hf2 hq2
  try simp only [World.size_alloc] at hq2
  try simp only [World.size_setCell] at hq2
  have hz2_0 : w.heap.size < w2.heap.size := by omega
  have hz2_1 : w.heap.size + 1 < w2.heap.size := by omega
  have HB2 : Below w.heap.size w w2 := Below.trans (by (repeat (first | with_reducible assumption | with_reducible exact Below.refl _ _ | with_reducible refine Below.drew ?_ | with_reducible refine bl_drewN _ ?_ | ((with_reducible refine bl_alloc ?_ _ ?_); · (first | omega | (simp; done) | (simp; omega))) | ((with_reducible refine bl_set ?_ _ ?_); · (first | omega | (simp; done) | (simp; omega)))))) (hb2.mono (by (try simp) <;> omega))
  clear hb2
  go_wp2
  go_ret
  exact ⟨rfl, HB2⟩

end Go.Proofs.Ytchlolfdinakiaa
