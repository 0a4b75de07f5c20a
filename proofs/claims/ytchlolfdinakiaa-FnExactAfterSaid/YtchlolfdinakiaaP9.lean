/- After: both sides come to the same plain function. -/
import Derived.Test.YtchlolfdinakiaaP7
namespace Go.Proofs.Ytchlolfdinakiaa
open Go.RowKit
attribute [local go_sem] run_store_float
def zp : Pr := ⟨0, 0, 0, ⟨#[]⟩, 0, 0, 0, 0, ⟨#[]⟩, 0, 0⟩
def fnd : List Pr → Int → Bool × Pr
  | [], _ => (false, zp)
  | p :: r, turn => if turn < p.turn then (true, p) else fnd r turn
def aft (ps : List Pr) (tn turn : Int) : Bool × Pr := if tabOk ps tn then fnd ps turn else (false, zp)
theorem fnd_at {ps : List Pr} {turn : Int} {k : Nat} {p : Pr} (hk : ps[k]? = some p) : fnd (ps.drop k) turn = if turn < p.turn then (true, p) else fnd (ps.drop (k + 1)) turn := by
  have hlt := (List.getElem?_eq_some_iff.1 hk).1
  have hp := (List.getElem?_eq_some_iff.1 hk).2
  rw [List.drop_eq_getElem_cons hlt, hp]
  rfl

theorem eqfd_any (u : Bool × Pr) (w : World) : Calls Try.prog 35 #[(.agg #[.bool (u).1, .int .i64 (u).2.kk, .int .i64 (u).2.kn, .float .f64 (u).2.kf, .string (u).2.ks, .int .i64 (u).2.kr, .int .i64 (u).2.vk, .int .i64 (u).2.vn, .float .f64 (u).2.vf, .string (u).2.vs, .int .i64 (u).2.vr, .int .i64 (u).2.turn]), (.agg #[.bool (u).1, .int .i64 (u).2.kk, .int .i64 (u).2.kn, .float .f64 (u).2.kf, .string (u).2.ks, .int .i64 (u).2.kr, .int .i64 (u).2.vk, .int .i64 (u).2.vn, .float .f64 (u).2.vf, .string (u).2.vs, .int .i64 (u).2.vr, .int .i64 (u).2.turn])] w fun e w' => e = .returned (.bool true) ∧ Below w.heap.size w w' := by
  go_enter Try.func35, Try.ntmps35
  go_wp2_with fail
  refine (eqp_any _ _).mono ?_
  rintro e w1 ⟨rfl, hb1⟩
  obtain ⟨hc1, hf1⟩ := bcell hb1
  have hq1 := hb1.size
  try simp only [dN_size, dN_cell, dN_frozen] at hc1 hf1 hq1
  try simp only [World.size_alloc] at hq1
  try simp only [World.size_setCell] at hq1
  have hz1_0 : w.heap.size < w1.heap.size := by omega
  have hz1_1 : w.heap.size + 1 < w1.heap.size := by omega
  have HB1 : Below w.heap.size w w1 := Below.trans (by (repeat (first | with_reducible assumption | with_reducible exact Below.refl _ _ | with_reducible refine Below.drew ?_ | with_reducible refine bl_drewN _ ?_ | ((with_reducible refine bl_alloc ?_ _ ?_); · (first | omega | (simp; done) | (simp; omega))) | ((with_reducible refine bl_set ?_ _ ?_); · (first | omega | (simp; done) | (simp; omega)))))) (hb1.mono (by (try simp) <;> omega))
  clear hb1
  go_wp2
  go_ret
  exact ⟨rfl, HB1⟩


set_option maxRecDepth 100000 in
set_option maxHeartbeats 1000000 in
theorem saft2_any (A : Option Addr) (c : Nat) (ps : List Pr) (tn turn : Int) (w : World) (lo : Nat) (h : RdL encP 11 w lo A ps) (hn : ps.length ≤ maxLen) :
    Calls Try.prog 70 #[.agg #[.slice A ps.length c, .int .i64 tn], .int .i64 turn] w fun e w' => e = .returned (.agg #[.bool (fnd ps turn).1, .int .i64 (fnd ps turn).2.kk, .int .i64 (fnd ps turn).2.kn, .float .f64 (fnd ps turn).2.kf, .string (fnd ps turn).2.ks, .int .i64 (fnd ps turn).2.kr, .int .i64 (fnd ps turn).2.vk, .int .i64 (fnd ps turn).2.vn, .float .f64 (fnd ps turn).2.vf, .string (fnd ps turn).2.vs, .int .i64 (fnd ps turn).2.vr, .int .i64 (fnd ps turn).2.turn]) ∧ Below w.heap.size w w' := by
    unfold maxLen at hn
    have hW1 := below_new2 w (.cells #[.slice A ps.length c, .int .i64 tn] 53) (.cells #[.bool false, .int .i64 0, .int .i64 0, .float .f64 0, .string ⟨#[]⟩, .int .i64 0, .int .i64 0, .int .i64 0, .float .f64 0, .string ⟨#[]⟩, .int .i64 0, .int .i64 0] 60)
    have hr0 : ((w.alloc (.cells #[.slice A ps.length c, .int .i64 tn] 53)).alloc (.cells #[.bool false, .int .i64 0, .int .i64 0, .float .f64 0, .string ⟨#[]⟩, .int .i64 0, .int .i64 0, .int .i64 0, .float .f64 0, .string ⟨#[]⟩, .int .i64 0, .int .i64 0] 60)).cell? ⟨w.heap.size + 1, 0, none⟩ = some (.bool false) := by go_simp
    have hr1 : ((w.alloc (.cells #[.slice A ps.length c, .int .i64 tn] 53)).alloc (.cells #[.bool false, .int .i64 0, .int .i64 0, .float .f64 0, .string ⟨#[]⟩, .int .i64 0, .int .i64 0, .int .i64 0, .float .f64 0, .string ⟨#[]⟩, .int .i64 0, .int .i64 0] 60)).cell? ⟨w.heap.size + 1, 1, none⟩ = some (.int .i64 0) := by go_simp
    have hr2 : ((w.alloc (.cells #[.slice A ps.length c, .int .i64 tn] 53)).alloc (.cells #[.bool false, .int .i64 0, .int .i64 0, .float .f64 0, .string ⟨#[]⟩, .int .i64 0, .int .i64 0, .int .i64 0, .float .f64 0, .string ⟨#[]⟩, .int .i64 0, .int .i64 0] 60)).cell? ⟨w.heap.size + 1, 2, none⟩ = some (.int .i64 0) := by go_simp
    have hr3 : ((w.alloc (.cells #[.slice A ps.length c, .int .i64 tn] 53)).alloc (.cells #[.bool false, .int .i64 0, .int .i64 0, .float .f64 0, .string ⟨#[]⟩, .int .i64 0, .int .i64 0, .int .i64 0, .float .f64 0, .string ⟨#[]⟩, .int .i64 0, .int .i64 0] 60)).cell? ⟨w.heap.size + 1, 3, none⟩ = some (.float .f64 0) := by go_simp
    have hr4 : ((w.alloc (.cells #[.slice A ps.length c, .int .i64 tn] 53)).alloc (.cells #[.bool false, .int .i64 0, .int .i64 0, .float .f64 0, .string ⟨#[]⟩, .int .i64 0, .int .i64 0, .int .i64 0, .float .f64 0, .string ⟨#[]⟩, .int .i64 0, .int .i64 0] 60)).cell? ⟨w.heap.size + 1, 4, none⟩ = some (.string ⟨#[]⟩) := by go_simp
    have hr5 : ((w.alloc (.cells #[.slice A ps.length c, .int .i64 tn] 53)).alloc (.cells #[.bool false, .int .i64 0, .int .i64 0, .float .f64 0, .string ⟨#[]⟩, .int .i64 0, .int .i64 0, .int .i64 0, .float .f64 0, .string ⟨#[]⟩, .int .i64 0, .int .i64 0] 60)).cell? ⟨w.heap.size + 1, 5, none⟩ = some (.int .i64 0) := by go_simp
    have hr6 : ((w.alloc (.cells #[.slice A ps.length c, .int .i64 tn] 53)).alloc (.cells #[.bool false, .int .i64 0, .int .i64 0, .float .f64 0, .string ⟨#[]⟩, .int .i64 0, .int .i64 0, .int .i64 0, .float .f64 0, .string ⟨#[]⟩, .int .i64 0, .int .i64 0] 60)).cell? ⟨w.heap.size + 1, 6, none⟩ = some (.int .i64 0) := by go_simp
    have hr7 : ((w.alloc (.cells #[.slice A ps.length c, .int .i64 tn] 53)).alloc (.cells #[.bool false, .int .i64 0, .int .i64 0, .float .f64 0, .string ⟨#[]⟩, .int .i64 0, .int .i64 0, .int .i64 0, .float .f64 0, .string ⟨#[]⟩, .int .i64 0, .int .i64 0] 60)).cell? ⟨w.heap.size + 1, 7, none⟩ = some (.int .i64 0) := by go_simp
    have hr8 : ((w.alloc (.cells #[.slice A ps.length c, .int .i64 tn] 53)).alloc (.cells #[.bool false, .int .i64 0, .int .i64 0, .float .f64 0, .string ⟨#[]⟩, .int .i64 0, .int .i64 0, .int .i64 0, .float .f64 0, .string ⟨#[]⟩, .int .i64 0, .int .i64 0] 60)).cell? ⟨w.heap.size + 1, 8, none⟩ = some (.float .f64 0) := by go_simp
    have hr9 : ((w.alloc (.cells #[.slice A ps.length c, .int .i64 tn] 53)).alloc (.cells #[.bool false, .int .i64 0, .int .i64 0, .float .f64 0, .string ⟨#[]⟩, .int .i64 0, .int .i64 0, .int .i64 0, .float .f64 0, .string ⟨#[]⟩, .int .i64 0, .int .i64 0] 60)).cell? ⟨w.heap.size + 1, 9, none⟩ = some (.string ⟨#[]⟩) := by go_simp
    have hr10 : ((w.alloc (.cells #[.slice A ps.length c, .int .i64 tn] 53)).alloc (.cells #[.bool false, .int .i64 0, .int .i64 0, .float .f64 0, .string ⟨#[]⟩, .int .i64 0, .int .i64 0, .int .i64 0, .float .f64 0, .string ⟨#[]⟩, .int .i64 0, .int .i64 0] 60)).cell? ⟨w.heap.size + 1, 10, none⟩ = some (.int .i64 0) := by go_simp
    have hr11 : ((w.alloc (.cells #[.slice A ps.length c, .int .i64 tn] 53)).alloc (.cells #[.bool false, .int .i64 0, .int .i64 0, .float .f64 0, .string ⟨#[]⟩, .int .i64 0, .int .i64 0, .int .i64 0, .float .f64 0, .string ⟨#[]⟩, .int .i64 0, .int .i64 0] 60)).cell? ⟨w.heap.size + 1, 11, none⟩ = some (.int .i64 0) := by go_simp
    have hfz : ∀ j, ((w.alloc (.cells #[.slice A ps.length c, .int .i64 tn] 53)).alloc (.cells #[.bool false, .int .i64 0, .int .i64 0, .float .f64 0, .string ⟨#[]⟩, .int .i64 0, .int .i64 0, .int .i64 0, .float .f64 0, .string ⟨#[]⟩, .int .i64 0, .int .i64 0] 60)).frozen? ⟨w.heap.size + 1, j, none⟩ = false := fun j => by go_simp
    have hres : w.heap.size + 1 < ((w.alloc (.cells #[.slice A ps.length c, .int .i64 tn] 53)).alloc (.cells #[.bool false, .int .i64 0, .int .i64 0, .float .f64 0, .string ⟨#[]⟩, .int .i64 0, .int .i64 0, .int .i64 0, .float .f64 0, .string ⟨#[]⟩, .int .i64 0, .int .i64 0] 60)).heap.size := by simp
    have g := (h.alloc (.cells #[.slice A ps.length c, .int .i64 tn] 53)).alloc (.cells #[.bool false, .int .i64 0, .int .i64 0, .float .f64 0, .string ⟨#[]⟩, .int .i64 0, .int .i64 0, .int .i64 0, .float .f64 0, .string ⟨#[]⟩, .int .i64 0, .int .i64 0] 60)
    go_enter Try.func70, Try.ntmps70
    go_wp2
    generalize (w.alloc (.cells #[.slice A ps.length c, .int .i64 tn] 53)).alloc (.cells #[.bool false, .int .i64 0, .int .i64 0, .float .f64 0, .string ⟨#[]⟩, .int .i64 0, .int .i64 0, .int .i64 0, .float .f64 0, .string ⟨#[]⟩, .int .i64 0, .int .i64 0] 60) = W0 at *
    clear h
    go_loopw [10] (fun i wr => ∃ k : Nat, k ≤ ps.length ∧ i = .int .i64 k ∧ Hid (fnd ps turn = fnd (ps.drop k) turn) ∧ Below W0.heap.size W0 wr) (fun i _ => ps.length - (intOf i).toNat)
    case atStart => exact ⟨0, Nat.zero_le _, rfl, rfl, Below.refl _ _⟩
    case round =>
      obtain ⟨k, hk, rfl, HS, hbel⟩ := hrel
      have hs1 := hbel.size
      have fz : ∀ j, wr.frozen? ⟨w.heap.size + 1, j, none⟩ = false := fun j => (hbel.frozen (p := ⟨w.heap.size + 1, j, none⟩) hres).trans (hfz j)
      obtain ⟨z0, hz0⟩ : ∃ u, wr.cell? ⟨w.heap.size + 1, 0, none⟩ = some u := ⟨_, (hbel.cell (p := ⟨w.heap.size + 1, 0, none⟩) hres).trans hr0⟩; obtain ⟨z1, hz1⟩ : ∃ u, wr.cell? ⟨w.heap.size + 1, 1, none⟩ = some u := ⟨_, (hbel.cell (p := ⟨w.heap.size + 1, 1, none⟩) hres).trans hr1⟩; obtain ⟨z2, hz2⟩ : ∃ u, wr.cell? ⟨w.heap.size + 1, 2, none⟩ = some u := ⟨_, (hbel.cell (p := ⟨w.heap.size + 1, 2, none⟩) hres).trans hr2⟩; obtain ⟨z3, hz3⟩ : ∃ u, wr.cell? ⟨w.heap.size + 1, 3, none⟩ = some u := ⟨_, (hbel.cell (p := ⟨w.heap.size + 1, 3, none⟩) hres).trans hr3⟩; obtain ⟨z4, hz4⟩ : ∃ u, wr.cell? ⟨w.heap.size + 1, 4, none⟩ = some u := ⟨_, (hbel.cell (p := ⟨w.heap.size + 1, 4, none⟩) hres).trans hr4⟩; obtain ⟨z5, hz5⟩ : ∃ u, wr.cell? ⟨w.heap.size + 1, 5, none⟩ = some u := ⟨_, (hbel.cell (p := ⟨w.heap.size + 1, 5, none⟩) hres).trans hr5⟩; obtain ⟨z6, hz6⟩ : ∃ u, wr.cell? ⟨w.heap.size + 1, 6, none⟩ = some u := ⟨_, (hbel.cell (p := ⟨w.heap.size + 1, 6, none⟩) hres).trans hr6⟩; obtain ⟨z7, hz7⟩ : ∃ u, wr.cell? ⟨w.heap.size + 1, 7, none⟩ = some u := ⟨_, (hbel.cell (p := ⟨w.heap.size + 1, 7, none⟩) hres).trans hr7⟩; obtain ⟨z8, hz8⟩ : ∃ u, wr.cell? ⟨w.heap.size + 1, 8, none⟩ = some u := ⟨_, (hbel.cell (p := ⟨w.heap.size + 1, 8, none⟩) hres).trans hr8⟩; obtain ⟨z9, hz9⟩ : ∃ u, wr.cell? ⟨w.heap.size + 1, 9, none⟩ = some u := ⟨_, (hbel.cell (p := ⟨w.heap.size + 1, 9, none⟩) hres).trans hr9⟩; obtain ⟨z10, hz10⟩ : ∃ u, wr.cell? ⟨w.heap.size + 1, 10, none⟩ = some u := ⟨_, (hbel.cell (p := ⟨w.heap.size + 1, 10, none⟩) hres).trans hr10⟩; obtain ⟨z11, hz11⟩ : ∃ u, wr.cell? ⟨w.heap.size + 1, 11, none⟩ = some u := ⟨_, (hbel.cell (p := ⟨w.heap.size + 1, 11, none⟩) hres).trans hr11⟩
      by_cases hlt : k < ps.length
      · obtain ⟨p, hpk⟩ : ∃ p, ps[k]? = some p := ⟨_, List.getElem?_eq_getElem hlt⟩
        obtain ⟨b, off, rfl, hlo, hb, c0, c1, c2, c3, c4, c5, c6, c7, c8, c9, c10⟩ := rdP_at (g.below hbel) hpk
        have hat := Lib.hid (fnd_at (turn := turn) hpk); clear hpk
        have hrr : w.heap.size + 1 < wr.heap.size := by omega
        clear hfz hr0 hr1 hr2 hr3 hr4 hr5 hr6 hr7 hr8 hr9 hr10 hr11
        by_cases ht : turn < p.turn
        · go_wp2
          refine bodyPost_ret (by simp [results, Try.results70, go_sem, *]; rfl) rfl ?_
          have e1 : fnd ps turn = (true, p) := by rw [HS.out, hat.out, if_pos ht]
          have HBf : Below w.heap.size w wr := hW1.trans (hbel.mono (by omega))
          refine ⟨by rw [e1], ?_⟩
          have hq : w.heap.size ≤ w.heap.size + 1 := by omega
          have hq2 : w.heap.size ≤ wr.heap.size := by omega
          clear hbel hW1 hs1 c0 c1 c2 c3 c4 c5 c6 c7 c8 c9 c10 hz0 hz1 hz2 hz3 hz4 hz5 hz6 hz7 hz8 hz9 hz10 hz11 fz hat HS g
          repeat (first | with_reducible exact HBf | ((with_reducible refine bl_alloc ?_ _ ?_); · (first | omega | (simp; done) | (simp; omega))) | ((with_reducible refine bl_set ?_ _ ?_); · (first | exact hq | omega | (simp; omega))))
        · go_wp2
          exact ⟨⟨k + 1, by omega, by go_num, by show fnd ps turn = _; rw [HS.out, hat.out, if_neg ht], by (repeat (first | with_reducible assumption | with_reducible exact Below.refl _ _ | with_reducible refine Below.drew ?_ | with_reducible refine bl_drewN _ ?_ | ((with_reducible refine bl_alloc ?_ _ ?_); · (first | omega | (simp; done) | (simp; omega))) | ((with_reducible refine bl_set ?_ _ ?_); · (first | omega | (simp; done) | (simp; omega)))))⟩, by simp [intOf]; omega⟩
      · have hkk : k = ps.length := by omega
        subst hkk
        clear g
        go_wp2
        refine bodyPost_ret (by simp [results, Try.results70, go_sem, *]; rfl) rfl ?_
        have e1 : fnd ps turn = (false, zp) := by rw [HS.out, List.drop_length]; rfl
        have HBf : Below w.heap.size w wr := hW1.trans (hbel.mono (by omega))
        refine ⟨by rw [e1]; rfl, ?_⟩
        have hq : w.heap.size ≤ w.heap.size + 1 := by omega
        clear hbel hW1 hs1 hz0 hz1 hz2 hz3 hz4 hz5 hz6 hz7 hz8 hz9 hz10 hz11 fz HS
        repeat (first | with_reducible exact HBf | ((with_reducible refine bl_alloc ?_ _ ?_); · (first | omega | (simp; done) | (simp; omega))) | ((with_reducible refine bl_set ?_ _ ?_); · (first | exact hq | omega | (simp; omega))))


set_option maxRecDepth 100000 in
set_option maxHeartbeats 1000000 in
theorem iaft2_any (A : Option Addr) (c : Nat) (ps : List Pr) (turn : Int) (w : World) (lo bt : Nat) (h : RdL encP 11 w lo A ps) (hn : ps.length ≤ maxLen)
    (hbt : bt < w.heap.size) (hT0 : w.cell? ⟨bt, 0, none⟩ = some (.slice A ps.length c)) :
    Calls Try.prog 71 #[.pointer (some ⟨bt, 0, none⟩), .int .i64 turn] w fun e w' => e = .returned (.agg #[.bool (fnd ps turn).1, .int .i64 (fnd ps turn).2.kk, .int .i64 (fnd ps turn).2.kn, .float .f64 (fnd ps turn).2.kf, .string (fnd ps turn).2.ks, .int .i64 (fnd ps turn).2.kr, .int .i64 (fnd ps turn).2.vk, .int .i64 (fnd ps turn).2.vn, .float .f64 (fnd ps turn).2.vf, .string (fnd ps turn).2.vs, .int .i64 (fnd ps turn).2.vr, .int .i64 (fnd ps turn).2.turn]) ∧ Below w.heap.size w w' := by
    unfold maxLen at hn
    have hW1 : Below w.heap.size w (w.alloc (.cells #[.bool false, .int .i64 0, .int .i64 0, .float .f64 0, .string ⟨#[]⟩, .int .i64 0, .int .i64 0, .int .i64 0, .float .f64 0, .string ⟨#[]⟩, .int .i64 0, .int .i64 0] 60)) := (Below.refl _ _).alloc (Nat.le_refl _) _
    have hr0 : ((w.alloc (.cells #[.bool false, .int .i64 0, .int .i64 0, .float .f64 0, .string ⟨#[]⟩, .int .i64 0, .int .i64 0, .int .i64 0, .float .f64 0, .string ⟨#[]⟩, .int .i64 0, .int .i64 0] 60))).cell? ⟨w.heap.size, 0, none⟩ = some (.bool false) := by go_simp
    have hr1 : ((w.alloc (.cells #[.bool false, .int .i64 0, .int .i64 0, .float .f64 0, .string ⟨#[]⟩, .int .i64 0, .int .i64 0, .int .i64 0, .float .f64 0, .string ⟨#[]⟩, .int .i64 0, .int .i64 0] 60))).cell? ⟨w.heap.size, 1, none⟩ = some (.int .i64 0) := by go_simp
    have hr2 : ((w.alloc (.cells #[.bool false, .int .i64 0, .int .i64 0, .float .f64 0, .string ⟨#[]⟩, .int .i64 0, .int .i64 0, .int .i64 0, .float .f64 0, .string ⟨#[]⟩, .int .i64 0, .int .i64 0] 60))).cell? ⟨w.heap.size, 2, none⟩ = some (.int .i64 0) := by go_simp
    have hr3 : ((w.alloc (.cells #[.bool false, .int .i64 0, .int .i64 0, .float .f64 0, .string ⟨#[]⟩, .int .i64 0, .int .i64 0, .int .i64 0, .float .f64 0, .string ⟨#[]⟩, .int .i64 0, .int .i64 0] 60))).cell? ⟨w.heap.size, 3, none⟩ = some (.float .f64 0) := by go_simp
    have hr4 : ((w.alloc (.cells #[.bool false, .int .i64 0, .int .i64 0, .float .f64 0, .string ⟨#[]⟩, .int .i64 0, .int .i64 0, .int .i64 0, .float .f64 0, .string ⟨#[]⟩, .int .i64 0, .int .i64 0] 60))).cell? ⟨w.heap.size, 4, none⟩ = some (.string ⟨#[]⟩) := by go_simp
    have hr5 : ((w.alloc (.cells #[.bool false, .int .i64 0, .int .i64 0, .float .f64 0, .string ⟨#[]⟩, .int .i64 0, .int .i64 0, .int .i64 0, .float .f64 0, .string ⟨#[]⟩, .int .i64 0, .int .i64 0] 60))).cell? ⟨w.heap.size, 5, none⟩ = some (.int .i64 0) := by go_simp
    have hr6 : ((w.alloc (.cells #[.bool false, .int .i64 0, .int .i64 0, .float .f64 0, .string ⟨#[]⟩, .int .i64 0, .int .i64 0, .int .i64 0, .float .f64 0, .string ⟨#[]⟩, .int .i64 0, .int .i64 0] 60))).cell? ⟨w.heap.size, 6, none⟩ = some (.int .i64 0) := by go_simp
    have hr7 : ((w.alloc (.cells #[.bool false, .int .i64 0, .int .i64 0, .float .f64 0, .string ⟨#[]⟩, .int .i64 0, .int .i64 0, .int .i64 0, .float .f64 0, .string ⟨#[]⟩, .int .i64 0, .int .i64 0] 60))).cell? ⟨w.heap.size, 7, none⟩ = some (.int .i64 0) := by go_simp
    have hr8 : ((w.alloc (.cells #[.bool false, .int .i64 0, .int .i64 0, .float .f64 0, .string ⟨#[]⟩, .int .i64 0, .int .i64 0, .int .i64 0, .float .f64 0, .string ⟨#[]⟩, .int .i64 0, .int .i64 0] 60))).cell? ⟨w.heap.size, 8, none⟩ = some (.float .f64 0) := by go_simp
    have hr9 : ((w.alloc (.cells #[.bool false, .int .i64 0, .int .i64 0, .float .f64 0, .string ⟨#[]⟩, .int .i64 0, .int .i64 0, .int .i64 0, .float .f64 0, .string ⟨#[]⟩, .int .i64 0, .int .i64 0] 60))).cell? ⟨w.heap.size, 9, none⟩ = some (.string ⟨#[]⟩) := by go_simp
    have hr10 : ((w.alloc (.cells #[.bool false, .int .i64 0, .int .i64 0, .float .f64 0, .string ⟨#[]⟩, .int .i64 0, .int .i64 0, .int .i64 0, .float .f64 0, .string ⟨#[]⟩, .int .i64 0, .int .i64 0] 60))).cell? ⟨w.heap.size, 10, none⟩ = some (.int .i64 0) := by go_simp
    have hr11 : ((w.alloc (.cells #[.bool false, .int .i64 0, .int .i64 0, .float .f64 0, .string ⟨#[]⟩, .int .i64 0, .int .i64 0, .int .i64 0, .float .f64 0, .string ⟨#[]⟩, .int .i64 0, .int .i64 0] 60))).cell? ⟨w.heap.size, 11, none⟩ = some (.int .i64 0) := by go_simp
    have hfz : ∀ j, ((w.alloc (.cells #[.bool false, .int .i64 0, .int .i64 0, .float .f64 0, .string ⟨#[]⟩, .int .i64 0, .int .i64 0, .int .i64 0, .float .f64 0, .string ⟨#[]⟩, .int .i64 0, .int .i64 0] 60))).frozen? ⟨w.heap.size, j, none⟩ = false := fun j => by go_simp
    have hres : w.heap.size < ((w.alloc (.cells #[.bool false, .int .i64 0, .int .i64 0, .float .f64 0, .string ⟨#[]⟩, .int .i64 0, .int .i64 0, .int .i64 0, .float .f64 0, .string ⟨#[]⟩, .int .i64 0, .int .i64 0] 60))).heap.size := by simp
    have hT : (w.alloc (.cells #[.bool false, .int .i64 0, .int .i64 0, .float .f64 0, .string ⟨#[]⟩, .int .i64 0, .int .i64 0, .int .i64 0, .float .f64 0, .string ⟨#[]⟩, .int .i64 0, .int .i64 0] 60)).cell? ⟨bt, 0, none⟩ = some (.slice A ps.length c) := by exact (World.cell?_alloc_lt w _ _ hbt).trans hT0
    have g := (h.alloc (.cells #[.bool false, .int .i64 0, .int .i64 0, .float .f64 0, .string ⟨#[]⟩, .int .i64 0, .int .i64 0, .int .i64 0, .float .f64 0, .string ⟨#[]⟩, .int .i64 0, .int .i64 0] 60))
    go_enter Try.func71, Try.ntmps71
    go_wp2
    generalize w.alloc (.cells #[.bool false, .int .i64 0, .int .i64 0, .float .f64 0, .string ⟨#[]⟩, .int .i64 0, .int .i64 0, .int .i64 0, .float .f64 0, .string ⟨#[]⟩, .int .i64 0, .int .i64 0] 60) = W0 at *
    clear h hT0
    go_loopw [12] (fun i wr => ∃ k : Nat, k ≤ ps.length ∧ i = .int .i64 k ∧ Hid (fnd ps turn = fnd (ps.drop k) turn) ∧ Below W0.heap.size W0 wr) (fun i _ => ps.length - (intOf i).toNat)
    case atStart => exact ⟨0, Nat.zero_le _, rfl, rfl, Below.refl _ _⟩
    case round =>
      obtain ⟨k, hk, rfl, HS, hbel⟩ := hrel
      have hs1 := hbel.size
      have fz : ∀ j, wr.frozen? ⟨w.heap.size, j, none⟩ = false := fun j => (hbel.frozen (p := ⟨w.heap.size, j, none⟩) hres).trans (hfz j)
      obtain ⟨z0, hz0⟩ : ∃ u, wr.cell? ⟨w.heap.size, 0, none⟩ = some u := ⟨_, (hbel.cell (p := ⟨w.heap.size, 0, none⟩) hres).trans hr0⟩; obtain ⟨z1, hz1⟩ : ∃ u, wr.cell? ⟨w.heap.size, 1, none⟩ = some u := ⟨_, (hbel.cell (p := ⟨w.heap.size, 1, none⟩) hres).trans hr1⟩; obtain ⟨z2, hz2⟩ : ∃ u, wr.cell? ⟨w.heap.size, 2, none⟩ = some u := ⟨_, (hbel.cell (p := ⟨w.heap.size, 2, none⟩) hres).trans hr2⟩; obtain ⟨z3, hz3⟩ : ∃ u, wr.cell? ⟨w.heap.size, 3, none⟩ = some u := ⟨_, (hbel.cell (p := ⟨w.heap.size, 3, none⟩) hres).trans hr3⟩; obtain ⟨z4, hz4⟩ : ∃ u, wr.cell? ⟨w.heap.size, 4, none⟩ = some u := ⟨_, (hbel.cell (p := ⟨w.heap.size, 4, none⟩) hres).trans hr4⟩; obtain ⟨z5, hz5⟩ : ∃ u, wr.cell? ⟨w.heap.size, 5, none⟩ = some u := ⟨_, (hbel.cell (p := ⟨w.heap.size, 5, none⟩) hres).trans hr5⟩; obtain ⟨z6, hz6⟩ : ∃ u, wr.cell? ⟨w.heap.size, 6, none⟩ = some u := ⟨_, (hbel.cell (p := ⟨w.heap.size, 6, none⟩) hres).trans hr6⟩; obtain ⟨z7, hz7⟩ : ∃ u, wr.cell? ⟨w.heap.size, 7, none⟩ = some u := ⟨_, (hbel.cell (p := ⟨w.heap.size, 7, none⟩) hres).trans hr7⟩; obtain ⟨z8, hz8⟩ : ∃ u, wr.cell? ⟨w.heap.size, 8, none⟩ = some u := ⟨_, (hbel.cell (p := ⟨w.heap.size, 8, none⟩) hres).trans hr8⟩; obtain ⟨z9, hz9⟩ : ∃ u, wr.cell? ⟨w.heap.size, 9, none⟩ = some u := ⟨_, (hbel.cell (p := ⟨w.heap.size, 9, none⟩) hres).trans hr9⟩; obtain ⟨z10, hz10⟩ : ∃ u, wr.cell? ⟨w.heap.size, 10, none⟩ = some u := ⟨_, (hbel.cell (p := ⟨w.heap.size, 10, none⟩) hres).trans hr10⟩; obtain ⟨z11, hz11⟩ : ∃ u, wr.cell? ⟨w.heap.size, 11, none⟩ = some u := ⟨_, (hbel.cell (p := ⟨w.heap.size, 11, none⟩) hres).trans hr11⟩
      by_cases hlt : k < ps.length
      · obtain ⟨p, hpk⟩ : ∃ p, ps[k]? = some p := ⟨_, List.getElem?_eq_getElem hlt⟩
        obtain ⟨b, off, rfl, hlo, hb, c0, c1, c2, c3, c4, c5, c6, c7, c8, c9, c10⟩ := rdP_at (g.below hbel) hpk
        have hat := Lib.hid (fnd_at (turn := turn) hpk); clear hpk
        have hrr : w.heap.size < wr.heap.size := by omega
        clear hfz hr0 hr1 hr2 hr3 hr4 hr5 hr6 hr7 hr8 hr9 hr10 hr11
        by_cases ht : turn < p.turn
        · go_wp2
          refine bodyPost_ret (by simp [results, Try.results71, go_sem, *]; rfl) rfl ?_
          have e1 : fnd ps turn = (true, p) := by rw [HS.out, hat.out, if_pos ht]
          have HBf : Below w.heap.size w wr := hW1.trans (hbel.mono (by omega))
          refine ⟨by rw [e1], ?_⟩
          have hq : w.heap.size ≤ w.heap.size := by omega
          have hq2 : w.heap.size ≤ wr.heap.size := by omega
          clear hbel hW1 hs1 c0 c1 c2 c3 c4 c5 c6 c7 c8 c9 c10 hz0 hz1 hz2 hz3 hz4 hz5 hz6 hz7 hz8 hz9 hz10 hz11 fz hat HS g
          repeat (first | with_reducible exact HBf | ((with_reducible refine bl_alloc ?_ _ ?_); · (first | omega | (simp; done) | (simp; omega))) | ((with_reducible refine bl_set ?_ _ ?_); · (first | exact hq | omega | (simp; omega))))
        · go_wp2
          exact ⟨⟨k + 1, by omega, by go_num, by show fnd ps turn = _; rw [HS.out, hat.out, if_neg ht], by (repeat (first | with_reducible assumption | with_reducible exact Below.refl _ _ | with_reducible refine Below.drew ?_ | with_reducible refine bl_drewN _ ?_ | ((with_reducible refine bl_alloc ?_ _ ?_); · (first | omega | (simp; done) | (simp; omega))) | ((with_reducible refine bl_set ?_ _ ?_); · (first | omega | (simp; done) | (simp; omega)))))⟩, by simp [intOf]; omega⟩
      · have hkk : k = ps.length := by omega
        subst hkk
        clear g
        go_wp2
        refine bodyPost_ret (by simp [results, Try.results71, go_sem, *]; rfl) rfl ?_
        have e1 : fnd ps turn = (false, zp) := by rw [HS.out, List.drop_length]; rfl
        have HBf : Below w.heap.size w wr := hW1.trans (hbel.mono (by omega))
        refine ⟨by rw [e1]; rfl, ?_⟩
        have hq : w.heap.size ≤ w.heap.size := by omega
        clear hbel hW1 hs1 hz0 hz1 hz2 hz3 hz4 hz5 hz6 hz7 hz8 hz9 hz10 hz11 fz HS
        repeat (first | with_reducible exact HBf | ((with_reducible refine bl_alloc ?_ _ ?_); · (first | omega | (simp; done) | (simp; omega))) | ((with_reducible refine bl_set ?_ _ ?_); · (first | exact hq | omega | (simp; omega))))


set_option maxRecDepth 100000 in
set_option maxHeartbeats 1000000 in
theorem saft_any (A : Option Addr) (c : Nat) (ps : List Pr) (tn turn : Int) (w : World) (lo : Nat) (h : RdL encP 11 w lo A ps) (hn : ps.length ≤ maxLen) :
    Calls Try.prog 33 #[.agg #[.slice A ps.length c, .int .i64 tn], .int .i64 turn] w fun e w' => e = .returned (.agg #[.bool (aft ps tn turn).1, .int .i64 (aft ps tn turn).2.kk, .int .i64 (aft ps tn turn).2.kn, .float .f64 (aft ps tn turn).2.kf, .string (aft ps tn turn).2.ks, .int .i64 (aft ps tn turn).2.kr, .int .i64 (aft ps tn turn).2.vk, .int .i64 (aft ps tn turn).2.vn, .float .f64 (aft ps tn turn).2.vf, .string (aft ps tn turn).2.vs, .int .i64 (aft ps tn turn).2.vr, .int .i64 (aft ps tn turn).2.turn]) ∧ Below w.heap.size w w' := by
  have g := (h.alloc (.cells #[.slice A ps.length c, .int .i64 tn] 53)).alloc (.cells #[.bool false, .int .i64 0, .int .i64 0, .float .f64 0, .string ⟨#[]⟩, .int .i64 0, .int .i64 0, .int .i64 0, .float .f64 0, .string ⟨#[]⟩, .int .i64 0, .int .i64 0] 60)
  by_cases hok : tabOk ps tn = true
  · have ha : aft ps tn turn = fnd ps turn := by unfold aft; rw [if_pos hok]
    rw [ha]
    go_enter Try.func33, Try.ntmps33
    go_wp2_with fail
    refine (stab_any _ _ ps _ _ lo g hn).mono ?_
    rintro e w1 ⟨rfl, hb1⟩
    obtain ⟨hc1, hf1⟩ := bcell hb1
    have hq1 := hb1.size
    try simp only [dN_size, dN_cell, dN_frozen] at hc1 hf1 hq1
    try simp only [World.size_alloc] at hq1
    try simp only [World.size_setCell] at hq1
    have hz1_0 : w.heap.size < w1.heap.size := by omega
    have hz1_1 : w.heap.size + 1 < w1.heap.size := by omega
    have HB1 : Below w.heap.size w w1 := Below.trans (by (repeat (first | with_reducible assumption | with_reducible exact Below.refl _ _ | with_reducible refine Below.drew ?_ | with_reducible refine bl_drewN _ ?_ | ((with_reducible refine bl_alloc ?_ _ ?_); · (first | omega | (simp; done) | (simp; omega))) | ((with_reducible refine bl_set ?_ _ ?_); · (first | omega | (simp; done) | (simp; omega)))))) (hb1.mono (by (try simp) <;> omega))
    clear hb1
    go_wp2_with fail
    refine (saft2_any _ _ ps _ _ _ lo (h.below HB1) hn).mono ?_
    rintro e w2 ⟨rfl, hb2⟩
    obtain ⟨hc2, hf2⟩ := bcell hb2
    have hq2 := hb2.size
    try simp only [dN_size, dN_cell, dN_frozen] at hc2 hf2 hq2
    try simp only [World.size_alloc] at hq2
    try simp only [World.size_setCell] at hq2
    have hz2_0 : w.heap.size < w2.heap.size := by omega
    have hz2_1 : w.heap.size + 1 < w2.heap.size := by omega
    have HB2 : Below w.heap.size w w2 := Below.trans (by (repeat (first | with_reducible assumption | with_reducible exact Below.refl _ _ | with_reducible refine Below.drew ?_ | with_reducible refine bl_drewN _ ?_ | ((with_reducible refine bl_alloc ?_ _ ?_); · (first | omega | (simp; done) | (simp; omega))) | ((with_reducible refine bl_set ?_ _ ?_); · (first | omega | (simp; done) | (simp; omega)))))) (hb2.mono (by (try simp) <;> omega))
    clear hb2
    go_wp2
    refine bodyPost_ret (by simp [results, Try.results33, go_sem, *]; rfl) rfl ?_
    exact ⟨rfl, by repeat (first | with_reducible assumption | ((with_reducible refine bl_set ?_ _ ?_); · (first | omega | (simp; done) | (simp; omega))))⟩
  · have ha : aft ps tn turn = (false, zp) := by unfold aft; rw [if_neg hok]
    rw [ha]
    go_enter Try.func33, Try.ntmps33
    go_wp2_with fail
    refine (stab_any _ _ ps _ _ lo g hn).mono ?_
    rintro e w1 ⟨rfl, hb1⟩
    obtain ⟨hc1, hf1⟩ := bcell hb1
    have hq1 := hb1.size
    try simp only [dN_size, dN_cell, dN_frozen] at hc1 hf1 hq1
    try simp only [World.size_alloc] at hq1
    try simp only [World.size_setCell] at hq1
    have hz1_0 : w.heap.size < w1.heap.size := by omega
    have hz1_1 : w.heap.size + 1 < w1.heap.size := by omega
    have HB1 : Below w.heap.size w w1 := Below.trans (by (repeat (first | with_reducible assumption | with_reducible exact Below.refl _ _ | with_reducible refine Below.drew ?_ | with_reducible refine bl_drewN _ ?_ | ((with_reducible refine bl_alloc ?_ _ ?_); · (first | omega | (simp; done) | (simp; omega))) | ((with_reducible refine bl_set ?_ _ ?_); · (first | omega | (simp; done) | (simp; omega)))))) (hb1.mono (by (try simp) <;> omega))
    clear hb1
    go_wp2
    refine bodyPost_ret (by simp [results, Try.results33, go_sem, *]; rfl) rfl ?_
    exact ⟨rfl, by repeat (first | with_reducible assumption | ((with_reducible refine bl_set ?_ _ ?_); · (first | omega | (simp; done) | (simp; omega))))⟩

set_option maxRecDepth 100000 in
set_option maxHeartbeats 1000000 in
theorem iaft_any (A : Option Addr) (c : Nat) (ps : List Pr) (tn turn : Int) (w : World) (lo : Nat) (h : RdL encP 11 w lo A ps) (hn : ps.length ≤ maxLen) :
    Calls Try.prog 34 #[.agg #[.slice A ps.length c, .int .i64 tn], .int .i64 turn] w fun e w' => e = .returned (.agg #[.bool (aft ps tn turn).1, .int .i64 (aft ps tn turn).2.kk, .int .i64 (aft ps tn turn).2.kn, .float .f64 (aft ps tn turn).2.kf, .string (aft ps tn turn).2.ks, .int .i64 (aft ps tn turn).2.kr, .int .i64 (aft ps tn turn).2.vk, .int .i64 (aft ps tn turn).2.vn, .float .f64 (aft ps tn turn).2.vf, .string (aft ps tn turn).2.vs, .int .i64 (aft ps tn turn).2.vr, .int .i64 (aft ps tn turn).2.turn]) ∧ Below w.heap.size w w' := by
  have g := (h.alloc (.cells #[.slice A ps.length c, .int .i64 tn] 53)).alloc (.cells #[.bool false, .int .i64 0, .int .i64 0, .float .f64 0, .string ⟨#[]⟩, .int .i64 0, .int .i64 0, .int .i64 0, .float .f64 0, .string ⟨#[]⟩, .int .i64 0, .int .i64 0] 60)
  by_cases hok : tabOk ps tn = true
  · have ha : aft ps tn turn = fnd ps turn := by unfold aft; rw [if_pos hok]
    rw [ha]
    go_enter Try.func34, Try.ntmps34
    go_wp2_with fail
    refine (itab_any _ _ ps _ _ lo g hn).mono ?_
    rintro e w1 ⟨rfl, hb1⟩
    obtain ⟨hc1, hf1⟩ := bcell hb1
    have hq1 := hb1.size
    try simp only [dN_size, dN_cell, dN_frozen] at hc1 hf1 hq1
    try simp only [World.size_alloc] at hq1
    try simp only [World.size_setCell] at hq1
    have hz1_0 : w.heap.size < w1.heap.size := by omega
    have hz1_1 : w.heap.size + 1 < w1.heap.size := by omega
    have HB1 : Below w.heap.size w w1 := Below.trans (by (repeat (first | with_reducible assumption | with_reducible exact Below.refl _ _ | with_reducible refine Below.drew ?_ | with_reducible refine bl_drewN _ ?_ | ((with_reducible refine bl_alloc ?_ _ ?_); · (first | omega | (simp; done) | (simp; omega))) | ((with_reducible refine bl_set ?_ _ ?_); · (first | omega | (simp; done) | (simp; omega)))))) (hb1.mono (by (try simp) <;> omega))
    clear hb1
    go_wp2_with fail
    refine (iaft2_any _ c ps _ _ lo w.heap.size (h.below HB1) hn (by omega) (by simp [go_sem, *])).mono ?_
    rintro e w2 ⟨rfl, hb2⟩
    obtain ⟨hc2, hf2⟩ := bcell hb2
    have hq2 := hb2.size
    try simp only [dN_size, dN_cell, dN_frozen] at hc2 hf2 hq2
    try simp only [World.size_alloc] at hq2
    try simp only [World.size_setCell] at hq2
    have hz2_0 : w.heap.size < w2.heap.size := by omega
    have hz2_1 : w.heap.size + 1 < w2.heap.size := by omega
    have HB2 : Below w.heap.size w w2 := Below.trans (by (repeat (first | with_reducible assumption | with_reducible exact Below.refl _ _ | with_reducible refine Below.drew ?_ | with_reducible refine bl_drewN _ ?_ | ((with_reducible refine bl_alloc ?_ _ ?_); · (first | omega | (simp; done) | (simp; omega))) | ((with_reducible refine bl_set ?_ _ ?_); · (first | omega | (simp; done) | (simp; omega)))))) (hb2.mono (by (try simp) <;> omega))
    clear hb2
    go_wp2
    refine bodyPost_ret (by simp [results, Try.results34, go_sem, *]; rfl) rfl ?_
    exact ⟨rfl, by repeat (first | with_reducible assumption | ((with_reducible refine bl_set ?_ _ ?_); · (first | omega | (simp; done) | (simp; omega))))⟩
  · have ha : aft ps tn turn = (false, zp) := by unfold aft; rw [if_neg hok]
    rw [ha]
    go_enter Try.func34, Try.ntmps34
    go_wp2_with fail
    refine (itab_any _ _ ps _ _ lo g hn).mono ?_
    rintro e w1 ⟨rfl, hb1⟩
    obtain ⟨hc1, hf1⟩ := bcell hb1
    have hq1 := hb1.size
    try simp only [dN_size, dN_cell, dN_frozen] at hc1 hf1 hq1
    try simp only [World.size_alloc] at hq1
    try simp only [World.size_setCell] at hq1
    have hz1_0 : w.heap.size < w1.heap.size := by omega
    have hz1_1 : w.heap.size + 1 < w1.heap.size := by omega
    have HB1 : Below w.heap.size w w1 := Below.trans (by (repeat (first | with_reducible assumption | with_reducible exact Below.refl _ _ | with_reducible refine Below.drew ?_ | with_reducible refine bl_drewN _ ?_ | ((with_reducible refine bl_alloc ?_ _ ?_); · (first | omega | (simp; done) | (simp; omega))) | ((with_reducible refine bl_set ?_ _ ?_); · (first | omega | (simp; done) | (simp; omega)))))) (hb1.mono (by (try simp) <;> omega))
    clear hb1
    go_wp2
    refine bodyPost_ret (by simp [results, Try.results34, go_sem, *]; rfl) rfl ?_
    exact ⟨rfl, by repeat (first | with_reducible assumption | ((with_reducible refine bl_set ?_ _ ?_); · (first | omega | (simp; done) | (simp; omega))))⟩
end Go.Proofs.Ytchlolfdinakiaa
