/- TableOk of the reference: one plain function. -/
import Derived.Test.YtchlolfdinakiaaP1
import Derived.Test.YtchlolfdinakiaaP4
namespace Go.Proofs.Ytchlolfdinakiaa
open Go.RowKit
attribute [local go_sem] run_store_float

def pOk (p : Pr) (last tn : Int) : Bool := canon p.kk p.kn p.kf p.ks p.kr && vOk p.vk p.vn p.vf p.vs p.vr && !(p.vk == 0) && decide (last < p.turn) && decide (p.turn ≤ tn)
def dup (seen : List Pr) (p : Pr) : Bool := seen.any fun q => veq q.kk q.kn q.kf q.ks q.kr p.kk p.kn p.kf p.ks p.kr
def tabFrom : List Pr → List Pr → Int → Int → Bool
  | [], _, _, _ => true
  | p :: r, seen, last, tn => pOk p last tn && !dup seen p && tabFrom r (seen ++ [p]) p.turn tn
def tabOk (ps : List Pr) (tn : Int) : Bool := decide (ps.length ≤ 500) && decide (0 ≤ tn) && decide (tn ≤ 1000000000000) && tabFrom ps [] 0 tn
/-- So far so good: k pairs are looked through. -/
def Sofar (ps : List Pr) (tn : Int) (k : Nat) (last : Int) : Prop := tabFrom ps [] 0 tn = tabFrom (ps.drop k) (ps.take k) last tn ∧ ∀ q ∈ ps.take k, canon q.kk q.kn q.kf q.ks q.kr = true

theorem sofar_zero (ps : List Pr) (tn : Int) : Sofar ps tn 0 0 := ⟨rfl, by simp⟩
theorem sofar_step {ps : List Pr} {tn : Int} {k : Nat} {last : Int} {p : Pr} (h : Sofar ps tn k last) (hk : ps[k]? = some p) : tabFrom ps [] 0 tn = (pOk p last tn && !dup (ps.take k) p && tabFrom (ps.drop (k + 1)) (ps.take k ++ [p]) p.turn tn) := by
  rw [h.1]
  have hlt := (List.getElem?_eq_some_iff.1 hk).1
  have hp := (List.getElem?_eq_some_iff.1 hk).2
  rw [List.drop_eq_getElem_cons hlt, hp]
  rfl
theorem sofar_bad1 {ps : List Pr} {tn : Int} {k : Nat} {last : Int} {p : Pr} (h : Sofar ps tn k last) (hk : ps[k]? = some p) (hb : pOk p last tn = false) : tabFrom ps [] 0 tn = false := by
  rw [sofar_step h hk, hb]; rfl
theorem sofar_bad2 {ps : List Pr} {tn : Int} {k : Nat} {last : Int} {p : Pr} (h : Sofar ps tn k last) (hk : ps[k]? = some p) (hb : dup (ps.take k) p = true) : tabFrom ps [] 0 tn = false := by
  rw [sofar_step h hk, hb]; simp
theorem sofar_next {ps : List Pr} {tn : Int} {k : Nat} {last : Int} {p : Pr} (h : Sofar ps tn k last) (hk : ps[k]? = some p) (h1 : pOk p last tn = true) (h2 : dup (ps.take k) p = false) : Sofar ps tn (k + 1) p.turn := by
  have hlt := (List.getElem?_eq_some_iff.1 hk).1
  have hp := (List.getElem?_eq_some_iff.1 hk).2
  have ht : ps.take (k + 1) = ps.take k ++ [p] := by rw [List.take_succ_eq_append_getElem hlt, hp]
  refine ⟨by rw [sofar_step h hk, h1, h2, ht]; simp, fun q hq => ?_⟩
  rw [ht, List.mem_append] at hq
  rcases hq with hq | hq
  · exact h.2 q hq
  · simp at hq; subst hq
    unfold pOk at h1
    simp only [Bool.and_eq_true] at h1
    exact h1.1.1.1.1
theorem sofar_end {ps : List Pr} {tn : Int} {last : Int} (h : Sofar ps tn ps.length last) : tabFrom ps [] 0 tn = true := by
  rw [h.1, List.drop_length]; rfl
theorem dup_at {ps : List Pr} {p q : Pr} {j k : Nat} (hj : ps[j]? = some q) (hjk : j < k) (h : veq q.kk q.kn q.kf q.ks q.kr p.kk p.kn p.kf p.ks p.kr = true) : dup (ps.take k) p = true := by
  unfold dup
  rw [List.any_eq_true]
  have hlt := (List.getElem?_eq_some_iff.1 hj).1
  exact ⟨q, List.mem_of_getElem? (by rw [List.getElem?_take_of_lt hjk]; exact hj), h⟩
theorem dup_step {ps : List Pr} {p q : Pr} {j : Nat} (hj : ps[j]? = some q) (h : veq q.kk q.kn q.kf q.ks q.kr p.kk p.kn p.kf p.ks p.kr = false) (hd : dup (ps.take j) p = false) : dup (ps.take (j + 1)) p = false := by
  have hlt := (List.getElem?_eq_some_iff.1 hj).1
  have hp := (List.getElem?_eq_some_iff.1 hj).2
  unfold dup at *
  rw [List.take_succ_eq_append_getElem hlt, List.any_append, hd, hp]
  simp [h]
theorem tabOk_of {ps : List Pr} {tn : Int} (h1 : ps.length ≤ 500) (h2 : 0 ≤ tn) (h3 : tn ≤ 1000000000000) : tabOk ps tn = tabFrom ps [] 0 tn := by
  unfold tabOk; simp [h1, h2, h3]
theorem tabOk_no {ps : List Pr} {tn : Int} (h : ¬ (ps.length ≤ 500 ∧ 0 ≤ tn ∧ tn ≤ 1000000000000)) : tabOk ps tn = false := by
  unfold tabOk
  cases hh : (decide (ps.length ≤ 500) && decide (0 ≤ tn) && decide (tn ≤ 1000000000000))
  · rfl
  · simp at hh; exact absurd ⟨hh.1.1, hh.1.2, hh.2⟩ h


set_option maxHeartbeats 1000000 in
theorem stab_any (A : Option Addr) (c : Nat) (ps : List Pr) (tn : Int) (w : World) (lo : Nat) (h : RdL encP 11 w lo A ps) (hn : ps.length ≤ maxLen) :
    Calls Try.prog 29 #[.agg #[.slice A ps.length c, .int .i64 tn]] w fun e w' => e = .returned (.bool (tabOk ps tn)) ∧ Below w.heap.size w w' := by
  unfold maxLen at hn
  by_cases hb : ps.length ≤ 500 ∧ 0 ≤ tn ∧ tn ≤ 1000000000000
  · obtain ⟨m1, m2, m3⟩ := hb
    rw [tabOk_of m1 m2 m3]
    have hW1 := below_new w (.cells #[.slice A ps.length c, .int .i64 tn] 53)
    have hc0 : (w.alloc (.cells #[.slice A ps.length c, .int .i64 tn] 53)).cell? ⟨w.heap.size, 0, none⟩ = some (.slice A ps.length c) := by go_simp
    have hc1 : (w.alloc (.cells #[.slice A ps.length c, .int .i64 tn] 53)).cell? ⟨w.heap.size, 1, none⟩ = some (.int .i64 tn) := by go_simp
    have hs0 : w.heap.size < (w.alloc (.cells #[.slice A ps.length c, .int .i64 tn] 53)).heap.size := by simp
    have g := h.alloc (.cells #[.slice A ps.length c, .int .i64 tn] 53)
    go_enter Try.func29, Try.ntmps29
    go_wp2
    generalize w.alloc (.cells #[.slice A ps.length c, .int .i64 tn] 53) = W0 at *
    clear h
    go_loopw [3, 24] (fun l i wr => ∃ (k : Nat) (last : Int), k ≤ ps.length ∧ i = .int .i64 k ∧ l = .int .i64 last ∧ Hid (Sofar ps tn k last) ∧ Below W0.heap.size W0 wr) (fun _ i _ => ps.length - (intOf i).toNat)
    case atStart => exact ⟨0, 0, Nat.zero_le _, rfl, rfl, sofar_zero _ _, Below.refl _ _⟩
    case round =>
      obtain ⟨k, last, hk, rfl, rfl, HS, hbel⟩ := hrel
      have k0 := hbel.cell (p := ⟨w.heap.size, 0, none⟩) hs0
      rw [hc0] at k0
      have k1 := hbel.cell (p := ⟨w.heap.size, 1, none⟩) hs0
      rw [hc1] at k1
      have hs1 := hbel.size
      by_cases hlt : k < ps.length
      · obtain ⟨p, hpk⟩ : ∃ p, ps[k]? = some p := ⟨_, List.getElem?_eq_getElem hlt⟩
        obtain ⟨b, off, rfl, hlo, hb, c0, c1, c2, c3, c4, c5, c6, c7, c8, c9, c10⟩ := rdP_at (g.below hbel) hpk
        have HP := Lib.hid hpk; clear hpk
        obtain ⟨wo, rfl⟩ : ∃ wo : World, wo = wr := ⟨_, rfl⟩
        go_wp2_with fail
        have hW2 : Below W0.heap.size W0 (wo.alloc (.cells #[.int .i64 p.kk, .int .i64 p.kn, .float .f64 p.kf, .string p.ks, .int .i64 p.kr, .int .i64 p.vk, .int .i64 p.vn, .float .f64 p.vf, .string p.vs, .int .i64 p.vr, .int .i64 p.turn] 58)) := hbel.trans ((below_new wo (.cells #[.int .i64 p.kk, .int .i64 p.kn, .float .f64 p.kf, .string p.ks, .int .i64 p.kr, .int .i64 p.vk, .int .i64 p.vn, .float .f64 p.vf, .string p.vs, .int .i64 p.vr, .int .i64 p.turn] 58)).mono hs1)
        have pc0 : (wo.alloc (.cells #[.int .i64 p.kk, .int .i64 p.kn, .float .f64 p.kf, .string p.ks, .int .i64 p.kr, .int .i64 p.vk, .int .i64 p.vn, .float .f64 p.vf, .string p.vs, .int .i64 p.vr, .int .i64 p.turn] 58)).cell? ⟨wo.heap.size, 0, none⟩ = some (.int .i64 p.kk) := by go_simp
        have pc1 : (wo.alloc (.cells #[.int .i64 p.kk, .int .i64 p.kn, .float .f64 p.kf, .string p.ks, .int .i64 p.kr, .int .i64 p.vk, .int .i64 p.vn, .float .f64 p.vf, .string p.vs, .int .i64 p.vr, .int .i64 p.turn] 58)).cell? ⟨wo.heap.size, 1, none⟩ = some (.int .i64 p.kn) := by go_simp
        have pc2 : (wo.alloc (.cells #[.int .i64 p.kk, .int .i64 p.kn, .float .f64 p.kf, .string p.ks, .int .i64 p.kr, .int .i64 p.vk, .int .i64 p.vn, .float .f64 p.vf, .string p.vs, .int .i64 p.vr, .int .i64 p.turn] 58)).cell? ⟨wo.heap.size, 2, none⟩ = some (.float .f64 p.kf) := by go_simp
        have pc3 : (wo.alloc (.cells #[.int .i64 p.kk, .int .i64 p.kn, .float .f64 p.kf, .string p.ks, .int .i64 p.kr, .int .i64 p.vk, .int .i64 p.vn, .float .f64 p.vf, .string p.vs, .int .i64 p.vr, .int .i64 p.turn] 58)).cell? ⟨wo.heap.size, 3, none⟩ = some (.string p.ks) := by go_simp
        have pc4 : (wo.alloc (.cells #[.int .i64 p.kk, .int .i64 p.kn, .float .f64 p.kf, .string p.ks, .int .i64 p.kr, .int .i64 p.vk, .int .i64 p.vn, .float .f64 p.vf, .string p.vs, .int .i64 p.vr, .int .i64 p.turn] 58)).cell? ⟨wo.heap.size, 4, none⟩ = some (.int .i64 p.kr) := by go_simp
        have pc5 : (wo.alloc (.cells #[.int .i64 p.kk, .int .i64 p.kn, .float .f64 p.kf, .string p.ks, .int .i64 p.kr, .int .i64 p.vk, .int .i64 p.vn, .float .f64 p.vf, .string p.vs, .int .i64 p.vr, .int .i64 p.turn] 58)).cell? ⟨wo.heap.size, 5, none⟩ = some (.int .i64 p.vk) := by go_simp
        have pc6 : (wo.alloc (.cells #[.int .i64 p.kk, .int .i64 p.kn, .float .f64 p.kf, .string p.ks, .int .i64 p.kr, .int .i64 p.vk, .int .i64 p.vn, .float .f64 p.vf, .string p.vs, .int .i64 p.vr, .int .i64 p.turn] 58)).cell? ⟨wo.heap.size, 6, none⟩ = some (.int .i64 p.vn) := by go_simp
        have pc7 : (wo.alloc (.cells #[.int .i64 p.kk, .int .i64 p.kn, .float .f64 p.kf, .string p.ks, .int .i64 p.kr, .int .i64 p.vk, .int .i64 p.vn, .float .f64 p.vf, .string p.vs, .int .i64 p.vr, .int .i64 p.turn] 58)).cell? ⟨wo.heap.size, 7, none⟩ = some (.float .f64 p.vf) := by go_simp
        have pc8 : (wo.alloc (.cells #[.int .i64 p.kk, .int .i64 p.kn, .float .f64 p.kf, .string p.ks, .int .i64 p.kr, .int .i64 p.vk, .int .i64 p.vn, .float .f64 p.vf, .string p.vs, .int .i64 p.vr, .int .i64 p.turn] 58)).cell? ⟨wo.heap.size, 8, none⟩ = some (.string p.vs) := by go_simp
        have pc9 : (wo.alloc (.cells #[.int .i64 p.kk, .int .i64 p.kn, .float .f64 p.kf, .string p.ks, .int .i64 p.kr, .int .i64 p.vk, .int .i64 p.vn, .float .f64 p.vf, .string p.vs, .int .i64 p.vr, .int .i64 p.turn] 58)).cell? ⟨wo.heap.size, 9, none⟩ = some (.int .i64 p.vr) := by go_simp
        have pc10 : (wo.alloc (.cells #[.int .i64 p.kk, .int .i64 p.kn, .float .f64 p.kf, .string p.ks, .int .i64 p.kr, .int .i64 p.vk, .int .i64 p.vn, .float .f64 p.vf, .string p.vs, .int .i64 p.vr, .int .i64 p.turn] 58)).cell? ⟨wo.heap.size, 10, none⟩ = some (.int .i64 p.turn) := by go_simp
        have hs2 : wo.heap.size < (wo.alloc (.cells #[.int .i64 p.kk, .int .i64 p.kn, .float .f64 p.kf, .string p.ks, .int .i64 p.kr, .int .i64 p.vk, .int .i64 p.vn, .float .f64 p.vf, .string p.vs, .int .i64 p.vr, .int .i64 p.turn] 58)).heap.size := by simp
        have g1 := (g.below hbel).alloc (.cells #[.int .i64 p.kk, .int .i64 p.kn, .float .f64 p.kf, .string p.ks, .int .i64 p.kr, .int .i64 p.vk, .int .i64 p.vn, .float .f64 p.vf, .string p.vs, .int .i64 p.vr, .int .i64 p.turn] 58)
        generalize wo.alloc (.cells #[.int .i64 p.kk, .int .i64 p.kn, .float .f64 p.kf, .string p.ks, .int .i64 p.kr, .int .i64 p.vk, .int .i64 p.vn, .float .f64 p.vf, .string p.vs, .int .i64 p.vr, .int .i64 p.turn] 58) = W1 at *
        have hs3 : w.heap.size < W1.heap.size := by omega
        have q0 := (hW2.cell (p := ⟨w.heap.size, 0, none⟩) hs0).trans hc0
        have q1 := (hW2.cell (p := ⟨w.heap.size, 1, none⟩) hs0).trans hc1
        clear c0 c1 c2 c3 c4 c5 c6 c7 c8 c9 c10 k0 k1 hc0 hc1
        refine (keyok_any _ _ _ _ _ _).mono ?_
        rintro e w1 ⟨rfl, hb1⟩
        obtain ⟨hc1, hf1⟩ := bcell hb1
        have hq1 := hb1.size
        try simp only [dN_size, dN_cell, dN_frozen] at hc1 hf1 hq1
        try simp only [World.size_alloc] at hc1 hf1 hq1
        try simp only [World.size_setCell] at hc1 hf1 hq1
        have hz1_0 : w.heap.size < w1.heap.size := by omega
        have hz1_1 : wo.heap.size < w1.heap.size := by omega
        have HB1 : Below W1.heap.size W1 w1 := Below.trans (by (repeat (first | with_reducible assumption | with_reducible exact Below.refl _ _ | with_reducible refine Below.drew ?_ | with_reducible refine bl_drewN _ ?_ | ((with_reducible refine bl_alloc ?_ _ ?_); · (first | omega | (simp; done) | (simp; omega))) | ((with_reducible refine bl_set ?_ _ ?_); · (first | omega | (simp; done) | (simp; omega)))))) (hb1.mono (by (try simp) <;> omega))
        clear hb1
        cases e1 : canon p.kk p.kn p.kf p.ks p.kr
        · go_wp2
          go_ret
          exact ⟨by rw [sofar_bad1 HS.out HP.out (by unfold pOk; rw [e1]; rfl)]; rfl, hW1.trans ((hW2.trans (HB1.mono (by omega))).mono (by omega))⟩
        have E1 := Lib.hid e1; clear e1
        go_wp2_with fail
        refine (svok_any _ _ _ _ _ _).mono ?_
        rintro e w2 ⟨rfl, hb2⟩
        obtain ⟨hc2, hf2⟩ := bcell hb2
        have hq2 := hb2.size
        try simp only [dN_size, dN_cell, dN_frozen] at hc2 hf2 hq2
        try simp only [World.size_alloc] at hc2 hf2 hq2
        try simp only [World.size_setCell] at hc2 hf2 hq2
        have hz2_0 : w.heap.size < w2.heap.size := by omega
        have hz2_1 : wo.heap.size < w2.heap.size := by omega
        have HB2 : Below W1.heap.size W1 w2 := Below.trans (by (repeat (first | with_reducible assumption | with_reducible exact Below.refl _ _ | with_reducible refine Below.drew ?_ | with_reducible refine bl_drewN _ ?_ | ((with_reducible refine bl_alloc ?_ _ ?_); · (first | omega | (simp; done) | (simp; omega))) | ((with_reducible refine bl_set ?_ _ ?_); · (first | omega | (simp; done) | (simp; omega)))))) (hb2.mono (by (try simp) <;> omega))
        clear hb2
        cases e2 : vOk p.vk p.vn p.vf p.vs p.vr
        · go_wp2
          go_ret
          exact ⟨by rw [sofar_bad1 HS.out HP.out (by unfold pOk; rw [e2]; simp)]; rfl, hW1.trans ((hW2.trans (HB2.mono (by omega))).mono (by omega))⟩
        have E2 := Lib.hid e2; clear e2
        by_cases e3 : p.vk = 0
        · go_wp2
          go_ret
          exact ⟨by rw [sofar_bad1 HS.out HP.out (by unfold pOk; rw [e3]; simp)]; rfl, hW1.trans ((hW2.trans (HB2.mono (by omega))).mono (by omega))⟩
        have e3' : (p.vk == 0) = false := by simpa using e3
        by_cases e4 : p.turn ≤ last
        · go_wp2
          go_ret
          exact ⟨by rw [sofar_bad1 HS.out HP.out (by unfold pOk; rw [show decide (last < p.turn) = false from by simp; omega]; simp)]; rfl, hW1.trans ((hW2.trans (HB2.mono (by omega))).mono (by omega))⟩
        by_cases e5 : tn < p.turn
        · go_wp2
          go_ret
          exact ⟨by rw [sofar_bad1 HS.out HP.out (by unfold pOk; rw [show decide (p.turn ≤ tn) = false from by simp; omega]; simp)]; rfl, hW1.trans ((hW2.trans (HB2.mono (by omega))).mono (by omega))⟩
        have HOK : Hid (pOk p last tn = true) := by
          show pOk p last tn = true
          unfold pOk; rw [E1.out, E2.out, e3']; simp; omega
        go_wp2
        have HB3 := HB2
        clear hc1 hf1 hc2 hf2
        have hs4 := HB2.size
        go_loopw [6] (fun jv wj => ∃ j : Nat, j ≤ k ∧ jv = .int .i64 j ∧ Hid (dup (ps.take j) p = false) ∧ Below W1.heap.size W1 wj) (fun jv _ => k - (intOf jv).toNat)
        case atStart => exact ⟨0, Nat.zero_le _, rfl, by show dup _ _ = false; simp [dup], HB2⟩
        case round =>
          obtain ⟨j, hj, rfl, HD, hbj⟩ := hrel
          by_cases hjk : j < k
          · obtain ⟨q, hqj⟩ : ∃ q, ps[j]? = some q := ⟨_, List.getElem?_eq_getElem (show j < ps.length by omega)⟩
            obtain ⟨b2, off2, hA2, _, hb2, r0, r1, r2, r3, r4, _, _, _, _, _, _⟩ := rdP_at (g1.below hbj) hqj
            cases hA2
            have hcan := HS.out.2 q (List.mem_of_getElem? (by rw [List.getElem?_take_of_lt hjk]; exact hqj))
            have HC := Lib.hid hcan; clear hcan
            have HJ := Lib.hid hqj; clear hqj
            have z0 := (hbj.cell (p := ⟨w.heap.size, 0, none⟩) hs3).trans q0
            have y0 := (hbj.cell (p := ⟨wo.heap.size, 0, none⟩) hs2).trans pc0
            have y1 := (hbj.cell (p := ⟨wo.heap.size, 1, none⟩) hs2).trans pc1
            have y2 := (hbj.cell (p := ⟨wo.heap.size, 2, none⟩) hs2).trans pc2
            have y3 := (hbj.cell (p := ⟨wo.heap.size, 3, none⟩) hs2).trans pc3
            have y4 := (hbj.cell (p := ⟨wo.heap.size, 4, none⟩) hs2).trans pc4
            have n1 : (0 : Int) ≤ j := by omega
            have n2 : (j : Int) < ps.length := by omega
            have hs5 := hbj.size
            have hs6 : w.heap.size < wr.heap.size := by omega
            have hs7 : wo.heap.size < wr.heap.size := by omega
            cases e6 : veq q.kk q.kn q.kf q.ks q.kr p.kk p.kn p.kf p.ks p.kr
            · go_wp2
              go_region_held3 (fun w' => w'.cell? ⟨w.heap.size, 0, none⟩ = some (.slice (some ⟨b, off, none⟩) ps.length c) ∧ w'.cell? ⟨b, off + j * 11, none⟩ = some (.int .i64 q.kk) ∧ w'.cell? ⟨b, off + j * 11 + 1, none⟩ = some (.int .i64 q.kn) ∧ w'.cell? ⟨b, off + j * 11 + 2, none⟩ = some (.float .f64 q.kf) ∧ w'.cell? ⟨b, off + j * 11 + 3, none⟩ = some (.string q.ks) ∧ w'.cell? ⟨b, off + j * 11 + 4, none⟩ = some (.int .i64 q.kr) ∧ w'.cell? ⟨wo.heap.size, 0, none⟩ = some (.int .i64 p.kk) ∧ w'.cell? ⟨wo.heap.size, 1, none⟩ = some (.int .i64 p.kn) ∧ w'.cell? ⟨wo.heap.size, 2, none⟩ = some (.float .f64 p.kf) ∧ w'.cell? ⟨wo.heap.size, 3, none⟩ = some (.string p.ks) ∧ w'.cell? ⟨wo.heap.size, 4, none⟩ = some (.int .i64 p.kr)) (simp [go_sem, *]) ((go_at_call 67; refine (same_any _ _ _ _ _ _ _ _ _ _ HC.out E1.out _).mono ?_; rintro e w3 ⟨rfl, hb3⟩; replace hb3 := bl_undrew hb3; obtain ⟨hc3, hf3⟩ := bcell hb3; have HB4 : Below W1.heap.size W1 w3 := hbj.trans (hb3.mono (by omega))))
              go_wp2
              exact ⟨⟨j + 1, by omega, by go_num, dup_step HJ.out e6 HD.out, HB4⟩, by simp [intOf]; omega⟩
            · go_wp2
              go_region_held3 (fun w' => w'.cell? ⟨w.heap.size, 0, none⟩ = some (.slice (some ⟨b, off, none⟩) ps.length c) ∧ w'.cell? ⟨b, off + j * 11, none⟩ = some (.int .i64 q.kk) ∧ w'.cell? ⟨b, off + j * 11 + 1, none⟩ = some (.int .i64 q.kn) ∧ w'.cell? ⟨b, off + j * 11 + 2, none⟩ = some (.float .f64 q.kf) ∧ w'.cell? ⟨b, off + j * 11 + 3, none⟩ = some (.string q.ks) ∧ w'.cell? ⟨b, off + j * 11 + 4, none⟩ = some (.int .i64 q.kr) ∧ w'.cell? ⟨wo.heap.size, 0, none⟩ = some (.int .i64 p.kk) ∧ w'.cell? ⟨wo.heap.size, 1, none⟩ = some (.int .i64 p.kn) ∧ w'.cell? ⟨wo.heap.size, 2, none⟩ = some (.float .f64 p.kf) ∧ w'.cell? ⟨wo.heap.size, 3, none⟩ = some (.string p.ks) ∧ w'.cell? ⟨wo.heap.size, 4, none⟩ = some (.int .i64 p.kr)) (simp [go_sem, *]) ((go_at_call 67; refine (same_any _ _ _ _ _ _ _ _ _ _ HC.out E1.out _).mono ?_; rintro e w3 ⟨rfl, hb3⟩; replace hb3 := bl_undrew hb3; obtain ⟨hc3, hf3⟩ := bcell hb3; have HB4 : Below W1.heap.size W1 w3 := hbj.trans (hb3.mono (by omega))))
              go_wp2
              go_ret
              exact ⟨by rw [sofar_bad2 HS.out HP.out (dup_at HJ.out hjk e6)]; rfl, hW1.trans ((hW2.trans (HB4.mono (by omega))).mono (by omega))⟩
          · have hjj : j = k := by omega
            subst hjj
            have z0 := hbj.size
            go_wp2
            exact ⟨⟨j + 1, p.turn, by omega, by go_num, rfl, sofar_next HS.out HP.out HOK.out HD.out, hW2.trans (hbj.mono (by omega))⟩, by simp [intOf]; omega⟩
      · have hkk : k = ps.length := by omega
        subst hkk
        clear g
        go_wp2
        go_ret
        exact ⟨by rw [sofar_end HS.out]; rfl, hW1.trans (hbel.mono (by omega))⟩
  · rw [tabOk_no hb]
    go_enter Try.func29, Try.ntmps29
    go_wp2
    all_goals first | (exfalso; omega) | (go_ret; exact ⟨rfl, below_new _ _⟩)
end Go.Proofs.Ytchlolfdinakiaa
