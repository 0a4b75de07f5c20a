/- TableOk of the program: the same plain function as the reference's. -/
import Derived.Test.YtchlolfdinakiaaP6
namespace Go.Proofs.Ytchlolfdinakiaa
open Go.RowKit
attribute [local go_sem] run_store_float run_equalIn_float

theorem MapIs.below {w w' : World} {g B : Nat} {qs : List Pr} (h : MapIs w g qs) (hb : Below B w w') (hg : g < B) : MapIs w' g qs := by
  obtain ⟨es, clock, h1, h2⟩ := h
  exact ⟨es, clock, (hb.block g hg).trans h1, h2⟩
theorem MapIs.lt {w : World} {g : Nat} {qs : List Pr} (h : MapIs w g qs) : g < w.heap.size := by
  obtain ⟨es, clock, h1, h2⟩ := h
  exact (Array.getElem?_eq_some_iff.1 h1).1
theorem MapIs.alloc {w : World} {g : Nat} {qs : List Pr} (h : MapIs w g qs) (o : Obj) : MapIs (w.alloc o) g qs := h.below (below_new w o) h.lt
theorem MapIs.new (w : World) : MapIs (w.alloc (.map #[] 0)) w.heap.size [] := ⟨#[], 0, heap_alloc_new w _, trivial⟩
theorem veq_self {p : Pr} (h : canon p.kk p.kn p.kf p.ks p.kr = true) : veq p.kk p.kn p.kf p.ks p.kr p.kk p.kn p.kf p.ks p.kr = true := by
  obtain ⟨h1, h2, h3⟩ := canon_spec h
  have hf : (FloatKind.f64.format.order p.kf p.kf == some .eq) = true := by
    by_cases hk : p.kk = 3
    · exact (h3 hk).1
    · exact fz_order (vok_fz h1 hk) (vok_fz h1 hk)
  unfold veq
  rw [hf]; simp
theorem canon_no {p : Pr} (h : canon p.kk p.kn p.kf p.ks p.kr = false) (hc : (key p.kk p.kn p.kf p.ks p.kr).c = 0) : (key p.kk p.kn p.kf p.ks p.kr).k ≠ p.kk := by
  unfold canon at h
  rw [hc] at h
  simpa using h


set_option maxRecDepth 100000 in
set_option maxHeartbeats 1000000 in
theorem itab_any (A : Option Addr) (c : Nat) (ps : List Pr) (tn : Int) (w : World) (lo : Nat) (h : RdL encP 11 w lo A ps) (hn : ps.length ≤ maxLen) :
    Calls Try.prog 31 #[.agg #[.slice A ps.length c, .int .i64 tn]] w fun e w' => e = .returned (.bool (tabOk ps tn)) ∧ Below w.heap.size w w' := by
  unfold maxLen at hn
  have hmm := @run_makeMap Try.prog
  have hgu : Try.prog.eqGuardType Try.prog.depth 28 = false := by kernel_rfl
  by_cases hb : ps.length ≤ 500 ∧ 0 ≤ tn ∧ tn ≤ 1000000000000
  · obtain ⟨m1, m2, m3⟩ := hb
    rw [tabOk_of m1 m2 m3]
    have hW1 := below_new w (.cells #[.slice A ps.length c, .int .i64 tn] 53)
    have hc0 : (w.alloc (.cells #[.slice A ps.length c, .int .i64 tn] 53)).cell? ⟨w.heap.size, 0, none⟩ = some (.slice A ps.length c) := by go_simp
    have hc1 : (w.alloc (.cells #[.slice A ps.length c, .int .i64 tn] 53)).cell? ⟨w.heap.size, 1, none⟩ = some (.int .i64 tn) := by go_simp
    have hs0 : w.heap.size < (w.alloc (.cells #[.slice A ps.length c, .int .i64 tn] 53)).heap.size := by simp
    have hsg : (w.alloc (.cells #[.slice A ps.length c, .int .i64 tn] 53)).heap.size = w.heap.size + 1 := by simp
    have g := h.alloc (.cells #[.slice A ps.length c, .int .i64 tn] 53)
    go_enter Try.func31, Try.ntmps31
    go_wp2
    rw [← hsg]
    clear hsg
    generalize w.alloc (.cells #[.slice A ps.length c, .int .i64 tn] 53) = W0 at *
    clear h
    go_loopw [3, 26] (fun l i wr => ∃ (k : Nat) (last : Int), k ≤ ps.length ∧ i = .int .i64 k ∧ l = .int .i64 last ∧ Hid (Sofar ps tn k last) ∧ Below W0.heap.size W0 wr ∧ Hid (MapIs wr W0.heap.size (ps.take k))) (fun _ i _ => ps.length - (intOf i).toNat)
    case atStart => exact ⟨0, 0, Nat.zero_le _, rfl, rfl, sofar_zero _ _, below_new _ _, MapIs.new _⟩
    case round =>
      obtain ⟨k, last, hk, rfl, rfl, HS, hbel, HM⟩ := hrel
      have k0 := (hbel.cell (p := ⟨w.heap.size, 0, none⟩) hs0).trans hc0
      have k1 := (hbel.cell (p := ⟨w.heap.size, 1, none⟩) hs0).trans hc1
      have hs1 := hbel.size
      by_cases hlt : k < ps.length
      · obtain ⟨p, hpk⟩ : ∃ p, ps[k]? = some p := ⟨_, List.getElem?_eq_getElem hlt⟩
        obtain ⟨b, off, rfl, hlo, hb, c0, c1, c2, c3, c4, c5, c6, c7, c8, c9, c10⟩ := rdP_at (g.below hbel) hpk
        have HP := Lib.hid hpk; clear hpk
        obtain ⟨wo, rfl⟩ : ∃ wo : World, wo = wr := ⟨_, rfl⟩
        go_wp2_with fail
        have hW2 : Below W0.heap.size W0 (wo.alloc (.cells #[.int .i64 p.kk, .int .i64 p.kn, .float .f64 p.kf, .string p.ks, .int .i64 p.kr, .int .i64 p.vk, .int .i64 p.vn, .float .f64 p.vf, .string p.vs, .int .i64 p.vr, .int .i64 p.turn] 58)) := hbel.trans ((below_new wo (.cells #[.int .i64 p.kk, .int .i64 p.kn, .float .f64 p.kf, .string p.ks, .int .i64 p.kr, .int .i64 p.vk, .int .i64 p.vn, .float .f64 p.vf, .string p.vs, .int .i64 p.vr, .int .i64 p.turn] 58)).mono hs1)
        have pc0 : (wo.alloc (.cells #[.int .i64 p.kk, .int .i64 p.kn, .float .f64 p.kf, .string p.ks, .int .i64 p.kr, .int .i64 p.vk, .int .i64 p.vn, .float .f64 p.vf, .string p.vs, .int .i64 p.vr, .int .i64 p.turn] 58)).cell? ⟨wo.heap.size, 0, none⟩ = some (.int .i64 p.kk) := by go_simp
        have pc1 : (wo.alloc (.cells #[.int .i64 p.kk, .int .i64 p.kn, .float .f64 p.kf, .string p.ks, .int .i64 p.kr, .int .i64 p.vk, .int .i64 p.vn, .float .f64 p.vf, .string p.vs, .int .i64 p.vr, .int .i64 p.turn] 58)).cell? ⟨wo.heap.size, 1, none⟩ = some (.int .i64 p.kn) := by go_simp
        have pc2 : (wo.alloc (.cells #[.int .i64 p.kk, .int .i64 p.kn, .float .f64 p.kf, .string p.ks, .int .i64 p.kr, .int .i64 p.vk, .int .i64 p.vn, .float .f64 p.vf, .string p.vs, .int .i64 p.vr, .int .i64 p.turn] 58)).cell? ⟨wo.heap.size, 2, none⟩ = some (.float .f64 p.kf) := by go_simp
        have pc3 : (wo.alloc (.cells #[.int .i64 p.kk, .int .i64 p.kn, .float .f64 p.kf, .string p.ks, .int .i64 p.kr, .int .i64 p.vk, .int .i64 p.vn, .float .f64 p.vf, .string p.vs, .int .i64 p.vr, .int .i64 p.turn] 58)).cell? ⟨wo.heap.size, 3, none⟩ = some (.string p.ks) := by go_simp
        have pc4 : (wo.alloc (.cells #[.int .i64 p.kk, .int .i64 p.kn, .float .f64 p.kf, .string p.ks, .int .i64 p.kr, .int .i64 p.vk, .int .i64 p.vn, .float .f64 p.vf, .string p.vs, .int .i64 p.vr, .int .i64 p.turn] 58)).cell? ⟨wo.heap.size, 4, none⟩ = some (.int .i64 p.kr) := by go_simp
        have pc5 : (wo.alloc (.cells #[.int .i64 p.kk, .int .i64 p.kn, .float .f64 p.kf, .string p.ks, .int .i64 p.kr, .int .i64 p.vk, .int .i64 p.vn, .float .f64 p.vf, .string p.vs, .int .i64 p.vr, .int .i64 p.turn] 58)).cell? ⟨wo.heap.size, 5, none⟩ = some (.int .i64 p.vk) := by go_simp
        have pc6 : (wo.alloc (.cells #[.int .i64 p.kk, .int .i64 p.kn, .float .f64 p.kf, .string p.ks, .int .i64 p.kr, .int .i64 p.vk, .int .i64 p.vn, .float .f64 p.vf, .string p.vs, .int .i64 p.vr, .int .i64 p.turn] 58)).cell? ⟨wo.heap.size, 6, none⟩ = some (.int .i64 p.vn) := by go_simp
        have pc7 : (wo.alloc (.cells #[.int .i64 p.kk, .int .i64 p.kn, .float .f64 p.kf, .string p.ks, .int .i64 p.kr, .int .i64 p.vk, .int .i64 p.vn, .float .f64 p.vf, .string p.vs, .int .i64 p.vr, .int .i64 p.turn] 58)).cell? ⟨wo.heap.size, 7, none⟩ = some (.float .f64 p.vf) := by go_simp
        have pc8 : (wo.alloc (.cells #[.int .i64 p.kk, .int .i64 p.kn, .float .f64 p.kf, .string p.ks, .int .i64 p.kr, .int .i64 p.vk, .int .i64 p.vn, .float .f64 p.vf, .string p.vs, .int .i64 p.vr, .int .i64 p.turn] 58)).cell? ⟨wo.heap.size, 8, none⟩ = some (.string p.vs) := by go_simp
        have pc9 : (wo.alloc (.cells #[.int .i64 p.kk, .int .i64 p.kn, .float .f64 p.kf, .string p.ks, .int .i64 p.kr, .int .i64 p.vk, .int .i64 p.vn, .float .f64 p.vf, .string p.vs, .int .i64 p.vr, .int .i64 p.turn] 58)).cell? ⟨wo.heap.size, 9, none⟩ = some (.int .i64 p.vr) := by go_simp
        have pc10 : (wo.alloc (.cells #[.int .i64 p.kk, .int .i64 p.kn, .float .f64 p.kf, .string p.ks, .int .i64 p.kr, .int .i64 p.vk, .int .i64 p.vn, .float .f64 p.vf, .string p.vs, .int .i64 p.vr, .int .i64 p.turn] 58)).cell? ⟨wo.heap.size, 10, none⟩ = some (.int .i64 p.turn) := by go_simp
        have hs2 : wo.heap.size < (wo.alloc (.cells #[.int .i64 p.kk, .int .i64 p.kn, .float .f64 p.kf, .string p.ks, .int .i64 p.kr, .int .i64 p.vk, .int .i64 p.vn, .float .f64 p.vf, .string p.vs, .int .i64 p.vr, .int .i64 p.turn] 58)).heap.size := by simp
        have hgl := HM.out.lt
        have M1 := Lib.hid (HM.out.alloc (.cells #[.int .i64 p.kk, .int .i64 p.kn, .float .f64 p.kf, .string p.ks, .int .i64 p.kr, .int .i64 p.vk, .int .i64 p.vn, .float .f64 p.vf, .string p.vs, .int .i64 p.vr, .int .i64 p.turn] 58))
        generalize wo.alloc (.cells #[.int .i64 p.kk, .int .i64 p.kn, .float .f64 p.kf, .string p.ks, .int .i64 p.kr, .int .i64 p.vk, .int .i64 p.vn, .float .f64 p.vf, .string p.vs, .int .i64 p.vr, .int .i64 p.turn] 58) = W1 at *
        have hs3 : w.heap.size < W1.heap.size := by omega
        have hs4 : W0.heap.size < W1.heap.size := by omega
        have q0 := (hW2.cell (p := ⟨w.heap.size, 0, none⟩) hs0).trans hc0
        have q1 := (hW2.cell (p := ⟨w.heap.size, 1, none⟩) hs0).trans hc1
        clear c0 c1 c2 c3 c4 c5 c6 c7 c8 c9 c10 k0 k1 hc0 hc1
        refine (ikey_any _ _ _ _ _ _).mono ?_
        rintro e w1 ⟨rfl, hb1⟩
        obtain ⟨hc1, hf1⟩ := bcell hb1
        have hq1 := hb1.size
        try simp only [dN_size, dN_cell, dN_frozen] at hc1 hf1 hq1
        try simp only [World.size_alloc] at hc1 hf1 hq1
        try simp only [World.size_setCell] at hc1 hf1 hq1
        have hz1_0 : w.heap.size < w1.heap.size := by omega
        have hz1_1 : wo.heap.size < w1.heap.size := by omega
        have HB1 : Below W1.heap.size W1 w1 := Below.trans (by (repeat (first | with_reducible assumption | with_reducible exact Below.refl _ _ | with_reducible refine Below.drew ?_ | with_reducible refine bl_drewN _ ?_ | ((with_reducible refine bl_alloc ?_ _ ?_); · (first | omega | (simp; done) | (simp; omega))) | ((with_reducible refine bl_set ?_ _ ?_); · (first | omega | (simp; done) | (simp; omega)))))) (hb1.mono (by (try simp) <;> omega))
        have M2 := Lib.hid (M1.out.below hb1 hs4)
        cases e1 : canon p.kk p.kn p.kf p.ks p.kr
        · by_cases hc : (key p.kk p.kn p.kf p.ks p.kr).c = 0
          · have hv := canon_no e1 hc
            have hbad := Lib.hid e1; clear e1
            generalize key p.kk p.kn p.kf p.ks p.kr = u at *
            rw [hc]
            clear hc
            go_wp2
            go_ret
            exact ⟨by rw [sofar_bad1 HS.out HP.out (by unfold pOk; rw [hbad.out]; rfl)]; rfl, hW1.trans ((hW2.trans (Below.mono (show Below W1.heap.size W1 _ from by (repeat (first | with_reducible assumption | with_reducible exact Below.refl _ _ | with_reducible refine Below.drew ?_ | with_reducible refine bl_drewN _ ?_ | ((with_reducible refine bl_alloc ?_ _ ?_); · (first | omega | (simp; done) | (simp; omega))) | ((with_reducible refine bl_set ?_ _ ?_); · (first | omega | (simp; done) | (simp; omega)))))) (by omega))).mono (by omega))⟩
          · have hbad := Lib.hid e1; clear e1
            generalize key p.kk p.kn p.kf p.ks p.kr = u at *
            go_wp2
            go_ret
            exact ⟨by rw [sofar_bad1 HS.out HP.out (by unfold pOk; rw [hbad.out]; rfl)]; rfl, hW1.trans ((hW2.trans (Below.mono (show Below W1.heap.size W1 _ from by (repeat (first | with_reducible assumption | with_reducible exact Below.refl _ _ | with_reducible refine Below.drew ?_ | with_reducible refine bl_drewN _ ?_ | ((with_reducible refine bl_alloc ?_ _ ?_); · (first | omega | (simp; done) | (simp; omega))) | ((with_reducible refine bl_set ?_ _ ?_); · (first | omega | (simp; done) | (simp; omega)))))) (by omega))).mono (by omega))⟩
        have hff : FloatKind.f64.format.order p.kf p.kf = some .eq := by
          have := veq_self e1
          unfold veq at this
          simpa using this
        rw [canon_key e1]
        have E1 := Lib.hid e1; clear e1
        dsimp only
        go_wp2_with fail
        refine (ivok_any _ _ _ _ _ _).mono ?_
        rintro e w2 ⟨rfl, hb2⟩
        obtain ⟨hc2, hf2⟩ := bcell hb2
        have hq2 := hb2.size
        try simp only [dN_size, dN_cell, dN_frozen] at hc2 hf2 hq2
        try simp only [World.size_alloc] at hc2 hf2 hq2
        try simp only [World.size_setCell] at hc2 hf2 hq2
        have hz2_0 : w.heap.size < w2.heap.size := by omega
        have hz2_1 : wo.heap.size < w2.heap.size := by omega
        have HB2 : Below W1.heap.size W1 w2 := Below.trans (by (repeat (first | with_reducible assumption | with_reducible exact Below.refl _ _ | with_reducible refine Below.drew ?_ | with_reducible refine bl_drewN _ ?_ | ((with_reducible refine bl_alloc ?_ _ ?_); · (first | omega | (simp; done) | (simp; omega))) | ((with_reducible refine bl_set ?_ _ ?_); · (first | omega | (simp; done) | (simp; omega)))))) (hb2.mono (by (try simp) <;> omega))
        have M3 := Lib.hid ((M2.out.alloc _).below hb2 (by simp; omega))
        have hl := look93 M3.out p
        clear hb1 hb2
        cases e2 : vOk p.vk p.vn p.vf p.vs p.vr
        · clear hl
          go_wp2
          go_ret
          exact ⟨by rw [sofar_bad1 HS.out HP.out (by unfold pOk; rw [e2]; simp)]; rfl, hW1.trans ((hW2.trans (Below.mono (show Below W1.heap.size W1 _ from by (repeat (first | with_reducible assumption | with_reducible exact Below.refl _ _ | with_reducible refine Below.drew ?_ | with_reducible refine bl_drewN _ ?_ | ((with_reducible refine bl_alloc ?_ _ ?_); · (first | omega | (simp; done) | (simp; omega))) | ((with_reducible refine bl_set ?_ _ ?_); · (first | omega | (simp; done) | (simp; omega)))))) (by omega))).mono (by omega))⟩
        have E2 := Lib.hid e2; clear e2
        by_cases e3 : p.vk = 0
        · clear hl
          go_wp2
          go_ret
          exact ⟨by rw [sofar_bad1 HS.out HP.out (by unfold pOk; rw [e3]; simp)]; rfl, hW1.trans ((hW2.trans (Below.mono (show Below W1.heap.size W1 _ from by (repeat (first | with_reducible assumption | with_reducible exact Below.refl _ _ | with_reducible refine Below.drew ?_ | with_reducible refine bl_drewN _ ?_ | ((with_reducible refine bl_alloc ?_ _ ?_); · (first | omega | (simp; done) | (simp; omega))) | ((with_reducible refine bl_set ?_ _ ?_); · (first | omega | (simp; done) | (simp; omega)))))) (by omega))).mono (by omega))⟩
        have e3' : (p.vk == 0) = false := by simpa using e3
        by_cases e4 : p.turn ≤ last
        · clear hl
          go_wp2
          go_ret
          exact ⟨by rw [sofar_bad1 HS.out HP.out (by unfold pOk; rw [show decide (last < p.turn) = false from by simp; omega]; simp)]; rfl, hW1.trans ((hW2.trans (Below.mono (show Below W1.heap.size W1 _ from by (repeat (first | with_reducible assumption | with_reducible exact Below.refl _ _ | with_reducible refine Below.drew ?_ | with_reducible refine bl_drewN _ ?_ | ((with_reducible refine bl_alloc ?_ _ ?_); · (first | omega | (simp; done) | (simp; omega))) | ((with_reducible refine bl_set ?_ _ ?_); · (first | omega | (simp; done) | (simp; omega)))))) (by omega))).mono (by omega))⟩
        by_cases e5 : tn < p.turn
        · clear hl
          go_wp2
          go_ret
          exact ⟨by rw [sofar_bad1 HS.out HP.out (by unfold pOk; rw [show decide (p.turn ≤ tn) = false from by simp; omega]; simp)]; rfl, hW1.trans ((hW2.trans (Below.mono (show Below W1.heap.size W1 _ from by (repeat (first | with_reducible assumption | with_reducible exact Below.refl _ _ | with_reducible refine Below.drew ?_ | with_reducible refine bl_drewN _ ?_ | ((with_reducible refine bl_alloc ?_ _ ?_); · (first | omega | (simp; done) | (simp; omega))) | ((with_reducible refine bl_set ?_ _ ?_); · (first | omega | (simp; done) | (simp; omega)))))) (by omega))).mono (by omega))⟩
        have HOK : Hid (pOk p last tn = true) := by
          show pOk p last tn = true
          unfold pOk; rw [E1.out, E2.out, e3']; simp; omega
        cases e6 : dup (ps.take k) p
        · rw [e6] at hl
          obtain ⟨w4, hu, M4, ho⟩ := upd93 M3.out p e6
          have E6 := Lib.hid e6; clear e6
          go_wp2
          refine ⟨⟨k + 1, p.turn, by omega, by go_num, rfl, sofar_next HS.out HP.out HOK.out E6.out, hW2.trans ((HB2.mono (by omega)).trans (ho.below (Nat.le_refl _))), ?_⟩, by simp [intOf]; omega⟩
          have ht : ps.take (k + 1) = ps.take k ++ [p] := by
            rw [List.take_succ_eq_append_getElem hlt, (List.getElem?_eq_some_iff.1 HP.out).2]
          rw [ht]
          exact M4
        · rw [e6] at hl
          have E6 := Lib.hid e6; clear e6
          go_wp2
          go_ret
          exact ⟨by rw [sofar_bad2 HS.out HP.out E6.out]; rfl, hW1.trans ((hW2.trans (HB2.mono (by omega))).mono (by omega))⟩
      · have hkk : k = ps.length := by omega
        subst hkk
        clear g
        go_wp2
        go_ret
        exact ⟨by rw [sofar_end HS.out]; rfl, hW1.trans (hbel.mono (by omega))⟩
  · rw [tabOk_no hb]
    go_enter Try.func31, Try.ntmps31
    go_wp2
    all_goals first | (exfalso; omega) | (go_ret; exact ⟨rfl, below_new _ _⟩)
end Go.Proofs.Ytchlolfdinakiaa
