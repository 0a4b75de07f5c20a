/- The walk of the law on Profile. -/
import Derived.Test.YtchlolfdinakiaaQm
import Derived.Deep.RegionHeld3
namespace Go.Proofs.Ytchlolfdinakiaa.Q
open Go.RowKit
attribute [local go_sem] run_store_float

theorem rd_lt {α : Type} {enc : α → List Value} {sz lo : Nat} {w : World} {A : Option Addr} {xs : List α} (h : RdL enc sz w lo A xs) : ∀ g o, 0 < xs.length → A = some ⟨g, o, none⟩ → lo ≤ g ∧ g < w.heap.size := fun g o h0 e => by
  obtain ⟨b, off, e', h1, h2, -⟩ := h h0
  rw [e] at e'
  cases e'
  exact ⟨h1, h2⟩
theorem wr_lt {w : World} {lo : Nat} {A : Option Addr} {n sz : Nat} {t : TypeId} (h : Wr w lo A n sz t) {k : Nat} (hk : Head n A k) : lo ≤ k ∧ k < w.heap.size := by
  obtain ⟨g, cs, e, h1, h2, -⟩ := h hk.1
  have e2 := e.symm.trans hk.2
  injection e2 with e2; injection e2 with e2
  subst e2
  exact ⟨h1, h2.lt⟩
theorem sprofL (A A' : Option Addr) (c c' : Nat) (r : Rp) (w : World) (lo : Nat) (h : RdL encR 5 w lo A r.recs) (hn : r.recs.length ≤ 1048576) (L : List Ct) (hL : L = prof r.recs) :
    Calls Try.prog 37 #[.agg #[.int .i64 r.code, .slice A r.recs.length c, .slice A' r.vals.length c', .string r.err, .string r.trace, .int .i64 r.ticks, .int .i64 r.made]] w fun e w' => ∃ A c, e = .returned (.slice A L.length c) ∧ RdL encC 3 w' w.heap.size A L ∧ Below w.heap.size w w' := by
  subst hL
  refine (sprof_any A A' c c' r w lo h hn).mono ?_
  rintro e w' ⟨v, rfl, hO, hb⟩
  obtain ⟨A3, c3, rfl, hr, -⟩ := ow_rd (enc := encC) (fun _ => rfl) hO
  exact ⟨A3, c3, rfl, hr, hb⟩
theorem iprofL (A A' : Option Addr) (c c' : Nat) (r : Rp) (w : World) (lo : Nat) (h : RdL encR 5 w lo A r.recs) (hn : r.recs.length ≤ 1048576) (hi : ∀ x ∈ r.recs, i64 x.fn ∧ i64 x.line) (L : List Ct) (hL : L = prof r.recs) :
    Calls Try.prog 39 #[.agg #[.int .i64 r.code, .slice A r.recs.length c, .slice A' r.vals.length c', .string r.err, .string r.trace, .int .i64 r.ticks, .int .i64 r.made]] w fun e w' => ∃ A c, e = .returned (.slice A L.length c) ∧ RdL encC 3 w' w.heap.size A L ∧ Wr w' w.heap.size A L.length 3 106 ∧ Below w.heap.size w w' := by
  subst hL
  exact iprof_any Unit A A' c c' r w lo h hn hi
set_option maxRecDepth 100000 in
set_option maxHeartbeats 4000000 in
theorem law11 (A A' : Option Addr) (c c' : Nat) (r : Rp) (w : World) (lo lo' : Nat) (h : RdL encR 5 w lo A r.recs) (h' : RdL encS 1 w lo' A' r.vals) (hx : ∀ p ∈ r.recs, fitR p) (hx' : ∀ s ∈ r.vals, s.size ≤ maxLen) (hn : r.recs.length ≤ maxLen) (hn' : r.vals.length ≤ maxLen) (he : r.err.size ≤ maxLen) (ht : r.trace.size ≤ maxLen)
    (hz : i64 r.code ∧ i64 r.ticks ∧ i64 r.made ∧ ∀ x ∈ r.recs, i64 x.kind ∧ i64 x.task ∧ i64 x.fn ∧ i64 x.line) :
    Calls Try.prog 11 #[.agg #[.int .i64 r.code, .slice A r.recs.length c, .slice A' r.vals.length c', .string r.err, .string r.trace, .int .i64 r.ticks, .int .i64 r.made]] w fun e w' => e = .returned (.bool true) ∧ Below w.heap.size w w' := by
  by_cases hs : (1048576 : Int) - wRp r < 0
  · have HN := Lib.hid (negOr_neg hs)
    go_enter Try.func11, Try.ntmps11
    go_wp2_with fail
    refine (szrp_any _ _ _ _ r _ _ lo lo' (h.alloc _) (h'.alloc _) hx hx' hn hn' he ht (by omega) (by omega)).mono ?_
    rintro e w1 ⟨rfl, hb1⟩
    rw [HN.out]
    have HB := below_then hb1
    clear hb1
    go_wp2
    go_ret
    exact ⟨rfl, HB⟩
  · have hsz : wRp r ≤ 1048576 := by omega
    have m1 : r.recs.length ≤ 1048576 := by unfold wRp at hsz; omega
    have m2 : r.vals.length ≤ 1048576 := by unfold wRp at hsz; omega
    obtain ⟨Ng, hNg⟩ : ∃ Ng, Ng = negOr (1048576 - wRp r) := ⟨_, rfl⟩
    have hNg0 : 0 ≤ Ng := by rw [hNg, negOr_pos (by omega)]; omega
    have HN := Lib.hid hNg
    have HI := Lib.hid (fun x (hx : x ∈ r.recs) => (⟨(hz.2.2.2 x hx).2.2.1, (hz.2.2.2 x hx).2.2.2⟩ : i64 x.fn ∧ i64 x.line))
    have htl := (prof_bd r.recs r.recs.length).1
    rw [List.take_length] at htl
    obtain ⟨L, hL⟩ : ∃ L, L = prof r.recs := ⟨_, rfl⟩
    rw [← hL] at htl
    have HLL := Lib.hid hL
    have H1 := Lib.hid h
    have H2 := Lib.hid h'
    clear hNg hz hL hsz hs h h'
    have bel_0 := Lib.hid (Below.refl w.heap.size w)
    have BXA := Blk.new w 66 #[.int .i64 r.code, .slice A r.recs.length c, .slice A' r.vals.length c', .string r.err, .string r.trace, .int .i64 r.ticks, .int .i64 r.made]
    go_enter Try.func11, Try.ntmps11
    go_wp2_with fail
    have bel_a := Lib.hid (below_new w (.cells #[.int .i64 r.code, .slice A r.recs.length c, .slice A' r.vals.length c', .string r.err, .string r.trace, .int .i64 r.ticks, .int .i64 r.made] 66))
    have box_a := Lib.hid BXA
    generalize w.alloc (.cells #[.int .i64 r.code, .slice A r.recs.length c, .slice A' r.vals.length c', .string r.err, .string r.trace, .int .i64 r.ticks, .int .i64 r.made] 66) = wa at *
    clear bel_0 BXA
    have zA : w.heap.size < wa.heap.size := box_a.out.lt
    obtain ⟨x0_a, x1_a, x2_a, x3_a, x4_a, x5_a, x6_a⟩ := box7 box_a.out
    refine (szrp_any _ _ _ _ r _ _ lo lo' (H1.out.below bel_a.out) (H2.out.below bel_a.out) hx hx' hn hn' he ht (by omega) (by omega)).mono ?_
    rintro e w1 ⟨rfl, hb1⟩
    rw [← HN.out]
    clear x0_a x1_a x2_a x3_a x4_a x5_a x6_a
    have bel_1 := Lib.hid ((bel_a.out).trans (hb1.mono (bel_a.out).size))
    have box_1 := Lib.hid ((box_a.out).below hb1 (box_a.out).lt)
    clear bel_a box_a
    clear hb1
    obtain ⟨x0_1, x1_1, x2_1, x3_1, x4_1, x5_1, x6_1⟩ := box7 box_1.out
    go_wp2_with fail
    refine (torp_any _ _ _ _ r _ lo lo' (H1.out.below bel_1.out) (H2.out.below bel_1.out) m1 m2).mono ?_
    rintro e w2 ⟨A2, c2, B2, d2, rfl, g2, g2', q2, q2', hb2⟩
    clear x0_1 x1_1 x2_1 x3_1 x4_1 x5_1 x6_1
    have bel_2 := Lib.hid ((bel_1.out).trans (hb2.mono (bel_1.out).size))
    have box_2 := Lib.hid ((box_1.out).below hb2 (box_1.out).lt)
    clear bel_1 box_1
    clear hb2
    go_wp2_with fail
    refine (sprofL _ _ _ _ r _ _ g2 m1 _ HLL.out).mono ?_
    rintro e w3 ⟨A3, c3, rfl, hr3, hb3⟩
    clear g2 g2' q2 q2'
    have bel_3 := Lib.hid ((bel_2.out).trans (hb3.mono (bel_2.out).size))
    have box_3 := Lib.hid ((box_2.out).below hb3 (box_2.out).lt)
    clear bel_2 box_2
    clear hb3
    have hWr := Lib.hid (rd_lt hr3)
    have zx3 := box_3.out.lt
    have rW_3 := Lib.hid (hr3)
    clear hr3
    obtain ⟨x0_3, x1_3, x2_3, x3_3, x4_3, x5_3, x6_3⟩ := box7 box_3.out
    go_wp2_with fail
    refine (torp_any _ _ _ _ r _ lo lo' (H1.out.below bel_3.out) (H2.out.below bel_3.out) m1 m2).mono ?_
    rintro e w4 ⟨A4, c4, B4, d4, rfl, g4, g4', q4, q4', hb4⟩
    clear x0_3 x1_3 x2_3 x3_3 x4_3 x5_3 x6_3
    have z34 := hb4.size
    have bel_4 := Lib.hid ((bel_3.out).trans (hb4.mono (bel_3.out).size))
    have box_4 := Lib.hid ((box_3.out).below hb4 (box_3.out).lt)
    have rW_4 := Lib.hid ((rW_3.out).below hb4)
    clear bel_3 box_3 rW_3
    clear hb4
    have rX_4 := Lib.hid (g4)
    have rY_4 := Lib.hid (g4')
    have wX_4 := Lib.hid (q4)
    have wY_4 := Lib.hid (q4')
    have HX4 := Lib.hid (fun k (hk : Head r.recs.length A4 k) => wr_lt q4 hk)
    have HY4 := Lib.hid (fun k (hk : Head r.vals.length B4 k) => wr_lt q4' hk)
    clear g4 g4' q4 q4'
    go_wp2_with fail
    have bX := Blk.new w4 72 #[.int .i64 r.code, .slice A4 r.recs.length c4, .slice B4 r.vals.length d4, .string r.err, .string r.trace, .int .i64 r.ticks, .int .i64 r.made]
    have bel_b := Lib.hid ((bel_4.out).alloc (bel_4.out).size (.cells #[.int .i64 r.code, .slice A4 r.recs.length c4, .slice B4 r.vals.length d4, .string r.err, .string r.trace, .int .i64 r.ticks, .int .i64 r.made] 72))
    have box_b := Lib.hid ((box_4.out).alloc (.cells #[.int .i64 r.code, .slice A4 r.recs.length c4, .slice B4 r.vals.length d4, .string r.err, .string r.trace, .int .i64 r.ticks, .int .i64 r.made] 72))
    have rW_b := Lib.hid ((rW_4.out).alloc (.cells #[.int .i64 r.code, .slice A4 r.recs.length c4, .slice B4 r.vals.length d4, .string r.err, .string r.trace, .int .i64 r.ticks, .int .i64 r.made] 72))
    have rX_b := Lib.hid ((rX_4.out).alloc (.cells #[.int .i64 r.code, .slice A4 r.recs.length c4, .slice B4 r.vals.length d4, .string r.err, .string r.trace, .int .i64 r.ticks, .int .i64 r.made] 72))
    have rY_b := Lib.hid ((rY_4.out).alloc (.cells #[.int .i64 r.code, .slice A4 r.recs.length c4, .slice B4 r.vals.length d4, .string r.err, .string r.trace, .int .i64 r.ticks, .int .i64 r.made] 72))
    have wX_b := Lib.hid ((wX_4.out).alloc (.cells #[.int .i64 r.code, .slice A4 r.recs.length c4, .slice B4 r.vals.length d4, .string r.err, .string r.trace, .int .i64 r.ticks, .int .i64 r.made] 72))
    have wY_b := Lib.hid ((wY_4.out).alloc (.cells #[.int .i64 r.code, .slice A4 r.recs.length c4, .slice B4 r.vals.length d4, .string r.err, .string r.trace, .int .i64 r.ticks, .int .i64 r.made] 72))
    clear bel_4 box_4 rW_4 rX_4 rY_4 wX_4 wY_4
    have z4b : w4.heap.size < (w4.alloc (.cells #[.int .i64 r.code, .slice A4 r.recs.length c4, .slice B4 r.vals.length d4, .string r.err, .string r.trace, .int .i64 r.ticks, .int .i64 r.made] 72)).heap.size := bX.lt
    have bX_b := Lib.hid (bX)
    clear bX
    generalize w4.alloc (.cells #[.int .i64 r.code, .slice A4 r.recs.length c4, .slice B4 r.vals.length d4, .string r.err, .string r.trace, .int .i64 r.ticks, .int .i64 r.made] 72) = wb at *
    obtain ⟨y0_b, y1_b, y2_b, y3_b, y4_b, y5_b, y6_b⟩ := box7 bX_b.out
    refine (iprofL _ _ _ _ r _ _ rX_b.out m1 HI.out _ HLL.out).mono ?_
    rintro e w5 ⟨A5, c5, rfl, hr5, hw5, hb5⟩
    clear y0_b y1_b y2_b y3_b y4_b y5_b y6_b
    have bel_5 := Lib.hid ((bel_b.out).trans (hb5.mono (bel_b.out).size))
    have box_5 := Lib.hid ((box_b.out).below hb5 (box_b.out).lt)
    have rW_5 := Lib.hid ((rW_b.out).below hb5)
    have rX_5 := Lib.hid ((rX_b.out).below hb5)
    have rY_5 := Lib.hid ((rY_b.out).below hb5)
    have wX_5 := Lib.hid ((wX_b.out).below hb5)
    have wY_5 := Lib.hid ((wY_b.out).below hb5)
    have bX_5 := Lib.hid ((bX_b.out).below hb5 (bX_b.out).lt)
    clear bel_b box_b rW_b rX_b rY_b wX_b wY_b bX_b
    clear hb5
    have hGr := Lib.hid (rd_lt hr5)
    have HG5 := Lib.hid (fun k (hk : Head L.length A5 k) => wr_lt hw5 hk)
    have rG_5 := Lib.hid (hr5)
    have wG_5 := Lib.hid (hw5)
    clear hr5 hw5
    go_wp2_with fail
    refine (eqcs_any _ _ _ _ L _ _ _ rG_5.out rW_5.out (by unfold maxLen; omega)).mono ?_
    rintro e w6 ⟨rfl, hb6⟩
    have bel_6 := Lib.hid ((bel_5.out).trans (hb6.mono (bel_5.out).size))
    have box_6 := Lib.hid ((box_5.out).below hb6 (box_5.out).lt)
    have rW_6 := Lib.hid ((rW_5.out).below hb6)
    have rX_6 := Lib.hid ((rX_5.out).below hb6)
    have rY_6 := Lib.hid ((rY_5.out).below hb6)
    have wX_6 := Lib.hid ((wX_5.out).below hb6)
    have wY_6 := Lib.hid ((wY_5.out).below hb6)
    have bX_6 := Lib.hid ((bX_5.out).below hb6 (bX_5.out).lt)
    have rG_6 := Lib.hid ((rG_5.out).below hb6)
    have wG_6 := Lib.hid ((wG_5.out).below hb6)
    clear bel_5 box_5 rW_5 rX_5 rY_5 wX_5 wY_5 bX_5 rG_5 wG_5
    clear hb6
    obtain ⟨x0_6, x1_6, x2_6, x3_6, x4_6, x5_6, x6_6⟩ := box7 box_6.out
    obtain ⟨y0_6, y1_6, y2_6, y3_6, y4_6, y5_6, y6_6⟩ := box7 bX_6.out
    have z6 := bel_6.out.size
    have zb6 := bX_6.out.lt
    have zx6 := box_6.out.lt
    go_wp2
    go_region_held3 (fun w' => w'.cell? ⟨w.heap.size, 0, none⟩ = some (.int .i64 r.code) ∧ w'.cell? ⟨w.heap.size, 1, none⟩ = some (.slice A r.recs.length c) ∧ w'.cell? ⟨w.heap.size, 2, none⟩ = some (.slice A' r.vals.length c') ∧ w'.cell? ⟨w.heap.size, 3, none⟩ = some (.string r.err) ∧ w'.cell? ⟨w.heap.size, 4, none⟩ = some (.string r.trace) ∧ w'.cell? ⟨w.heap.size, 5, none⟩ = some (.int .i64 r.ticks) ∧ w'.cell? ⟨w.heap.size, 6, none⟩ = some (.int .i64 r.made) ∧ w'.cell? ⟨w4.heap.size, 0, none⟩ = some (.int .i64 r.code) ∧ w'.cell? ⟨w4.heap.size, 1, none⟩ = some (.slice A4 r.recs.length c4) ∧ w'.cell? ⟨w4.heap.size, 2, none⟩ = some (.slice B4 r.vals.length d4) ∧ w'.cell? ⟨w4.heap.size, 3, none⟩ = some (.string r.err) ∧ w'.cell? ⟨w4.heap.size, 4, none⟩ = some (.string r.trace) ∧ w'.cell? ⟨w4.heap.size, 5, none⟩ = some (.int .i64 r.ticks) ∧ w'.cell? ⟨w4.heap.size, 6, none⟩ = some (.int .i64 r.made)) (simp [go_sem, *]) (first
      | (go_at_call 38; refine (torp_any _ _ _ _ r _ lo lo' (by exact H1.out.below (bel_6.out.drew)) (by exact H2.out.below (bel_6.out.drew)) m1 m2).mono ?_; rintro e w7 ⟨A7, c7, B7, d7, rfl, g7, g7', q7, q7', hb7⟩; replace hb7 := bl_undrew hb7; obtain ⟨hc7, hf7⟩ := bcell hb7; have hq7 := hb7.size; have hz7 : w.heap.size < w7.heap.size := (by omega); have hy7 : w4.heap.size < w7.heap.size := (by omega))
      | (go_at_call 41; refine (eqrp_any _ _ _ _ _ _ _ _ r _ _ _ _ _ (by exact rX_6.out.below hb7) (by exact rY_6.out.below hb7) g7 g7' (by unfold maxLen; omega) (by unfold maxLen; omega)).mono ?_; rintro e w8 ⟨rfl, hb8⟩; obtain ⟨hc8, hf8⟩ := bcell hb8; have hb68 : Below w6.heap.size w6 w8 := hb7.trans (hb8.mono hb7.size)))
    clear hc8 hf8 hc7 hf7 g7 g7' q7 q7' hb7 hb8
    clear x0_6 x1_6 x2_6 x3_6 x4_6 x5_6 x6_6
    clear y0_6 y1_6 y2_6 y3_6 y4_6 y5_6 y6_6
    have bel_8 := Lib.hid ((bel_6.out).trans (hb68.mono (bel_6.out).size))
    have box_8 := Lib.hid ((box_6.out).below hb68 (box_6.out).lt)
    have rW_8 := Lib.hid ((rW_6.out).below hb68)
    have rX_8 := Lib.hid ((rX_6.out).below hb68)
    have rY_8 := Lib.hid ((rY_6.out).below hb68)
    have wX_8 := Lib.hid ((wX_6.out).below hb68)
    have wY_8 := Lib.hid ((wY_6.out).below hb68)
    have bX_8 := Lib.hid ((bX_6.out).below hb68 (bX_6.out).lt)
    have rG_8 := Lib.hid ((rG_6.out).below hb68)
    have wG_8 := Lib.hid ((wG_6.out).below hb68)
    clear bel_6 box_6 rW_6 rX_6 rY_6 wX_6 wY_6 bX_6 rG_6 wG_6
    clear hb68
    obtain ⟨y0_8, y1_8, y2_8, y3_8, y4_8, y5_8, y6_8⟩ := box7 bX_8.out
    go_wp2_with fail
    refine (markrp_any _ _ r.recs.length r.vals.length _ _ _ _ _ _ _ 1 _ _ _ wX_8.out wY_8.out m1 m2 (by omega)).mono ?_
    rintro e w9 ⟨rfl, -, -, hk9⟩
    clear y0_8 y1_8 y2_8 y3_8 y4_8 y5_8 y6_8
    have hP : ∀ k, Head r.recs.length A4 k ∨ Head r.vals.length B4 k → w3.heap.size ≤ k ∧ k < w4.heap.size := fun k hk => hk.elim (HX4.out k) (HY4.out k)
    have bel_9 := Lib.hid ((bel_8.out).trans (hk9.below (fun k hk => by have := hP k hk; omega) (bel_8.out).size))
    have box_9 := Lib.hid (hk9.blk (box_8.out) (fun hk => by have := hP _ hk; omega))
    have rW_9 := Lib.hid (hk9.rd (rW_8.out) (fun g o h0 e hp => by have := hWr.out g o h0 e; have := hP g hp; omega))
    have bX_9 := Lib.hid (hk9.blk (bX_8.out) (fun hk => by have := hP _ hk; omega))
    have rG_9 := Lib.hid (hk9.rd (rG_8.out) (fun g o h0 e hp => by have := hGr.out g o h0 e; have := hP g hp; omega))
    have wG_9 := Lib.hid (hk9.wr (wG_8.out) (fun g hg hp => by have := HG5.out g hg; have := hP g hp; omega))
    clear bel_8 box_8 rW_8 bX_8 rG_8 wG_8 rX_8 rY_8 wX_8 wY_8
    clear hk9
    go_wp2_with fail
    refine (eqcs_any _ _ _ _ L _ _ _ rG_9.out rW_9.out (by unfold maxLen; omega)).mono ?_
    rintro e w10 ⟨rfl, hb10⟩
    have bel_10 := Lib.hid ((bel_9.out).trans (hb10.mono (bel_9.out).size))
    have box_10 := Lib.hid ((box_9.out).below hb10 (box_9.out).lt)
    have rW_10 := Lib.hid ((rW_9.out).below hb10)
    have bX_10 := Lib.hid ((bX_9.out).below hb10 (bX_9.out).lt)
    have rG_10 := Lib.hid ((rG_9.out).below hb10)
    have wG_10 := Lib.hid ((wG_9.out).below hb10)
    clear bel_9 box_9 rW_9 bX_9 rG_9 wG_9
    clear hb10
    go_wp2_with fail
    refine (markcs_any _ L.length _ 1 _ _ wG_10.out (by omega) (by omega)).mono ?_
    rintro e w11 ⟨rfl, hm11, hk11⟩
    have hQ : ∀ k, Head L.length A5 k → wb.heap.size ≤ k := fun k hk => (HG5.out k hk).1
    have bel_11 := Lib.hid ((bel_10.out).trans (hk11.below (fun k hk => by have := hQ k hk; omega) (bel_10.out).size))
    have box_11 := Lib.hid (hk11.blk (box_10.out) (fun hk => by have := hQ _ hk; omega))
    have rW_11 := Lib.hid (hk11.rd (rW_10.out) (fun g o h0 e hp => by have := hWr.out g o h0 e; have := hQ g hp; omega))
    have bX_11 := Lib.hid (hk11.blk (bX_10.out) (fun hk => by have := hQ _ hk; omega))
    clear bel_10 box_10 rW_10 bX_10 rG_10 wG_10
    have mk_11 := Lib.hid (hm11)
    clear hk11 hm11
    go_wp2_with fail
    refine (heldcs_any _ L.length _ 1 _ _ mk_11.out (by omega) (by omega)).mono ?_
    rintro e w12 ⟨rfl, hb12⟩
    have bel_12 := Lib.hid ((bel_11.out).trans (hb12.mono (bel_11.out).size))
    have box_12 := Lib.hid ((box_11.out).below hb12 (box_11.out).lt)
    have rW_12 := Lib.hid ((rW_11.out).below hb12)
    have bX_12 := Lib.hid ((bX_11.out).below hb12 (bX_11.out).lt)
    have mk_12 := Lib.hid ((mk_11.out).below hb12)
    clear bel_11 box_11 rW_11 bX_11 mk_11
    clear hb12
    obtain ⟨x0_12, x1_12, x2_12, x3_12, x4_12, x5_12, x6_12⟩ := box7 box_12.out
    go_wp2_with fail
    refine (torp_any _ _ _ _ r _ lo lo' (H1.out.below bel_12.out) (H2.out.below bel_12.out) m1 m2).mono ?_
    rintro e w13 ⟨A13, c13, B13, d13, rfl, g13, g13', q13, q13', hb13⟩
    clear x0_12 x1_12 x2_12 x3_12 x4_12 x5_12 x6_12
    have bel_13 := Lib.hid ((bel_12.out).trans (hb13.mono (bel_12.out).size))
    have box_13 := Lib.hid ((box_12.out).below hb13 (box_12.out).lt)
    have rW_13 := Lib.hid ((rW_12.out).below hb13)
    have bX_13 := Lib.hid ((bX_12.out).below hb13 (bX_12.out).lt)
    have mk_13 := Lib.hid ((mk_12.out).below hb13)
    clear bel_12 box_12 rW_12 bX_12 mk_12
    clear hb13
    go_wp2_with fail
    refine (iprofL _ _ _ _ r _ _ g13 m1 HI.out _ HLL.out).mono ?_
    rintro e w14 ⟨A14, c14, rfl, hr14, -, hb14⟩
    clear g13 g13' q13 q13'
    have bel_14 := Lib.hid ((bel_13.out).trans (hb14.mono (bel_13.out).size))
    have box_14 := Lib.hid ((box_13.out).below hb14 (box_13.out).lt)
    have rW_14 := Lib.hid ((rW_13.out).below hb14)
    have bX_14 := Lib.hid ((bX_13.out).below hb14 (bX_13.out).lt)
    have mk_14 := Lib.hid ((mk_13.out).below hb14)
    clear bel_13 box_13 rW_13 bX_13 mk_13
    clear hb14
    go_wp2_with fail
    refine (eqcs_any _ _ _ _ L _ _ _ hr14 rW_14.out (by unfold maxLen; omega)).mono ?_
    rintro e w15 ⟨rfl, hb15⟩
    clear hr14
    have bel_15 := Lib.hid ((bel_14.out).trans (hb15.mono (bel_14.out).size))
    have box_15 := Lib.hid ((box_14.out).below hb15 (box_14.out).lt)
    have rW_15 := Lib.hid ((rW_14.out).below hb15)
    have bX_15 := Lib.hid ((bX_14.out).below hb15 (bX_14.out).lt)
    have mk_15 := Lib.hid ((mk_14.out).below hb15)
    clear bel_14 box_14 rW_14 bX_14 mk_14
    clear hb15
    go_wp2_with fail
    refine (heldcs_any _ L.length _ 1 _ _ mk_15.out (by omega) (by omega)).mono ?_
    rintro e w16 ⟨rfl, hb16⟩
    have bel_16 := Lib.hid ((bel_15.out).trans (hb16.mono (bel_15.out).size))
    have box_16 := Lib.hid ((box_15.out).below hb16 (box_15.out).lt)
    have rW_16 := Lib.hid ((rW_15.out).below hb16)
    have bX_16 := Lib.hid ((bX_15.out).below hb16 (bX_15.out).lt)
    have mk_16 := Lib.hid ((mk_15.out).below hb16)
    clear bel_15 box_15 rW_15 bX_15 mk_15
    clear hb16
    go_wp2
    go_ret
    exact ⟨rfl, bel_16.out⟩
end Go.Proofs.Ytchlolfdinakiaa.Q
