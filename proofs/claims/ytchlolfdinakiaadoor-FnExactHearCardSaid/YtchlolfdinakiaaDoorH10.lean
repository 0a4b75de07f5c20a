/- The walk of the law on Hear. -/
import Derived.Test.YtchlolfdinakiaaDoorH8
import Derived.Test.YtchlolfdinakiaaDoorH9
import Derived.Test.YtchlolfdinakiaaDoorE11
namespace Go.Proofs.YtchlolfdinakiaaDoor
open Go.RowKit
attribute [local go_sem] run_store_float
theorem rd_lt {α : Type} {enc : α → List Value} {sz lo : Nat} {w : World} {A : Option Addr} {xs : List α} (h : RdL enc sz w lo A xs) : ∀ g o, 0 < xs.length → A = some ⟨g, o, none⟩ → lo ≤ g ∧ g < w.heap.size := fun g o h0 e => by
  obtain ⟨b, off, e', h1, h2, -⟩ := h h0
  rw [e] at e'
  cases e'
  exact ⟨h1, h2⟩
set_option maxRecDepth 100000 in
set_option maxHeartbeats 4000000 in
theorem law5 (A : Option Addr) (c : Nat) (l : List UInt8) (w : World) (lo : Nat) (h : RdL encB 1 w lo A l) (hn : l.length ≤ maxLen) (hE : ErrV w) (hTab : Tab w) :
    Calls Tryd.prog 5 #[.slice A l.length c] w fun e w' => e = .returned (.bool true) ∧ Below w.heap.size w w' := by
  unfold maxLen at hn
  by_cases hs : 1048576 < l.length
  · have hs' : (1048576 : Int) < l.length := by omega
    go_enter Tryd.func5, Tryd.ntmps5
    go_wp2
    go_ret
    exact ⟨rfl, Below.refl _ _⟩
  · have hm : l.length ≤ 1048576 := by omega
    have hs' : ¬ (1048576 : Int) < l.length := by omega
    have HE := Lib.hid hE
    have HT := Lib.hid hTab
    have H1 := Lib.hid h
    clear hE hTab h hs
    have bel_0 := Lib.hid (Below.refl w.heap.size w)
    go_enter Tryd.func5, Tryd.ntmps5
    go_wp2_with fail
    refine (tobs_any A c l _ lo H1.out hm).mono ?_
    rintro e w1 ⟨g1, cs1, rfl, hg1, hk1, hsz1, hr1, hb1⟩
    have hlt1 := hk1.lt
    have bel_1 := Lib.hid ((bel_0.out).trans (hb1.mono (bel_0.out).size))
    clear bel_0
    clear hb1
    go_wp2_with fail
    refine (shear_any _ l.length l _ _ hr1 (fun b o e => by cases e; exact hlt1) (Nat.le_refl _) (by unfold maxLen; omega)).mono ?_
    rintro e w2 ⟨r, A2, c2, B2, d2, rfl, hH, hrR, hrS, hwR, hwS, hn1, hn2, hb2⟩
    have HH := Lib.hid hH
    have hWr := Lib.hid (rd_lt hrR)
    have hWs := Lib.hid (rd_lt hrS)
    clear hg1 hk1 hsz1 hr1 hH hwR hwS hlt1
    have bel_2 := Lib.hid ((bel_1.out).trans (hb2.mono (bel_1.out).size))
    clear bel_1
    clear hb2
    have rW_2 := Lib.hid (hrR)
    have sW_2 := Lib.hid (hrS)
    clear hrR hrS
    have z02 := bel_2.out.size
    have hbx := Blk.new w2 39 #[.int .i64 r.code, .slice A2 r.recs.length c2, .slice B2 r.vals.length d2, .string r.err, .string r.trace, .int .i64 r.ticks, .int .i64 r.made]
    go_wp2_with fail
    have bel_2b := Lib.hid ((bel_2.out).alloc (bel_2.out).size (.cells #[.int .i64 r.code, .slice A2 r.recs.length c2, .slice B2 r.vals.length d2, .string r.err, .string r.trace, .int .i64 r.ticks, .int .i64 r.made] 39))
    have rW_2b := Lib.hid ((rW_2.out).alloc (.cells #[.int .i64 r.code, .slice A2 r.recs.length c2, .slice B2 r.vals.length d2, .string r.err, .string r.trace, .int .i64 r.ticks, .int .i64 r.made] 39))
    have sW_2b := Lib.hid ((sW_2.out).alloc (.cells #[.int .i64 r.code, .slice A2 r.recs.length c2, .slice B2 r.vals.length d2, .string r.err, .string r.trace, .int .i64 r.ticks, .int .i64 r.made] 39))
    clear bel_2 rW_2 sW_2
    have bW_2b := Lib.hid (hbx)
    clear hbx
    have zz2b : w2.heap.size < (w2.alloc (.cells #[.int .i64 r.code, .slice A2 r.recs.length c2, .slice B2 r.vals.length d2, .string r.err, .string r.trace, .int .i64 r.ticks, .int .i64 r.made] 39)).heap.size := by simp
    generalize w2.alloc (.cells #[.int .i64 r.code, .slice A2 r.recs.length c2, .slice B2 r.vals.length d2, .string r.err, .string r.trace, .int .i64 r.ticks, .int .i64 r.made] 39) = w2b at *
    refine (tobs_any A c l _ lo (H1.out.below bel_2b.out) hm).mono ?_
    rintro e w3 ⟨g3, cs3, rfl, hg3, hk3, hsz3, hr3, hb3⟩
    have hlt3 := hk3.lt
    have z3 := hb3.size
    have bel_3 := Lib.hid ((bel_2b.out).trans (hb3.mono (bel_2b.out).size))
    have rW_3 := Lib.hid ((rW_2b.out).below hb3)
    have sW_3 := Lib.hid ((sW_2b.out).below hb3)
    have bW_3 := Lib.hid ((bW_2b.out).below hb3 (bW_2b.out).lt)
    clear bel_2b rW_2b sW_2b bW_2b
    clear hb3
    go_wp2_with fail
    refine (ihear_any _ l.length l _ _ hr3 (fun b o e => by cases e; exact hlt3) (Nat.le_refl _) (by unfold maxLen; omega) (errV_on HE.out bel_3.out) (tab_on HT.out bel_3.out)).mono ?_
    rintro e w4 ⟨r', A4, c4, B4, d4, rfl, hH, hrR, hrS, hwR, hwS, -, -, hb4⟩
    obtain rfl := HearIs.eq HH.out hH
    have hGr := Lib.hid (rd_lt hrR)
    have hGs := Lib.hid (rd_lt hrS)
    have HX4 := Lib.hid (fun k (hk : Head r.recs.length A4 k) => wr_lt hwR hk)
    have HY4 := Lib.hid (fun k (hk : Head r.vals.length B4 k) => wr_lt hwS hk)
    have z4 := hb4.size
    have bX_3 := Lib.hid (hk3)
    have rX_3 := Lib.hid (hr3)
    clear hk3 hr3 hH
    have bel_4 := Lib.hid ((bel_3.out).trans (hb4.mono (bel_3.out).size))
    have rW_4 := Lib.hid ((rW_3.out).below hb4)
    have sW_4 := Lib.hid ((sW_3.out).below hb4)
    have bW_4 := Lib.hid ((bW_3.out).below hb4 (bW_3.out).lt)
    have bX_4 := Lib.hid ((bX_3.out).below hb4 (bX_3.out).lt)
    have rX_4 := Lib.hid ((rX_3.out).below hb4)
    clear bel_3 rW_3 sW_3 bW_3 bX_3 rX_3
    clear hb4
    have rG_4 := Lib.hid (hrR)
    have sG_4 := Lib.hid (hrS)
    have wG_4 := Lib.hid (hwR)
    have vG_4 := Lib.hid (hwS)
    clear hrR hrS hwR hwS
    have hbx := Blk.new w4 39 #[.int .i64 r.code, .slice A4 r.recs.length c4, .slice B4 r.vals.length d4, .string r.err, .string r.trace, .int .i64 r.ticks, .int .i64 r.made]
    have bel_4b := Lib.hid ((bel_4.out).alloc (bel_4.out).size (.cells #[.int .i64 r.code, .slice A4 r.recs.length c4, .slice B4 r.vals.length d4, .string r.err, .string r.trace, .int .i64 r.ticks, .int .i64 r.made] 39))
    have rW_4b := Lib.hid ((rW_4.out).alloc (.cells #[.int .i64 r.code, .slice A4 r.recs.length c4, .slice B4 r.vals.length d4, .string r.err, .string r.trace, .int .i64 r.ticks, .int .i64 r.made] 39))
    have sW_4b := Lib.hid ((sW_4.out).alloc (.cells #[.int .i64 r.code, .slice A4 r.recs.length c4, .slice B4 r.vals.length d4, .string r.err, .string r.trace, .int .i64 r.ticks, .int .i64 r.made] 39))
    have bW_4b := Lib.hid ((bW_4.out).alloc (.cells #[.int .i64 r.code, .slice A4 r.recs.length c4, .slice B4 r.vals.length d4, .string r.err, .string r.trace, .int .i64 r.ticks, .int .i64 r.made] 39))
    have bX_4b := Lib.hid ((bX_4.out).alloc (.cells #[.int .i64 r.code, .slice A4 r.recs.length c4, .slice B4 r.vals.length d4, .string r.err, .string r.trace, .int .i64 r.ticks, .int .i64 r.made] 39))
    have rX_4b := Lib.hid ((rX_4.out).alloc (.cells #[.int .i64 r.code, .slice A4 r.recs.length c4, .slice B4 r.vals.length d4, .string r.err, .string r.trace, .int .i64 r.ticks, .int .i64 r.made] 39))
    have rG_4b := Lib.hid ((rG_4.out).alloc (.cells #[.int .i64 r.code, .slice A4 r.recs.length c4, .slice B4 r.vals.length d4, .string r.err, .string r.trace, .int .i64 r.ticks, .int .i64 r.made] 39))
    have sG_4b := Lib.hid ((sG_4.out).alloc (.cells #[.int .i64 r.code, .slice A4 r.recs.length c4, .slice B4 r.vals.length d4, .string r.err, .string r.trace, .int .i64 r.ticks, .int .i64 r.made] 39))
    have wG_4b := Lib.hid ((wG_4.out).alloc (.cells #[.int .i64 r.code, .slice A4 r.recs.length c4, .slice B4 r.vals.length d4, .string r.err, .string r.trace, .int .i64 r.ticks, .int .i64 r.made] 39))
    have vG_4b := Lib.hid ((vG_4.out).alloc (.cells #[.int .i64 r.code, .slice A4 r.recs.length c4, .slice B4 r.vals.length d4, .string r.err, .string r.trace, .int .i64 r.ticks, .int .i64 r.made] 39))
    clear bel_4 rW_4 sW_4 bW_4 bX_4 rX_4 rG_4 sG_4 wG_4 vG_4
    have bG_4b := Lib.hid (hbx)
    clear hbx
    have zz4b : w4.heap.size < (w4.alloc (.cells #[.int .i64 r.code, .slice A4 r.recs.length c4, .slice B4 r.vals.length d4, .string r.err, .string r.trace, .int .i64 r.ticks, .int .i64 r.made] 39)).heap.size := by simp
    obtain ⟨x0_4b, x1_4b, x2_4b, x3_4b, x4_4b, x5_4b, x6_4b⟩ := box7 bW_4b.out
    go_wp2_with fail
    generalize w4.alloc (.cells #[.int .i64 r.code, .slice A4 r.recs.length c4, .slice B4 r.vals.length d4, .string r.err, .string r.trace, .int .i64 r.ticks, .int .i64 r.made] 39) = w4b at *
    refine (eqrp_any _ _ _ _ _ _ _ _ r _ _ _ _ _ rG_4b.out sG_4b.out rW_4b.out sW_4b.out (by unfold maxLen; omega) (by unfold maxLen; omega)).mono ?_
    rintro e w5 ⟨rfl, hb5⟩
    clear x0_4b x1_4b x2_4b x3_4b x4_4b x5_4b x6_4b
    have bel_5 := Lib.hid ((bel_4b.out).trans (hb5.mono (bel_4b.out).size))
    have rW_5 := Lib.hid ((rW_4b.out).below hb5)
    have sW_5 := Lib.hid ((sW_4b.out).below hb5)
    have bW_5 := Lib.hid ((bW_4b.out).below hb5 (bW_4b.out).lt)
    have bX_5 := Lib.hid ((bX_4b.out).below hb5 (bX_4b.out).lt)
    have rX_5 := Lib.hid ((rX_4b.out).below hb5)
    have rG_5 := Lib.hid ((rG_4b.out).below hb5)
    have sG_5 := Lib.hid ((sG_4b.out).below hb5)
    have wG_5 := Lib.hid ((wG_4b.out).below hb5)
    have vG_5 := Lib.hid ((vG_4b.out).below hb5)
    have bG_5 := Lib.hid ((bG_4b.out).below hb5 (bG_4b.out).lt)
    clear bel_4b rW_4b sW_4b bW_4b bX_4b rX_4b rG_4b sG_4b wG_4b vG_4b bG_4b
    clear hb5
    go_wp2_with fail
    refine (tobs_any A c l _ lo (H1.out.below bel_5.out) hm).mono ?_
    rintro e w6 ⟨g6, cs6, rfl, -, -, -, hr6, hb6⟩
    have bel_6 := Lib.hid ((bel_5.out).trans (hb6.mono (bel_5.out).size))
    have rW_6 := Lib.hid ((rW_5.out).below hb6)
    have sW_6 := Lib.hid ((sW_5.out).below hb6)
    have bW_6 := Lib.hid ((bW_5.out).below hb6 (bW_5.out).lt)
    have bX_6 := Lib.hid ((bX_5.out).below hb6 (bX_5.out).lt)
    have rX_6 := Lib.hid ((rX_5.out).below hb6)
    have rG_6 := Lib.hid ((rG_5.out).below hb6)
    have sG_6 := Lib.hid ((sG_5.out).below hb6)
    have wG_6 := Lib.hid ((wG_5.out).below hb6)
    have vG_6 := Lib.hid ((vG_5.out).below hb6)
    have bG_6 := Lib.hid ((bG_5.out).below hb6 (bG_5.out).lt)
    clear bel_5 rW_5 sW_5 bW_5 bX_5 rX_5 rG_5 sG_5 wG_5 vG_5 bG_5
    clear hb6
    go_wp2_with fail
    refine (eqb_any _ _ _ _ l _ _ _ rX_6.out hr6 (by unfold maxLen; omega)).mono ?_
    rintro e w7 ⟨rfl, hb7⟩
    clear hr6
    have bel_7 := Lib.hid ((bel_6.out).trans (hb7.mono (bel_6.out).size))
    have rW_7 := Lib.hid ((rW_6.out).below hb7)
    have sW_7 := Lib.hid ((sW_6.out).below hb7)
    have bW_7 := Lib.hid ((bW_6.out).below hb7 (bW_6.out).lt)
    have bX_7 := Lib.hid ((bX_6.out).below hb7 (bX_6.out).lt)
    have rX_7 := Lib.hid ((rX_6.out).below hb7)
    have rG_7 := Lib.hid ((rG_6.out).below hb7)
    have sG_7 := Lib.hid ((sG_6.out).below hb7)
    have wG_7 := Lib.hid ((wG_6.out).below hb7)
    have vG_7 := Lib.hid ((vG_6.out).below hb7)
    have bG_7 := Lib.hid ((bG_6.out).below hb7 (bG_6.out).lt)
    clear bel_6 rW_6 sW_6 bW_6 bX_6 rX_6 rG_6 sG_6 wG_6 vG_6 bG_6
    clear hb7
    go_wp2_with fail
    refine (markb2_any g3 l.length _ cs3 _ bX_7.out (by omega) hm).mono ?_
    rintro e w8 ⟨rfl, hk8⟩
    have bel_8 := Lib.hid ((bel_7.out).trans (hk8.below (fun k e => by omega) (bel_7.out).size))
    have rW_8 := Lib.hid (hk8.rd (rW_7.out) (fun g o h0 e hp => by have := hWr.out g o h0 e; omega))
    have sW_8 := Lib.hid (hk8.rd (sW_7.out) (fun g o h0 e hp => by have := hWs.out g o h0 e; omega))
    have bW_8 := Lib.hid (hk8.blk (bW_7.out) (fun e => by omega))
    have rG_8 := Lib.hid (hk8.rd (rG_7.out) (fun g o h0 e hp => by have := hGr.out g o h0 e; omega))
    have sG_8 := Lib.hid (hk8.rd (sG_7.out) (fun g o h0 e hp => by have := hGs.out g o h0 e; omega))
    have wG_8 := Lib.hid (hk8.wr (wG_7.out) (fun g hg hp => by have := HX4.out g hg; omega))
    have vG_8 := Lib.hid (hk8.wr (vG_7.out) (fun g hg hp => by have := HY4.out g hg; omega))
    have bG_8 := Lib.hid (hk8.blk (bG_7.out) (fun e => by omega))
    clear bel_7 rW_7 sW_7 bW_7 rG_7 sG_7 wG_7 vG_7 bG_7 bX_7 rX_7
    clear hk8
    obtain ⟨x0_8, x1_8, x2_8, x3_8, x4_8, x5_8, x6_8⟩ := box7 bW_8.out
    obtain ⟨y0_8, y1_8, y2_8, y3_8, y4_8, y5_8, y6_8⟩ := box7 bG_8.out
    go_wp2_with fail
    refine (eqrp_any _ _ _ _ _ _ _ _ r _ _ _ _ _ rG_8.out sG_8.out rW_8.out sW_8.out (by unfold maxLen; omega) (by unfold maxLen; omega)).mono ?_
    rintro e w9 ⟨rfl, hb9⟩
    clear x0_8 x1_8 x2_8 x3_8 x4_8 x5_8 x6_8
    clear y0_8 y1_8 y2_8 y3_8 y4_8 y5_8 y6_8
    have bel_9 := Lib.hid ((bel_8.out).trans (hb9.mono (bel_8.out).size))
    have rW_9 := Lib.hid ((rW_8.out).below hb9)
    have sW_9 := Lib.hid ((sW_8.out).below hb9)
    have bW_9 := Lib.hid ((bW_8.out).below hb9 (bW_8.out).lt)
    have rG_9 := Lib.hid ((rG_8.out).below hb9)
    have sG_9 := Lib.hid ((sG_8.out).below hb9)
    have wG_9 := Lib.hid ((wG_8.out).below hb9)
    have vG_9 := Lib.hid ((vG_8.out).below hb9)
    have bG_9 := Lib.hid ((bG_8.out).below hb9 (bG_8.out).lt)
    clear bel_8 rW_8 sW_8 bW_8 rG_8 sG_8 wG_8 vG_8 bG_8
    clear hb9
    obtain ⟨y0_9, y1_9, y2_9, y3_9, y4_9, y5_9, y6_9⟩ := box7 bG_9.out
    go_wp2_with fail
    refine (markrp_any _ _ r.recs.length r.vals.length _ _ _ _ _ _ _ 1 _ _ _ wG_9.out vG_9.out hn1 hn2 (by omega)).mono ?_
    rintro e w10 ⟨rfl, hm10, hs10, hk10⟩
    clear y0_9 y1_9 y2_9 y3_9 y4_9 y5_9 y6_9
    have hP : ∀ k, Head r.recs.length A4 k ∨ Head r.vals.length B4 k → w3.heap.size ≤ k ∧ k < w4.heap.size := fun k hk => hk.elim (HX4.out k) (HY4.out k)
    have bel_10 := Lib.hid ((bel_9.out).trans (hk10.below (fun k hk => by have := hP k hk; omega) (bel_9.out).size))
    have rW_10 := Lib.hid (hk10.rd (rW_9.out) (fun g o h0 e hp => by have := hWr.out g o h0 e; have := hP g hp; omega))
    have sW_10 := Lib.hid (hk10.rd (sW_9.out) (fun g o h0 e hp => by have := hWs.out g o h0 e; have := hP g hp; omega))
    have bW_10 := Lib.hid (hk10.blk (bW_9.out) (fun hk => by have := hP _ hk; omega))
    have bG_10 := Lib.hid (hk10.blk (bG_9.out) (fun hk => by have := hP _ hk; omega))
    clear bel_9 rW_9 sW_9 bW_9 bG_9 rG_9 sG_9 wG_9 vG_9
    have mG_10 := Lib.hid (hm10)
    have nG_10 := Lib.hid (hs10)
    clear hk10 hm10 hs10
    obtain ⟨y0_10, y1_10, y2_10, y3_10, y4_10, y5_10, y6_10⟩ := box7 bG_10.out
    go_wp2_with fail
    refine (heldrp_any _ _ r.recs.length r.vals.length _ _ _ _ _ _ _ 1 _ _ _ mG_10.out nG_10.out hn1 hn2 (by omega)).mono ?_
    rintro e w11 ⟨rfl, hb11⟩
    clear y0_10 y1_10 y2_10 y3_10 y4_10 y5_10 y6_10
    have bel_11 := Lib.hid ((bel_10.out).trans (hb11.mono (bel_10.out).size))
    have rW_11 := Lib.hid ((rW_10.out).below hb11)
    have sW_11 := Lib.hid ((sW_10.out).below hb11)
    have bW_11 := Lib.hid ((bW_10.out).below hb11 (bW_10.out).lt)
    have bG_11 := Lib.hid ((bG_10.out).below hb11 (bG_10.out).lt)
    have mG_11 := Lib.hid ((mG_10.out).below hb11)
    have nG_11 := Lib.hid ((nG_10.out).below hb11)
    clear bel_10 rW_10 sW_10 bW_10 bG_10 mG_10 nG_10
    clear hb11
    go_wp2_with fail
    refine (tobs_any A c l _ lo (H1.out.below bel_11.out) hm).mono ?_
    rintro e w12 ⟨g12, cs12, rfl, -, hk12, -, hr12, hb12⟩
    have hlt12 := hk12.lt
    clear hk12
    have bel_12 := Lib.hid ((bel_11.out).trans (hb12.mono (bel_11.out).size))
    have rW_12 := Lib.hid ((rW_11.out).below hb12)
    have sW_12 := Lib.hid ((sW_11.out).below hb12)
    have bW_12 := Lib.hid ((bW_11.out).below hb12 (bW_11.out).lt)
    have bG_12 := Lib.hid ((bG_11.out).below hb12 (bG_11.out).lt)
    have mG_12 := Lib.hid ((mG_11.out).below hb12)
    have nG_12 := Lib.hid ((nG_11.out).below hb12)
    clear bel_11 rW_11 sW_11 bW_11 bG_11 mG_11 nG_11
    clear hb12
    go_wp2_with fail
    refine (ihear_any _ l.length l _ _ hr12 (fun b o e => by cases e; exact hlt12) (Nat.le_refl _) (by unfold maxLen; omega) (errV_on HE.out bel_12.out) (tab_on HT.out bel_12.out)).mono ?_
    rintro e w13 ⟨r', A13, c13, B13, d13, rfl, hH, hrR, hrS, -, -, -, -, hb13⟩
    obtain rfl := HearIs.eq HH.out hH
    clear hr12 hH hlt12
    have bel_13 := Lib.hid ((bel_12.out).trans (hb13.mono (bel_12.out).size))
    have rW_13 := Lib.hid ((rW_12.out).below hb13)
    have sW_13 := Lib.hid ((sW_12.out).below hb13)
    have bW_13 := Lib.hid ((bW_12.out).below hb13 (bW_12.out).lt)
    have bG_13 := Lib.hid ((bG_12.out).below hb13 (bG_12.out).lt)
    have mG_13 := Lib.hid ((mG_12.out).below hb13)
    have nG_13 := Lib.hid ((nG_12.out).below hb13)
    clear bel_12 rW_12 sW_12 bW_12 bG_12 mG_12 nG_12
    clear hb13
    have rH_13 := Lib.hid (hrR)
    have sH_13 := Lib.hid (hrS)
    clear hrR hrS
    have hbx := Blk.new w13 39 #[.int .i64 r.code, .slice A13 r.recs.length c13, .slice B13 r.vals.length d13, .string r.err, .string r.trace, .int .i64 r.ticks, .int .i64 r.made]
    have bel_13b := Lib.hid ((bel_13.out).alloc (bel_13.out).size (.cells #[.int .i64 r.code, .slice A13 r.recs.length c13, .slice B13 r.vals.length d13, .string r.err, .string r.trace, .int .i64 r.ticks, .int .i64 r.made] 39))
    have rW_13b := Lib.hid ((rW_13.out).alloc (.cells #[.int .i64 r.code, .slice A13 r.recs.length c13, .slice B13 r.vals.length d13, .string r.err, .string r.trace, .int .i64 r.ticks, .int .i64 r.made] 39))
    have sW_13b := Lib.hid ((sW_13.out).alloc (.cells #[.int .i64 r.code, .slice A13 r.recs.length c13, .slice B13 r.vals.length d13, .string r.err, .string r.trace, .int .i64 r.ticks, .int .i64 r.made] 39))
    have bW_13b := Lib.hid ((bW_13.out).alloc (.cells #[.int .i64 r.code, .slice A13 r.recs.length c13, .slice B13 r.vals.length d13, .string r.err, .string r.trace, .int .i64 r.ticks, .int .i64 r.made] 39))
    have bG_13b := Lib.hid ((bG_13.out).alloc (.cells #[.int .i64 r.code, .slice A13 r.recs.length c13, .slice B13 r.vals.length d13, .string r.err, .string r.trace, .int .i64 r.ticks, .int .i64 r.made] 39))
    have mG_13b := Lib.hid ((mG_13.out).alloc (.cells #[.int .i64 r.code, .slice A13 r.recs.length c13, .slice B13 r.vals.length d13, .string r.err, .string r.trace, .int .i64 r.ticks, .int .i64 r.made] 39))
    have nG_13b := Lib.hid ((nG_13.out).alloc (.cells #[.int .i64 r.code, .slice A13 r.recs.length c13, .slice B13 r.vals.length d13, .string r.err, .string r.trace, .int .i64 r.ticks, .int .i64 r.made] 39))
    have rH_13b := Lib.hid ((rH_13.out).alloc (.cells #[.int .i64 r.code, .slice A13 r.recs.length c13, .slice B13 r.vals.length d13, .string r.err, .string r.trace, .int .i64 r.ticks, .int .i64 r.made] 39))
    have sH_13b := Lib.hid ((sH_13.out).alloc (.cells #[.int .i64 r.code, .slice A13 r.recs.length c13, .slice B13 r.vals.length d13, .string r.err, .string r.trace, .int .i64 r.ticks, .int .i64 r.made] 39))
    clear bel_13 rW_13 sW_13 bW_13 bG_13 mG_13 nG_13 rH_13 sH_13
    have bH_13b := Lib.hid (hbx)
    clear hbx
    have zz13b : w13.heap.size < (w13.alloc (.cells #[.int .i64 r.code, .slice A13 r.recs.length c13, .slice B13 r.vals.length d13, .string r.err, .string r.trace, .int .i64 r.ticks, .int .i64 r.made] 39)).heap.size := by simp
    obtain ⟨x0_13b, x1_13b, x2_13b, x3_13b, x4_13b, x5_13b, x6_13b⟩ := box7 bW_13b.out
    go_wp2_with fail
    generalize w13.alloc (.cells #[.int .i64 r.code, .slice A13 r.recs.length c13, .slice B13 r.vals.length d13, .string r.err, .string r.trace, .int .i64 r.ticks, .int .i64 r.made] 39) = w13b at *
    refine (eqrp_any _ _ _ _ _ _ _ _ r _ _ _ _ _ rH_13b.out sH_13b.out rW_13b.out sW_13b.out (by unfold maxLen; omega) (by unfold maxLen; omega)).mono ?_
    rintro e w14 ⟨rfl, hb14⟩
    clear x0_13b x1_13b x2_13b x3_13b x4_13b x5_13b x6_13b
    have bel_14 := Lib.hid ((bel_13b.out).trans (hb14.mono (bel_13b.out).size))
    have rW_14 := Lib.hid ((rW_13b.out).below hb14)
    have sW_14 := Lib.hid ((sW_13b.out).below hb14)
    have bW_14 := Lib.hid ((bW_13b.out).below hb14 (bW_13b.out).lt)
    have bG_14 := Lib.hid ((bG_13b.out).below hb14 (bG_13b.out).lt)
    have mG_14 := Lib.hid ((mG_13b.out).below hb14)
    have nG_14 := Lib.hid ((nG_13b.out).below hb14)
    have rH_14 := Lib.hid ((rH_13b.out).below hb14)
    have sH_14 := Lib.hid ((sH_13b.out).below hb14)
    have bH_14 := Lib.hid ((bH_13b.out).below hb14 (bH_13b.out).lt)
    clear bel_13b rW_13b sW_13b bW_13b bG_13b mG_13b nG_13b rH_13b sH_13b bH_13b
    clear hb14
    obtain ⟨y0_14, y1_14, y2_14, y3_14, y4_14, y5_14, y6_14⟩ := box7 bG_14.out
    go_wp2_with fail
    refine (heldrp_any _ _ r.recs.length r.vals.length _ _ _ _ _ _ _ 1 _ _ _ mG_14.out nG_14.out hn1 hn2 (by omega)).mono ?_
    rintro e w15 ⟨rfl, hb15⟩
    clear y0_14 y1_14 y2_14 y3_14 y4_14 y5_14 y6_14
    have bel_15 := Lib.hid ((bel_14.out).trans (hb15.mono (bel_14.out).size))
    have rW_15 := Lib.hid ((rW_14.out).below hb15)
    have sW_15 := Lib.hid ((sW_14.out).below hb15)
    have bW_15 := Lib.hid ((bW_14.out).below hb15 (bW_14.out).lt)
    have bG_15 := Lib.hid ((bG_14.out).below hb15 (bG_14.out).lt)
    have mG_15 := Lib.hid ((mG_14.out).below hb15)
    have nG_15 := Lib.hid ((nG_14.out).below hb15)
    have rH_15 := Lib.hid ((rH_14.out).below hb15)
    have sH_15 := Lib.hid ((sH_14.out).below hb15)
    have bH_15 := Lib.hid ((bH_14.out).below hb15 (bH_14.out).lt)
    clear bel_14 rW_14 sW_14 bW_14 bG_14 mG_14 nG_14 rH_14 sH_14 bH_14
    clear hb15
    go_wp2
    go_ret
    exact ⟨rfl, bel_15.out⟩
end Go.Proofs.YtchlolfdinakiaaDoor
