/- The law on Lines, walked. -/
import Derived.Test.YtcpjplkbmflglaaJ0
import Derived.Test.YtcpjplkbmflglaaM1
import Derived.Deep.RegionHeld3
namespace Go.Proofs.Ytcpjplkbmflglaa
open Go.RowKit
attribute [local go_sem] run_store_float
set_option linter.unusedVariables false
theorem RdF.lower0 {w : World} {lo : Nat} {A : Option Addr} {fs : List LF} (h : RdF w lo A fs) : RdF w 0 A fs := ⟨h.1.lower (Nat.zero_le _), fun f hf => (h.2 f hf).lower (Nat.zero_le _)⟩
theorem fit_fd {x y : LF} (h : y.fd = x.fd) (hx : fitF x) : fitF y := by
  obtain ⟨h1, ⟨h2, h3⟩, h4, h5, h6⟩ := hx
  unfold LF.fd at h
  simp only [Fd.mk.injEq] at h
  obtain ⟨e1, -, -, -, e2, e3, e4⟩ := h
  have hl : y.ns.length = x.ns.length := by have := congrArg List.length e4; simpa using this
  refine ⟨by rw [e1]; exact h1, ⟨by rw [e2]; exact h2, by rw [e2]; exact h3⟩, by rw [e3]; exact h4, by rw [hl]; exact h5, fun l hl => ?_⟩
  have hm : l.nd ∈ x.ns.map LN.nd := by rw [← e4]; exact List.mem_map_of_mem hl
  obtain ⟨l', hl', e⟩ := List.mem_map.1 hm
  have := h6 l' hl'
  unfold fitN at this ⊢
  rw [← e]
  exact this
theorem fits_fd {xs ys : List LF} (h : ys.map LF.fd = xs.map LF.fd) (hx : ∀ x ∈ xs, fitF x) : ∀ y ∈ ys, fitF y := fun y hy => by
  have hm : y.fd ∈ xs.map LF.fd := by rw [← h]; exact List.mem_map_of_mem hy
  obtain ⟨x, hxm, e⟩ := List.mem_map.1 hm
  exact fit_fd e.symm (hx x hxm)
theorem len_fd {xs ys : List LF} (h : ys.map LF.fd = xs.map LF.fd) : ys.length = xs.length := by have := congrArg List.length h; simpa using this
theorem nodes_fd {xs ys : List LF} (h : ys.map LF.fd = xs.map LF.fd) : totW (fun f : LF => f.ns.length) ys = totW (fun f : LF => f.ns.length) xs := by
  have e : ∀ zs : List LF, totW (fun f : LF => f.ns.length) zs = totW (fun x : Fd => x.nodes.length) (zs.map LF.fd) := fun zs => by
    rw [totW_map]
    congr 1
    funext f
    simp [LF.fd]
  rw [e, e, h]
theorem nodes_le : ∀ xs : List LF, totW (fun f : LF => f.ns.length) xs ≤ totW wF xs := by
  intro xs
  induction xs with
  | nil => exact Nat.le_refl _
  | cons x r ih =>
    simp only [totW]
    have : x.ns.length ≤ wF x := by unfold wF; omega
    omega
theorem wN_nd : ∀ {xs ys : List LN}, ys.map LN.nd = xs.map LN.nd → totW wN ys = totW wN xs := by
  intro xs ys h
  have e : ∀ zs : List LN, totW wN zs = totW (fun n : Nd => n.str.size + n.refs.length + n.kids.length) (zs.map LN.nd) := fun zs => by
    rw [totW_map]; rfl
  rw [e, e, h]
theorem wF_fd {xs ys : List LF} (h : ys.map LF.fd = xs.map LF.fd) : totW wF ys = totW wF xs := by
  have e : ∀ zs : List LF, totW wF zs = totW (fun x : Fd => x.name.size + (x.vars.length + totS x.vars) + x.ups.length + (x.nodes.length + totW (fun n : Nd => n.str.size + n.refs.length + n.kids.length) x.nodes)) (zs.map LF.fd) := fun zs => by
    rw [totW_map]
    congr 1
    funext f
    unfold wF LF.fd
    dsimp only
    rw [totW_map, List.length_map]
    rfl
  rw [e, e, h]
theorem RdL.lt {α : Type} {enc : α → List Value} {sz lo : Nat} {w : World} {A : Option Addr} {xs : List α} (h : RdL enc sz w lo A xs) {g o : Nat} (h0 : 0 < xs.length) (e : A = some ⟨g, o, none⟩) : lo ≤ g ∧ g < w.heap.size := by
  obtain ⟨b, off, e', h1, h2, -⟩ := h h0
  rw [e] at e'
  injection e' with e'
  injection e' with e1 e2
  subst e1
  exact ⟨h1, h2⟩
theorem linesS_len (fs : List Fd) : (linesS fs).length ≤ totN fs := by
  unfold linesS
  split
  · have h1 := insAll_len (linesL fs) []
    have h2 := linesL_len fs
    simp only [List.length_nil] at h1
    omega
  · exact Nat.zero_le _
theorem marki1 (P : Nat → Prop) (A : Option Addr) (n c : Nat) (w : World) (h : Ar P w A n 1 3) (hn : n ≤ 1048576) :
    Calls Try.prog 15 #[.slice A n c, .int .i64 1] w fun e w' => e = .returned (.int .i64 (1 + n)) ∧ RdL encI 1 w' 0 A (markI 1 n) ∧ Turn P w w' :=
  (markis_any P A n c 1 w h (by omega) (by unfold maxLen; omega)).mono fun e w' ⟨h, r⟩ => ⟨by rw [h]; simp, r⟩
theorem heldi1 (A : Option Addr) (n c : Nat) (w : World) (lo : Nat) (h : RdL encI 1 w lo A (markI 1 n)) (hn : n ≤ 1048576) :
    Calls Try.prog 16 #[.slice A n c, .int .i64 1] w fun e w' => e = .returned (.int .i64 (1 + n)) ∧ Below w.heap.size w w' :=
  (heldis_any A n c 1 w lo h (by omega) (by unfold maxLen; omega)).mono fun e w' ⟨h, r⟩ => ⟨by rw [h]; simp, r⟩
set_option maxRecDepth 100000 in
set_option maxHeartbeats 8000000 in
theorem law4 (A : Option Addr) (c : Nat) (fs : List LF) (w : World) (lo : Nat) (h : RdF w lo A fs) (hf : ∀ f ∈ fs, fitF f) (hn : fs.length ≤ maxLen) :
    Calls Try.prog 4 #[.agg #[.slice A fs.length c]] w fun e w' => e = .returned (.bool true) ∧ Below w.heap.size w w' := by
  have H := Lib.hid h; have HF := Lib.hid hf
  clear h hf
  by_cases hneg : (1048576 : Int) - (fs.length + totW wF fs : Nat) < 0
  · have HN := Lib.hid hneg
    go_enter Try.func4, Try.ntmps4
    go_wp2_with fail
    refine (szun_any _ _ fs _ _ lo (H.out.below (by (repeat (first | with_reducible assumption | with_reducible exact Below.refl _ _ | with_reducible refine Below.drew ?_ | with_reducible refine bl_drewN _ ?_ | ((with_reducible refine bl_alloc ?_ _ ?_); · (first | omega | (simp; done) | (simp; omega))) | ((with_reducible refine bl_set ?_ _ ?_); · (first | omega | (simp; done) | (simp; omega))))))) HF.out hn (by omega) (by omega)).mono ?_
    rintro e w1 ⟨rfl, hb1⟩
    rw [negOr_neg HN.out]
    obtain ⟨hc1, hf1⟩ := bcell hb1
    have HB1 : Below w.heap.size w w1 := Below.trans (by (repeat (first | with_reducible assumption | with_reducible exact Below.refl _ _ | with_reducible refine Below.drew ?_ | with_reducible refine bl_drewN _ ?_ | ((with_reducible refine bl_alloc ?_ _ ?_); · (first | omega | (simp; done) | (simp; omega))) | ((with_reducible refine bl_set ?_ _ ?_); · (first | omega | (simp; done) | (simp; omega)))))) (hb1.mono (by simp))
    clear hb1
    go_wp2
    go_ret
    exact ⟨rfl, HB1⟩
  · have HN := Lib.hid hneg
    have ht : fs.length + totW wF fs ≤ 1048576 := by omega
    have hn2 : fs.length ≤ 1048576 := by omega
    have HCAP := Lib.hid (cap_of ht)
    have HT : Hid (totW (fun f : LF => f.ns.length) fs ≤ 1048576) := Lib.hid (by have := nodes_le fs; omega)
    have HTW := Lib.hid ht
    obtain ⟨L, hL⟩ : ∃ L, L = linesS (fs.map LF.fd) := ⟨_, rfl⟩
    have HLN : L.length ≤ 1048576 := by
      have h1 := linesS_len (fs.map LF.fd)
      have h2 : totN (fs.map LF.fd) ≤ 1048576 := by unfold totN; rw [totW_map]; simpa [LF.fd] using HT.out
      rw [← hL] at h1
      omega
    have HL := Lib.hid hL
    clear hneg ht hL
    go_enter Try.func4, Try.ntmps4
    go_wp2_with fail
    refine (szun_any _ _ fs _ _ lo (H.out.below (by (repeat (first | with_reducible assumption | with_reducible exact Below.refl _ _ | with_reducible refine Below.drew ?_ | with_reducible refine bl_drewN _ ?_ | ((with_reducible refine bl_alloc ?_ _ ?_); · (first | omega | (simp; done) | (simp; omega))) | ((with_reducible refine bl_set ?_ _ ?_); · (first | omega | (simp; done) | (simp; omega))))))) HF.out hn (by omega) (by omega)).mono ?_
    rintro e w1 ⟨rfl, hb1⟩
    rw [negOr_pos (by have := HN.out; omega)]
    have hge : ¬ (1048576 : Int) - (fs.length + totW wF fs : Nat) < 0 := by have := HN.out; omega
    generalize (1048576 : Int) - (fs.length + totW wF fs : Nat) = lf at *
    have HU1 := Lib.hid ((Blk.new w 24 #[.slice A fs.length c]).below hb1 (by simp))
    have hs1 := hb1.size
    simp only [World.size_alloc] at hs1
    have HB1 : Hid (Below w.heap.size w w1) := Lib.hid (Below.trans (by (repeat (first | with_reducible assumption | with_reducible exact Below.refl _ _ | with_reducible refine Below.drew ?_ | with_reducible refine bl_drewN _ ?_ | ((with_reducible refine bl_alloc ?_ _ ?_); · (first | omega | (simp; done) | (simp; omega))) | ((with_reducible refine bl_set ?_ _ ?_); · (first | omega | (simp; done) | (simp; omega)))))) (hb1.mono (by simp)))
    clear hb1
    have u1 : w1.cell? ⟨w.heap.size, 0, none⟩ = some (.slice A fs.length c) := HU1.out.cell 0
    go_wp2_with fail
    refine (toun_any A c fs _ lo (H.out.below HB1.out) HCAP.out hn2).mono ?_
    rintro e w2 ⟨A1, c1, ys1, rfl, e1, g1, -, hb2⟩
    have hs2 := hb2.size
    have HB2 : Hid (Below w.heap.size w w2) := Lib.hid (HB1.out.trans (hb2.mono (by omega)))
    have HU2 := Lib.hid (HU1.out.below hb2 HU1.out.lt); have u2 : w2.cell? ⟨w.heap.size, 0, none⟩ = some (.slice A fs.length c) := HU2.out.cell 0; clear u1 HU1
    have HL1 := Lib.hid (len_fd e1); have HF1 := Lib.hid (fits_fd e1 HF.out); have HT1 := Lib.hid (nodes_fd e1); have HE1 := Lib.hid e1; have HG1 := Lib.hid g1; clear e1 g1
    clear hb2
    go_wp2_with fail
    refine (slines_any A1 c1 ys1 _ _ HG1.out (by rw [HL1.out]; exact hn2) HF1.out (by rw [HT1.out]; exact HT.out)).mono ?_
    rintro e w3 ⟨WA, wc, he3, hr3, hb3⟩
    have hs3 := hb3.size
    have HB3 : Hid (Below w.heap.size w w3) := Lib.hid (HB2.out.trans (hb3.mono (by omega)))
    have HU3 := Lib.hid (HU2.out.below hb3 HU2.out.lt); have u3 : w3.cell? ⟨w.heap.size, 0, none⟩ = some (.slice A fs.length c) := HU3.out.cell 0; clear u2 HU2
    rw [HE1.out, ← HL.out] at he3 hr3
    have HW3 := Lib.hid hr3; clear hr3 HG1 HF1 HT1 HL1 HE1
    subst he3
    clear hb3
    go_wp2_with fail
    refine (toun_any A c fs _ lo (H.out.below HB3.out) HCAP.out hn2).mono ?_
    rintro e w4 ⟨A2, c2, ys2, rfl, e2, g2, q2, hb4⟩
    have hs4 := hb4.size
    have HB4 : Hid (Below w.heap.size w w4) := Lib.hid (HB3.out.trans (hb4.mono (by omega)))
    have HU4 := Lib.hid (HU3.out.below hb4 HU3.out.lt); have u4 : w4.cell? ⟨w.heap.size, 0, none⟩ = some (.slice A fs.length c) := HU4.out.cell 0; clear u3 HU3
    have HW4 := Lib.hid (HW3.out.below hb4)
    have HWB : Hid (∀ g o, 0 < L.length → WA = some ⟨g, o, none⟩ → g < w3.heap.size) := Lib.hid (fun g o h0 e => (RdL.lt HW3.out h0 e).2); clear HW3
    have HL2 := Lib.hid (len_fd e2); have HF2 := Lib.hid (fits_fd e2 HF.out); have HT2 := Lib.hid (nodes_fd e2); have HE2 := Lib.hid e2; have HTF : Hid (ys2.length + totW wF ys2 = fs.length + totW wF fs) := Lib.hid (by rw [len_fd e2, wF_fd e2])
    have HS := Lib.hid ((ShF.of g2 q2 (Nat.le_refl _)).turn (Turn.alloc (Turn.refl _ _) (.cells #[.slice A2 ys2.length c2] 31)))
    have HK2 : Hid (∀ f ∈ ys2, ∀ l ∈ f.ns, l.nd.kids.length ≤ l.kc) := Lib.hid (fun f hf l hl => ((q2.2 f hf).2.2.2 l hl).2.2)
    have HG4 := Lib.hid (g2.alloc (.cells #[.slice A2 ys2.length c2] 31)); clear e2 g2 q2
    have HX4 := Lib.hid (Blk.new w4 31 #[.slice A2 ys2.length c2])
    have HV4 := Lib.hid (HU4.out.alloc (.cells #[.slice A2 ys2.length c2] 31)); have HWV4 := Lib.hid (HW4.out.alloc (.cells #[.slice A2 ys2.length c2] 31)); have HBV4 := Lib.hid (HB4.out.alloc HB4.out.size (.cells #[.slice A2 ys2.length c2] 31)); clear HU4 HW4
    clear hb4
    go_wp2_with fail
    refine (ilines_any Unit A2 c2 ys2 _ 0 HG4.out.lower0 (Nat.zero_le _) (by rw [HL2.out]; exact hn2) HF2.out (by rw [HT2.out]; exact HT.out) HK2.out).mono ?_
    rintro e w5 ⟨GA, gc, he5, hr5, hw5, hb5⟩
    have hs5 := hb5.size
    simp only [World.size_alloc] at hs5
    have HB5 : Hid (Below w.heap.size w w5) := Lib.hid (HBV4.out.trans (hb5.mono (by simp only [World.size_alloc]; omega)))
    have HU5 := Lib.hid (HV4.out.below hb5 HV4.out.lt); have u5 : w5.cell? ⟨w.heap.size, 0, none⟩ = some (.slice A fs.length c) := HU5.out.cell 0; clear u4 HV4
    have HX5 := Lib.hid (HX4.out.below hb5 HX4.out.lt); have x5 : w5.cell? ⟨w4.heap.size, 0, none⟩ = some (.slice A2 ys2.length c2) := HX5.out.cell 0; clear HX4
    have HW5 := Lib.hid (HWV4.out.below hb5); have HG5 := Lib.hid (HG4.out.below hb5); have HS5 := Lib.hid (HS.out.turn (Turn.of_below hb5)); clear HWV4 HG4 HS
    rw [HE2.out, ← HL.out] at he5 hr5 hw5
    have HI5 := Lib.hid hr5; have HY5 := Lib.hid hw5; clear hr5 hw5
    subst he5
    clear hb5
    go_wp2_with fail
    refine (eqi_any GA WA gc wc L _ _ _ HI5.out HW5.out (by unfold maxLen; omega)).mono ?_
    rintro e w6 ⟨rfl, hb6⟩
    have hs6 := hb6.size
    have HB6 : Hid (Below w.heap.size w w6) := Lib.hid (HB5.out.trans (hb6.mono (by omega)))
    have HU6 := Lib.hid (HU5.out.below hb6 HU5.out.lt); have u6 : w6.cell? ⟨w.heap.size, 0, none⟩ = some (.slice A fs.length c) := HU6.out.cell 0; clear u5 HU5
    have HW6 := Lib.hid (HW5.out.below hb6); clear HW5
    have HG6 := Lib.hid (HG5.out.below hb6); clear HG5
    have HS6 := Lib.hid (HS5.out.turn (Turn.of_below hb6)); clear HS5
    have HX6 := Lib.hid (HX5.out.below hb6 HX5.out.lt); have x6 : w6.cell? ⟨w4.heap.size, 0, none⟩ = some (.slice A2 ys2.length c2) := HX6.out.cell 0; clear x5 HX5
    have HI6 := Lib.hid (HI5.out.below hb6); clear HI5
    have HY6 := Lib.hid (HY5.out.below hb6); clear HY5
    clear hb6
    have hz6 : w.heap.size < w6.heap.size := by omega
    have hy6 : w4.heap.size < w6.heap.size := by omega
    go_wp2
    go_region_held3 (fun w' => w'.cell? ⟨w.heap.size, 0, none⟩ = some (.slice A fs.length c) ∧ w'.cell? ⟨w4.heap.size, 0, none⟩ = some (.slice A2 ys2.length c2)) (simp [go_sem, *]) (first
      | (go_at_call 7; refine (toun_any _ _ fs _ lo (by exact H.out.below (Below.drew HB6.out)) HCAP.out hn2).mono ?_; rintro e w8 ⟨A5, c5, ys5, rfl, e5, g5, -, hb8⟩; replace hb8 := bl_undrew hb8; obtain ⟨hc8, hf8⟩ := bcell hb8; have hs8 := hb8.size; have hz8 : w.heap.size < w8.heap.size := (by omega); have hy8 : w4.heap.size < w8.heap.size := (by omega))
      | (go_at_call 10; refine (equn_any _ _ _ _ ys2 _ _ _ _ (e5.trans HE2.out.symm) (by exact HG6.out.below hb8) g5 HF2.out (by rw [HL2.out]; exact hn)).mono ?_; rintro e w9 ⟨rfl, hb9⟩; obtain ⟨hc9, hf9⟩ := bcell hb9; have hs9 := hb9.size; have hz9 : w.heap.size < w9.heap.size := (by omega); have hy9 : w4.heap.size < w9.heap.size := (by omega)))
    have hbx : Below w6.heap.size w6 w9 := hb8.trans (hb9.mono hb8.size)
    clear hb8 hb9 hc8 hf8 hc9 hf9 e5 g5
    have HB9 : Hid (Below w.heap.size w w9) := Lib.hid (HB6.out.trans (hbx.mono (by omega)))
    have HU9 := Lib.hid (HU6.out.below hbx HU6.out.lt); have u9 : w9.cell? ⟨w.heap.size, 0, none⟩ = some (.slice A fs.length c) := HU9.out.cell 0; clear u6 HU6
    have HW9 := Lib.hid (HW6.out.below hbx); clear HW6
    have HS9 := Lib.hid (HS6.out.turn (Turn.of_below hbx)); clear HS6
    have HX9 := Lib.hid (HX6.out.below hbx HX6.out.lt); have x9 : w9.cell? ⟨w4.heap.size, 0, none⟩ = some (.slice A2 ys2.length c2) := HX9.out.cell 0; clear x6 HX6
    have HI9 := Lib.hid (HI6.out.below hbx); clear HI6
    have HY9 := Lib.hid (HY6.out.below hbx); clear HY6
    clear HG6
    have hz : w.heap.size < w3.heap.size := by omega
    go_wp2_with fail
    refine (markun_any _ A2 c2 ys2 1 _ HS9.out HF2.out (by omega) (by have h1 := cntF_le ys2; have h2 := HTW.out; have h3 := HTF.out; omega) (by rw [HL2.out]; exact hn)).mono ?_
    rintro e w10 ⟨rfl, ht⟩
    have hs10 := ht.but.size
    have HB10 : Hid (Below w.heap.size w w10) := Lib.hid (HB9.out.trans (ht.but.below (fun k hk => by have := hk.1; omega) (by omega)))
    have HU10 := Lib.hid (ht.but.blk HU9.out (fun hk => by have := hk.1; omega)); have u10 : w10.cell? ⟨w.heap.size, 0, none⟩ = some (.slice A fs.length c) := HU10.out.cell 0
    have HW10 := Lib.hid (ht.but.rd HW9.out (fun g o h0 e hk => by have h1 := HWB.out g o h0 e; have h2 := hk.1; omega))
    have HI10 := Lib.hid (ht.but.rd HI9.out (fun g o h0 e hk => by have h1 := (RdL.lt HI9.out h0 e).1; simp only [World.size_alloc] at h1; have h2 := hk.2; omega))
    have HY10 : Hid (Ar (fun g => w4.heap.size < g) w10 GA L.length 1 3) := Lib.hid (fun h0 => by
      obtain ⟨g, cs, e, h1, h2, h3⟩ := HY9.out h0
      simp only [World.size_alloc] at h1
      exact ⟨g, cs, e, by omega, ht.but.blk h2 (fun hk => by have := hk.2; omega), h3⟩)
    clear ht HU9 HW9 HI9 HY9 HS9 HX9 u9 x9
    have hk0 : (0 : Int) ≤ (totW cntF ys2 : Nat) := by omega
    have hk1 : (totW cntF ys2 : Nat) ≤ 6 * 1048576 := by have h1 := cntF_le ys2; have h2 := HTW.out; have h3 := HTF.out; omega
    generalize totW cntF ys2 = kt at *
    have hk2 : ¬ (1 + (kt : Int) < 0) := by omega
    go_wp2_with fail
    refine (eqi_any GA WA gc wc L _ _ _ HI10.out HW10.out (by unfold maxLen; omega)).mono ?_
    rintro e w11 ⟨rfl, hb11⟩
    have hs11 := hb11.size
    have HB11 : Hid (Below w.heap.size w w11) := Lib.hid (HB10.out.trans (hb11.mono (by omega)))
    have HU11 := Lib.hid (HU10.out.below hb11 HU10.out.lt); have u11 : w11.cell? ⟨w.heap.size, 0, none⟩ = some (.slice A fs.length c) := HU11.out.cell 0; clear u10 HU10
    have HW11 := Lib.hid (HW10.out.below hb11); clear HW10
    have HY11 := Lib.hid (HY10.out.turn (Turn.of_below (P := fun _ => False) hb11)); clear HY10
    clear HI10
    clear hb11
    go_wp2_with fail
    refine (marki1 _ GA L.length gc _ HY11.out HLN).mono ?_
    rintro e w12 ⟨rfl, hm12, ht⟩
    have hs12 := ht.but.size
    have HB12 : Hid (Below w.heap.size w w12) := Lib.hid (HB11.out.trans (ht.but.below (fun k hk => by omega) (by omega)))
    have HU12 := Lib.hid (ht.but.blk HU11.out (fun hk => by omega)); have u12 : w12.cell? ⟨w.heap.size, 0, none⟩ = some (.slice A fs.length c) := HU12.out.cell 0
    have HW12 := Lib.hid (ht.but.rd HW11.out (fun g o h0 e hk => by have h1 := HWB.out g o h0 e; omega))
    have HM12 := Lib.hid hm12
    clear ht HU11 HW11 HY11 u11 hm12
    go_wp2_with fail
    refine (heldi1 GA L.length gc _ _ HM12.out HLN).mono ?_
    rintro e w13 ⟨rfl, hb13⟩
    have hs13 := hb13.size
    have HB13 : Hid (Below w.heap.size w w13) := Lib.hid (HB12.out.trans (hb13.mono (by omega)))
    have HU13 := Lib.hid (HU12.out.below hb13 HU12.out.lt); have u13 : w13.cell? ⟨w.heap.size, 0, none⟩ = some (.slice A fs.length c) := HU13.out.cell 0; clear u12 HU12
    have HW13 := Lib.hid (HW12.out.below hb13); clear HW12
    have HM13 := Lib.hid (HM12.out.below hb13); clear HM12
    clear hb13
    have hq0 : ¬ (1 + (L.length : Int) < 0) := by omega
    have hq1 : (1 + (L.length : Int) != 1 + (L.length : Int)) = false := by simp
    go_wp2_with fail
    refine (toun_any A c fs _ lo (H.out.below HB13.out) HCAP.out hn2).mono ?_
    rintro e w14 ⟨A3, c3, ys3, rfl, e3, g3, q3, hb14⟩
    have hs14 := hb14.size
    have HB14 : Hid (Below w.heap.size w w14) := Lib.hid (HB13.out.trans (hb14.mono (by omega)))
    have HU14 := Lib.hid (HU13.out.below hb14 HU13.out.lt); have u14 : w14.cell? ⟨w.heap.size, 0, none⟩ = some (.slice A fs.length c) := HU14.out.cell 0; clear u13 HU13
    have HW14 := Lib.hid (HW13.out.below hb14); clear HW13
    have HM14 := Lib.hid (HM13.out.below hb14); clear HM13
    have HL3 := Lib.hid (len_fd e3); have HF3 := Lib.hid (fits_fd e3 HF.out); have HT3 := Lib.hid (nodes_fd e3); have HE3 := Lib.hid e3
    have HK3 : Hid (∀ f ∈ ys3, ∀ l ∈ f.ns, l.nd.kids.length ≤ l.kc) := Lib.hid (fun f hf l hl => ((q3.2 f hf).2.2.2 l hl).2.2)
    have HG14 := Lib.hid g3; clear e3 g3 q3
    clear hb14
    go_wp2_with fail
    refine (ilines_any Unit A3 c3 ys3 _ 0 HG14.out.lower0 (Nat.zero_le _) (by rw [HL3.out]; exact hn2) HF3.out (by rw [HT3.out]; exact HT.out) HK3.out).mono ?_
    rintro e w15 ⟨KA, kc, he15, hr15, -, hb15⟩
    have hs15 := hb15.size
    have HB15 : Hid (Below w.heap.size w w15) := Lib.hid (HB14.out.trans (hb15.mono (by omega)))
    have HU15 := Lib.hid (HU14.out.below hb15 HU14.out.lt); have u15 : w15.cell? ⟨w.heap.size, 0, none⟩ = some (.slice A fs.length c) := HU15.out.cell 0; clear u14 HU14
    have HW15 := Lib.hid (HW14.out.below hb15); clear HW14
    have HM15 := Lib.hid (HM14.out.below hb15); clear HM14
    rw [HE3.out, ← HL.out] at he15 hr15
    have HI15 := Lib.hid hr15; clear hr15
    subst he15
    clear hb15
    go_wp2_with fail
    refine (eqi_any KA WA kc wc L _ _ _ HI15.out HW15.out (by unfold maxLen; omega)).mono ?_
    rintro e w16 ⟨rfl, hb16⟩
    have hs16 := hb16.size
    have HB16 : Hid (Below w.heap.size w w16) := Lib.hid (HB15.out.trans (hb16.mono (by omega)))
    have HU16 := Lib.hid (HU15.out.below hb16 HU15.out.lt); have u16 : w16.cell? ⟨w.heap.size, 0, none⟩ = some (.slice A fs.length c) := HU16.out.cell 0; clear u15 HU15
    have HM16 := Lib.hid (HM15.out.below hb16); clear HM15
    clear hb16
    go_wp2_with fail
    refine (heldi1 GA L.length gc _ _ HM16.out HLN).mono ?_
    rintro e w17 ⟨rfl, hb17⟩
    have hs17 := hb17.size
    have HB17 : Hid (Below w.heap.size w w17) := Lib.hid (HB16.out.trans (hb17.mono (by omega)))
    clear hb17
    go_wp2
    go_ret
    exact ⟨rfl, HB17.out⟩
end Go.Proofs.Ytcpjplkbmflglaa
