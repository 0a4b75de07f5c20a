/- The law on CheckUnit, walked. -/
import Derived.Test.YtcpjplkbmflglaaL4
import Derived.Test.YtcpjplkbmflglaaU4
import Derived.Deep.RegionHeld3
namespace Go.Proofs.Ytcpjplkbmflglaa
open Go.RowKit
attribute [local go_sem] run_store_float
set_option linter.unusedVariables false
theorem box3' {w : World} {g : Nat} {t : TypeId} {a b c : Value} (hb : Blk w g t #[a, b, c]) : w.cell? ⟨g, 0, none⟩ = some a ∧ w.cell? ⟨g, 1, none⟩ = some b ∧ w.cell? ⟨g, 2, none⟩ = some c := ⟨hb.cell 0, hb.cell 1, hb.cell 2⟩
theorem RdF.lower0 {w : World} {lo : Nat} {A : Option Addr} {fs : List LF} (h : RdF w lo A fs) : RdF w 0 A fs := ⟨h.1.lower (Nat.zero_le _), fun f hf => (h.2 f hf).lower (Nat.zero_le _)⟩
theorem fit_fd {x y : LF} (h : y.fd = x.fd) (hx : fitF x) : fitF y := by
  obtain ⟨h1, ⟨h2, h3⟩, h4, h5, h6⟩ := hx
  unfold LF.fd at h
  simp only [Fd.mk.injEq] at h
  obtain ⟨e1, -, -, -, e2, e3, e4⟩ := h
  have hl : y.ns.length = x.ns.length := by have := congrArg List.length e4; simpa using this
  refine ⟨by rw [e1]; exact h1, ⟨by rw [e2]; exact h2, by rw [e2]; exact h3⟩, by rw [e3]; exact h4, by rw [hl]; exact h5, fun l hl => ?_⟩
  have hm : l.nd ∈ x.ns.map LN.nd := by rw [← e4]; exact List.mem_map_of_mem hl
  obtain ⟨l', hl', e⟩ := List.mem_map.1 hm
  have := h6 l' hl'
  unfold fitN at this ⊢
  rw [← e]
  exact this
theorem fits_fd {xs ys : List LF} (h : ys.map LF.fd = xs.map LF.fd) (hx : ∀ x ∈ xs, fitF x) : ∀ y ∈ ys, fitF y := fun y hy => by
  have hm : y.fd ∈ xs.map LF.fd := by rw [← h]; exact List.mem_map_of_mem hy
  obtain ⟨x, hxm, e⟩ := List.mem_map.1 hm
  exact fit_fd e.symm (hx x hxm)
theorem len_fd {xs ys : List LF} (h : ys.map LF.fd = xs.map LF.fd) : ys.length = xs.length := by have := congrArg List.length h; simpa using this
theorem nodes_fd {xs ys : List LF} (h : ys.map LF.fd = xs.map LF.fd) : totW (fun f : LF => f.ns.length) ys = totW (fun f : LF => f.ns.length) xs := by
  have e : ∀ zs : List LF, totW (fun f : LF => f.ns.length) zs = totW (fun x : Fd => x.nodes.length) (zs.map LF.fd) := fun zs => by
    rw [totW_map]
    congr 1
    funext f
    simp [LF.fd]
  rw [e, e, h]
theorem nodes_le : ∀ xs : List LF, totW (fun f : LF => f.ns.length) xs ≤ totW wF xs := by
  intro xs
  induction xs with
  | nil => exact Nat.le_refl _
  | cons x r ih =>
    simp only [totW]
    have : x.ns.length ≤ wF x := by unfold wF; omega
    omega
set_option maxRecDepth 100000 in
set_option maxHeartbeats 8000000 in
theorem law3 (A : Option Addr) (c : Nat) (fs : List LF) (w : World) (lo : Nat) (h : RdF w lo A fs) (hf : ∀ f ∈ fs, fitF f) (hn : fs.length ≤ maxLen) :
    Calls Try.prog 3 #[.agg #[.slice A fs.length c]] w fun e w' => e = .returned (.bool true) ∧ Below w.heap.size w w' := by
  have H := Lib.hid h; have HF := Lib.hid hf
  clear h hf
  by_cases hneg : (1048576 : Int) - (fs.length + totW wF fs : Nat) < 0
  · have HN := Lib.hid hneg
    go_enter Try.func3, Try.ntmps3
    go_wp2_with fail
    refine (szun_any _ _ fs _ _ lo (H.out.below (by (repeat (first | with_reducible assumption | with_reducible exact Below.refl _ _ | with_reducible refine Below.drew ?_ | with_reducible refine bl_drewN _ ?_ | ((with_reducible refine bl_alloc ?_ _ ?_); · (first | omega | (simp; done) | (simp; omega))) | ((with_reducible refine bl_set ?_ _ ?_); · (first | omega | (simp; done) | (simp; omega))))))) HF.out hn (by omega) (by omega)).mono ?_
    rintro e w1 ⟨rfl, hb1⟩
    rw [negOr_neg HN.out]
    obtain ⟨hc1, hf1⟩ := bcell hb1
    have HB1 : Below w.heap.size w w1 := Below.trans (by (repeat (first | with_reducible assumption | with_reducible exact Below.refl _ _ | with_reducible refine Below.drew ?_ | with_reducible refine bl_drewN _ ?_ | ((with_reducible refine bl_alloc ?_ _ ?_); · (first | omega | (simp; done) | (simp; omega))) | ((with_reducible refine bl_set ?_ _ ?_); · (first | omega | (simp; done) | (simp; omega)))))) (hb1.mono (by simp))
    clear hb1
    go_wp2
    go_ret
    exact ⟨rfl, HB1⟩
  · have HN := Lib.hid hneg
    have ht : fs.length + totW wF fs ≤ 1048576 := by omega
    have hn2 : fs.length ≤ 1048576 := by omega
    have HCAP := Lib.hid (cap_of ht)
    have HT : Hid (totW (fun f : LF => f.ns.length) fs ≤ 1048576) := Lib.hid (by have := nodes_le fs; omega)
    clear hneg ht
    go_enter Try.func3, Try.ntmps3
    go_wp2_with fail
    refine (szun_any _ _ fs _ _ lo (H.out.below (by (repeat (first | with_reducible assumption | with_reducible exact Below.refl _ _ | with_reducible refine Below.drew ?_ | with_reducible refine bl_drewN _ ?_ | ((with_reducible refine bl_alloc ?_ _ ?_); · (first | omega | (simp; done) | (simp; omega))) | ((with_reducible refine bl_set ?_ _ ?_); · (first | omega | (simp; done) | (simp; omega))))))) HF.out hn (by omega) (by omega)).mono ?_
    rintro e w1 ⟨rfl, hb1⟩
    rw [negOr_pos (by have := HN.out; omega)]
    have hge : ¬ (1048576 : Int) - (fs.length + totW wF fs : Nat) < 0 := by have := HN.out; omega
    generalize (1048576 : Int) - (fs.length + totW wF fs : Nat) = lf at *
    obtain ⟨hc1, hf1⟩ := bcell hb1
    have hq1 := hb1.size
    simp only [World.size_alloc] at hq1
    have hz1_0 : w.heap.size < w1.heap.size := by omega
    have HB1 : Below w.heap.size w w1 := Below.trans (by (repeat (first | with_reducible assumption | with_reducible exact Below.refl _ _ | with_reducible refine Below.drew ?_ | with_reducible refine bl_drewN _ ?_ | ((with_reducible refine bl_alloc ?_ _ ?_); · (first | omega | (simp; done) | (simp; omega))) | ((with_reducible refine bl_set ?_ _ ?_); · (first | omega | (simp; done) | (simp; omega)))))) (hb1.mono (by simp))
    clear hb1
    have HBA := HB1
    go_wp2_with fail
    refine (toun_any _ _ fs _ lo (H.out.below HBA) HCAP.out hn2).mono ?_
    rintro e w2 ⟨A1, c1, ys1, rfl, e1, g1, -, hb2⟩
    obtain ⟨hc2, hf2⟩ := bcell hb2
    have hq2 := hb2.size
    try simp only [dN_size, dN_cell, dN_frozen] at hc2 hf2 hq2
    try simp only [World.size_alloc] at hq2
    try simp only [World.size_setCell] at hq2
    try simp only [World.size_alloc] at hq2
    have hz2_0 : w.heap.size < w2.heap.size := by omega
    have HB2 : Below w.heap.size w w2 := Below.trans (by (repeat (first | with_reducible assumption | with_reducible exact Below.refl _ _ | with_reducible refine Below.drew ?_ | with_reducible refine bl_drewN _ ?_ | ((with_reducible refine bl_alloc ?_ _ ?_); · (first | omega | (simp; done) | (simp; omega))) | ((with_reducible refine bl_set ?_ _ ?_); · (first | omega | (simp; done) | (simp; omega)))))) (hb2.mono (by (try simp) <;> omega))
    clear hb2
    have HL1 := Lib.hid (len_fd e1); have HF1 := Lib.hid (fits_fd e1 HF.out); have HT1 := Lib.hid (nodes_fd e1); have HE1 := Lib.hid e1; have HG1 := Lib.hid g1
    clear e1 g1
    go_wp2_with fail
    refine (scheck_any A1 c1 ys1 _ _ HG1.out (by rw [HL1.out]; exact hn2) HF1.out (by rw [HT1.out]; exact HT.out)).mono ?_
    rintro e w3 ⟨he3, hb3⟩
    obtain ⟨hc3, hf3⟩ := bcell hb3
    have hq3 := hb3.size
    try simp only [dN_size, dN_cell, dN_frozen] at hc3 hf3 hq3
    try simp only [World.size_alloc] at hq3
    try simp only [World.size_setCell] at hq3
    try simp only [World.size_alloc] at hq3
    have hz3_0 : w.heap.size < w3.heap.size := by omega
    have HB3 : Below w.heap.size w w3 := Below.trans (by (repeat (first | with_reducible assumption | with_reducible exact Below.refl _ _ | with_reducible refine Below.drew ?_ | with_reducible refine bl_drewN _ ?_ | ((with_reducible refine bl_alloc ?_ _ ?_); · (first | omega | (simp; done) | (simp; omega))) | ((with_reducible refine bl_set ?_ _ ?_); · (first | omega | (simp; done) | (simp; omega)))))) (hb3.mono (by (try simp) <;> omega))
    clear hb3
    rw [HE1.out] at he3
    obtain ⟨⟨x1, x2, x3⟩, hx⟩ : ∃ x, x = checkS (fs.map LF.fd) := ⟨_, rfl⟩
    rw [← hx] at he3
    have HX := Lib.hid hx
    subst he3
    unfold fltV
    dsimp only
    have hbx3 : Blk (w3.alloc (.cells #[.int .i64 x1, .int .i64 x2, .int .i64 x3] 27)) w3.heap.size 27 #[.int .i64 x1, .int .i64 x2, .int .i64 x3] := Blk.new _ _ _
    have HBX3 := Lib.hid hbx3
    have HBC : Below w.heap.size w (w3.alloc (.cells #[.int .i64 x1, .int .i64 x2, .int .i64 x3] 27)) := HB3.alloc HB3.size _
    clear hx hbx3 HG1 HF1 HT1 HL1
    go_wp2_with fail
    refine (toun_any _ _ fs _ lo (H.out.below HBC) HCAP.out hn2).mono ?_
    rintro e w4 ⟨A2, c2, ys2, rfl, e2, g2, q2, hb4⟩
    obtain ⟨hc4, hf4⟩ := bcell hb4
    have hq4 := hb4.size
    try simp only [dN_size, dN_cell, dN_frozen] at hc4 hf4 hq4
    try simp only [World.size_alloc] at hq4
    try simp only [World.size_setCell] at hq4
    try simp only [World.size_alloc] at hq4
    have hz4_0 : w.heap.size < w4.heap.size := by omega
    have hz4_1 : w3.heap.size < w4.heap.size := by omega
    have HB4 : Below w.heap.size w w4 := Below.trans (by (repeat (first | with_reducible assumption | with_reducible exact Below.refl _ _ | with_reducible refine Below.drew ?_ | with_reducible refine bl_drewN _ ?_ | ((with_reducible refine bl_alloc ?_ _ ?_); · (first | omega | (simp; done) | (simp; omega))) | ((with_reducible refine bl_set ?_ _ ?_); · (first | omega | (simp; done) | (simp; omega)))))) (hb4.mono (by (try simp) <;> omega))
    have HBX4 := Lib.hid ((HBX3.out).below hb4 (HBX3.out).lt)
    have HL2 := Lib.hid (len_fd e2); have HF2 := Lib.hid (fits_fd e2 HF.out); have HT2 := Lib.hid (nodes_fd e2); have HE2 := Lib.hid e2; have HG2 := Lib.hid g2
    have HK2 : Hid (∀ f ∈ ys2, ∀ l ∈ f.ns, l.nd.kids.length ≤ l.kc) := Lib.hid (fun f hf l hl => ((q2.2 f hf).2.2.2 l hl).2.2)
    clear e2 g2 q2 HBX3
    clear hb4
    have HBD : Below w.heap.size w (w4.alloc (.cells #[.slice A2 ys2.length c2] 31)) := HB4.alloc HB4.size _
    have HG3 := Lib.hid (HG2.out.alloc (.cells #[.slice A2 ys2.length c2] 31))
    have HU3 := Lib.hid (Blk.new w4 31 #[.slice A2 ys2.length c2])
    have HBX5 := Lib.hid (HBX4.out.alloc (.cells #[.slice A2 ys2.length c2] 31))
    clear HBX4 HG2
    go_wp2_with fail
    refine (icheck_any A2 c2 ys2 _ 0 HG3.out.lower0 (Nat.zero_le _) (by rw [HL2.out]; exact hn2) HF2.out (by rw [HT2.out]; exact HT.out) HK2.out).mono ?_
    rintro e w5 ⟨he5, hb5⟩
    obtain ⟨hc5, hf5⟩ := bcell hb5
    have hq5 := hb5.size
    try simp only [dN_size, dN_cell, dN_frozen] at hc5 hf5 hq5
    try simp only [World.size_alloc] at hq5
    try simp only [World.size_setCell] at hq5
    try simp only [World.size_alloc] at hq5
    have hz5_0 : w.heap.size < w5.heap.size := by omega
    have hz5_1 : w3.heap.size < w5.heap.size := by omega
    have hz5_2 : w4.heap.size < w5.heap.size := by omega
    have HB5 : Below w.heap.size w w5 := Below.trans (by (repeat (first | with_reducible assumption | with_reducible exact Below.refl _ _ | with_reducible refine Below.drew ?_ | with_reducible refine bl_drewN _ ?_ | ((with_reducible refine bl_alloc ?_ _ ?_); · (first | omega | (simp; done) | (simp; omega))) | ((with_reducible refine bl_set ?_ _ ?_); · (first | omega | (simp; done) | (simp; omega)))))) (hb5.mono (by (try simp) <;> omega))
    have HBX6 := Lib.hid ((HBX5.out.below hb5 HBX5.out.lt).alloc (.cells #[.int .i64 x1, .int .i64 x2, .int .i64 x3] 27))
    have HG4 := Lib.hid ((HG3.out.below hb5).alloc (.cells #[.int .i64 x1, .int .i64 x2, .int .i64 x3] 27))
    have HU4 := Lib.hid ((HU3.out.below hb5 HU3.out.lt).alloc (.cells #[.int .i64 x1, .int .i64 x2, .int .i64 x3] 27))
    clear HBX5 HG3 HU3
    clear hb5
    rw [HE2.out, check_eq, ← HX.out] at he5
    subst he5
    unfold fltV
    dsimp only
    have hbx7 : Blk (w5.alloc (.cells #[.int .i64 x1, .int .i64 x2, .int .i64 x3] 27)) w5.heap.size 27 #[.int .i64 x1, .int .i64 x2, .int .i64 x3] := Blk.new _ _ _
    have HBX7 := Lib.hid hbx7
    have HBE : Below w.heap.size w (w5.alloc (.cells #[.int .i64 x1, .int .i64 x2, .int .i64 x3] 27)) := HB5.alloc HB5.size _
    obtain ⟨p0, p1, p2⟩ := box3' HBX6.out
    obtain ⟨s0, s1, s2⟩ := box3' hbx7
    clear hbx7
    go_wp2_with fail
    refine (eqft_any x1 x2 x3 _).mono ?_
    rintro e w6 ⟨rfl, hb6⟩
    obtain ⟨hc6, hf6⟩ := bcell hb6
    have hq6 := hb6.size
    try simp only [dN_size, dN_cell, dN_frozen] at hc6 hf6 hq6
    try simp only [World.size_alloc] at hq6
    try simp only [World.size_setCell] at hq6
    try simp only [World.size_alloc] at hq6
    have hz6_0 : w.heap.size < w6.heap.size := by omega
    have hz6_1 : w3.heap.size < w6.heap.size := by omega
    have hz6_2 : w4.heap.size < w6.heap.size := by omega
    have hz6_3 : w5.heap.size < w6.heap.size := by omega
    have HB6 : Below w.heap.size w w6 := Below.trans (by (repeat (first | with_reducible assumption | with_reducible exact Below.refl _ _ | with_reducible refine Below.drew ?_ | with_reducible refine bl_drewN _ ?_ | ((with_reducible refine bl_alloc ?_ _ ?_); · (first | omega | (simp; done) | (simp; omega))) | ((with_reducible refine bl_set ?_ _ ?_); · (first | omega | (simp; done) | (simp; omega)))))) (hb6.mono (by (try simp) <;> omega))
    have HG5 := Lib.hid (HG4.out.below hb6)
    have HU5 := Lib.hid (HU4.out.below hb6 HU4.out.lt)
    clear HG4 HU4
    clear hb6
    go_wp2
    have u0 := HU5.out.cell 0
    simp at u0
    have HBX := HB6
    go_region_held3 (fun w' => w'.cell? ⟨w.heap.size, 0, none⟩ = some (.slice A fs.length c) ∧ w'.cell? ⟨w4.heap.size, 0, none⟩ = some (.slice A2 ys2.length c2)) (simp [go_sem, World.cell?_alloc_past, *]) (first
      | (go_at_call 7; refine (toun_any _ _ fs _ lo (by exact H.out.below (by (repeat (first | with_reducible assumption | with_reducible exact Below.refl _ _ | with_reducible refine Below.drew ?_ | with_reducible refine bl_drewN _ ?_ | ((with_reducible refine bl_alloc ?_ _ ?_); · (first | omega | (simp; done) | (simp; omega))) | ((with_reducible refine bl_set ?_ _ ?_); · (first | omega | (simp; done) | (simp; omega))))))) HCAP.out hn2).mono ?_; rintro e w8 ⟨A5, c5, ys5, rfl, e5, g5, -, hb8⟩; replace hb8 := bl_undrew hb8; obtain ⟨hc8, hf8⟩ := bcell hb8; have hq8 := hb8.size; have hz8 : w.heap.size < w8.heap.size := (by omega); have hy8 : w4.heap.size < w8.heap.size := (by omega); have HB8 : Below w.heap.size w w8 := HBX.trans (hb8.mono (by omega)))
      | (go_at_call 10; refine (equn_any _ _ _ _ ys2 _ _ _ _ (e5.trans HE2.out.symm) (by exact HG5.out.below hb8) g5 HF2.out (by rw [HL2.out]; exact hn)).mono ?_; rintro e w9 ⟨rfl, hb9⟩; obtain ⟨hc9, hf9⟩ := bcell hb9; have hq9 := hb9.size; have hz9 : w.heap.size < w9.heap.size := (by omega); have hy9 : w4.heap.size < w9.heap.size := (by omega); have HB9 : Below w.heap.size w w9 := HB8.trans (hb9.mono (by omega))))
    go_wp2
    go_ret
    exact ⟨rfl, HB9⟩
end Go.Proofs.Ytcpjplkbmflglaa
