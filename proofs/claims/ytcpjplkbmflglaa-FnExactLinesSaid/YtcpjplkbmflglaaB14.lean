/- The reference's CheckUnit. -/
import Derived.Test.YtcpjplkbmflglaaB13
namespace Go.Proofs.Ytcpjplkbmflglaa
open Go.RowKit
attribute [local go_sem] run_store_float
set_option linter.unusedVariables false
theorem find1_all {P : Nat → Bool} {n : Nat} (h : find1 P n = .inl ()) : ∀ k, k < n → P k = true := fun k hk => by
  obtain ⟨s1, s2, h1⟩ := loopS_all _ _ _ _ h k hk
  rw [Nat.zero_add] at h1
  unfold chk at h1
  split at h1
  · assumption
  · simp at h1
theorem find2_all {P : Nat → Nat → Bool} {len : Nat → Nat} {n : Nat} (h : find2 P len n = .inl ()) : ∀ k, k < n → ∀ j, j < len k → P k j = true := fun k hk j hj => by
  obtain ⟨s1, s2, h1⟩ := loop2_all _ _ _ _ h k hk
  rw [Nat.zero_add] at h1
  exact find1_all h1 j hj
theorem F1_zero {fs : List Fd} (h : (F1 fs).1 = 0) : ok1B fs = true ∧ P2 fs = .inl () ∧ P3 fs = .inl () := by
  unfold F1 at h
  split at h
  · simp at h
  · rename_i h1
    cases h2 : P2 fs with
    | inr x => rw [h2] at h; simp at h
    | inl u =>
      rw [h2] at h
      cases h3 : P3 fs with
      | inr x => rw [h3] at h; simp at h
      | inl u2 => exact ⟨by simpa using h1, rfl, rfl⟩
theorem okB_loop {ns : List Nd} {a : Nat} {n : Nd} (h : okB ns a n = true) (hk : n.kind = 6 ∨ n.kind = 7 ∨ n.kind = 8) : 0 < n.kids.length := by
  rcases hk with hk | hk | hk
  · rw [okB_6 _ _ _ hk] at h; unfold ok6 at h; simp only [Bool.and_eq_true, decide_eq_true_eq] at h; omega
  · rw [okB_7 _ _ _ hk] at h; unfold ok7 at h; simp only [Bool.and_eq_true, decide_eq_true_eq] at h; omega
  · rw [okB_8 _ _ _ hk] at h; unfold ok8 at h; simp only [Bool.and_eq_true, decide_eq_true_eq] at h; omega
theorem bare_refs {n : Nd} {a b c d : Bool} {r : Int} (h : bareB n a b c d r = true) : (n.refs.length : Int) = r := by
  unfold bareB bareC at h
  simp only [Bool.and_eq_true, beq_iff_eq] at h
  exact h.2
theorem okB_refs {ns : List Nd} {a : Nat} {n : Nd} (h : okB ns a n = true) (hk : n.kind = 26 ∨ n.kind = 27 ∨ n.kind = 36) : n.refs.length = 1 := by
  have h2 : ok26 ns a n = true := by
    rcases hk with hk | hk | hk
    · rwa [okB_26 _ _ _ hk] at h
    · rwa [okB_27 _ _ _ hk] at h
    · rwa [okB_36 _ _ _ hk] at h
  unfold ok26 at h2
  simp only [Bool.and_eq_true] at h2
  have := bare_refs h2.2
  omega
theorem shape_parts {ns : List Nd} {a : Nat} {n : Nd} (h : shapeB ns a n = true) : n.kids.length ≤ 200 ∧ kidsIn n a ∧ okB ns a n = true := by
  unfold shapeB at h
  simp only [Bool.and_eq_true, decide_eq_true_eq] at h
  exact ⟨h.1, h.2.1, h.2.2.2⟩
/-- What a unit is whose first look finds nothing. -/
theorem okU_of {fs : List LF} (h : (F1 (fs.map LF.fd)).1 = 0) (hc : ∀ f ∈ fs, f.ns.length ≤ 1048576) : ∀ f ∈ fs, OkU f := fun f hf => by
  obtain ⟨h1, h2, h3⟩ := F1_zero h
  obtain ⟨i, hi⟩ := List.getElem?_of_mem hf
  have hil : i < (fs.map LF.fd).length := by rw [List.length_map]; exact (List.getElem?_eq_some_iff.1 hi).1
  have e2 := find1_all h2 i hil
  have e3 := find2_all h3 i hil
  unfold fine2 at e2
  rw [fd_at hi] at e2
  have sh : ∀ k l, f.ns[k]? = some l → shapeB (f.ns.map LN.nd) k l.nd = true := fun k l hk => by
    have := e3 k (by rw [len_at hi]; exact (List.getElem?_eq_some_iff.1 hk).1)
    unfold fine3 at this
    rwa [fd_at hi, show f.fd.nodes = f.ns.map LN.nd from rfl, nd_atD hk] at this
  have sh2 : ∀ k n, (f.ns.map LN.nd)[k]? = some n → shapeB (f.ns.map LN.nd) k n = true := fun k n hk => by
    rw [List.getElem?_map] at hk
    obtain ⟨l, hl, rfl⟩ := Option.map_eq_some_iff.1 hk
    exact sh k l hl
  unfold headB at e2
  rw [show f.fd.nodes.length = f.ns.length from by simp [LF.fd]] at e2
  have e2 : headC f.ns.length f.vars.length f.ups.length f.params f.line f.name.size f.vars i = true := e2
  unfold headC at e2
  simp only [Bool.and_eq_true, decide_eq_true_eq] at e2
  obtain ⟨q1, q2, q3, ⟨q4, q5⟩, -⟩ := e2
  refine ⟨q1, fun k n hk => (shape_parts (sh2 k n hk)).2.1, fun k n hk hkk => okB_loop (shape_parts (sh2 k n hk)).2.2 hkk, q2, q3, q4, q5, fun l hl hk => ?_, hc f hf⟩
  obtain ⟨k, hk2⟩ := List.getElem?_of_mem hl
  have := okB_refs (shape_parts (sh k l hk2)).2.2 (.inr hk)
  omega
def checkS (fs : List Fd) : Flt3 := if (F1 fs).1 ≠ 0 then F1 fs else if (F2 fs).1 ≠ 0 then F2 fs else F3 fs
theorem cap_ns {fs : List LF} (h : totW (fun f : LF => f.ns.length) fs ≤ 1048576) : ∀ f ∈ fs, f.ns.length ≤ 1048576 := fun f hf => by
  have : f.ns.length ≤ totW (fun f : LF => f.ns.length) fs := totW_mem (fun f : LF => f.ns.length) fs f hf
  omega
set_option maxRecDepth 100000 in
set_option maxHeartbeats 4000000 in
theorem scheck_any (A : Option Addr) (c : Nat) (fs : List LF) (w : World) (lo : Nat) (h : RdF w lo A fs) (hn : fs.length ≤ 1048576) (hf : ∀ f ∈ fs, fitF f) (ht : totW (fun f => f.ns.length) fs ≤ 1048576) :
    Calls Try.prog 6 #[.agg #[.slice A fs.length c]] w fun e w' => e = .returned (fltV (checkS (fs.map LF.fd))) ∧ Below w.heap.size w w' := by
  have H := Lib.hid h; have HF := Lib.hid hf; have HT := Lib.hid ht
  clear h hf ht
  obtain ⟨⟨x1, x2, x3⟩, hx⟩ : ∃ x, x = F1 (fs.map LF.fd) := ⟨_, rfl⟩
  obtain ⟨⟨y1, y2, y3⟩, hy⟩ : ∃ x, x = F2 (fs.map LF.fd) := ⟨_, rfl⟩
  obtain ⟨⟨z1, z2, z3⟩, hz⟩ : ∃ x, x = F3 (fs.map LF.fd) := ⟨_, rfl⟩
  have HX := Lib.hid hx; have HY := Lib.hid hy; have HZ := Lib.hid hz
  clear hx hy hz
  by_cases h1 : x1 = 0
  · have HOK := Lib.hid (okU_of (show (F1 (fs.map LF.fd)).1 = 0 by rw [← HX.out]; exact h1) (cap_ns HT.out))
    have hx1b : (x1 != 0) = false := by simp [h1]
    by_cases h2 : y1 = 0
    · have HC : Hid (checkS (fs.map LF.fd) = (z1, z2, z3)) := by
        unfold checkS; rw [← HX.out, ← HY.out, if_neg (by simp [h1]), if_neg (by simp [h2]), ← HZ.out]; exact Lib.hid rfl
      have hy1b : (y1 != 0) = false := by simp [h2]
      clear h1 h2
      go_enter Try.func6, Try.ntmps6
      go_wp2_with fail
      refine (first_any _ _ fs _ lo (H.out.below (by (repeat (first | with_reducible assumption | with_reducible exact Below.refl _ _ | with_reducible refine Below.drew ?_ | with_reducible refine bl_drewN _ ?_ | ((with_reducible refine bl_alloc ?_ _ ?_); · (first | omega | (simp; done) | (simp; omega))) | ((with_reducible refine bl_set ?_ _ ?_); · (first | omega | (simp; done) | (simp; omega))))))) hn HF.out HT.out).mono ?_
      rintro e w1 ⟨he1, hb1⟩
      rw [← HX.out] at he1
      subst he1
      unfold fltV
      dsimp only
      obtain ⟨hc1, hf1⟩ := bcell hb1
      have hq1 := hb1.size
      try simp only [dN_size, dN_cell, dN_frozen] at hc1 hf1 hq1
      try simp only [World.size_alloc] at hq1
      try simp only [World.size_setCell] at hq1
      try simp only [World.size_alloc] at hq1
      have hz1_0 : w.heap.size < w1.heap.size := by omega
      have hz1_1 : w.heap.size + 1 < w1.heap.size := by omega
      have HB1 : Below w.heap.size w w1 := Below.trans (by (repeat (first | with_reducible assumption | with_reducible exact Below.refl _ _ | with_reducible refine Below.drew ?_ | with_reducible refine bl_drewN _ ?_ | ((with_reducible refine bl_alloc ?_ _ ?_); · (first | omega | (simp; done) | (simp; omega))) | ((with_reducible refine bl_set ?_ _ ?_); · (first | omega | (simp; done) | (simp; omega)))))) (hb1.mono (by (try simp) <;> omega))
      clear hb1
      go_wp2_with fail
      refine (second_any _ _ fs _ lo (H.out.below (by (repeat (first | with_reducible assumption | with_reducible exact Below.refl _ _ | with_reducible refine Below.drew ?_ | with_reducible refine bl_drewN _ ?_ | ((with_reducible refine bl_alloc ?_ _ ?_); · (first | omega | (simp; done) | (simp; omega))) | ((with_reducible refine bl_set ?_ _ ?_); · (first | omega | (simp; done) | (simp; omega))))))) hn HF.out (cap_ns HT.out) (fun f hf => ⟨(HOK.out f hf).pos, (HOK.out f hf).ia⟩)).mono ?_
      rintro e w2 ⟨he2, hb2⟩
      rw [← HY.out] at he2
      subst he2
      unfold fltV
      dsimp only
      obtain ⟨hc2, hf2⟩ := bcell hb2
      have hq2 := hb2.size
      try simp only [dN_size, dN_cell, dN_frozen] at hc2 hf2 hq2
      try simp only [World.size_alloc] at hq2
      try simp only [World.size_setCell] at hq2
      try simp only [World.size_alloc] at hq2
      have hz2_0 : w.heap.size < w2.heap.size := by omega
      have hz2_1 : w.heap.size + 1 < w2.heap.size := by omega
      have HB2 : Below w.heap.size w w2 := Below.trans (by (repeat (first | with_reducible assumption | with_reducible exact Below.refl _ _ | with_reducible refine Below.drew ?_ | with_reducible refine bl_drewN _ ?_ | ((with_reducible refine bl_alloc ?_ _ ?_); · (first | omega | (simp; done) | (simp; omega))) | ((with_reducible refine bl_set ?_ _ ?_); · (first | omega | (simp; done) | (simp; omega)))))) (hb2.mono (by (try simp) <;> omega))
      clear hb2
      go_wp2_with fail
      refine (third_any _ _ fs _ lo (H.out.below (by (repeat (first | with_reducible assumption | with_reducible exact Below.refl _ _ | with_reducible refine Below.drew ?_ | with_reducible refine bl_drewN _ ?_ | ((with_reducible refine bl_alloc ?_ _ ?_); · (first | omega | (simp; done) | (simp; omega))) | ((with_reducible refine bl_set ?_ _ ?_); · (first | omega | (simp; done) | (simp; omega))))))) hn HF.out HOK.out).mono ?_
      rintro e w3 ⟨he3, hb3⟩
      rw [← HZ.out] at he3
      subst he3
      unfold fltV
      dsimp only
      obtain ⟨hc3, hf3⟩ := bcell hb3
      have hq3 := hb3.size
      try simp only [dN_size, dN_cell, dN_frozen] at hc3 hf3 hq3
      try simp only [World.size_alloc] at hq3
      try simp only [World.size_setCell] at hq3
      try simp only [World.size_alloc] at hq3
      have hz3_0 : w.heap.size < w3.heap.size := by omega
      have hz3_1 : w.heap.size + 1 < w3.heap.size := by omega
      have HB3 : Below w.heap.size w w3 := Below.trans (by (repeat (first | with_reducible assumption | with_reducible exact Below.refl _ _ | with_reducible refine Below.drew ?_ | with_reducible refine bl_drewN _ ?_ | ((with_reducible refine bl_alloc ?_ _ ?_); · (first | omega | (simp; done) | (simp; omega))) | ((with_reducible refine bl_set ?_ _ ?_); · (first | omega | (simp; done) | (simp; omega)))))) (hb3.mono (by (try simp) <;> omega))
      clear hb3
      go_wp2
      refine bodyPost_ret (by simp [results, Try.results6, go_sem, *]; rfl) rfl ?_
      exact ⟨by rw [HC.out]; rfl, (by (repeat (first | with_reducible assumption | with_reducible exact Below.refl _ _ | with_reducible refine Below.drew ?_ | with_reducible refine bl_drewN _ ?_ | ((with_reducible refine bl_alloc ?_ _ ?_); · (first | omega | (simp; done) | (simp; omega))) | ((with_reducible refine bl_set ?_ _ ?_); · (first | omega | (simp; done) | (simp; omega))))))⟩
    · have HC : Hid (checkS (fs.map LF.fd) = (y1, y2, y3)) := by
        unfold checkS; rw [← HX.out, ← HY.out, if_neg (by simp [h1]), if_pos (by simpa using h2)]; exact Lib.hid rfl
      have hy1b : (y1 != 0) = true := by simp [h2]
      clear h1 h2
      go_enter Try.func6, Try.ntmps6
      go_wp2_with fail
      refine (first_any _ _ fs _ lo (H.out.below (by (repeat (first | with_reducible assumption | with_reducible exact Below.refl _ _ | with_reducible refine Below.drew ?_ | with_reducible refine bl_drewN _ ?_ | ((with_reducible refine bl_alloc ?_ _ ?_); · (first | omega | (simp; done) | (simp; omega))) | ((with_reducible refine bl_set ?_ _ ?_); · (first | omega | (simp; done) | (simp; omega))))))) hn HF.out HT.out).mono ?_
      rintro e w1 ⟨he1, hb1⟩
      rw [← HX.out] at he1
      subst he1
      unfold fltV
      dsimp only
      obtain ⟨hc1, hf1⟩ := bcell hb1
      have hq1 := hb1.size
      try simp only [dN_size, dN_cell, dN_frozen] at hc1 hf1 hq1
      try simp only [World.size_alloc] at hq1
      try simp only [World.size_setCell] at hq1
      try simp only [World.size_alloc] at hq1
      have hz1_0 : w.heap.size < w1.heap.size := by omega
      have hz1_1 : w.heap.size + 1 < w1.heap.size := by omega
      have HB1 : Below w.heap.size w w1 := Below.trans (by (repeat (first | with_reducible assumption | with_reducible exact Below.refl _ _ | with_reducible refine Below.drew ?_ | with_reducible refine bl_drewN _ ?_ | ((with_reducible refine bl_alloc ?_ _ ?_); · (first | omega | (simp; done) | (simp; omega))) | ((with_reducible refine bl_set ?_ _ ?_); · (first | omega | (simp; done) | (simp; omega)))))) (hb1.mono (by (try simp) <;> omega))
      clear hb1
      go_wp2_with fail
      refine (second_any _ _ fs _ lo (H.out.below (by (repeat (first | with_reducible assumption | with_reducible exact Below.refl _ _ | with_reducible refine Below.drew ?_ | with_reducible refine bl_drewN _ ?_ | ((with_reducible refine bl_alloc ?_ _ ?_); · (first | omega | (simp; done) | (simp; omega))) | ((with_reducible refine bl_set ?_ _ ?_); · (first | omega | (simp; done) | (simp; omega))))))) hn HF.out (cap_ns HT.out) (fun f hf => ⟨(HOK.out f hf).pos, (HOK.out f hf).ia⟩)).mono ?_
      rintro e w2 ⟨he2, hb2⟩
      rw [← HY.out] at he2
      subst he2
      unfold fltV
      dsimp only
      obtain ⟨hc2, hf2⟩ := bcell hb2
      have hq2 := hb2.size
      try simp only [dN_size, dN_cell, dN_frozen] at hc2 hf2 hq2
      try simp only [World.size_alloc] at hq2
      try simp only [World.size_setCell] at hq2
      try simp only [World.size_alloc] at hq2
      have hz2_0 : w.heap.size < w2.heap.size := by omega
      have hz2_1 : w.heap.size + 1 < w2.heap.size := by omega
      have HB2 : Below w.heap.size w w2 := Below.trans (by (repeat (first | with_reducible assumption | with_reducible exact Below.refl _ _ | with_reducible refine Below.drew ?_ | with_reducible refine bl_drewN _ ?_ | ((with_reducible refine bl_alloc ?_ _ ?_); · (first | omega | (simp; done) | (simp; omega))) | ((with_reducible refine bl_set ?_ _ ?_); · (first | omega | (simp; done) | (simp; omega)))))) (hb2.mono (by (try simp) <;> omega))
      clear hb2
      go_wp2
      refine bodyPost_ret (by simp [results, Try.results6, go_sem, *]; rfl) rfl ?_
      exact ⟨by rw [HC.out]; rfl, (by (repeat (first | with_reducible assumption | with_reducible exact Below.refl _ _ | with_reducible refine Below.drew ?_ | with_reducible refine bl_drewN _ ?_ | ((with_reducible refine bl_alloc ?_ _ ?_); · (first | omega | (simp; done) | (simp; omega))) | ((with_reducible refine bl_set ?_ _ ?_); · (first | omega | (simp; done) | (simp; omega))))))⟩
  · have HC : Hid (checkS (fs.map LF.fd) = (x1, x2, x3)) := by
      unfold checkS; rw [← HX.out, if_pos (by simpa using h1)]; exact Lib.hid rfl
    have hx1b : (x1 != 0) = true := by simp [h1]
    clear h1
    go_enter Try.func6, Try.ntmps6
    go_wp2_with fail
    refine (first_any _ _ fs _ lo (H.out.below (by (repeat (first | with_reducible assumption | with_reducible exact Below.refl _ _ | with_reducible refine Below.drew ?_ | with_reducible refine bl_drewN _ ?_ | ((with_reducible refine bl_alloc ?_ _ ?_); · (first | omega | (simp; done) | (simp; omega))) | ((with_reducible refine bl_set ?_ _ ?_); · (first | omega | (simp; done) | (simp; omega))))))) hn HF.out HT.out).mono ?_
    rintro e w1 ⟨he1, hb1⟩
    rw [← HX.out] at he1
    subst he1
    unfold fltV
    dsimp only
    obtain ⟨hc1, hf1⟩ := bcell hb1
    have hq1 := hb1.size
    try simp only [dN_size, dN_cell, dN_frozen] at hc1 hf1 hq1
    try simp only [World.size_alloc] at hq1
    try simp only [World.size_setCell] at hq1
    try simp only [World.size_alloc] at hq1
    have hz1_0 : w.heap.size < w1.heap.size := by omega
    have hz1_1 : w.heap.size + 1 < w1.heap.size := by omega
    have HB1 : Below w.heap.size w w1 := Below.trans (by (repeat (first | with_reducible assumption | with_reducible exact Below.refl _ _ | with_reducible refine Below.drew ?_ | with_reducible refine bl_drewN _ ?_ | ((with_reducible refine bl_alloc ?_ _ ?_); · (first | omega | (simp; done) | (simp; omega))) | ((with_reducible refine bl_set ?_ _ ?_); · (first | omega | (simp; done) | (simp; omega)))))) (hb1.mono (by (try simp) <;> omega))
    clear hb1
    go_wp2
    refine bodyPost_ret (by simp [results, Try.results6, go_sem, *]; rfl) rfl ?_
    exact ⟨by rw [HC.out]; rfl, (by (repeat (first | with_reducible assumption | with_reducible exact Below.refl _ _ | with_reducible refine Below.drew ?_ | with_reducible refine bl_drewN _ ?_ | ((with_reducible refine bl_alloc ?_ _ ?_); · (first | omega | (simp; done) | (simp; omega))) | ((with_reducible refine bl_set ?_ _ ?_); · (first | omega | (simp; done) | (simp; omega))))))⟩
end Go.Proofs.Ytcpjplkbmflglaa
