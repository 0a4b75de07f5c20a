/- The reference's look at a statement. -/
import Derived.Test.YtcpjplkbmflglaaB2
namespace Go.Proofs.Ytcpjplkbmflglaa
open Go.RowKit
attribute [local go_sem] run_store_float
set_option linter.unusedVariables false
set_option maxRecDepth 100000 in
set_option maxHeartbeats 1000000 in
theorem sst2_any (A : Option Addr) (c : Nat) (ls : List LN) (l : LN) (w : World) (lo : Nat) (a : Nat) (h : RdN w lo A ls) (hn : ls.length ≤ maxLen) (hf : ∀ l ∈ ls, fitN l) (ha : a < ls.length) (hl : ls[a]? = some l) (hk : l.nd.kind = 2) :
    Calls Try.prog 60 #[.slice A ls.length c, .int .i64 a] w fun e w' => e = .returned (.bool (ok2 (ls.map LN.nd) a l.nd)) ∧ Below w.heap.size w w' := by
  obtain ⟨hf1, hf2', hf3⟩ := hf l (List.mem_of_getElem? hl)
  have hn' := hn
  unfold maxLen at hn' hf1 hf2' hf3
  have HF := Lib.hid hf
  have H := Lib.hid h
  obtain ⟨b, off, rfl, hlo, hb, c0, c1, c2, c3, c4, c5, c6, c7, hok⟩ := rdN_at h hl
  clear h hf hl hok
  rw [hk] at c0
  have HK := Lib.hid hk
  clear hk
  go_enter Try.func60, Try.ntmps60
  go_wp2_with (first
      | (go_at_call 73; refine (kidz_any _ _ ls _ lo a _ (by first | exact H.out.below HB2 | exact H.out.alloc _) hn HF.out ha (by omega) (by omega)).mono ?_; rintro e w1 ⟨rfl, rfl⟩)
      | (go_at_call 96; refine (expr_any _ _).mono ?_; rintro e w1 ⟨rfl, rfl⟩)
      | (go_at_call 30; refine (stat_any _ _).mono ?_; rintro e w1 ⟨rfl, rfl⟩)
      | (go_at_call 76; refine (tgt_any _ _).mono ?_; rintro e w1 ⟨rfl, rfl⟩)
      | (go_at_call 75; refine (exprsz_any _ _ ls _ lo a _ _ (by first | exact H.out.below HB2 | exact H.out.alloc _) hn HF.out ha (by omega) (by omega) (by omega)).mono ?_; rintro e w1 ⟨rfl, rfl⟩)
      | (go_at_call 74; refine (bareN_any _ _ _ _ _ _ _ _ _ _ _ _ _ _ _ _ _ _ (by first | omega | simp) w (by (repeat (first | with_reducible assumption | with_reducible exact Below.refl _ _ | with_reducible refine Below.drew ?_ | with_reducible refine bl_drewN _ ?_ | ((with_reducible refine bl_alloc ?_ _ ?_); · (first | omega | (simp; done) | (simp; omega))) | ((with_reducible refine bl_set ?_ _ ?_); · (first | omega | (simp; done) | (simp; omega))))))).mono ?_; rintro e w2 ⟨rfl, hb2, HB2⟩; obtain ⟨hc2, hf2⟩ := bcell hb2; have hz2 : w.heap.size < w2.heap.size := (by have := hb2.size; simp at this; omega)))
  all_goals go_ret
  all_goals refine ⟨?_, by first | exact HB2 | exact below_new _ _⟩
  all_goals (first | (clear hc2 hf2 hb2 HB2) | skip)
  all_goals (try simp_all [ok2, bareB])
  all_goals (try (intros; first | omega | (exfalso; omega)))
set_option maxRecDepth 100000 in
set_option maxHeartbeats 1000000 in
theorem sst4_any (A : Option Addr) (c : Nat) (ls : List LN) (l : LN) (w : World) (lo : Nat) (a : Nat) (h : RdN w lo A ls) (hn : ls.length ≤ maxLen) (hf : ∀ l ∈ ls, fitN l) (ha : a < ls.length) (hl : ls[a]? = some l) (hk : l.nd.kind = 4) :
    Calls Try.prog 60 #[.slice A ls.length c, .int .i64 a] w fun e w' => e = .returned (.bool (ok4 (ls.map LN.nd) a l.nd)) ∧ Below w.heap.size w w' := by
  obtain ⟨hf1, hf2', hf3⟩ := hf l (List.mem_of_getElem? hl)
  have hn' := hn
  unfold maxLen at hn' hf1 hf2' hf3
  have HF := Lib.hid hf
  have H := Lib.hid h
  obtain ⟨b, off, rfl, hlo, hb, c0, c1, c2, c3, c4, c5, c6, c7, hok⟩ := rdN_at h hl
  clear h hf hl hok
  rw [hk] at c0
  have HK := Lib.hid hk
  clear hk
  go_enter Try.func60, Try.ntmps60
  go_wp2_with (first
      | (go_at_call 73; refine (kidz_any _ _ ls _ lo a _ (H.out.alloc _) hn HF.out ha (by omega) (by omega)).mono ?_; rintro e w1 ⟨rfl, rfl⟩)
      | (go_at_call 96; refine (expr_any _ _).mono ?_; rintro e w1 ⟨rfl, rfl⟩)
      | (go_at_call 30; refine (stat_any _ _).mono ?_; rintro e w1 ⟨rfl, rfl⟩)
      | (go_at_call 76; refine (tgt_any _ _).mono ?_; rintro e w1 ⟨rfl, rfl⟩)
      | (go_at_call 75; refine (exprsz_any _ _ ls _ lo a _ _ (H.out.alloc _) hn HF.out ha (by omega) (by omega) (by omega)).mono ?_; rintro e w1 ⟨rfl, rfl⟩)
      | (go_at_call 74; refine (bareN_any _ _ _ _ _ _ _ _ _ _ _ _ _ _ _ _ _ _ (by first | omega | simp) w (by (repeat (first | with_reducible assumption | with_reducible exact Below.refl _ _ | with_reducible refine Below.drew ?_ | with_reducible refine bl_drewN _ ?_ | ((with_reducible refine bl_alloc ?_ _ ?_); · (first | omega | (simp; done) | (simp; omega))) | ((with_reducible refine bl_set ?_ _ ?_); · (first | omega | (simp; done) | (simp; omega))))))).mono ?_; rintro e w2 ⟨rfl, hb2, HB2⟩; obtain ⟨hc2, hf2⟩ := bcell hb2; have hz2 : w.heap.size < w2.heap.size := (by have := hb2.size; simp at this; omega)))
  all_goals go_ret
  all_goals refine ⟨?_, by first | exact HB2 | exact below_new _ _⟩
  all_goals (first | (clear hc2 hf2 hb2 HB2) | skip)
  all_goals (try simp_all [ok4, bareB])
  all_goals (try (intros; first | omega | (exfalso; omega)))
set_option maxRecDepth 100000 in
set_option maxHeartbeats 1000000 in
theorem sst5_any (A : Option Addr) (c : Nat) (ls : List LN) (l : LN) (w : World) (lo : Nat) (a : Nat) (h : RdN w lo A ls) (hn : ls.length ≤ maxLen) (hf : ∀ l ∈ ls, fitN l) (ha : a < ls.length) (hl : ls[a]? = some l) (hk : l.nd.kind = 5) :
    Calls Try.prog 60 #[.slice A ls.length c, .int .i64 a] w fun e w' => e = .returned (.bool (ok5 (ls.map LN.nd) a l.nd)) ∧ Below w.heap.size w w' := by
  obtain ⟨hf1, hf2', hf3⟩ := hf l (List.mem_of_getElem? hl)
  have hn' := hn
  unfold maxLen at hn' hf1 hf2' hf3
  have HF := Lib.hid hf
  have H := Lib.hid h
  obtain ⟨b, off, rfl, hlo, hb, c0, c1, c2, c3, c4, c5, c6, c7, hok⟩ := rdN_at h hl
  clear h hf hl hok
  rw [hk] at c0
  have HK := Lib.hid hk
  clear hk
  go_enter Try.func60, Try.ntmps60
  go_wp2_with (first
      | (go_at_call 73; refine (kidz_any _ _ ls _ lo a _ (H.out.alloc _) hn HF.out ha (by omega) (by omega)).mono ?_; rintro e w1 ⟨rfl, rfl⟩)
      | (go_at_call 96; refine (expr_any _ _).mono ?_; rintro e w1 ⟨rfl, rfl⟩)
      | (go_at_call 30; refine (stat_any _ _).mono ?_; rintro e w1 ⟨rfl, rfl⟩)
      | (go_at_call 76; refine (tgt_any _ _).mono ?_; rintro e w1 ⟨rfl, rfl⟩)
      | (go_at_call 75; refine (exprsz_any _ _ ls _ lo a _ _ (H.out.alloc _) hn HF.out ha (by omega) (by omega) (by omega)).mono ?_; rintro e w1 ⟨rfl, rfl⟩)
      | (go_at_call 74; refine (bareN_any _ _ _ _ _ _ _ _ _ _ _ _ _ _ _ _ _ _ (by first | omega | simp) w (by (repeat (first | with_reducible assumption | with_reducible exact Below.refl _ _ | with_reducible refine Below.drew ?_ | with_reducible refine bl_drewN _ ?_ | ((with_reducible refine bl_alloc ?_ _ ?_); · (first | omega | (simp; done) | (simp; omega))) | ((with_reducible refine bl_set ?_ _ ?_); · (first | omega | (simp; done) | (simp; omega))))))).mono ?_; rintro e w2 ⟨rfl, hb2, HB2⟩; obtain ⟨hc2, hf2⟩ := bcell hb2; have hz2 : w.heap.size < w2.heap.size := (by have := hb2.size; simp at this; omega)))
  all_goals go_ret
  all_goals refine ⟨?_, by first | exact HB2 | exact below_new _ _⟩
  all_goals (first | (clear hc2 hf2 hb2 HB2) | skip)
  all_goals (try simp_all [ok5, kidsAll, bareB])
  all_goals (try (intros; first | omega | (exfalso; omega)))
set_option maxRecDepth 100000 in
set_option maxHeartbeats 1000000 in
theorem sst6_any (A : Option Addr) (c : Nat) (ls : List LN) (l : LN) (w : World) (lo : Nat) (a : Nat) (h : RdN w lo A ls) (hn : ls.length ≤ maxLen) (hf : ∀ l ∈ ls, fitN l) (ha : a < ls.length) (hl : ls[a]? = some l) (hk : l.nd.kind = 6) :
    Calls Try.prog 60 #[.slice A ls.length c, .int .i64 a] w fun e w' => e = .returned (.bool (ok6 (ls.map LN.nd) a l.nd)) ∧ Below w.heap.size w w' := by
  obtain ⟨hf1, hf2', hf3⟩ := hf l (List.mem_of_getElem? hl)
  have hn' := hn
  unfold maxLen at hn' hf1 hf2' hf3
  have HF := Lib.hid hf
  have H := Lib.hid h
  obtain ⟨b, off, rfl, hlo, hb, c0, c1, c2, c3, c4, c5, c6, c7, hok⟩ := rdN_at h hl
  clear h hf hl hok
  rw [hk] at c0
  have HK := Lib.hid hk
  clear hk
  go_enter Try.func60, Try.ntmps60
  go_wp2_with (first
      | (go_at_call 73; refine (kidz_any _ _ ls _ lo a _ (H.out.alloc _) hn HF.out ha (by omega) (by omega)).mono ?_; rintro e w1 ⟨rfl, rfl⟩)
      | (go_at_call 96; refine (expr_any _ _).mono ?_; rintro e w1 ⟨rfl, rfl⟩)
      | (go_at_call 30; refine (stat_any _ _).mono ?_; rintro e w1 ⟨rfl, rfl⟩)
      | (go_at_call 76; refine (tgt_any _ _).mono ?_; rintro e w1 ⟨rfl, rfl⟩)
      | (go_at_call 75; refine (exprsz_any _ _ ls _ lo a _ _ (H.out.alloc _) hn HF.out ha (by omega) (by omega) (by omega)).mono ?_; rintro e w1 ⟨rfl, rfl⟩)
      | (go_at_call 74; refine (bareN_any _ _ _ _ _ _ _ _ _ _ _ _ _ _ _ _ _ _ (by first | omega | simp) w (by (repeat (first | with_reducible assumption | with_reducible exact Below.refl _ _ | with_reducible refine Below.drew ?_ | with_reducible refine bl_drewN _ ?_ | ((with_reducible refine bl_alloc ?_ _ ?_); · (first | omega | (simp; done) | (simp; omega))) | ((with_reducible refine bl_set ?_ _ ?_); · (first | omega | (simp; done) | (simp; omega))))))).mono ?_; rintro e w2 ⟨rfl, hb2, HB2⟩; obtain ⟨hc2, hf2⟩ := bcell hb2; have hz2 : w.heap.size < w2.heap.size := (by have := hb2.size; simp at this; omega)))
  all_goals go_ret
  all_goals refine ⟨?_, by first | exact HB2 | exact below_new _ _⟩
  all_goals (first | (clear hc2 hf2 hb2 HB2) | skip)
  all_goals (first | (have hkl : l.nd.kids.length = 2 := by omega) | skip)
  all_goals (try simp_all [ok6, kidsAll, bareB])
  all_goals (try (intros; first | omega | (exfalso; omega)))
set_option maxRecDepth 100000 in
set_option maxHeartbeats 1000000 in
theorem sst7_any (A : Option Addr) (c : Nat) (ls : List LN) (l : LN) (w : World) (lo : Nat) (a : Nat) (h : RdN w lo A ls) (hn : ls.length ≤ maxLen) (hf : ∀ l ∈ ls, fitN l) (ha : a < ls.length) (hl : ls[a]? = some l) (hk : l.nd.kind = 7) :
    Calls Try.prog 60 #[.slice A ls.length c, .int .i64 a] w fun e w' => e = .returned (.bool (ok7 (ls.map LN.nd) a l.nd)) ∧ Below w.heap.size w w' := by
  obtain ⟨hf1, hf2', hf3⟩ := hf l (List.mem_of_getElem? hl)
  have hn' := hn
  unfold maxLen at hn' hf1 hf2' hf3
  have HF := Lib.hid hf
  have H := Lib.hid h
  obtain ⟨b, off, rfl, hlo, hb, c0, c1, c2, c3, c4, c5, c6, c7, hok⟩ := rdN_at h hl
  clear h hf hl hok
  rw [hk] at c0
  have HK := Lib.hid hk
  clear hk
  go_enter Try.func60, Try.ntmps60
  go_wp2_with (first
      | (go_at_call 73; refine (kidz_any _ _ ls _ lo a _ (H.out.alloc _) hn HF.out ha (by omega) (by omega)).mono ?_; rintro e w1 ⟨rfl, rfl⟩)
      | (go_at_call 96; refine (expr_any _ _).mono ?_; rintro e w1 ⟨rfl, rfl⟩)
      | (go_at_call 30; refine (stat_any _ _).mono ?_; rintro e w1 ⟨rfl, rfl⟩)
      | (go_at_call 76; refine (tgt_any _ _).mono ?_; rintro e w1 ⟨rfl, rfl⟩)
      | (go_at_call 75; refine (exprsz_any _ _ ls _ lo a _ _ (H.out.alloc _) hn HF.out ha (by omega) (by omega) (by omega)).mono ?_; rintro e w1 ⟨rfl, rfl⟩)
      | (go_at_call 74; refine (bareN_any _ _ _ _ _ _ _ _ _ _ _ _ _ _ _ _ _ _ (by first | omega | simp) w (by (repeat (first | with_reducible assumption | with_reducible exact Below.refl _ _ | with_reducible refine Below.drew ?_ | with_reducible refine bl_drewN _ ?_ | ((with_reducible refine bl_alloc ?_ _ ?_); · (first | omega | (simp; done) | (simp; omega))) | ((with_reducible refine bl_set ?_ _ ?_); · (first | omega | (simp; done) | (simp; omega))))))).mono ?_; rintro e w2 ⟨rfl, hb2, HB2⟩; obtain ⟨hc2, hf2⟩ := bcell hb2; have hz2 : w.heap.size < w2.heap.size := (by have := hb2.size; simp at this; omega)))
  all_goals go_ret
  all_goals refine ⟨?_, by first | exact HB2 | exact below_new _ _⟩
  all_goals (first | (clear hc2 hf2 hb2 HB2) | skip)
  all_goals (first | (have hkl : l.nd.kids.length = 4 := by omega) | skip)
  all_goals (try simp_all [ok7, kidsAll, bareB])
  all_goals (try (intros; first | omega | (exfalso; omega)))
set_option maxRecDepth 100000 in
set_option maxHeartbeats 1000000 in
theorem sst8_any (A : Option Addr) (c : Nat) (ls : List LN) (l : LN) (w : World) (lo : Nat) (a : Nat) (h : RdN w lo A ls) (hn : ls.length ≤ maxLen) (hf : ∀ l ∈ ls, fitN l) (ha : a < ls.length) (hl : ls[a]? = some l) (hk : l.nd.kind = 8) :
    Calls Try.prog 60 #[.slice A ls.length c, .int .i64 a] w fun e w' => e = .returned (.bool (ok8 (ls.map LN.nd) a l.nd)) ∧ Below w.heap.size w w' := by
  obtain ⟨hf1, hf2', hf3⟩ := hf l (List.mem_of_getElem? hl)
  have hn' := hn
  unfold maxLen at hn' hf1 hf2' hf3
  have HF := Lib.hid hf
  have H := Lib.hid h
  obtain ⟨b, off, rfl, hlo, hb, c0, c1, c2, c3, c4, c5, c6, c7, hok⟩ := rdN_at h hl
  clear h hf hl hok
  rw [hk] at c0
  have HK := Lib.hid hk
  clear hk
  go_enter Try.func60, Try.ntmps60
  go_wp2_with (first
      | (go_at_call 73; refine (kidz_any _ _ ls _ lo a _ (H.out.alloc _) hn HF.out ha (by omega) (by omega)).mono ?_; rintro e w1 ⟨rfl, rfl⟩)
      | (go_at_call 96; refine (expr_any _ _).mono ?_; rintro e w1 ⟨rfl, rfl⟩)
      | (go_at_call 30; refine (stat_any _ _).mono ?_; rintro e w1 ⟨rfl, rfl⟩)
      | (go_at_call 76; refine (tgt_any _ _).mono ?_; rintro e w1 ⟨rfl, rfl⟩)
      | (go_at_call 75; refine (exprsz_any _ _ ls _ lo a _ _ (H.out.alloc _) hn HF.out ha (by omega) (by omega) (by omega)).mono ?_; rintro e w1 ⟨rfl, rfl⟩)
      | (go_at_call 74; refine (bareN_any _ _ _ _ _ _ _ _ _ _ _ _ _ _ _ _ _ _ (by first | omega | simp) w (by (repeat (first | with_reducible assumption | with_reducible exact Below.refl _ _ | with_reducible refine Below.drew ?_ | with_reducible refine bl_drewN _ ?_ | ((with_reducible refine bl_alloc ?_ _ ?_); · (first | omega | (simp; done) | (simp; omega))) | ((with_reducible refine bl_set ?_ _ ?_); · (first | omega | (simp; done) | (simp; omega))))))).mono ?_; rintro e w2 ⟨rfl, hb2, HB2⟩; obtain ⟨hc2, hf2⟩ := bcell hb2; have hz2 : w.heap.size < w2.heap.size := (by have := hb2.size; simp at this; omega)))
  all_goals go_ret
  all_goals refine ⟨?_, by first | exact HB2 | exact below_new _ _⟩
  all_goals (first | (clear hc2 hf2 hb2 HB2) | skip)
  all_goals (first | (have hkl : l.nd.kids.length = 2 := by omega) | skip)
  all_goals (try simp_all [ok8, kidsAll, bareB])
  all_goals (try (intros; first | omega | (exfalso; omega)))
set_option maxRecDepth 100000 in
set_option maxHeartbeats 1000000 in
theorem sst9_any (A : Option Addr) (c : Nat) (ls : List LN) (l : LN) (w : World) (lo : Nat) (a : Nat) (h : RdN w lo A ls) (hn : ls.length ≤ maxLen) (hf : ∀ l ∈ ls, fitN l) (ha : a < ls.length) (hl : ls[a]? = some l) (hk : l.nd.kind = 9) :
    Calls Try.prog 60 #[.slice A ls.length c, .int .i64 a] w fun e w' => e = .returned (.bool (ok9 (ls.map LN.nd) a l.nd)) ∧ Below w.heap.size w w' := by
  obtain ⟨hf1, hf2', hf3⟩ := hf l (List.mem_of_getElem? hl)
  have hn' := hn
  unfold maxLen at hn' hf1 hf2' hf3
  have HF := Lib.hid hf
  have H := Lib.hid h
  obtain ⟨b, off, rfl, hlo, hb, c0, c1, c2, c3, c4, c5, c6, c7, hok⟩ := rdN_at h hl
  clear h hf hl hok
  rw [hk] at c0
  have HK := Lib.hid hk
  clear hk
  go_enter Try.func60, Try.ntmps60
  go_wp2_with (first
      | (go_at_call 73; refine (kidz_any _ _ ls _ lo a _ (H.out.alloc _) hn HF.out ha (by omega) (by omega)).mono ?_; rintro e w1 ⟨rfl, rfl⟩)
      | (go_at_call 96; refine (expr_any _ _).mono ?_; rintro e w1 ⟨rfl, rfl⟩)
      | (go_at_call 30; refine (stat_any _ _).mono ?_; rintro e w1 ⟨rfl, rfl⟩)
      | (go_at_call 76; refine (tgt_any _ _).mono ?_; rintro e w1 ⟨rfl, rfl⟩)
      | (go_at_call 75; refine (exprsz_any _ _ ls _ lo a _ _ (H.out.alloc _) hn HF.out ha (by omega) (by omega) (by omega)).mono ?_; rintro e w1 ⟨rfl, rfl⟩)
      | (go_at_call 74; refine (bareN_any _ _ _ _ _ _ _ _ _ _ _ _ _ _ _ _ _ _ (by first | omega | simp) w (by (repeat (first | with_reducible assumption | with_reducible exact Below.refl _ _ | with_reducible refine Below.drew ?_ | with_reducible refine bl_drewN _ ?_ | ((with_reducible refine bl_alloc ?_ _ ?_); · (first | omega | (simp; done) | (simp; omega))) | ((with_reducible refine bl_set ?_ _ ?_); · (first | omega | (simp; done) | (simp; omega))))))).mono ?_; rintro e w2 ⟨rfl, hb2, HB2⟩; obtain ⟨hc2, hf2⟩ := bcell hb2; have hz2 : w.heap.size < w2.heap.size := (by have := hb2.size; simp at this; omega)))
  all_goals go_ret
  all_goals refine ⟨?_, by first | exact HB2 | exact below_new _ _⟩
  all_goals (first | (clear hc2 hf2 hb2 HB2) | skip)
  all_goals (try simp_all [ok9, bareB])
  all_goals (try (intros; first | omega | (exfalso; omega)))
set_option maxRecDepth 100000 in
set_option maxHeartbeats 1000000 in
theorem sst10_any (A : Option Addr) (c : Nat) (ls : List LN) (l : LN) (w : World) (lo : Nat) (a : Nat) (h : RdN w lo A ls) (hn : ls.length ≤ maxLen) (hf : ∀ l ∈ ls, fitN l) (ha : a < ls.length) (hl : ls[a]? = some l) (hk : l.nd.kind = 10) :
    Calls Try.prog 60 #[.slice A ls.length c, .int .i64 a] w fun e w' => e = .returned (.bool (ok9 (ls.map LN.nd) a l.nd)) ∧ Below w.heap.size w w' := by
  obtain ⟨hf1, hf2', hf3⟩ := hf l (List.mem_of_getElem? hl)
  have hn' := hn
  unfold maxLen at hn' hf1 hf2' hf3
  have HF := Lib.hid hf
  have H := Lib.hid h
  obtain ⟨b, off, rfl, hlo, hb, c0, c1, c2, c3, c4, c5, c6, c7, hok⟩ := rdN_at h hl
  clear h hf hl hok
  rw [hk] at c0
  have HK := Lib.hid hk
  clear hk
  go_enter Try.func60, Try.ntmps60
  go_wp2_with (first
      | (go_at_call 73; refine (kidz_any _ _ ls _ lo a _ (H.out.alloc _) hn HF.out ha (by omega) (by omega)).mono ?_; rintro e w1 ⟨rfl, rfl⟩)
      | (go_at_call 96; refine (expr_any _ _).mono ?_; rintro e w1 ⟨rfl, rfl⟩)
      | (go_at_call 30; refine (stat_any _ _).mono ?_; rintro e w1 ⟨rfl, rfl⟩)
      | (go_at_call 76; refine (tgt_any _ _).mono ?_; rintro e w1 ⟨rfl, rfl⟩)
      | (go_at_call 75; refine (exprsz_any _ _ ls _ lo a _ _ (H.out.alloc _) hn HF.out ha (by omega) (by omega) (by omega)).mono ?_; rintro e w1 ⟨rfl, rfl⟩)
      | (go_at_call 74; refine (bareN_any _ _ _ _ _ _ _ _ _ _ _ _ _ _ _ _ _ _ (by first | omega | simp) w (by (repeat (first | with_reducible assumption | with_reducible exact Below.refl _ _ | with_reducible refine Below.drew ?_ | with_reducible refine bl_drewN _ ?_ | ((with_reducible refine bl_alloc ?_ _ ?_); · (first | omega | (simp; done) | (simp; omega))) | ((with_reducible refine bl_set ?_ _ ?_); · (first | omega | (simp; done) | (simp; omega))))))).mono ?_; rintro e w2 ⟨rfl, hb2, HB2⟩; obtain ⟨hc2, hf2⟩ := bcell hb2; have hz2 : w.heap.size < w2.heap.size := (by have := hb2.size; simp at this; omega)))
  all_goals go_ret
  all_goals refine ⟨?_, by first | exact HB2 | exact below_new _ _⟩
  all_goals (first | (clear hc2 hf2 hb2 HB2) | skip)
  all_goals (try simp_all [ok9, bareB])
  all_goals (try (intros; first | omega | (exfalso; omega)))
set_option maxRecDepth 100000 in
set_option maxHeartbeats 1000000 in
theorem sst11_any (A : Option Addr) (c : Nat) (ls : List LN) (l : LN) (w : World) (lo : Nat) (a : Nat) (h : RdN w lo A ls) (hn : ls.length ≤ maxLen) (hf : ∀ l ∈ ls, fitN l) (ha : a < ls.length) (hl : ls[a]? = some l) (hk : l.nd.kind = 11) :
    Calls Try.prog 60 #[.slice A ls.length c, .int .i64 a] w fun e w' => e = .returned (.bool (ok11 (ls.map LN.nd) a l.nd)) ∧ Below w.heap.size w w' := by
  obtain ⟨hf1, hf2', hf3⟩ := hf l (List.mem_of_getElem? hl)
  have hn' := hn
  unfold maxLen at hn' hf1 hf2' hf3
  have HF := Lib.hid hf
  have H := Lib.hid h
  obtain ⟨b, off, rfl, hlo, hb, c0, c1, c2, c3, c4, c5, c6, c7, hok⟩ := rdN_at h hl
  clear h hf hl hok
  rw [hk] at c0
  have HK := Lib.hid hk
  clear hk
  go_enter Try.func60, Try.ntmps60
  go_wp2_with (first
      | (go_at_call 73; refine (kidz_any _ _ ls _ lo a _ (H.out.alloc _) hn HF.out ha (by omega) (by omega)).mono ?_; rintro e w1 ⟨rfl, rfl⟩)
      | (go_at_call 96; refine (expr_any _ _).mono ?_; rintro e w1 ⟨rfl, rfl⟩)
      | (go_at_call 30; refine (stat_any _ _).mono ?_; rintro e w1 ⟨rfl, rfl⟩)
      | (go_at_call 76; refine (tgt_any _ _).mono ?_; rintro e w1 ⟨rfl, rfl⟩)
      | (go_at_call 75; refine (exprsz_any _ _ ls _ lo a _ _ (H.out.alloc _) hn HF.out ha (by omega) (by omega) (by omega)).mono ?_; rintro e w1 ⟨rfl, rfl⟩)
      | (go_at_call 74; refine (bareN_any _ _ _ _ _ _ _ _ _ _ _ _ _ _ _ _ _ _ (by first | omega | simp) w (by (repeat (first | with_reducible assumption | with_reducible exact Below.refl _ _ | with_reducible refine Below.drew ?_ | with_reducible refine bl_drewN _ ?_ | ((with_reducible refine bl_alloc ?_ _ ?_); · (first | omega | (simp; done) | (simp; omega))) | ((with_reducible refine bl_set ?_ _ ?_); · (first | omega | (simp; done) | (simp; omega))))))).mono ?_; rintro e w2 ⟨rfl, hb2, HB2⟩; obtain ⟨hc2, hf2⟩ := bcell hb2; have hz2 : w.heap.size < w2.heap.size := (by have := hb2.size; simp at this; omega)))
  all_goals go_ret
  all_goals refine ⟨?_, by first | exact HB2 | exact below_new _ _⟩
  all_goals (first | (clear hc2 hf2 hb2 HB2) | skip)
  all_goals (try simp_all [ok11, bareB])
  all_goals (try (intros; first | omega | (exfalso; omega)))
set_option maxRecDepth 100000 in
set_option maxHeartbeats 1000000 in
theorem sst12_any (A : Option Addr) (c : Nat) (ls : List LN) (l : LN) (w : World) (lo : Nat) (a : Nat) (h : RdN w lo A ls) (hn : ls.length ≤ maxLen) (hf : ∀ l ∈ ls, fitN l) (ha : a < ls.length) (hl : ls[a]? = some l) (hk : l.nd.kind = 12) :
    Calls Try.prog 60 #[.slice A ls.length c, .int .i64 a] w fun e w' => e = .returned (.bool (ok12 (ls.map LN.nd) a l.nd)) ∧ Below w.heap.size w w' := by
  obtain ⟨hf1, hf2', hf3⟩ := hf l (List.mem_of_getElem? hl)
  have hn' := hn
  unfold maxLen at hn' hf1 hf2' hf3
  have HF := Lib.hid hf
  have H := Lib.hid h
  obtain ⟨b, off, rfl, hlo, hb, c0, c1, c2, c3, c4, c5, c6, c7, hok⟩ := rdN_at h hl
  clear h hf hl hok
  rw [hk] at c0
  have HK := Lib.hid hk
  clear hk
  go_enter Try.func60, Try.ntmps60
  go_wp2_with (first
      | (go_at_call 73; refine (kidz_any _ _ ls _ lo a _ (H.out.alloc _) hn HF.out ha (by omega) (by omega)).mono ?_; rintro e w1 ⟨rfl, rfl⟩)
      | (go_at_call 96; refine (expr_any _ _).mono ?_; rintro e w1 ⟨rfl, rfl⟩)
      | (go_at_call 30; refine (stat_any _ _).mono ?_; rintro e w1 ⟨rfl, rfl⟩)
      | (go_at_call 76; refine (tgt_any _ _).mono ?_; rintro e w1 ⟨rfl, rfl⟩)
      | (go_at_call 75; refine (exprsz_any _ _ ls _ lo a _ _ (H.out.alloc _) hn HF.out ha (by omega) (by omega) (by omega)).mono ?_; rintro e w1 ⟨rfl, rfl⟩)
      | (go_at_call 74; refine (bareN_any _ _ _ _ _ _ _ _ _ _ _ _ _ _ _ _ _ _ (by first | omega | simp) w (by (repeat (first | with_reducible assumption | with_reducible exact Below.refl _ _ | with_reducible refine Below.drew ?_ | with_reducible refine bl_drewN _ ?_ | ((with_reducible refine bl_alloc ?_ _ ?_); · (first | omega | (simp; done) | (simp; omega))) | ((with_reducible refine bl_set ?_ _ ?_); · (first | omega | (simp; done) | (simp; omega))))))).mono ?_; rintro e w2 ⟨rfl, hb2, HB2⟩; obtain ⟨hc2, hf2⟩ := bcell hb2; have hz2 : w.heap.size < w2.heap.size := (by have := hb2.size; simp at this; omega)))
  all_goals go_ret
  all_goals refine ⟨?_, by first | exact HB2 | exact below_new _ _⟩
  all_goals (first | (clear hc2 hf2 hb2 HB2) | skip)
  all_goals (first | (have hkl : l.nd.kids.length = 2 := by omega) | skip)
  all_goals (try simp_all [ok12, bareB])
  all_goals (try (intros; first | omega | (exfalso; omega)))
set_option maxRecDepth 100000 in
set_option maxHeartbeats 1000000 in
theorem sst13_any (A : Option Addr) (c : Nat) (ls : List LN) (l : LN) (w : World) (lo : Nat) (a : Nat) (h : RdN w lo A ls) (hn : ls.length ≤ maxLen) (hf : ∀ l ∈ ls, fitN l) (ha : a < ls.length) (hl : ls[a]? = some l) (hk : l.nd.kind = 13) :
    Calls Try.prog 60 #[.slice A ls.length c, .int .i64 a] w fun e w' => e = .returned (.bool (ok13 (ls.map LN.nd) a l.nd)) ∧ Below w.heap.size w w' := by
  obtain ⟨hf1, hf2', hf3⟩ := hf l (List.mem_of_getElem? hl)
  have hn' := hn
  unfold maxLen at hn' hf1 hf2' hf3
  have HF := Lib.hid hf
  have H := Lib.hid h
  obtain ⟨b, off, rfl, hlo, hb, c0, c1, c2, c3, c4, c5, c6, c7, hok⟩ := rdN_at h hl
  clear h hf hl hok
  rw [hk] at c0
  have HK := Lib.hid hk
  clear hk
  go_enter Try.func60, Try.ntmps60
  go_wp2_with (first
      | (go_at_call 73; refine (kidz_any _ _ ls _ lo a _ (H.out.alloc _) hn HF.out ha (by omega) (by omega)).mono ?_; rintro e w1 ⟨rfl, rfl⟩)
      | (go_at_call 96; refine (expr_any _ _).mono ?_; rintro e w1 ⟨rfl, rfl⟩)
      | (go_at_call 30; refine (stat_any _ _).mono ?_; rintro e w1 ⟨rfl, rfl⟩)
      | (go_at_call 76; refine (tgt_any _ _).mono ?_; rintro e w1 ⟨rfl, rfl⟩)
      | (go_at_call 75; refine (exprsz_any _ _ ls _ lo a _ _ (H.out.alloc _) hn HF.out ha (by omega) (by omega) (by omega)).mono ?_; rintro e w1 ⟨rfl, rfl⟩)
      | (go_at_call 74; refine (bareN_any _ _ _ _ _ _ _ _ _ _ _ _ _ _ _ _ _ _ (by first | omega | simp) w (by (repeat (first | with_reducible assumption | with_reducible exact Below.refl _ _ | with_reducible refine Below.drew ?_ | with_reducible refine bl_drewN _ ?_ | ((with_reducible refine bl_alloc ?_ _ ?_); · (first | omega | (simp; done) | (simp; omega))) | ((with_reducible refine bl_set ?_ _ ?_); · (first | omega | (simp; done) | (simp; omega))))))).mono ?_; rintro e w2 ⟨rfl, hb2, HB2⟩; obtain ⟨hc2, hf2⟩ := bcell hb2; have hz2 : w.heap.size < w2.heap.size := (by have := hb2.size; simp at this; omega)))
  all_goals go_ret
  all_goals refine ⟨?_, by first | exact HB2 | exact below_new _ _⟩
  all_goals (first | (clear hc2 hf2 hb2 HB2) | skip)
  all_goals (try simp_all [ok13, kidsAll, bareB])
  all_goals (try (intros; first | omega | (exfalso; omega)))
set_option maxRecDepth 100000 in
set_option maxHeartbeats 1000000 in
theorem sst14_any (A : Option Addr) (c : Nat) (ls : List LN) (l : LN) (w : World) (lo : Nat) (a : Nat) (h : RdN w lo A ls) (hn : ls.length ≤ maxLen) (hf : ∀ l ∈ ls, fitN l) (ha : a < ls.length) (hl : ls[a]? = some l) (hk : l.nd.kind = 14) :
    Calls Try.prog 60 #[.slice A ls.length c, .int .i64 a] w fun e w' => e = .returned (.bool (ok4 (ls.map LN.nd) a l.nd)) ∧ Below w.heap.size w w' := by
  obtain ⟨hf1, hf2', hf3⟩ := hf l (List.mem_of_getElem? hl)
  have hn' := hn
  unfold maxLen at hn' hf1 hf2' hf3
  have HF := Lib.hid hf
  have H := Lib.hid h
  obtain ⟨b, off, rfl, hlo, hb, c0, c1, c2, c3, c4, c5, c6, c7, hok⟩ := rdN_at h hl
  clear h hf hl hok
  rw [hk] at c0
  have HK := Lib.hid hk
  clear hk
  go_enter Try.func60, Try.ntmps60
  go_wp2_with (first
      | (go_at_call 73; refine (kidz_any _ _ ls _ lo a _ (H.out.alloc _) hn HF.out ha (by omega) (by omega)).mono ?_; rintro e w1 ⟨rfl, rfl⟩)
      | (go_at_call 96; refine (expr_any _ _).mono ?_; rintro e w1 ⟨rfl, rfl⟩)
      | (go_at_call 30; refine (stat_any _ _).mono ?_; rintro e w1 ⟨rfl, rfl⟩)
      | (go_at_call 76; refine (tgt_any _ _).mono ?_; rintro e w1 ⟨rfl, rfl⟩)
      | (go_at_call 75; refine (exprsz_any _ _ ls _ lo a _ _ (H.out.alloc _) hn HF.out ha (by omega) (by omega) (by omega)).mono ?_; rintro e w1 ⟨rfl, rfl⟩)
      | (go_at_call 74; refine (bareN_any _ _ _ _ _ _ _ _ _ _ _ _ _ _ _ _ _ _ (by first | omega | simp) w (by (repeat (first | with_reducible assumption | with_reducible exact Below.refl _ _ | with_reducible refine Below.drew ?_ | with_reducible refine bl_drewN _ ?_ | ((with_reducible refine bl_alloc ?_ _ ?_); · (first | omega | (simp; done) | (simp; omega))) | ((with_reducible refine bl_set ?_ _ ?_); · (first | omega | (simp; done) | (simp; omega))))))).mono ?_; rintro e w2 ⟨rfl, hb2, HB2⟩; obtain ⟨hc2, hf2⟩ := bcell hb2; have hz2 : w.heap.size < w2.heap.size := (by have := hb2.size; simp at this; omega)))
  all_goals go_ret
  all_goals refine ⟨?_, by first | exact HB2 | exact below_new _ _⟩
  all_goals (first | (clear hc2 hf2 hb2 HB2) | skip)
  all_goals (try simp_all [ok4, bareB])
  all_goals (try (intros; first | omega | (exfalso; omega)))
end Go.Proofs.Ytcpjplkbmflglaa
