/- The reference's look at an expression. -/
import Derived.Test.YtcpjplkbmflglaaB3b
namespace Go.Proofs.Ytcpjplkbmflglaa
open Go.RowKit
attribute [local go_sem] run_store_float
set_option linter.unusedVariables false
set_option maxRecDepth 100000 in
set_option maxHeartbeats 2000000 in
theorem sex20_any (A : Option Addr) (c : Nat) (ls : List LN) (l : LN) (w : World) (lo : Nat) (a : Nat) (h : RdN w lo A ls) (hn : ls.length ≤ maxLen) (hf : ∀ l ∈ ls, fitN l) (ha : a < ls.length) (hl : ls[a]? = some l) (hk : l.nd.kind = 20) :
    Calls Try.prog 61 #[.slice A ls.length c, .int .i64 a] w fun e w' => e = .returned (.bool (ok20 (ls.map LN.nd) a l.nd)) ∧ Below w.heap.size w w' := by
  obtain ⟨hf1, hf2', hf3⟩ := hf l (List.mem_of_getElem? hl)
  have hn' := hn
  unfold maxLen at hn' hf1 hf2' hf3
  have HF := Lib.hid hf
  have H := Lib.hid h
  obtain ⟨b, off, rfl, hlo, hb, c0, c1, c2, c3, c4, c5, c6, c7, hok⟩ := rdN_at h hl
  clear h hf hl hok
  rw [hk] at c0
  have HK := Lib.hid hk
  clear hk
  go_enter Try.func61, Try.ntmps61
  go_wp2_with (first
      | (go_at_call 73; refine (kidz_any _ _ ls _ lo a _ (H.out.alloc _) hn HF.out ha (by omega) (by omega)).mono ?_; rintro e w1 ⟨rfl, rfl⟩)
      | (go_at_call 96; refine (expr_any _ _).mono ?_; rintro e w1 ⟨rfl, rfl⟩)
      | (go_at_call 30; refine (stat_any _ _).mono ?_; rintro e w1 ⟨rfl, rfl⟩)
      | (go_at_call 76; refine (tgt_any _ _).mono ?_; rintro e w1 ⟨rfl, rfl⟩)
      | (go_at_call 77; refine (many_any _ _).mono ?_; rintro e w1 ⟨rfl, rfl⟩)
      | (go_at_call 75; refine (exprsz_any _ _ ls _ lo a _ _ (H.out.alloc _) hn HF.out ha (by omega) (by omega) (by omega)).mono ?_; rintro e w1 ⟨rfl, rfl⟩)
      | (go_at_call 74; refine (bareN_any _ _ _ _ _ _ _ _ _ _ _ _ _ _ _ _ _ _ (by first | omega | simp) w (by (repeat (first | with_reducible assumption | with_reducible exact Below.refl _ _ | with_reducible refine Below.drew ?_ | with_reducible refine bl_drewN _ ?_ | ((with_reducible refine bl_alloc ?_ _ ?_); · (first | omega | (simp; done) | (simp; omega))) | ((with_reducible refine bl_set ?_ _ ?_); · (first | omega | (simp; done) | (simp; omega))))))).mono ?_; rintro e w2 ⟨rfl, hb2, HB2⟩; obtain ⟨hc2, hf2⟩ := bcell hb2; have hz2 : w.heap.size < w2.heap.size := (by have := hb2.size; simp at this; omega)))
  all_goals go_ret
  all_goals refine ⟨?_, by first | exact HB2 | exact below_new _ _⟩
  all_goals (first | (clear hc2 hf2 hb2 HB2) | skip)
  all_goals (try simp_all [ok20, bareB])
  all_goals (try (intros; first | omega | (exfalso; omega)))
set_option maxRecDepth 100000 in
set_option maxHeartbeats 2000000 in
theorem sex21_any (A : Option Addr) (c : Nat) (ls : List LN) (l : LN) (w : World) (lo : Nat) (a : Nat) (h : RdN w lo A ls) (hn : ls.length ≤ maxLen) (hf : ∀ l ∈ ls, fitN l) (ha : a < ls.length) (hl : ls[a]? = some l) (hk : l.nd.kind = 21) :
    Calls Try.prog 61 #[.slice A ls.length c, .int .i64 a] w fun e w' => e = .returned (.bool (ok20 (ls.map LN.nd) a l.nd)) ∧ Below w.heap.size w w' := by
  obtain ⟨hf1, hf2', hf3⟩ := hf l (List.mem_of_getElem? hl)
  have hn' := hn
  unfold maxLen at hn' hf1 hf2' hf3
  have HF := Lib.hid hf
  have H := Lib.hid h
  obtain ⟨b, off, rfl, hlo, hb, c0, c1, c2, c3, c4, c5, c6, c7, hok⟩ := rdN_at h hl
  clear h hf hl hok
  rw [hk] at c0
  have HK := Lib.hid hk
  clear hk
  go_enter Try.func61, Try.ntmps61
  go_wp2_with (first
      | (go_at_call 73; refine (kidz_any _ _ ls _ lo a _ (H.out.alloc _) hn HF.out ha (by omega) (by omega)).mono ?_; rintro e w1 ⟨rfl, rfl⟩)
      | (go_at_call 96; refine (expr_any _ _).mono ?_; rintro e w1 ⟨rfl, rfl⟩)
      | (go_at_call 30; refine (stat_any _ _).mono ?_; rintro e w1 ⟨rfl, rfl⟩)
      | (go_at_call 76; refine (tgt_any _ _).mono ?_; rintro e w1 ⟨rfl, rfl⟩)
      | (go_at_call 77; refine (many_any _ _).mono ?_; rintro e w1 ⟨rfl, rfl⟩)
      | (go_at_call 75; refine (exprsz_any _ _ ls _ lo a _ _ (H.out.alloc _) hn HF.out ha (by omega) (by omega) (by omega)).mono ?_; rintro e w1 ⟨rfl, rfl⟩)
      | (go_at_call 74; refine (bareN_any _ _ _ _ _ _ _ _ _ _ _ _ _ _ _ _ _ _ (by first | omega | simp) w (by (repeat (first | with_reducible assumption | with_reducible exact Below.refl _ _ | with_reducible refine Below.drew ?_ | with_reducible refine bl_drewN _ ?_ | ((with_reducible refine bl_alloc ?_ _ ?_); · (first | omega | (simp; done) | (simp; omega))) | ((with_reducible refine bl_set ?_ _ ?_); · (first | omega | (simp; done) | (simp; omega))))))).mono ?_; rintro e w2 ⟨rfl, hb2, HB2⟩; obtain ⟨hc2, hf2⟩ := bcell hb2; have hz2 : w.heap.size < w2.heap.size := (by have := hb2.size; simp at this; omega)))
  all_goals go_ret
  all_goals refine ⟨?_, by first | exact HB2 | exact below_new _ _⟩
  all_goals (first | (clear hc2 hf2 hb2 HB2) | skip)
  all_goals (try simp_all [ok20, bareB])
  all_goals (try (intros; first | omega | (exfalso; omega)))
set_option maxRecDepth 100000 in
set_option maxHeartbeats 2000000 in
theorem sex22_any (A : Option Addr) (c : Nat) (ls : List LN) (l : LN) (w : World) (lo : Nat) (a : Nat) (h : RdN w lo A ls) (hn : ls.length ≤ maxLen) (hf : ∀ l ∈ ls, fitN l) (ha : a < ls.length) (hl : ls[a]? = some l) (hk : l.nd.kind = 22) :
    Calls Try.prog 61 #[.slice A ls.length c, .int .i64 a] w fun e w' => e = .returned (.bool (ok20 (ls.map LN.nd) a l.nd)) ∧ Below w.heap.size w w' := by
  obtain ⟨hf1, hf2', hf3⟩ := hf l (List.mem_of_getElem? hl)
  have hn' := hn
  unfold maxLen at hn' hf1 hf2' hf3
  have HF := Lib.hid hf
  have H := Lib.hid h
  obtain ⟨b, off, rfl, hlo, hb, c0, c1, c2, c3, c4, c5, c6, c7, hok⟩ := rdN_at h hl
  clear h hf hl hok
  rw [hk] at c0
  have HK := Lib.hid hk
  clear hk
  go_enter Try.func61, Try.ntmps61
  go_wp2_with (first
      | (go_at_call 73; refine (kidz_any _ _ ls _ lo a _ (H.out.alloc _) hn HF.out ha (by omega) (by omega)).mono ?_; rintro e w1 ⟨rfl, rfl⟩)
      | (go_at_call 96; refine (expr_any _ _).mono ?_; rintro e w1 ⟨rfl, rfl⟩)
      | (go_at_call 30; refine (stat_any _ _).mono ?_; rintro e w1 ⟨rfl, rfl⟩)
      | (go_at_call 76; refine (tgt_any _ _).mono ?_; rintro e w1 ⟨rfl, rfl⟩)
      | (go_at_call 77; refine (many_any _ _).mono ?_; rintro e w1 ⟨rfl, rfl⟩)
      | (go_at_call 75; refine (exprsz_any _ _ ls _ lo a _ _ (H.out.alloc _) hn HF.out ha (by omega) (by omega) (by omega)).mono ?_; rintro e w1 ⟨rfl, rfl⟩)
      | (go_at_call 74; refine (bareN_any _ _ _ _ _ _ _ _ _ _ _ _ _ _ _ _ _ _ (by first | omega | simp) w (by (repeat (first | with_reducible assumption | with_reducible exact Below.refl _ _ | with_reducible refine Below.drew ?_ | with_reducible refine bl_drewN _ ?_ | ((with_reducible refine bl_alloc ?_ _ ?_); · (first | omega | (simp; done) | (simp; omega))) | ((with_reducible refine bl_set ?_ _ ?_); · (first | omega | (simp; done) | (simp; omega))))))).mono ?_; rintro e w2 ⟨rfl, hb2, HB2⟩; obtain ⟨hc2, hf2⟩ := bcell hb2; have hz2 : w.heap.size < w2.heap.size := (by have := hb2.size; simp at this; omega)))
  all_goals go_ret
  all_goals refine ⟨?_, by first | exact HB2 | exact below_new _ _⟩
  all_goals (first | (clear hc2 hf2 hb2 HB2) | skip)
  all_goals (try simp_all [ok20, bareB])
  all_goals (try (intros; first | omega | (exfalso; omega)))
set_option maxRecDepth 100000 in
set_option maxHeartbeats 2000000 in
theorem sex23_any (A : Option Addr) (c : Nat) (ls : List LN) (l : LN) (w : World) (lo : Nat) (a : Nat) (h : RdN w lo A ls) (hn : ls.length ≤ maxLen) (hf : ∀ l ∈ ls, fitN l) (ha : a < ls.length) (hl : ls[a]? = some l) (hk : l.nd.kind = 23) :
    Calls Try.prog 61 #[.slice A ls.length c, .int .i64 a] w fun e w' => e = .returned (.bool (ok23 (ls.map LN.nd) a l.nd)) ∧ Below w.heap.size w w' := by
  obtain ⟨hf1, hf2', hf3⟩ := hf l (List.mem_of_getElem? hl)
  have hn' := hn
  unfold maxLen at hn' hf1 hf2' hf3
  have HF := Lib.hid hf
  have H := Lib.hid h
  obtain ⟨b, off, rfl, hlo, hb, c0, c1, c2, c3, c4, c5, c6, c7, hok⟩ := rdN_at h hl
  clear h hf hl hok
  rw [hk] at c0
  have HK := Lib.hid hk
  clear hk
  go_enter Try.func61, Try.ntmps61
  go_wp2_with (first
      | (go_at_call 73; refine (kidz_any _ _ ls _ lo a _ (H.out.alloc _) hn HF.out ha (by omega) (by omega)).mono ?_; rintro e w1 ⟨rfl, rfl⟩)
      | (go_at_call 96; refine (expr_any _ _).mono ?_; rintro e w1 ⟨rfl, rfl⟩)
      | (go_at_call 30; refine (stat_any _ _).mono ?_; rintro e w1 ⟨rfl, rfl⟩)
      | (go_at_call 76; refine (tgt_any _ _).mono ?_; rintro e w1 ⟨rfl, rfl⟩)
      | (go_at_call 77; refine (many_any _ _).mono ?_; rintro e w1 ⟨rfl, rfl⟩)
      | (go_at_call 75; refine (exprsz_any _ _ ls _ lo a _ _ (H.out.alloc _) hn HF.out ha (by omega) (by omega) (by omega)).mono ?_; rintro e w1 ⟨rfl, rfl⟩)
      | (go_at_call 74; refine (bareN_any _ _ _ _ _ _ _ _ _ _ _ _ _ _ _ _ _ _ (by first | omega | simp) w (by (repeat (first | with_reducible assumption | with_reducible exact Below.refl _ _ | with_reducible refine Below.drew ?_ | with_reducible refine bl_drewN _ ?_ | ((with_reducible refine bl_alloc ?_ _ ?_); · (first | omega | (simp; done) | (simp; omega))) | ((with_reducible refine bl_set ?_ _ ?_); · (first | omega | (simp; done) | (simp; omega))))))).mono ?_; rintro e w2 ⟨rfl, hb2, HB2⟩; obtain ⟨hc2, hf2⟩ := bcell hb2; have hz2 : w.heap.size < w2.heap.size := (by have := hb2.size; simp at this; omega)))
  all_goals go_ret
  all_goals refine ⟨?_, by first | exact HB2 | exact below_new _ _⟩
  all_goals (first | (clear hc2 hf2 hb2 HB2) | skip)
  all_goals (try simp_all [ok23, bareB])
  all_goals (try (intros; first | omega | (exfalso; omega)))
set_option maxRecDepth 100000 in
set_option maxHeartbeats 2000000 in
theorem sex24_any (A : Option Addr) (c : Nat) (ls : List LN) (l : LN) (w : World) (lo : Nat) (a : Nat) (h : RdN w lo A ls) (hn : ls.length ≤ maxLen) (hf : ∀ l ∈ ls, fitN l) (ha : a < ls.length) (hl : ls[a]? = some l) (hk : l.nd.kind = 24) :
    Calls Try.prog 61 #[.slice A ls.length c, .int .i64 a] w fun e w' => e = .returned (.bool (ok24 (ls.map LN.nd) a l.nd)) ∧ Below w.heap.size w w' := by
  obtain ⟨hf1, hf2', hf3⟩ := hf l (List.mem_of_getElem? hl)
  have hn' := hn
  unfold maxLen at hn' hf1 hf2' hf3
  have HF := Lib.hid hf
  have H := Lib.hid h
  obtain ⟨b, off, rfl, hlo, hb, c0, c1, c2, c3, c4, c5, c6, c7, hok⟩ := rdN_at h hl
  clear h hf hl hok
  rw [hk] at c0
  have HK := Lib.hid hk
  clear hk
  go_enter Try.func61, Try.ntmps61
  go_wp2_with (first
      | (go_at_call 73; refine (kidz_any _ _ ls _ lo a _ (H.out.alloc _) hn HF.out ha (by omega) (by omega)).mono ?_; rintro e w1 ⟨rfl, rfl⟩)
      | (go_at_call 96; refine (expr_any _ _).mono ?_; rintro e w1 ⟨rfl, rfl⟩)
      | (go_at_call 30; refine (stat_any _ _).mono ?_; rintro e w1 ⟨rfl, rfl⟩)
      | (go_at_call 76; refine (tgt_any _ _).mono ?_; rintro e w1 ⟨rfl, rfl⟩)
      | (go_at_call 77; refine (many_any _ _).mono ?_; rintro e w1 ⟨rfl, rfl⟩)
      | (go_at_call 75; refine (exprsz_any _ _ ls _ lo a _ _ (H.out.alloc _) hn HF.out ha (by omega) (by omega) (by omega)).mono ?_; rintro e w1 ⟨rfl, rfl⟩)
      | (go_at_call 74; refine (bareN_any _ _ _ _ _ _ _ _ _ _ _ _ _ _ _ _ _ _ (by first | omega | simp) w (by (repeat (first | with_reducible assumption | with_reducible exact Below.refl _ _ | with_reducible refine Below.drew ?_ | with_reducible refine bl_drewN _ ?_ | ((with_reducible refine bl_alloc ?_ _ ?_); · (first | omega | (simp; done) | (simp; omega))) | ((with_reducible refine bl_set ?_ _ ?_); · (first | omega | (simp; done) | (simp; omega))))))).mono ?_; rintro e w2 ⟨rfl, hb2, HB2⟩; obtain ⟨hc2, hf2⟩ := bcell hb2; have hz2 : w.heap.size < w2.heap.size := (by have := hb2.size; simp at this; omega)))
  all_goals go_ret
  all_goals refine ⟨?_, by first | exact HB2 | exact below_new _ _⟩
  all_goals (first | (clear hc2 hf2 hb2 HB2) | skip)
  all_goals (try simp_all [ok24, bareB])
  all_goals (try (intros; first | omega | (exfalso; omega)))
set_option maxRecDepth 100000 in
set_option maxHeartbeats 2000000 in
theorem sex25_any (A : Option Addr) (c : Nat) (ls : List LN) (l : LN) (w : World) (lo : Nat) (a : Nat) (h : RdN w lo A ls) (hn : ls.length ≤ maxLen) (hf : ∀ l ∈ ls, fitN l) (ha : a < ls.length) (hl : ls[a]? = some l) (hk : l.nd.kind = 25) :
    Calls Try.prog 61 #[.slice A ls.length c, .int .i64 a] w fun e w' => e = .returned (.bool (ok25 (ls.map LN.nd) a l.nd)) ∧ Below w.heap.size w w' := by
  obtain ⟨hf1, hf2', hf3⟩ := hf l (List.mem_of_getElem? hl)
  have hn' := hn
  unfold maxLen at hn' hf1 hf2' hf3
  have HF := Lib.hid hf
  have H := Lib.hid h
  obtain ⟨b, off, rfl, hlo, hb, c0, c1, c2, c3, c4, c5, c6, c7, hok⟩ := rdN_at h hl
  clear h hf hl hok
  rw [hk] at c0
  have HK := Lib.hid hk
  clear hk
  go_enter Try.func61, Try.ntmps61
  go_wp2_with (first
      | (go_at_call 73; refine (kidz_any _ _ ls _ lo a _ (H.out.alloc _) hn HF.out ha (by omega) (by omega)).mono ?_; rintro e w1 ⟨rfl, rfl⟩)
      | (go_at_call 96; refine (expr_any _ _).mono ?_; rintro e w1 ⟨rfl, rfl⟩)
      | (go_at_call 30; refine (stat_any _ _).mono ?_; rintro e w1 ⟨rfl, rfl⟩)
      | (go_at_call 76; refine (tgt_any _ _).mono ?_; rintro e w1 ⟨rfl, rfl⟩)
      | (go_at_call 77; refine (many_any _ _).mono ?_; rintro e w1 ⟨rfl, rfl⟩)
      | (go_at_call 75; refine (exprsz_any _ _ ls _ lo a _ _ (H.out.alloc _) hn HF.out ha (by omega) (by omega) (by omega)).mono ?_; rintro e w1 ⟨rfl, rfl⟩)
      | (go_at_call 74; refine (bareN_any _ _ _ _ _ _ _ _ _ _ _ _ _ _ _ _ _ _ (by first | omega | simp) w (by (repeat (first | with_reducible assumption | with_reducible exact Below.refl _ _ | with_reducible refine Below.drew ?_ | with_reducible refine bl_drewN _ ?_ | ((with_reducible refine bl_alloc ?_ _ ?_); · (first | omega | (simp; done) | (simp; omega))) | ((with_reducible refine bl_set ?_ _ ?_); · (first | omega | (simp; done) | (simp; omega))))))).mono ?_; rintro e w2 ⟨rfl, hb2, HB2⟩; obtain ⟨hc2, hf2⟩ := bcell hb2; have hz2 : w.heap.size < w2.heap.size := (by have := hb2.size; simp at this; omega)))
  all_goals go_ret
  all_goals refine ⟨?_, by first | exact HB2 | exact below_new _ _⟩
  all_goals (first | (clear hc2 hf2 hb2 HB2) | skip)
  all_goals (try simp_all [ok25, bareB])
  all_goals (try (intros; first | omega | (exfalso; omega)))
set_option maxRecDepth 100000 in
set_option maxHeartbeats 2000000 in
theorem sex26_any (A : Option Addr) (c : Nat) (ls : List LN) (l : LN) (w : World) (lo : Nat) (a : Nat) (h : RdN w lo A ls) (hn : ls.length ≤ maxLen) (hf : ∀ l ∈ ls, fitN l) (ha : a < ls.length) (hl : ls[a]? = some l) (hk : l.nd.kind = 26) :
    Calls Try.prog 61 #[.slice A ls.length c, .int .i64 a] w fun e w' => e = .returned (.bool (ok26 (ls.map LN.nd) a l.nd)) ∧ Below w.heap.size w w' := by
  obtain ⟨hf1, hf2', hf3⟩ := hf l (List.mem_of_getElem? hl)
  have hn' := hn
  unfold maxLen at hn' hf1 hf2' hf3
  have HF := Lib.hid hf
  have H := Lib.hid h
  obtain ⟨b, off, rfl, hlo, hb, c0, c1, c2, c3, c4, c5, c6, c7, hok⟩ := rdN_at h hl
  clear h hf hl hok
  rw [hk] at c0
  have HK := Lib.hid hk
  clear hk
  go_enter Try.func61, Try.ntmps61
  go_wp2_with (first
      | (go_at_call 73; refine (kidz_any _ _ ls _ lo a _ (H.out.alloc _) hn HF.out ha (by omega) (by omega)).mono ?_; rintro e w1 ⟨rfl, rfl⟩)
      | (go_at_call 96; refine (expr_any _ _).mono ?_; rintro e w1 ⟨rfl, rfl⟩)
      | (go_at_call 30; refine (stat_any _ _).mono ?_; rintro e w1 ⟨rfl, rfl⟩)
      | (go_at_call 76; refine (tgt_any _ _).mono ?_; rintro e w1 ⟨rfl, rfl⟩)
      | (go_at_call 77; refine (many_any _ _).mono ?_; rintro e w1 ⟨rfl, rfl⟩)
      | (go_at_call 75; refine (exprsz_any _ _ ls _ lo a _ _ (H.out.alloc _) hn HF.out ha (by omega) (by omega) (by omega)).mono ?_; rintro e w1 ⟨rfl, rfl⟩)
      | (go_at_call 74; refine (bareN_any _ _ _ _ _ _ _ _ _ _ _ _ _ _ _ _ _ _ (by first | omega | simp) w (by (repeat (first | with_reducible assumption | with_reducible exact Below.refl _ _ | with_reducible refine Below.drew ?_ | with_reducible refine bl_drewN _ ?_ | ((with_reducible refine bl_alloc ?_ _ ?_); · (first | omega | (simp; done) | (simp; omega))) | ((with_reducible refine bl_set ?_ _ ?_); · (first | omega | (simp; done) | (simp; omega))))))).mono ?_; rintro e w2 ⟨rfl, hb2, HB2⟩; obtain ⟨hc2, hf2⟩ := bcell hb2; have hz2 : w.heap.size < w2.heap.size := (by have := hb2.size; simp at this; omega)))
  all_goals go_ret
  all_goals refine ⟨?_, by first | exact HB2 | exact below_new _ _⟩
  all_goals (first | (clear hc2 hf2 hb2 HB2) | skip)
  all_goals (try simp_all [ok26, bareB])
  all_goals (try (intros; first | omega | (exfalso; omega)))
set_option maxRecDepth 100000 in
set_option maxHeartbeats 2000000 in
theorem sex27_any (A : Option Addr) (c : Nat) (ls : List LN) (l : LN) (w : World) (lo : Nat) (a : Nat) (h : RdN w lo A ls) (hn : ls.length ≤ maxLen) (hf : ∀ l ∈ ls, fitN l) (ha : a < ls.length) (hl : ls[a]? = some l) (hk : l.nd.kind = 27) :
    Calls Try.prog 61 #[.slice A ls.length c, .int .i64 a] w fun e w' => e = .returned (.bool (ok26 (ls.map LN.nd) a l.nd)) ∧ Below w.heap.size w w' := by
  obtain ⟨hf1, hf2', hf3⟩ := hf l (List.mem_of_getElem? hl)
  have hn' := hn
  unfold maxLen at hn' hf1 hf2' hf3
  have HF := Lib.hid hf
  have H := Lib.hid h
  obtain ⟨b, off, rfl, hlo, hb, c0, c1, c2, c3, c4, c5, c6, c7, hok⟩ := rdN_at h hl
  clear h hf hl hok
  rw [hk] at c0
  have HK := Lib.hid hk
  clear hk
  go_enter Try.func61, Try.ntmps61
  go_wp2_with (first
      | (go_at_call 73; refine (kidz_any _ _ ls _ lo a _ (H.out.alloc _) hn HF.out ha (by omega) (by omega)).mono ?_; rintro e w1 ⟨rfl, rfl⟩)
      | (go_at_call 96; refine (expr_any _ _).mono ?_; rintro e w1 ⟨rfl, rfl⟩)
      | (go_at_call 30; refine (stat_any _ _).mono ?_; rintro e w1 ⟨rfl, rfl⟩)
      | (go_at_call 76; refine (tgt_any _ _).mono ?_; rintro e w1 ⟨rfl, rfl⟩)
      | (go_at_call 77; refine (many_any _ _).mono ?_; rintro e w1 ⟨rfl, rfl⟩)
      | (go_at_call 75; refine (exprsz_any _ _ ls _ lo a _ _ (H.out.alloc _) hn HF.out ha (by omega) (by omega) (by omega)).mono ?_; rintro e w1 ⟨rfl, rfl⟩)
      | (go_at_call 74; refine (bareN_any _ _ _ _ _ _ _ _ _ _ _ _ _ _ _ _ _ _ (by first | omega | simp) w (by (repeat (first | with_reducible assumption | with_reducible exact Below.refl _ _ | with_reducible refine Below.drew ?_ | with_reducible refine bl_drewN _ ?_ | ((with_reducible refine bl_alloc ?_ _ ?_); · (first | omega | (simp; done) | (simp; omega))) | ((with_reducible refine bl_set ?_ _ ?_); · (first | omega | (simp; done) | (simp; omega))))))).mono ?_; rintro e w2 ⟨rfl, hb2, HB2⟩; obtain ⟨hc2, hf2⟩ := bcell hb2; have hz2 : w.heap.size < w2.heap.size := (by have := hb2.size; simp at this; omega)))
  all_goals go_ret
  all_goals refine ⟨?_, by first | exact HB2 | exact below_new _ _⟩
  all_goals (first | (clear hc2 hf2 hb2 HB2) | skip)
  all_goals (try simp_all [ok26, bareB])
  all_goals (try (intros; first | omega | (exfalso; omega)))
set_option maxRecDepth 100000 in
set_option maxHeartbeats 2000000 in
theorem sex28_any (A : Option Addr) (c : Nat) (ls : List LN) (l : LN) (w : World) (lo : Nat) (a : Nat) (h : RdN w lo A ls) (hn : ls.length ≤ maxLen) (hf : ∀ l ∈ ls, fitN l) (ha : a < ls.length) (hl : ls[a]? = some l) (hk : l.nd.kind = 28) :
    Calls Try.prog 61 #[.slice A ls.length c, .int .i64 a] w fun e w' => e = .returned (.bool (ok28 (ls.map LN.nd) a l.nd)) ∧ Below w.heap.size w w' := by
  obtain ⟨hf1, hf2', hf3⟩ := hf l (List.mem_of_getElem? hl)
  have hn' := hn
  unfold maxLen at hn' hf1 hf2' hf3
  have HF := Lib.hid hf
  have H := Lib.hid h
  obtain ⟨b, off, rfl, hlo, hb, c0, c1, c2, c3, c4, c5, c6, c7, hok⟩ := rdN_at h hl
  clear h hf hl hok
  rw [hk] at c0
  have HK := Lib.hid hk
  clear hk
  go_enter Try.func61, Try.ntmps61
  go_wp2_with (first
      | (go_at_call 73; refine (kidz_any _ _ ls _ lo a _ (H.out.alloc _) hn HF.out ha (by omega) (by omega)).mono ?_; rintro e w1 ⟨rfl, rfl⟩)
      | (go_at_call 96; refine (expr_any _ _).mono ?_; rintro e w1 ⟨rfl, rfl⟩)
      | (go_at_call 30; refine (stat_any _ _).mono ?_; rintro e w1 ⟨rfl, rfl⟩)
      | (go_at_call 76; refine (tgt_any _ _).mono ?_; rintro e w1 ⟨rfl, rfl⟩)
      | (go_at_call 77; refine (many_any _ _).mono ?_; rintro e w1 ⟨rfl, rfl⟩)
      | (go_at_call 75; refine (exprsz_any _ _ ls _ lo a _ _ (H.out.alloc _) hn HF.out ha (by omega) (by omega) (by omega)).mono ?_; rintro e w1 ⟨rfl, rfl⟩)
      | (go_at_call 74; refine (bareN_any _ _ _ _ _ _ _ _ _ _ _ _ _ _ _ _ _ _ (by first | omega | simp) w (by (repeat (first | with_reducible assumption | with_reducible exact Below.refl _ _ | with_reducible refine Below.drew ?_ | with_reducible refine bl_drewN _ ?_ | ((with_reducible refine bl_alloc ?_ _ ?_); · (first | omega | (simp; done) | (simp; omega))) | ((with_reducible refine bl_set ?_ _ ?_); · (first | omega | (simp; done) | (simp; omega))))))).mono ?_; rintro e w2 ⟨rfl, hb2, HB2⟩; obtain ⟨hc2, hf2⟩ := bcell hb2; have hz2 : w.heap.size < w2.heap.size := (by have := hb2.size; simp at this; omega)))
  all_goals go_ret
  all_goals refine ⟨?_, by first | exact HB2 | exact below_new _ _⟩
  all_goals (first | (clear hc2 hf2 hb2 HB2) | skip)
  all_goals (try simp_all [ok28, bareB])
  all_goals (try (intros; first | omega | (exfalso; omega)))
set_option maxRecDepth 100000 in
set_option maxHeartbeats 2000000 in
theorem sex29_any (A : Option Addr) (c : Nat) (ls : List LN) (l : LN) (w : World) (lo : Nat) (a : Nat) (h : RdN w lo A ls) (hn : ls.length ≤ maxLen) (hf : ∀ l ∈ ls, fitN l) (ha : a < ls.length) (hl : ls[a]? = some l) (hk : l.nd.kind = 29) :
    Calls Try.prog 61 #[.slice A ls.length c, .int .i64 a] w fun e w' => e = .returned (.bool (ok29 (ls.map LN.nd) a l.nd)) ∧ Below w.heap.size w w' := by
  obtain ⟨hf1, hf2', hf3⟩ := hf l (List.mem_of_getElem? hl)
  have hn' := hn
  unfold maxLen at hn' hf1 hf2' hf3
  have HF := Lib.hid hf
  have H := Lib.hid h
  obtain ⟨b, off, rfl, hlo, hb, c0, c1, c2, c3, c4, c5, c6, c7, hok⟩ := rdN_at h hl
  clear h hf hl hok
  rw [hk] at c0
  have HK := Lib.hid hk
  clear hk
  go_enter Try.func61, Try.ntmps61
  go_wp2_with (first
      | (go_at_call 73; refine (kidz_any _ _ ls _ lo a _ (H.out.alloc _) hn HF.out ha (by omega) (by omega)).mono ?_; rintro e w1 ⟨rfl, rfl⟩)
      | (go_at_call 96; refine (expr_any _ _).mono ?_; rintro e w1 ⟨rfl, rfl⟩)
      | (go_at_call 30; refine (stat_any _ _).mono ?_; rintro e w1 ⟨rfl, rfl⟩)
      | (go_at_call 76; refine (tgt_any _ _).mono ?_; rintro e w1 ⟨rfl, rfl⟩)
      | (go_at_call 77; refine (many_any _ _).mono ?_; rintro e w1 ⟨rfl, rfl⟩)
      | (go_at_call 75; refine (exprsz_any _ _ ls _ lo a _ _ (H.out.alloc _) hn HF.out ha (by omega) (by omega) (by omega)).mono ?_; rintro e w1 ⟨rfl, rfl⟩)
      | (go_at_call 74; refine (bareN_any _ _ _ _ _ _ _ _ _ _ _ _ _ _ _ _ _ _ (by first | omega | simp) w (by (repeat (first | with_reducible assumption | with_reducible exact Below.refl _ _ | with_reducible refine Below.drew ?_ | with_reducible refine bl_drewN _ ?_ | ((with_reducible refine bl_alloc ?_ _ ?_); · (first | omega | (simp; done) | (simp; omega))) | ((with_reducible refine bl_set ?_ _ ?_); · (first | omega | (simp; done) | (simp; omega))))))).mono ?_; rintro e w2 ⟨rfl, hb2, HB2⟩; obtain ⟨hc2, hf2⟩ := bcell hb2; have hz2 : w.heap.size < w2.heap.size := (by have := hb2.size; simp at this; omega)))
  all_goals go_ret
  all_goals refine ⟨?_, by first | exact HB2 | exact below_new _ _⟩
  all_goals (first | (clear hc2 hf2 hb2 HB2) | skip)
  all_goals (try simp_all [ok29, bareB])
  all_goals (try (intros; first | omega | (exfalso; omega)))
set_option maxRecDepth 100000 in
set_option maxHeartbeats 2000000 in
theorem sex30_any (A : Option Addr) (c : Nat) (ls : List LN) (l : LN) (w : World) (lo : Nat) (a : Nat) (h : RdN w lo A ls) (hn : ls.length ≤ maxLen) (hf : ∀ l ∈ ls, fitN l) (ha : a < ls.length) (hl : ls[a]? = some l) (hk : l.nd.kind = 30) :
    Calls Try.prog 61 #[.slice A ls.length c, .int .i64 a] w fun e w' => e = .returned (.bool (ok29 (ls.map LN.nd) a l.nd)) ∧ Below w.heap.size w w' := by
  obtain ⟨hf1, hf2', hf3⟩ := hf l (List.mem_of_getElem? hl)
  have hn' := hn
  unfold maxLen at hn' hf1 hf2' hf3
  have HF := Lib.hid hf
  have H := Lib.hid h
  obtain ⟨b, off, rfl, hlo, hb, c0, c1, c2, c3, c4, c5, c6, c7, hok⟩ := rdN_at h hl
  clear h hf hl hok
  rw [hk] at c0
  have HK := Lib.hid hk
  clear hk
  go_enter Try.func61, Try.ntmps61
  go_wp2_with (first
      | (go_at_call 73; refine (kidz_any _ _ ls _ lo a _ (H.out.alloc _) hn HF.out ha (by omega) (by omega)).mono ?_; rintro e w1 ⟨rfl, rfl⟩)
      | (go_at_call 96; refine (expr_any _ _).mono ?_; rintro e w1 ⟨rfl, rfl⟩)
      | (go_at_call 30; refine (stat_any _ _).mono ?_; rintro e w1 ⟨rfl, rfl⟩)
      | (go_at_call 76; refine (tgt_any _ _).mono ?_; rintro e w1 ⟨rfl, rfl⟩)
      | (go_at_call 77; refine (many_any _ _).mono ?_; rintro e w1 ⟨rfl, rfl⟩)
      | (go_at_call 75; refine (exprsz_any _ _ ls _ lo a _ _ (H.out.alloc _) hn HF.out ha (by omega) (by omega) (by omega)).mono ?_; rintro e w1 ⟨rfl, rfl⟩)
      | (go_at_call 74; refine (bareN_any _ _ _ _ _ _ _ _ _ _ _ _ _ _ _ _ _ _ (by first | omega | simp) w (by (repeat (first | with_reducible assumption | with_reducible exact Below.refl _ _ | with_reducible refine Below.drew ?_ | with_reducible refine bl_drewN _ ?_ | ((with_reducible refine bl_alloc ?_ _ ?_); · (first | omega | (simp; done) | (simp; omega))) | ((with_reducible refine bl_set ?_ _ ?_); · (first | omega | (simp; done) | (simp; omega))))))).mono ?_; rintro e w2 ⟨rfl, hb2, HB2⟩; obtain ⟨hc2, hf2⟩ := bcell hb2; have hz2 : w.heap.size < w2.heap.size := (by have := hb2.size; simp at this; omega)))
  all_goals go_ret
  all_goals refine ⟨?_, by first | exact HB2 | exact below_new _ _⟩
  all_goals (first | (clear hc2 hf2 hb2 HB2) | skip)
  all_goals (try simp_all [ok29, bareB])
  all_goals (try (intros; first | omega | (exfalso; omega)))
set_option maxRecDepth 100000 in
set_option maxHeartbeats 2000000 in
theorem sex31_any (A : Option Addr) (c : Nat) (ls : List LN) (l : LN) (w : World) (lo : Nat) (a : Nat) (h : RdN w lo A ls) (hn : ls.length ≤ maxLen) (hf : ∀ l ∈ ls, fitN l) (ha : a < ls.length) (hl : ls[a]? = some l) (hk : l.nd.kind = 31) :
    Calls Try.prog 61 #[.slice A ls.length c, .int .i64 a] w fun e w' => e = .returned (.bool (ok31 (ls.map LN.nd) a l.nd)) ∧ Below w.heap.size w w' := by
  obtain ⟨hf1, hf2', hf3⟩ := hf l (List.mem_of_getElem? hl)
  have hn' := hn
  unfold maxLen at hn' hf1 hf2' hf3
  have HF := Lib.hid hf
  have H := Lib.hid h
  obtain ⟨b, off, rfl, hlo, hb, c0, c1, c2, c3, c4, c5, c6, c7, hok⟩ := rdN_at h hl
  clear h hf hl hok
  rw [hk] at c0
  have HK := Lib.hid hk
  clear hk
  go_enter Try.func61, Try.ntmps61
  go_wp2_with (first
      | (go_at_call 73; refine (kidz_any _ _ ls _ lo a _ (H.out.alloc _) hn HF.out ha (by omega) (by omega)).mono ?_; rintro e w1 ⟨rfl, rfl⟩)
      | (go_at_call 96; refine (expr_any _ _).mono ?_; rintro e w1 ⟨rfl, rfl⟩)
      | (go_at_call 30; refine (stat_any _ _).mono ?_; rintro e w1 ⟨rfl, rfl⟩)
      | (go_at_call 76; refine (tgt_any _ _).mono ?_; rintro e w1 ⟨rfl, rfl⟩)
      | (go_at_call 77; refine (many_any _ _).mono ?_; rintro e w1 ⟨rfl, rfl⟩)
      | (go_at_call 75; refine (exprsz_any _ _ ls _ lo a _ _ (H.out.alloc _) hn HF.out ha (by omega) (by omega) (by omega)).mono ?_; rintro e w1 ⟨rfl, rfl⟩)
      | (go_at_call 74; refine (bareN_any _ _ _ _ _ _ _ _ _ _ _ _ _ _ _ _ _ _ (by first | omega | simp) w (by (repeat (first | with_reducible assumption | with_reducible exact Below.refl _ _ | with_reducible refine Below.drew ?_ | with_reducible refine bl_drewN _ ?_ | ((with_reducible refine bl_alloc ?_ _ ?_); · (first | omega | (simp; done) | (simp; omega))) | ((with_reducible refine bl_set ?_ _ ?_); · (first | omega | (simp; done) | (simp; omega))))))).mono ?_; rintro e w2 ⟨rfl, hb2, HB2⟩; obtain ⟨hc2, hf2⟩ := bcell hb2; have hz2 : w.heap.size < w2.heap.size := (by have := hb2.size; simp at this; omega)))
  all_goals go_ret
  all_goals refine ⟨?_, by first | exact HB2 | exact below_new _ _⟩
  all_goals (first | (clear hc2 hf2 hb2 HB2) | skip)
  all_goals (try simp_all [ok31, bareB])
  all_goals (try (intros; first | omega | (exfalso; omega)))
set_option maxRecDepth 100000 in
set_option maxHeartbeats 2000000 in
theorem sex32_any (A : Option Addr) (c : Nat) (ls : List LN) (l : LN) (w : World) (lo : Nat) (a : Nat) (h : RdN w lo A ls) (hn : ls.length ≤ maxLen) (hf : ∀ l ∈ ls, fitN l) (ha : a < ls.length) (hl : ls[a]? = some l) (hk : l.nd.kind = 32) :
    Calls Try.prog 61 #[.slice A ls.length c, .int .i64 a] w fun e w' => e = .returned (.bool (ok32 (ls.map LN.nd) a l.nd)) ∧ Below w.heap.size w w' := by
  obtain ⟨hf1, hf2', hf3⟩ := hf l (List.mem_of_getElem? hl)
  have hn' := hn
  unfold maxLen at hn' hf1 hf2' hf3
  have HF := Lib.hid hf
  have H := Lib.hid h
  obtain ⟨b, off, rfl, hlo, hb, c0, c1, c2, c3, c4, c5, c6, c7, hok⟩ := rdN_at h hl
  clear h hf hl hok
  rw [hk] at c0
  have HK := Lib.hid hk
  clear hk
  go_enter Try.func61, Try.ntmps61
  go_wp2_with (first
      | (go_at_call 73; refine (kidz_any _ _ ls _ lo a _ (H.out.alloc _) hn HF.out ha (by omega) (by omega)).mono ?_; rintro e w1 ⟨rfl, rfl⟩)
      | (go_at_call 96; refine (expr_any _ _).mono ?_; rintro e w1 ⟨rfl, rfl⟩)
      | (go_at_call 30; refine (stat_any _ _).mono ?_; rintro e w1 ⟨rfl, rfl⟩)
      | (go_at_call 76; refine (tgt_any _ _).mono ?_; rintro e w1 ⟨rfl, rfl⟩)
      | (go_at_call 77; refine (many_any _ _).mono ?_; rintro e w1 ⟨rfl, rfl⟩)
      | (go_at_call 75; refine (exprsz_any _ _ ls _ lo a _ _ (H.out.alloc _) hn HF.out ha (by omega) (by omega) (by omega)).mono ?_; rintro e w1 ⟨rfl, rfl⟩)
      | (go_at_call 74; refine (bareN_any _ _ _ _ _ _ _ _ _ _ _ _ _ _ _ _ _ _ (by first | omega | simp) w (by (repeat (first | with_reducible assumption | with_reducible exact Below.refl _ _ | with_reducible refine Below.drew ?_ | with_reducible refine bl_drewN _ ?_ | ((with_reducible refine bl_alloc ?_ _ ?_); · (first | omega | (simp; done) | (simp; omega))) | ((with_reducible refine bl_set ?_ _ ?_); · (first | omega | (simp; done) | (simp; omega))))))).mono ?_; rintro e w2 ⟨rfl, hb2, HB2⟩; obtain ⟨hc2, hf2⟩ := bcell hb2; have hz2 : w.heap.size < w2.heap.size := (by have := hb2.size; simp at this; omega)))
  all_goals go_ret
  all_goals refine ⟨?_, by first | exact HB2 | exact below_new _ _⟩
  all_goals (first | (clear hc2 hf2 hb2 HB2) | skip)
  all_goals (try simp_all [ok32, bareB])
  all_goals (try (intros; first | omega | (exfalso; omega)))
set_option maxRecDepth 100000 in
set_option maxHeartbeats 2000000 in
theorem sex33_any (A : Option Addr) (c : Nat) (ls : List LN) (l : LN) (w : World) (lo : Nat) (a : Nat) (h : RdN w lo A ls) (hn : ls.length ≤ maxLen) (hf : ∀ l ∈ ls, fitN l) (ha : a < ls.length) (hl : ls[a]? = some l) (hk : l.nd.kind = 33) :
    Calls Try.prog 61 #[.slice A ls.length c, .int .i64 a] w fun e w' => e = .returned (.bool (ok29 (ls.map LN.nd) a l.nd)) ∧ Below w.heap.size w w' := by
  obtain ⟨hf1, hf2', hf3⟩ := hf l (List.mem_of_getElem? hl)
  have hn' := hn
  unfold maxLen at hn' hf1 hf2' hf3
  have HF := Lib.hid hf
  have H := Lib.hid h
  obtain ⟨b, off, rfl, hlo, hb, c0, c1, c2, c3, c4, c5, c6, c7, hok⟩ := rdN_at h hl
  clear h hf hl hok
  rw [hk] at c0
  have HK := Lib.hid hk
  clear hk
  go_enter Try.func61, Try.ntmps61
  go_wp2_with (first
      | (go_at_call 73; refine (kidz_any _ _ ls _ lo a _ (H.out.alloc _) hn HF.out ha (by omega) (by omega)).mono ?_; rintro e w1 ⟨rfl, rfl⟩)
      | (go_at_call 96; refine (expr_any _ _).mono ?_; rintro e w1 ⟨rfl, rfl⟩)
      | (go_at_call 30; refine (stat_any _ _).mono ?_; rintro e w1 ⟨rfl, rfl⟩)
      | (go_at_call 76; refine (tgt_any _ _).mono ?_; rintro e w1 ⟨rfl, rfl⟩)
      | (go_at_call 77; refine (many_any _ _).mono ?_; rintro e w1 ⟨rfl, rfl⟩)
      | (go_at_call 75; refine (exprsz_any _ _ ls _ lo a _ _ (H.out.alloc _) hn HF.out ha (by omega) (by omega) (by omega)).mono ?_; rintro e w1 ⟨rfl, rfl⟩)
      | (go_at_call 74; refine (bareN_any _ _ _ _ _ _ _ _ _ _ _ _ _ _ _ _ _ _ (by first | omega | simp) w (by (repeat (first | with_reducible assumption | with_reducible exact Below.refl _ _ | with_reducible refine Below.drew ?_ | with_reducible refine bl_drewN _ ?_ | ((with_reducible refine bl_alloc ?_ _ ?_); · (first | omega | (simp; done) | (simp; omega))) | ((with_reducible refine bl_set ?_ _ ?_); · (first | omega | (simp; done) | (simp; omega))))))).mono ?_; rintro e w2 ⟨rfl, hb2, HB2⟩; obtain ⟨hc2, hf2⟩ := bcell hb2; have hz2 : w.heap.size < w2.heap.size := (by have := hb2.size; simp at this; omega)))
  all_goals go_ret
  all_goals refine ⟨?_, by first | exact HB2 | exact below_new _ _⟩
  all_goals (first | (clear hc2 hf2 hb2 HB2) | skip)
  all_goals (try simp_all [ok29, bareB])
  all_goals (try (intros; first | omega | (exfalso; omega)))
set_option maxRecDepth 100000 in
set_option maxHeartbeats 2000000 in
theorem sex34_any (A : Option Addr) (c : Nat) (ls : List LN) (l : LN) (w : World) (lo : Nat) (a : Nat) (h : RdN w lo A ls) (hn : ls.length ≤ maxLen) (hf : ∀ l ∈ ls, fitN l) (ha : a < ls.length) (hl : ls[a]? = some l) (hk : l.nd.kind = 34) :
    Calls Try.prog 61 #[.slice A ls.length c, .int .i64 a] w fun e w' => e = .returned (.bool (ok34 (ls.map LN.nd) a l.nd)) ∧ Below w.heap.size w w' := by
  obtain ⟨hf1, hf2', hf3⟩ := hf l (List.mem_of_getElem? hl)
  have hn' := hn
  unfold maxLen at hn' hf1 hf2' hf3
  have HF := Lib.hid hf
  have H := Lib.hid h
  obtain ⟨b, off, rfl, hlo, hb, c0, c1, c2, c3, c4, c5, c6, c7, hok⟩ := rdN_at h hl
  clear h hf hl hok
  rw [hk] at c0
  have HK := Lib.hid hk
  clear hk
  go_enter Try.func61, Try.ntmps61
  go_wp2_with (first
      | (go_at_call 73; refine (kidz_any _ _ ls _ lo a _ (H.out.alloc _) hn HF.out ha (by omega) (by omega)).mono ?_; rintro e w1 ⟨rfl, rfl⟩)
      | (go_at_call 96; refine (expr_any _ _).mono ?_; rintro e w1 ⟨rfl, rfl⟩)
      | (go_at_call 30; refine (stat_any _ _).mono ?_; rintro e w1 ⟨rfl, rfl⟩)
      | (go_at_call 76; refine (tgt_any _ _).mono ?_; rintro e w1 ⟨rfl, rfl⟩)
      | (go_at_call 77; refine (many_any _ _).mono ?_; rintro e w1 ⟨rfl, rfl⟩)
      | (go_at_call 75; refine (exprsz_any _ _ ls _ lo a _ _ (H.out.alloc _) hn HF.out ha (by omega) (by omega) (by omega)).mono ?_; rintro e w1 ⟨rfl, rfl⟩)
      | (go_at_call 74; refine (bareN_any _ _ _ _ _ _ _ _ _ _ _ _ _ _ _ _ _ _ (by first | omega | simp) w (by (repeat (first | with_reducible assumption | with_reducible exact Below.refl _ _ | with_reducible refine Below.drew ?_ | with_reducible refine bl_drewN _ ?_ | ((with_reducible refine bl_alloc ?_ _ ?_); · (first | omega | (simp; done) | (simp; omega))) | ((with_reducible refine bl_set ?_ _ ?_); · (first | omega | (simp; done) | (simp; omega))))))).mono ?_; rintro e w2 ⟨rfl, hb2, HB2⟩; obtain ⟨hc2, hf2⟩ := bcell hb2; have hz2 : w.heap.size < w2.heap.size := (by have := hb2.size; simp at this; omega)))
  all_goals go_ret
  all_goals refine ⟨?_, by first | exact HB2 | exact below_new _ _⟩
  all_goals (first | (clear hc2 hf2 hb2 HB2) | skip)
  all_goals (try simp_all [ok34, bareB])
  all_goals (try (intros; first | omega | (exfalso; omega)))
set_option maxRecDepth 100000 in
set_option maxHeartbeats 2000000 in
theorem sex35_any (A : Option Addr) (c : Nat) (ls : List LN) (l : LN) (w : World) (lo : Nat) (a : Nat) (h : RdN w lo A ls) (hn : ls.length ≤ maxLen) (hf : ∀ l ∈ ls, fitN l) (ha : a < ls.length) (hl : ls[a]? = some l) (hk : l.nd.kind = 35) :
    Calls Try.prog 61 #[.slice A ls.length c, .int .i64 a] w fun e w' => e = .returned (.bool (ok35 (ls.map LN.nd) a l.nd)) ∧ Below w.heap.size w w' := by
  obtain ⟨hf1, hf2', hf3⟩ := hf l (List.mem_of_getElem? hl)
  have hn' := hn
  unfold maxLen at hn' hf1 hf2' hf3
  have HF := Lib.hid hf
  have H := Lib.hid h
  obtain ⟨b, off, rfl, hlo, hb, c0, c1, c2, c3, c4, c5, c6, c7, hok⟩ := rdN_at h hl
  clear h hf hl hok
  rw [hk] at c0
  have HK := Lib.hid hk
  clear hk
  go_enter Try.func61, Try.ntmps61
  go_wp2_with (first
      | (go_at_call 73; refine (kidz_any _ _ ls _ lo a _ (H.out.alloc _) hn HF.out ha (by omega) (by omega)).mono ?_; rintro e w1 ⟨rfl, rfl⟩)
      | (go_at_call 96; refine (expr_any _ _).mono ?_; rintro e w1 ⟨rfl, rfl⟩)
      | (go_at_call 30; refine (stat_any _ _).mono ?_; rintro e w1 ⟨rfl, rfl⟩)
      | (go_at_call 76; refine (tgt_any _ _).mono ?_; rintro e w1 ⟨rfl, rfl⟩)
      | (go_at_call 77; refine (many_any _ _).mono ?_; rintro e w1 ⟨rfl, rfl⟩)
      | (go_at_call 75; refine (exprsz_any _ _ ls _ lo a _ _ (H.out.alloc _) hn HF.out ha (by omega) (by omega) (by omega)).mono ?_; rintro e w1 ⟨rfl, rfl⟩)
      | (go_at_call 74; refine (bareN_any _ _ _ _ _ _ _ _ _ _ _ _ _ _ _ _ _ _ (by first | omega | simp) w (by (repeat (first | with_reducible assumption | with_reducible exact Below.refl _ _ | with_reducible refine Below.drew ?_ | with_reducible refine bl_drewN _ ?_ | ((with_reducible refine bl_alloc ?_ _ ?_); · (first | omega | (simp; done) | (simp; omega))) | ((with_reducible refine bl_set ?_ _ ?_); · (first | omega | (simp; done) | (simp; omega))))))).mono ?_; rintro e w2 ⟨rfl, hb2, HB2⟩; obtain ⟨hc2, hf2⟩ := bcell hb2; have hz2 : w.heap.size < w2.heap.size := (by have := hb2.size; simp at this; omega)))
  all_goals go_ret
  all_goals refine ⟨?_, by first | exact HB2 | exact below_new _ _⟩
  all_goals (first | (clear hc2 hf2 hb2 HB2) | skip)
  all_goals (first | (have hkl : l.nd.kids.length % 2 = 0 := by omega) | skip)
  all_goals (first | (have hk2 : 2 ≤ l.nd.kids.length := by omega) | skip)
  all_goals (try simp_all [ok35, bareB])
  all_goals (try (intros; first | omega | (exfalso; omega)))
set_option maxRecDepth 100000 in
set_option maxHeartbeats 2000000 in
theorem sex36_any (A : Option Addr) (c : Nat) (ls : List LN) (l : LN) (w : World) (lo : Nat) (a : Nat) (h : RdN w lo A ls) (hn : ls.length ≤ maxLen) (hf : ∀ l ∈ ls, fitN l) (ha : a < ls.length) (hl : ls[a]? = some l) (hk : l.nd.kind = 36) :
    Calls Try.prog 61 #[.slice A ls.length c, .int .i64 a] w fun e w' => e = .returned (.bool (ok26 (ls.map LN.nd) a l.nd)) ∧ Below w.heap.size w w' := by
  obtain ⟨hf1, hf2', hf3⟩ := hf l (List.mem_of_getElem? hl)
  have hn' := hn
  unfold maxLen at hn' hf1 hf2' hf3
  have HF := Lib.hid hf
  have H := Lib.hid h
  obtain ⟨b, off, rfl, hlo, hb, c0, c1, c2, c3, c4, c5, c6, c7, hok⟩ := rdN_at h hl
  clear h hf hl hok
  rw [hk] at c0
  have HK := Lib.hid hk
  clear hk
  go_enter Try.func61, Try.ntmps61
  go_wp2_with (first
      | (go_at_call 73; refine (kidz_any _ _ ls _ lo a _ (H.out.alloc _) hn HF.out ha (by omega) (by omega)).mono ?_; rintro e w1 ⟨rfl, rfl⟩)
      | (go_at_call 96; refine (expr_any _ _).mono ?_; rintro e w1 ⟨rfl, rfl⟩)
      | (go_at_call 30; refine (stat_any _ _).mono ?_; rintro e w1 ⟨rfl, rfl⟩)
      | (go_at_call 76; refine (tgt_any _ _).mono ?_; rintro e w1 ⟨rfl, rfl⟩)
      | (go_at_call 77; refine (many_any _ _).mono ?_; rintro e w1 ⟨rfl, rfl⟩)
      | (go_at_call 75; refine (exprsz_any _ _ ls _ lo a _ _ (H.out.alloc _) hn HF.out ha (by omega) (by omega) (by omega)).mono ?_; rintro e w1 ⟨rfl, rfl⟩)
      | (go_at_call 74; refine (bareN_any _ _ _ _ _ _ _ _ _ _ _ _ _ _ _ _ _ _ (by first | omega | simp) w (by (repeat (first | with_reducible assumption | with_reducible exact Below.refl _ _ | with_reducible refine Below.drew ?_ | with_reducible refine bl_drewN _ ?_ | ((with_reducible refine bl_alloc ?_ _ ?_); · (first | omega | (simp; done) | (simp; omega))) | ((with_reducible refine bl_set ?_ _ ?_); · (first | omega | (simp; done) | (simp; omega))))))).mono ?_; rintro e w2 ⟨rfl, hb2, HB2⟩; obtain ⟨hc2, hf2⟩ := bcell hb2; have hz2 : w.heap.size < w2.heap.size := (by have := hb2.size; simp at this; omega)))
  all_goals go_ret
  all_goals refine ⟨?_, by first | exact HB2 | exact below_new _ _⟩
  all_goals (first | (clear hc2 hf2 hb2 HB2) | skip)
  all_goals (try simp_all [ok26, bareB])
  all_goals (try (intros; first | omega | (exfalso; omega)))
set_option maxRecDepth 100000 in
set_option maxHeartbeats 2000000 in
theorem sex37_any (A : Option Addr) (c : Nat) (ls : List LN) (l : LN) (w : World) (lo : Nat) (a : Nat) (h : RdN w lo A ls) (hn : ls.length ≤ maxLen) (hf : ∀ l ∈ ls, fitN l) (ha : a < ls.length) (hl : ls[a]? = some l) (hk : l.nd.kind = 37) :
    Calls Try.prog 61 #[.slice A ls.length c, .int .i64 a] w fun e w' => e = .returned (.bool (ok20 (ls.map LN.nd) a l.nd)) ∧ Below w.heap.size w w' := by
  obtain ⟨hf1, hf2', hf3⟩ := hf l (List.mem_of_getElem? hl)
  have hn' := hn
  unfold maxLen at hn' hf1 hf2' hf3
  have HF := Lib.hid hf
  have H := Lib.hid h
  obtain ⟨b, off, rfl, hlo, hb, c0, c1, c2, c3, c4, c5, c6, c7, hok⟩ := rdN_at h hl
  clear h hf hl hok
  rw [hk] at c0
  have HK := Lib.hid hk
  clear hk
  go_enter Try.func61, Try.ntmps61
  go_wp2_with (first
      | (go_at_call 73; refine (kidz_any _ _ ls _ lo a _ (H.out.alloc _) hn HF.out ha (by omega) (by omega)).mono ?_; rintro e w1 ⟨rfl, rfl⟩)
      | (go_at_call 96; refine (expr_any _ _).mono ?_; rintro e w1 ⟨rfl, rfl⟩)
      | (go_at_call 30; refine (stat_any _ _).mono ?_; rintro e w1 ⟨rfl, rfl⟩)
      | (go_at_call 76; refine (tgt_any _ _).mono ?_; rintro e w1 ⟨rfl, rfl⟩)
      | (go_at_call 77; refine (many_any _ _).mono ?_; rintro e w1 ⟨rfl, rfl⟩)
      | (go_at_call 75; refine (exprsz_any _ _ ls _ lo a _ _ (H.out.alloc _) hn HF.out ha (by omega) (by omega) (by omega)).mono ?_; rintro e w1 ⟨rfl, rfl⟩)
      | (go_at_call 74; refine (bareN_any _ _ _ _ _ _ _ _ _ _ _ _ _ _ _ _ _ _ (by first | omega | simp) w (by (repeat (first | with_reducible assumption | with_reducible exact Below.refl _ _ | with_reducible refine Below.drew ?_ | with_reducible refine bl_drewN _ ?_ | ((with_reducible refine bl_alloc ?_ _ ?_); · (first | omega | (simp; done) | (simp; omega))) | ((with_reducible refine bl_set ?_ _ ?_); · (first | omega | (simp; done) | (simp; omega))))))).mono ?_; rintro e w2 ⟨rfl, hb2, HB2⟩; obtain ⟨hc2, hf2⟩ := bcell hb2; have hz2 : w.heap.size < w2.heap.size := (by have := hb2.size; simp at this; omega)))
  all_goals go_ret
  all_goals refine ⟨?_, by first | exact HB2 | exact below_new _ _⟩
  all_goals (first | (clear hc2 hf2 hb2 HB2) | skip)
  all_goals (try simp_all [ok20, bareB])
  all_goals (try (intros; first | omega | (exfalso; omega)))
set_option maxRecDepth 100000 in
set_option maxHeartbeats 2000000 in
theorem sex38_any (A : Option Addr) (c : Nat) (ls : List LN) (l : LN) (w : World) (lo : Nat) (a : Nat) (h : RdN w lo A ls) (hn : ls.length ≤ maxLen) (hf : ∀ l ∈ ls, fitN l) (ha : a < ls.length) (hl : ls[a]? = some l) (hk : l.nd.kind = 38) :
    Calls Try.prog 61 #[.slice A ls.length c, .int .i64 a] w fun e w' => e = .returned (.bool (ok38 (ls.map LN.nd) a l.nd)) ∧ Below w.heap.size w w' := by
  obtain ⟨hf1, hf2', hf3⟩ := hf l (List.mem_of_getElem? hl)
  have hn' := hn
  unfold maxLen at hn' hf1 hf2' hf3
  have HF := Lib.hid hf
  have H := Lib.hid h
  obtain ⟨b, off, rfl, hlo, hb, c0, c1, c2, c3, c4, c5, c6, c7, hok⟩ := rdN_at h hl
  clear h hf hl hok
  rw [hk] at c0
  have HK := Lib.hid hk
  clear hk
  go_enter Try.func61, Try.ntmps61
  go_wp2_with (first
      | (go_at_call 73; refine (kidz_any _ _ ls _ lo a _ (H.out.alloc _) hn HF.out ha (by omega) (by omega)).mono ?_; rintro e w1 ⟨rfl, rfl⟩)
      | (go_at_call 96; refine (expr_any _ _).mono ?_; rintro e w1 ⟨rfl, rfl⟩)
      | (go_at_call 30; refine (stat_any _ _).mono ?_; rintro e w1 ⟨rfl, rfl⟩)
      | (go_at_call 76; refine (tgt_any _ _).mono ?_; rintro e w1 ⟨rfl, rfl⟩)
      | (go_at_call 77; refine (many_any _ _).mono ?_; rintro e w1 ⟨rfl, rfl⟩)
      | (go_at_call 75; refine (exprsz_any _ _ ls _ lo a _ _ (H.out.alloc _) hn HF.out ha (by omega) (by omega) (by omega)).mono ?_; rintro e w1 ⟨rfl, rfl⟩)
      | (go_at_call 74; refine (bareN_any _ _ _ _ _ _ _ _ _ _ _ _ _ _ _ _ _ _ (by first | omega | simp) w (by (repeat (first | with_reducible assumption | with_reducible exact Below.refl _ _ | with_reducible refine Below.drew ?_ | with_reducible refine bl_drewN _ ?_ | ((with_reducible refine bl_alloc ?_ _ ?_); · (first | omega | (simp; done) | (simp; omega))) | ((with_reducible refine bl_set ?_ _ ?_); · (first | omega | (simp; done) | (simp; omega))))))).mono ?_; rintro e w2 ⟨rfl, hb2, HB2⟩; obtain ⟨hc2, hf2⟩ := bcell hb2; have hz2 : w.heap.size < w2.heap.size := (by have := hb2.size; simp at this; omega)))
  all_goals go_ret
  all_goals refine ⟨?_, by first | exact HB2 | exact below_new _ _⟩
  all_goals (first | (clear hc2 hf2 hb2 HB2) | skip)
  all_goals (try simp_all [ok38, bareB])
  all_goals (try (intros; first | omega | (exfalso; omega)))
set_option maxRecDepth 100000 in
set_option maxHeartbeats 2000000 in
theorem sexo_any (A : Option Addr) (c : Nat) (ls : List LN) (l : LN) (w : World) (lo : Nat) (a : Nat) (h : RdN w lo A ls) (hn : ls.length ≤ maxLen) (hf : ∀ l ∈ ls, fitN l) (ha : a < ls.length) (hl : ls[a]? = some l) (hk : isStat l.nd.kind = false) (hk2 : isExpr l.nd.kind = false) :
    Calls Try.prog 61 #[.slice A ls.length c, .int .i64 a] w fun e w' => e = .returned (.bool (false)) ∧ Below w.heap.size w w' := by
  obtain ⟨hf1, hf2', hf3⟩ := hf l (List.mem_of_getElem? hl)
  have hn' := hn
  unfold maxLen at hn' hf1 hf2' hf3
  have HF := Lib.hid hf
  have H := Lib.hid h
  obtain ⟨b, off, rfl, hlo, hb, c0, c1, c2, c3, c4, c5, c6, c7, hok⟩ := rdN_at h hl
  clear h hf hl hok
  have e20 : (l.nd.kind == 20) = false := by
    have := of_decide_eq_false hk2
    simp only [beq_eq_false_iff_ne, ne_eq]; omega
  have e21 : (l.nd.kind == 21) = false := by
    have := of_decide_eq_false hk2
    simp only [beq_eq_false_iff_ne, ne_eq]; omega
  have e22 : (l.nd.kind == 22) = false := by
    have := of_decide_eq_false hk2
    simp only [beq_eq_false_iff_ne, ne_eq]; omega
  have e23 : (l.nd.kind == 23) = false := by
    have := of_decide_eq_false hk2
    simp only [beq_eq_false_iff_ne, ne_eq]; omega
  have e24 : (l.nd.kind == 24) = false := by
    have := of_decide_eq_false hk2
    simp only [beq_eq_false_iff_ne, ne_eq]; omega
  have e25 : (l.nd.kind == 25) = false := by
    have := of_decide_eq_false hk2
    simp only [beq_eq_false_iff_ne, ne_eq]; omega
  have e26 : (l.nd.kind == 26) = false := by
    have := of_decide_eq_false hk2
    simp only [beq_eq_false_iff_ne, ne_eq]; omega
  have e27 : (l.nd.kind == 27) = false := by
    have := of_decide_eq_false hk2
    simp only [beq_eq_false_iff_ne, ne_eq]; omega
  have e28 : (l.nd.kind == 28) = false := by
    have := of_decide_eq_false hk2
    simp only [beq_eq_false_iff_ne, ne_eq]; omega
  have e29 : (l.nd.kind == 29) = false := by
    have := of_decide_eq_false hk2
    simp only [beq_eq_false_iff_ne, ne_eq]; omega
  have e30 : (l.nd.kind == 30) = false := by
    have := of_decide_eq_false hk2
    simp only [beq_eq_false_iff_ne, ne_eq]; omega
  have e31 : (l.nd.kind == 31) = false := by
    have := of_decide_eq_false hk2
    simp only [beq_eq_false_iff_ne, ne_eq]; omega
  have e32 : (l.nd.kind == 32) = false := by
    have := of_decide_eq_false hk2
    simp only [beq_eq_false_iff_ne, ne_eq]; omega
  have e33 : (l.nd.kind == 33) = false := by
    have := of_decide_eq_false hk2
    simp only [beq_eq_false_iff_ne, ne_eq]; omega
  have e34 : (l.nd.kind == 34) = false := by
    have := of_decide_eq_false hk2
    simp only [beq_eq_false_iff_ne, ne_eq]; omega
  have e35 : (l.nd.kind == 35) = false := by
    have := of_decide_eq_false hk2
    simp only [beq_eq_false_iff_ne, ne_eq]; omega
  have e36 : (l.nd.kind == 36) = false := by
    have := of_decide_eq_false hk2
    simp only [beq_eq_false_iff_ne, ne_eq]; omega
  have e37 : (l.nd.kind == 37) = false := by
    have := of_decide_eq_false hk2
    simp only [beq_eq_false_iff_ne, ne_eq]; omega
  have e38 : (l.nd.kind == 38) = false := by
    have := of_decide_eq_false hk2
    simp only [beq_eq_false_iff_ne, ne_eq]; omega
  clear hk hk2
  go_enter Try.func61, Try.ntmps61
  go_wp2_with (first
      | (go_at_call 73; refine (kidz_any _ _ ls _ lo a _ (H.out.alloc _) hn HF.out ha (by omega) (by omega)).mono ?_; rintro e w1 ⟨rfl, rfl⟩)
      | (go_at_call 96; refine (expr_any _ _).mono ?_; rintro e w1 ⟨rfl, rfl⟩)
      | (go_at_call 30; refine (stat_any _ _).mono ?_; rintro e w1 ⟨rfl, rfl⟩)
      | (go_at_call 76; refine (tgt_any _ _).mono ?_; rintro e w1 ⟨rfl, rfl⟩)
      | (go_at_call 77; refine (many_any _ _).mono ?_; rintro e w1 ⟨rfl, rfl⟩)
      | (go_at_call 75; refine (exprsz_any _ _ ls _ lo a _ _ (H.out.alloc _) hn HF.out ha (by omega) (by omega) (by omega)).mono ?_; rintro e w1 ⟨rfl, rfl⟩)
      | (go_at_call 74; refine (bareN_any _ _ _ _ _ _ _ _ _ _ _ _ _ _ _ _ _ _ (by first | omega | simp) w (by (repeat (first | with_reducible assumption | with_reducible exact Below.refl _ _ | with_reducible refine Below.drew ?_ | with_reducible refine bl_drewN _ ?_ | ((with_reducible refine bl_alloc ?_ _ ?_); · (first | omega | (simp; done) | (simp; omega))) | ((with_reducible refine bl_set ?_ _ ?_); · (first | omega | (simp; done) | (simp; omega))))))).mono ?_; rintro e w2 ⟨rfl, hb2, HB2⟩; obtain ⟨hc2, hf2⟩ := bcell hb2; have hz2 : w.heap.size < w2.heap.size := (by have := hb2.size; simp at this; omega)))
  all_goals go_ret
  all_goals exact ⟨rfl, below_new _ _⟩
theorem sex_any (A : Option Addr) (c : Nat) (ls : List LN) (l : LN) (w : World) (lo : Nat) (a : Nat) (h : RdN w lo A ls) (hn : ls.length ≤ maxLen) (hf : ∀ l ∈ ls, fitN l) (ha : a < ls.length) (hl : ls[a]? = some l) (hs : isStat l.nd.kind = false) :
    Calls Try.prog 61 #[.slice A ls.length c, .int .i64 a] w fun e w' => e = .returned (.bool (okB (ls.map LN.nd) a l.nd)) ∧ Below w.heap.size w w' := by
  cases hk : isExpr l.nd.kind
  · rw [okB_odd _ _ _ hs hk]
    exact sexo_any A c ls l w lo a h hn hf ha hl hs hk
  have hk' : 20 ≤ l.nd.kind ∧ l.nd.kind ≤ 38 := of_decide_eq_true hk
  rcases (show l.nd.kind = 20 ∨ l.nd.kind = 21 ∨ l.nd.kind = 22 ∨ l.nd.kind = 23 ∨ l.nd.kind = 24 ∨ l.nd.kind = 25 ∨ l.nd.kind = 26 ∨ l.nd.kind = 27 ∨ l.nd.kind = 28 ∨ l.nd.kind = 29 ∨ l.nd.kind = 30 ∨ l.nd.kind = 31 ∨ l.nd.kind = 32 ∨ l.nd.kind = 33 ∨ l.nd.kind = 34 ∨ l.nd.kind = 35 ∨ l.nd.kind = 36 ∨ l.nd.kind = 37 ∨ l.nd.kind = 38 by omega) with e | e | e | e | e | e | e | e | e | e | e | e | e | e | e | e | e | e | e
  · rw [okB_20 _ _ _ e]; exact sex20_any A c ls l w lo a h hn hf ha hl e
  · rw [okB_21 _ _ _ e]; exact sex21_any A c ls l w lo a h hn hf ha hl e
  · rw [okB_22 _ _ _ e]; exact sex22_any A c ls l w lo a h hn hf ha hl e
  · rw [okB_23 _ _ _ e]; exact sex23_any A c ls l w lo a h hn hf ha hl e
  · rw [okB_24 _ _ _ e]; exact sex24_any A c ls l w lo a h hn hf ha hl e
  · rw [okB_25 _ _ _ e]; exact sex25_any A c ls l w lo a h hn hf ha hl e
  · rw [okB_26 _ _ _ e]; exact sex26_any A c ls l w lo a h hn hf ha hl e
  · rw [okB_27 _ _ _ e]; exact sex27_any A c ls l w lo a h hn hf ha hl e
  · rw [okB_28 _ _ _ e]; exact sex28_any A c ls l w lo a h hn hf ha hl e
  · rw [okB_29 _ _ _ e]; exact sex29_any A c ls l w lo a h hn hf ha hl e
  · rw [okB_30 _ _ _ e]; exact sex30_any A c ls l w lo a h hn hf ha hl e
  · rw [okB_31 _ _ _ e]; exact sex31_any A c ls l w lo a h hn hf ha hl e
  · rw [okB_32 _ _ _ e]; exact sex32_any A c ls l w lo a h hn hf ha hl e
  · rw [okB_33 _ _ _ e]; exact sex33_any A c ls l w lo a h hn hf ha hl e
  · rw [okB_34 _ _ _ e]; exact sex34_any A c ls l w lo a h hn hf ha hl e
  · rw [okB_35 _ _ _ e]; exact sex35_any A c ls l w lo a h hn hf ha hl e
  · rw [okB_36 _ _ _ e]; exact sex36_any A c ls l w lo a h hn hf ha hl e
  · rw [okB_37 _ _ _ e]; exact sex37_any A c ls l w lo a h hn hf ha hl e
  · rw [okB_38 _ _ _ e]; exact sex38_any A c ls l w lo a h hn hf ha hl e
end Go.Proofs.Ytcpjplkbmflglaa
