/- Text of both sides comes to the same plain function. -/
import Derived.Test.YtchlolfdinakiaaDoorD5
import Derived.Test.YtchlolfdinakiaaDoorB0
import Derived.Laws.Tables
import Derived.Carry
import Derived.MapKept
namespace Go.Proofs.YtchlolfdinakiaaDoor
open Go.RowKit
attribute [local go_sem] run_store_float

def vText (k n : Int) (f : Nat) (s : ByteArray) (r : Int) (t : ByteArray) : ByteArray :=
  if vOk k n f s r = false then ⟨#[]⟩
  else if k = 0 then ⟨#[110, 105, 108]⟩
  else if k = 1 then (if n = 1 then ⟨#[116, 114, 117, 101]⟩ else ⟨#[102, 97, 108, 115, 101]⟩)
  else if k = 2 then ⟨(Lib.itoa n).toArray⟩
  else if k = 3 then t
  else if k = 4 then s
  else if k = 5 then ⟨#[116, 97, 98, 108, 101]⟩
  else if k = 6 then ⟨#[102, 110]⟩
  else if k = 7 then ⟨#[116, 97, 115, 107]⟩
  else ⟨#[98, 117, 105, 108, 116, 105, 110]⟩
theorem vok_kind {k n r : Int} {f : Nat} {s : ByteArray} (h : vOk k n f s r = true) : 0 ≤ k ∧ k ≤ 8 ∧ (k = 1 → n = 0 ∨ n = 1) := by
  unfold vOk at h
  split at h
  · omega
  · split at h
    · simp at h; omega
    · refine ⟨?_, ?_, ?_⟩ <;> (repeat' split at h) <;> (try simp at h) <;> omega
theorem tab_on {w w1 : World} (hT : Tab w) (hb : Below w.heap.size w w1) : Tab w1 := fun w' h' => Lib.TabBelow.on hT hb w' (h'.mono hb.size)
/-- Only block g has turned. -/
structure Only (g : Nat) (w w' : World) : Prop where
  os : w'.os = w.os
  tape : w'.tape = w.tape
  output : w'.output = w.output
  size : w'.heap.size = w.heap.size
  block : ∀ k, k ≠ g → w'.heap[k]? = w.heap[k]?
theorem Only.below {g B : Nat} {w w' : World} (h : Only g w w') (hB : B ≤ g) : Below B w w' := ⟨h.os, h.tape, h.output, Nat.le_of_eq h.size.symm, fun k hk => h.block k (by omega)⟩
theorem ins53 {w : World} {es : Array MapEntry} {clock r : Nat} (hb : w.heap[r]? = some (.map es clock)) (x : Int) (v : Value) (hf : Instr.findNow (.int .i64) (.int .i64 x) es.toList 0 = some none) :
    ∃ w', (Instr.mapUpdate 53 (.map (some r)) (.int .i64 x) v).run Tryd.prog w = .ok () w' ∧ w'.heap[r]? = some (.map (es.push { key := .int .i64 x, val := v, born := clock }) (clock + 1)) ∧ Only r w w' := by
  have hlt : r < w.heap.size := (Array.getElem?_eq_some_iff.1 hb).1
  have hc : (Instr.checkKey false 10000 3 (.int .i64 x)).run Tryd.prog w = .ok () w := MapKept.run_checkKey (k := .int .i64 x) Tryd.underlying3 (by simp [MapKept.IsKey]) false 9999
  refine ⟨{ w with heap := w.heap.setIfInBounds r (.map (es.push { key := .int .i64 x, val := v, born := clock }) (clock + 1)) }, ?_, Array.getElem?_setIfInBounds_self_of_lt hlt, rfl, rfl, rfl, by simp, fun k hk => Array.getElem?_setIfInBounds_ne (Ne.symm hk)⟩
  simp [Instr.mapUpdate, run_underlying Tryd.underlying53, MapKept.run_getObj_map hb, hc, MapKept.run_findKey Tryd.underlying3 hf, MapKept.run_setObj_map _ hb, Result.andThen]
theorem look53 {w : World} {es : Array MapEntry} {clock r : Nat} (hb : w.heap[r]? = some (.map es clock)) (x : Int) (i : Nat) (v : Value) (hf : Instr.findNow (.int .i64) (.int .i64 x) es.toList 0 = some (some (i, v))) :
    (Instr.lookup 53 (.map (some r)) (.int .i64 x) false).run Tryd.prog w = .ok v w := by
  have hc : ∀ e, (Instr.checkKey e 10000 3 (.int .i64 x)).run Tryd.prog w = .ok () w := fun e => MapKept.run_checkKey (k := .int .i64 x) Tryd.underlying3 (by simp [MapKept.IsKey]) e 9999
  simp [Instr.lookup, run_underlying Tryd.underlying53, MapKept.run_getObj_map hb, hc, MapKept.run_findKey Tryd.underlying3 hf, Result.andThen]
theorem mk4 (w : World) : ∃ W1 W2 W3 W4 : World, (Instr.mapUpdate 53 (.map (some w.heap.size)) (.int .i64 5) (.string ⟨#[116, 97, 98, 108, 101]⟩)).run Tryd.prog (w.alloc (.map #[] 0)) = .ok () W1 ∧
    (Instr.mapUpdate 53 (.map (some w.heap.size)) (.int .i64 6) (.string ⟨#[102, 110]⟩)).run Tryd.prog W1 = .ok () W2 ∧
    (Instr.mapUpdate 53 (.map (some w.heap.size)) (.int .i64 7) (.string ⟨#[116, 97, 115, 107]⟩)).run Tryd.prog W2 = .ok () W3 ∧
    (Instr.mapUpdate 53 (.map (some w.heap.size)) (.int .i64 8) (.string ⟨#[98, 117, 105, 108, 116, 105, 110]⟩)).run Tryd.prog W3 = .ok () W4 ∧ Below w.heap.size w W4 ∧
    (Instr.lookup 53 (.map (some w.heap.size)) (.int .i64 5) false).run Tryd.prog W4 = .ok (.string ⟨#[116, 97, 98, 108, 101]⟩) W4 ∧
    (Instr.lookup 53 (.map (some w.heap.size)) (.int .i64 6) false).run Tryd.prog W4 = .ok (.string ⟨#[102, 110]⟩) W4 ∧
    (Instr.lookup 53 (.map (some w.heap.size)) (.int .i64 7) false).run Tryd.prog W4 = .ok (.string ⟨#[116, 97, 115, 107]⟩) W4 ∧
    (Instr.lookup 53 (.map (some w.heap.size)) (.int .i64 8) false).run Tryd.prog W4 = .ok (.string ⟨#[98, 117, 105, 108, 116, 105, 110]⟩) W4 := by
  have h0 : (w.alloc (.map #[] 0)).heap[w.heap.size]? = some (.map #[] 0) := by show (w.heap.push _)[w.heap.size]? = _; simp
  obtain ⟨W1, e1, b1, o1⟩ := ins53 h0 5 (.string ⟨#[116, 97, 98, 108, 101]⟩) rfl
  obtain ⟨W2, e2, b2, o2⟩ := ins53 b1 6 (.string ⟨#[102, 110]⟩) rfl
  obtain ⟨W3, e3, b3, o3⟩ := ins53 b2 7 (.string ⟨#[116, 97, 115, 107]⟩) rfl
  obtain ⟨W4, e4, b4, o4⟩ := ins53 b3 8 (.string ⟨#[98, 117, 105, 108, 116, 105, 110]⟩) rfl
  refine ⟨W1, W2, W3, W4, e1, e2, e3, e4, ?_, look53 b4 5 0 _ rfl, look53 b4 6 1 _ rfl, look53 b4 7 2 _ rfl, look53 b4 8 3 _ rfl⟩
  exact ((((below_new w _).trans (o1.below (Nat.le_refl _))).trans (o2.below (Nat.le_refl _))).trans (o3.below (Nat.le_refl _))).trans (o4.below (Nat.le_refl _))
set_option maxRecDepth 100000 in
theorem stext_bad (k n r : Int) (f : Nat) (s : ByteArray) (hv : vOk k n f s r = false) (w : World) :
    Calls Tryd.prog 7 #[.agg #[.int .i64 k, .int .i64 n, .float .f64 f, .string s, .int .i64 r]] w fun e w' => e = .returned (.string ⟨#[]⟩) ∧ Below w.heap.size w w' := by
  go_enter Tryd.func7, Tryd.ntmps7
  go_wp2_with (go_at_call 23; refine (svok_any _ _ _ _ _ _).mono ?_; rintro e w1 ⟨rfl, hb1⟩; obtain ⟨hc1, hf1⟩ := bcell hb1; have hz := size_then hb1; have HB := below_then hb1; clear hb1)
  go_ret
  exact ⟨rfl, HB⟩

set_option maxRecDepth 100000 in
theorem stext_0 (n r : Int) (f : Nat) (s : ByteArray) (hv : vOk 0 n f s r = true) (w : World) :
    Calls Tryd.prog 7 #[.agg #[.int .i64 0, .int .i64 n, .float .f64 f, .string s, .int .i64 r]] w fun e w' => e = .returned (.string ⟨#[110, 105, 108]⟩) ∧ Below w.heap.size w w' := by
  go_enter Tryd.func7, Tryd.ntmps7
  go_wp2_with (first
    | (go_at_call 23; refine (svok_any _ _ _ _ _ _).mono ?_; rintro e w1 ⟨rfl, hb1⟩; obtain ⟨hc1, hf1⟩ := bcell hb1; have hz := size_then hb1; have HB := below_then hb1; clear hb1))
  go_ret
  exact ⟨rfl, HB⟩

set_option maxRecDepth 100000 in
theorem stext_10 (r : Int) (f : Nat) (s : ByteArray) (hv : vOk 1 0 f s r = true) (w : World) :
    Calls Tryd.prog 7 #[.agg #[.int .i64 1, .int .i64 0, .float .f64 f, .string s, .int .i64 r]] w fun e w' => e = .returned (.string ⟨#[102, 97, 108, 115, 101]⟩) ∧ Below w.heap.size w w' := by
  go_enter Tryd.func7, Tryd.ntmps7
  go_wp2_with (first
    | (go_at_call 23; refine (svok_any _ _ _ _ _ _).mono ?_; rintro e w1 ⟨rfl, hb1⟩; obtain ⟨hc1, hf1⟩ := bcell hb1; have hz := size_then hb1; have HB := below_then hb1; clear hb1))
  go_ret
  exact ⟨rfl, HB⟩

set_option maxRecDepth 100000 in
theorem stext_11 (r : Int) (f : Nat) (s : ByteArray) (hv : vOk 1 1 f s r = true) (w : World) :
    Calls Tryd.prog 7 #[.agg #[.int .i64 1, .int .i64 1, .float .f64 f, .string s, .int .i64 r]] w fun e w' => e = .returned (.string ⟨#[116, 114, 117, 101]⟩) ∧ Below w.heap.size w w' := by
  go_enter Tryd.func7, Tryd.ntmps7
  go_wp2_with (first
    | (go_at_call 23; refine (svok_any _ _ _ _ _ _).mono ?_; rintro e w1 ⟨rfl, hb1⟩; obtain ⟨hc1, hf1⟩ := bcell hb1; have hz := size_then hb1; have HB := below_then hb1; clear hb1))
  go_ret
  exact ⟨rfl, HB⟩

set_option maxRecDepth 100000 in
theorem stext_2 (n r : Int) (f : Nat) (s : ByteArray) (h0 : -9223372036854775808 ≤ n) (h1 : n ≤ 9223372036854775807) (hv : vOk 2 n f s r = true) (w : World) :
    Calls Tryd.prog 7 #[.agg #[.int .i64 2, .int .i64 n, .float .f64 f, .string s, .int .i64 r]] w fun e w' => e = .returned (.string ⟨(Lib.itoa n).toArray⟩) ∧ Below w.heap.size w w' := by
  go_enter Tryd.func7, Tryd.ntmps7
  go_wp2_with (first
    | (go_at_call 23; refine (svok_any _ _ _ _ _ _).mono ?_; rintro e w1 ⟨rfl, hb1⟩; obtain ⟨hc1, hf1⟩ := bcell hb1; have hz := size_then hb1; have HB := below_then hb1; clear hb1)
    | (go_at_call 24; refine (dec_any n h0 h1 _).mono ?_; rintro e w2 ⟨rfl, hb2⟩; replace HB := HB.trans (hb2.mono (by omega))))
  go_ret
  exact ⟨rfl, HB⟩

set_option maxRecDepth 100000 in
theorem stext_3 (n r : Int) (f : Nat) (s : ByteArray) (t : ByteArray) (hS : ∀ w, Calls Tryd.prog 25 #[.float .f64 f] w fun e w' => e = .returned (.string t) ∧ Below w.heap.size w w') (hv : vOk 3 n f s r = true) (w : World) :
    Calls Tryd.prog 7 #[.agg #[.int .i64 3, .int .i64 n, .float .f64 f, .string s, .int .i64 r]] w fun e w' => e = .returned (.string t) ∧ Below w.heap.size w w' := by
  go_enter Tryd.func7, Tryd.ntmps7
  go_wp2_with (first
    | (go_at_call 23; refine (svok_any _ _ _ _ _ _).mono ?_; rintro e w1 ⟨rfl, hb1⟩; obtain ⟨hc1, hf1⟩ := bcell hb1; have hz := size_then hb1; have HB := below_then hb1; clear hb1)
    | (go_at_call 25; refine (hS _).mono ?_; rintro e w2 ⟨rfl, hb2⟩; replace HB := HB.trans (hb2.mono (by omega))))
  go_ret
  exact ⟨rfl, HB⟩

set_option maxRecDepth 100000 in
theorem stext_4 (n r : Int) (f : Nat) (s : ByteArray) (hv : vOk 4 n f s r = true) (w : World) :
    Calls Tryd.prog 7 #[.agg #[.int .i64 4, .int .i64 n, .float .f64 f, .string s, .int .i64 r]] w fun e w' => e = .returned (.string s) ∧ Below w.heap.size w w' := by
  go_enter Tryd.func7, Tryd.ntmps7
  go_wp2_with (first
    | (go_at_call 23; refine (svok_any _ _ _ _ _ _).mono ?_; rintro e w1 ⟨rfl, hb1⟩; obtain ⟨hc1, hf1⟩ := bcell hb1; have hz := size_then hb1; have HB := below_then hb1; clear hb1))
  go_ret
  exact ⟨rfl, HB⟩

set_option maxRecDepth 100000 in
theorem stext_5 (n r : Int) (f : Nat) (s : ByteArray) (hv : vOk 5 n f s r = true) (w : World) :
    Calls Tryd.prog 7 #[.agg #[.int .i64 5, .int .i64 n, .float .f64 f, .string s, .int .i64 r]] w fun e w' => e = .returned (.string ⟨#[116, 97, 98, 108, 101]⟩) ∧ Below w.heap.size w w' := by
  go_enter Tryd.func7, Tryd.ntmps7
  go_wp2_with (first
    | (go_at_call 23; refine (svok_any _ _ _ _ _ _).mono ?_; rintro e w1 ⟨rfl, hb1⟩; obtain ⟨hc1, hf1⟩ := bcell hb1; have hz := size_then hb1; have HB := below_then hb1; clear hb1))
  go_ret
  exact ⟨rfl, HB⟩

set_option maxRecDepth 100000 in
theorem stext_6 (n r : Int) (f : Nat) (s : ByteArray) (hv : vOk 6 n f s r = true) (w : World) :
    Calls Tryd.prog 7 #[.agg #[.int .i64 6, .int .i64 n, .float .f64 f, .string s, .int .i64 r]] w fun e w' => e = .returned (.string ⟨#[102, 110]⟩) ∧ Below w.heap.size w w' := by
  go_enter Tryd.func7, Tryd.ntmps7
  go_wp2_with (first
    | (go_at_call 23; refine (svok_any _ _ _ _ _ _).mono ?_; rintro e w1 ⟨rfl, hb1⟩; obtain ⟨hc1, hf1⟩ := bcell hb1; have hz := size_then hb1; have HB := below_then hb1; clear hb1))
  go_ret
  exact ⟨rfl, HB⟩

set_option maxRecDepth 100000 in
theorem stext_7 (n r : Int) (f : Nat) (s : ByteArray) (hv : vOk 7 n f s r = true) (w : World) :
    Calls Tryd.prog 7 #[.agg #[.int .i64 7, .int .i64 n, .float .f64 f, .string s, .int .i64 r]] w fun e w' => e = .returned (.string ⟨#[116, 97, 115, 107]⟩) ∧ Below w.heap.size w w' := by
  go_enter Tryd.func7, Tryd.ntmps7
  go_wp2_with (first
    | (go_at_call 23; refine (svok_any _ _ _ _ _ _).mono ?_; rintro e w1 ⟨rfl, hb1⟩; obtain ⟨hc1, hf1⟩ := bcell hb1; have hz := size_then hb1; have HB := below_then hb1; clear hb1))
  go_ret
  exact ⟨rfl, HB⟩

set_option maxRecDepth 100000 in
theorem stext_8 (n r : Int) (f : Nat) (s : ByteArray) (hv : vOk 8 n f s r = true) (w : World) :
    Calls Tryd.prog 7 #[.agg #[.int .i64 8, .int .i64 n, .float .f64 f, .string s, .int .i64 r]] w fun e w' => e = .returned (.string ⟨#[98, 117, 105, 108, 116, 105, 110]⟩) ∧ Below w.heap.size w w' := by
  go_enter Tryd.func7, Tryd.ntmps7
  go_wp2_with (first
    | (go_at_call 23; refine (svok_any _ _ _ _ _ _).mono ?_; rintro e w1 ⟨rfl, hb1⟩; obtain ⟨hc1, hf1⟩ := bcell hb1; have hz := size_then hb1; have HB := below_then hb1; clear hb1))
  go_ret
  exact ⟨rfl, HB⟩

set_option maxRecDepth 100000 in
theorem itext_bad (k n r : Int) (f : Nat) (s : ByteArray) (hv : vOk k n f s r = false) (w : World) :
    Calls Tryd.prog 9 #[.agg #[.int .i64 k, .int .i64 n, .float .f64 f, .string s, .int .i64 r]] w fun e w' => e = .returned (.string ⟨#[]⟩) ∧ Below w.heap.size w w' := by
  go_enter Tryd.func9, Tryd.ntmps9
  go_wp2_with (go_at_call 26; refine (ivok_any _ _ _ _ _ _).mono ?_; rintro e w1 ⟨rfl, hb1⟩; obtain ⟨hc1, hf1⟩ := bcell hb1; have hz := size_then hb1; have HB := below_then hb1; clear hb1)
  go_ret
  exact ⟨rfl, HB⟩

set_option maxRecDepth 100000 in
theorem itext_0 (n r : Int) (f : Nat) (s : ByteArray) (hv : vOk 0 n f s r = true) (w : World) :
    Calls Tryd.prog 9 #[.agg #[.int .i64 0, .int .i64 n, .float .f64 f, .string s, .int .i64 r]] w fun e w' => e = .returned (.string ⟨#[110, 105, 108]⟩) ∧ Below w.heap.size w w' := by
  go_enter Tryd.func9, Tryd.ntmps9
  go_wp2_with (first
    | (go_at_call 26; refine (ivok_any _ _ _ _ _ _).mono ?_; rintro e w1 ⟨rfl, hb1⟩; obtain ⟨hc1, hf1⟩ := bcell hb1; have hz := size_then hb1; have HB := below_then hb1; clear hb1))
  go_ret
  exact ⟨rfl, HB⟩

set_option maxRecDepth 100000 in
theorem itext_10 (r : Int) (f : Nat) (s : ByteArray) (hv : vOk 1 0 f s r = true) (w : World) :
    Calls Tryd.prog 9 #[.agg #[.int .i64 1, .int .i64 0, .float .f64 f, .string s, .int .i64 r]] w fun e w' => e = .returned (.string ⟨#[102, 97, 108, 115, 101]⟩) ∧ Below w.heap.size w w' := by
  go_enter Tryd.func9, Tryd.ntmps9
  go_wp2_with (first
    | (go_at_call 26; refine (ivok_any _ _ _ _ _ _).mono ?_; rintro e w1 ⟨rfl, hb1⟩; obtain ⟨hc1, hf1⟩ := bcell hb1; have hz := size_then hb1; have HB := below_then hb1; clear hb1))
  go_ret
  exact ⟨rfl, HB.alloc HB.size _⟩

set_option maxRecDepth 100000 in
theorem itext_11 (r : Int) (f : Nat) (s : ByteArray) (hv : vOk 1 1 f s r = true) (w : World) :
    Calls Tryd.prog 9 #[.agg #[.int .i64 1, .int .i64 1, .float .f64 f, .string s, .int .i64 r]] w fun e w' => e = .returned (.string ⟨#[116, 114, 117, 101]⟩) ∧ Below w.heap.size w w' := by
  go_enter Tryd.func9, Tryd.ntmps9
  go_wp2_with (first
    | (go_at_call 26; refine (ivok_any _ _ _ _ _ _).mono ?_; rintro e w1 ⟨rfl, hb1⟩; obtain ⟨hc1, hf1⟩ := bcell hb1; have hz := size_then hb1; have HB := below_then hb1; clear hb1))
  go_ret
  exact ⟨rfl, HB.alloc HB.size _⟩

set_option maxRecDepth 100000 in
theorem itext_2 (n r : Int) (f : Nat) (s : ByteArray) (h0 : -9223372036854775808 ≤ n) (h1 : n ≤ 9223372036854775807) (hv : vOk 2 n f s r = true) (w : World) (hT : Tab w) :
    Calls Tryd.prog 9 #[.agg #[.int .i64 2, .int .i64 n, .float .f64 f, .string s, .int .i64 r]] w fun e w' => e = .returned (.string ⟨(Lib.itoa n).toArray⟩) ∧ Below w.heap.size w w' := by
  go_enter Tryd.func9, Tryd.ntmps9
  go_wp2_with (first
    | (go_at_call 26; refine (ivok_any _ _ _ _ _ _).mono ?_; rintro e w1 ⟨rfl, hb1⟩; obtain ⟨hc1, hf1⟩ := bcell hb1; have hz := size_then hb1; have HB := below_then hb1; clear hb1)
    | (go_at_call 27; refine (Tryd.strconv_FormatInt_10 n h0 h1 _ (Lib.TabBelow.here (Lib.TabBelow.on hT HB))).mono ?_; rintro e w2 ⟨rfl, kk, os, hw⟩; replace HB : Below w.heap.size w w2 := (by rw [hw]; exact HB.trans (Lib.below_grow w.heap.size w1 HB.size kk os)); clear hw))
  go_ret
  exact ⟨rfl, HB⟩

set_option maxRecDepth 100000 in
theorem itext_3 (n r : Int) (f : Nat) (s : ByteArray) (t : ByteArray) (hI : ∀ w, Tab w → Calls Tryd.prog 28 #[.float .f64 f] w fun e w' => e = .returned (.string t) ∧ Below w.heap.size w w') (hv : vOk 3 n f s r = true) (w : World) (hT : Tab w) :
    Calls Tryd.prog 9 #[.agg #[.int .i64 3, .int .i64 n, .float .f64 f, .string s, .int .i64 r]] w fun e w' => e = .returned (.string t) ∧ Below w.heap.size w w' := by
  go_enter Tryd.func9, Tryd.ntmps9
  go_wp2_with (first
    | (go_at_call 26; refine (ivok_any _ _ _ _ _ _).mono ?_; rintro e w1 ⟨rfl, hb1⟩; obtain ⟨hc1, hf1⟩ := bcell hb1; have hz := size_then hb1; have HB := below_then hb1; clear hb1)
    | (go_at_call 28; refine (hI _ (tab_on hT HB)).mono ?_; rintro e w2 ⟨rfl, hb2⟩; replace HB := HB.trans (hb2.mono (by omega))))
  go_ret
  exact ⟨rfl, HB⟩

set_option maxRecDepth 100000 in
theorem itext_4 (n r : Int) (f : Nat) (s : ByteArray) (hv : vOk 4 n f s r = true) (w : World) :
    Calls Tryd.prog 9 #[.agg #[.int .i64 4, .int .i64 n, .float .f64 f, .string s, .int .i64 r]] w fun e w' => e = .returned (.string s) ∧ Below w.heap.size w w' := by
  go_enter Tryd.func9, Tryd.ntmps9
  go_wp2_with (first
    | (go_at_call 26; refine (ivok_any _ _ _ _ _ _).mono ?_; rintro e w1 ⟨rfl, hb1⟩; obtain ⟨hc1, hf1⟩ := bcell hb1; have hz := size_then hb1; have HB := below_then hb1; clear hb1))
  go_ret
  exact ⟨rfl, HB⟩

set_option maxRecDepth 100000 in
theorem itext_5 (n r : Int) (f : Nat) (s : ByteArray) (hv : vOk 5 n f s r = true) (w : World) :
    Calls Tryd.prog 9 #[.agg #[.int .i64 5, .int .i64 n, .float .f64 f, .string s, .int .i64 r]] w fun e w' => e = .returned (.string ⟨#[116, 97, 98, 108, 101]⟩) ∧ Below w.heap.size w w' := by
  go_enter Tryd.func9, Tryd.ntmps9
  go_wp2_with (first
    | (go_at_call 26; refine (ivok_any _ _ _ _ _ _).mono ?_; rintro e w1 ⟨rfl, hb1⟩; obtain ⟨hc1, hf1⟩ := bcell hb1; have hz := size_then hb1; have HB := below_then hb1; clear hb1; have hmm := @run_makeMap Tryd.prog; obtain ⟨W1, W2, W3, W4, i5, i6, i7, i8, bW, l5, l6, l7, l8⟩ := mk4 w1; obtain ⟨hcW, hfW⟩ := bcell bW))
  go_ret
  exact ⟨rfl, HB.trans (bW.mono HB.size)⟩

set_option maxRecDepth 100000 in
theorem itext_6 (n r : Int) (f : Nat) (s : ByteArray) (hv : vOk 6 n f s r = true) (w : World) :
    Calls Tryd.prog 9 #[.agg #[.int .i64 6, .int .i64 n, .float .f64 f, .string s, .int .i64 r]] w fun e w' => e = .returned (.string ⟨#[102, 110]⟩) ∧ Below w.heap.size w w' := by
  go_enter Tryd.func9, Tryd.ntmps9
  go_wp2_with (first
    | (go_at_call 26; refine (ivok_any _ _ _ _ _ _).mono ?_; rintro e w1 ⟨rfl, hb1⟩; obtain ⟨hc1, hf1⟩ := bcell hb1; have hz := size_then hb1; have HB := below_then hb1; clear hb1; have hmm := @run_makeMap Tryd.prog; obtain ⟨W1, W2, W3, W4, i5, i6, i7, i8, bW, l5, l6, l7, l8⟩ := mk4 w1; obtain ⟨hcW, hfW⟩ := bcell bW))
  go_ret
  exact ⟨rfl, HB.trans (bW.mono HB.size)⟩

set_option maxRecDepth 100000 in
theorem itext_7 (n r : Int) (f : Nat) (s : ByteArray) (hv : vOk 7 n f s r = true) (w : World) :
    Calls Tryd.prog 9 #[.agg #[.int .i64 7, .int .i64 n, .float .f64 f, .string s, .int .i64 r]] w fun e w' => e = .returned (.string ⟨#[116, 97, 115, 107]⟩) ∧ Below w.heap.size w w' := by
  go_enter Tryd.func9, Tryd.ntmps9
  go_wp2_with (first
    | (go_at_call 26; refine (ivok_any _ _ _ _ _ _).mono ?_; rintro e w1 ⟨rfl, hb1⟩; obtain ⟨hc1, hf1⟩ := bcell hb1; have hz := size_then hb1; have HB := below_then hb1; clear hb1; have hmm := @run_makeMap Tryd.prog; obtain ⟨W1, W2, W3, W4, i5, i6, i7, i8, bW, l5, l6, l7, l8⟩ := mk4 w1; obtain ⟨hcW, hfW⟩ := bcell bW))
  go_ret
  exact ⟨rfl, HB.trans (bW.mono HB.size)⟩

set_option maxRecDepth 100000 in
theorem itext_8 (n r : Int) (f : Nat) (s : ByteArray) (hv : vOk 8 n f s r = true) (w : World) :
    Calls Tryd.prog 9 #[.agg #[.int .i64 8, .int .i64 n, .float .f64 f, .string s, .int .i64 r]] w fun e w' => e = .returned (.string ⟨#[98, 117, 105, 108, 116, 105, 110]⟩) ∧ Below w.heap.size w w' := by
  go_enter Tryd.func9, Tryd.ntmps9
  go_wp2_with (first
    | (go_at_call 26; refine (ivok_any _ _ _ _ _ _).mono ?_; rintro e w1 ⟨rfl, hb1⟩; obtain ⟨hc1, hf1⟩ := bcell hb1; have hz := size_then hb1; have HB := below_then hb1; clear hb1; have hmm := @run_makeMap Tryd.prog; obtain ⟨W1, W2, W3, W4, i5, i6, i7, i8, bW, l5, l6, l7, l8⟩ := mk4 w1; obtain ⟨hcW, hfW⟩ := bcell bW))
  go_ret
  exact ⟨rfl, HB.trans (bW.mono HB.size)⟩

theorem stext_any (k n r : Int) (f : Nat) (s t : ByteArray) (h0 : -9223372036854775808 ≤ n) (h1 : n ≤ 9223372036854775807) (hS : ∀ w, Calls Tryd.prog 25 #[.float .f64 f] w fun e w' => e = .returned (.string t) ∧ Below w.heap.size w w') (w : World) :
    Calls Tryd.prog 7 #[.agg #[.int .i64 k, .int .i64 n, .float .f64 f, .string s, .int .i64 r]] w fun e w' => e = .returned (.string (vText k n f s r t)) ∧ Below w.heap.size w w' := by
  cases hv : vOk k n f s r
  · have : vText k n f s r t = ⟨#[]⟩ := by unfold vText; rw [if_pos hv]
    rw [this]; exact stext_bad k n r f s hv w
  · obtain ⟨a1, a2, a3⟩ := vok_kind hv
    have hk : k = 0 ∨ k = 1 ∨ k = 2 ∨ k = 3 ∨ k = 4 ∨ k = 5 ∨ k = 6 ∨ k = 7 ∨ k = 8 := by omega
    unfold vText
    rw [if_neg (by rw [hv]; decide)]
    rcases hk with rfl | rfl | rfl | rfl | rfl | rfl | rfl | rfl | rfl
    · exact stext_0 n r f s hv w
    · rcases a3 rfl with rfl | rfl
      · exact stext_10 r f s hv w
      · exact stext_11 r f s hv w
    · exact stext_2 n r f s h0 h1 hv w
    · exact stext_3 n r f s t hS hv w
    · exact stext_4 n r f s hv w
    · exact stext_5 n r f s hv w
    · exact stext_6 n r f s hv w
    · exact stext_7 n r f s hv w
    · exact stext_8 n r f s hv w
theorem itext_any (k n r : Int) (f : Nat) (s t : ByteArray) (h0 : -9223372036854775808 ≤ n) (h1 : n ≤ 9223372036854775807) (hI : ∀ w, Tab w → Calls Tryd.prog 28 #[.float .f64 f] w fun e w' => e = .returned (.string t) ∧ Below w.heap.size w w') (w : World) (hT : Tab w) :
    Calls Tryd.prog 9 #[.agg #[.int .i64 k, .int .i64 n, .float .f64 f, .string s, .int .i64 r]] w fun e w' => e = .returned (.string (vText k n f s r t)) ∧ Below w.heap.size w w' := by
  cases hv : vOk k n f s r
  · have : vText k n f s r t = ⟨#[]⟩ := by unfold vText; rw [if_pos hv]
    rw [this]; exact itext_bad k n r f s hv w
  · obtain ⟨a1, a2, a3⟩ := vok_kind hv
    have hk : k = 0 ∨ k = 1 ∨ k = 2 ∨ k = 3 ∨ k = 4 ∨ k = 5 ∨ k = 6 ∨ k = 7 ∨ k = 8 := by omega
    unfold vText
    rw [if_neg (by rw [hv]; decide)]
    rcases hk with rfl | rfl | rfl | rfl | rfl | rfl | rfl | rfl | rfl
    · exact itext_0 n r f s hv w
    · rcases a3 rfl with rfl | rfl
      · exact itext_10 r f s hv w
      · exact itext_11 r f s hv w
    · exact itext_2 n r f s h0 h1 hv w hT
    · exact itext_3 n r f s t hI hv w hT
    · exact itext_4 n r f s hv w
    · exact itext_5 n r f s hv w
    · exact itext_6 n r f s hv w
    · exact itext_7 n r f s hv w
    · exact itext_8 n r f s hv w
end Go.Proofs.YtchlolfdinakiaaDoor
