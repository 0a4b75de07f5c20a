/- A map keyed by places: one more at a key; its keys. -/
import Derived.Test.YtchlolfdinakiaaQy
import Derived.Maps.OwnOps
import Derived.Maps.Ext
import Derived.Maps.RangeWalk
import Derived.WideKeyEntry
import Derived.DeepKeys4
namespace Go.Proofs.Ytchlolfdinakiaa.Q
open Go.RowKit
open Go.ChangeMaps Go.MapKept
open Go.WideElems (Fit rd rg pl rd_val elemAt entry_then_store)
open Go.Maps (Keyed)
theorem keyLaw104 : WideMaps.KeyLaw Try.prog 104 := deep_law_laid laidOut (m := 2) (by omega) (of_decide_eq_true (by kernel_rfl)) (by kernel_rfl) (by kernel_rfl)
theorem law104 : Keyed Try.prog 104 := Keyed.of_law keyLaw104
/-- What the key of a place reads as. -/
def kf (f l : Int) : Lit := .string (keyBytes [.int .i64 f, .int .i64 l])
theorem tsz : ∃ m, Try.prog.types.size = m + 1 := ⟨Try.prog.types.size - 1, by kernel_rfl⟩
theorem kt104 : Try.prog.keyType 104 = true := by kernel_rfl
theorem cells104 : Try.prog.cellsOf 104 = 2 := by kernel_rfl
theorem cells3' : Try.prog.cellsOf 3 = 1 := by kernel_rfl
theorem wf64 {n : Int} (h : i64 n) : (Lit.int .i64 n).wf = true := by
  unfold i64 at h
  simp [Lit.wf]
  exact h
theorem key104 {f l : Int} (hf : i64 f) (hl : i64 l) : keyOf Try.prog 104 (.agg #[.int .i64 f, .int .i64 l]) = some (kf f l) := by
  obtain ⟨m, hm⟩ := tsz
  have wf := wf64 hf
  have wl := wf64 hl
  unfold keyOf
  simp only [Try.underlying104]
  rw [if_pos (by simp [kt104, Value.formed, Try.underlying104, cells104]), hm]
  unfold Program.keyLits
  simp only [Try.underlying104, Value.cells]
  rw [if_pos (by rw [cells104]; exact ⟨rfl, by first | rfl | kernel_rfl | decide +kernel⟩)]
  simp only [List.mapM_cons, List.mapM_nil, cells3', List.drop_zero, List.drop_succ_cons, List.take_succ_cons, List.take_zero, Program.keyLits, Try.underlying3]
  simp [wf, wl, kf]
theorem one3 {m : Nat} {u : Value} {x : List Lit} (h : Try.prog.keyLits (m + 1) 3 [u] = some x) : ∃ n, u = .int .i64 n ∧ i64 n := by
  unfold Program.keyLits at h
  simp only [Try.underlying3] at h
  cases u <;> simp at h
  rename_i q n
  obtain ⟨⟨rfl, hw⟩, -⟩ := h
  exact ⟨n, rfl, by simp [Lit.wf] at hw; exact hw⟩
set_option maxRecDepth 100000 in
theorem key_inv {v : Value} {kl : Lit} (h : keyOf Try.prog 104 v = some kl) : ∃ p : Int × Int, v = .agg #[.int .i64 p.1, .int .i64 p.2] ∧ i64 p.1 ∧ i64 p.2 := by
  obtain ⟨m, hm⟩ := tsz
  unfold keyOf at h
  simp only [Try.underlying104] at h
  split at h
  · rename_i h1
    simp only [Bool.and_eq_true] at h1
    obtain ⟨-, h1⟩ := h1
    match v, h1 with
    | .agg cs, h1 =>
      simp only [Value.formed, Try.underlying104, cells104, beq_iff_eq] at h1
      obtain ⟨l⟩ := cs
      match l, h1 with
      | [a, b], _ =>
        rw [hm] at h
        unfold Program.keyLits at h
        simp only [Try.underlying104, Value.cells] at h
        rw [if_pos (by rw [cells104]; exact ⟨rfl, by first | rfl | kernel_rfl | decide +kernel⟩)] at h
        simp only [List.mapM_cons, List.mapM_nil, cells3', List.drop_zero, List.drop_succ_cons, List.take_succ_cons, List.take_zero] at h
        cases hA : Try.prog.keyLits (m + 1) 3 [a] with
        | none => rw [hA] at h; simp at h
        | some x =>
          cases hB : Try.prog.keyLits (m + 1) 3 [b] with
          | none => rw [hA, hB] at h; simp at h
          | some y =>
            obtain ⟨n, rfl, wn⟩ := one3 hA
            obtain ⟨n', rfl, wn'⟩ := one3 hB
            exact ⟨(n, n'), rfl, wn, wn'⟩
  · simp at h
theorem zero3 (w : World) : (zeroValue 3).run Try.prog w = .ok (.int .i64 0) w := by kernel_rfl
theorem setBlock_twice (w : World) (b : Nat) (o o' : Obj) : setBlock (setBlock w b o) b o' = setBlock w b o' := by
  simp [setBlock]
open Go.WideElems (set_self) in
/-- An entry that is made or met, left with what it holds: a store of that. -/
theorem entry_is_update {H : Type} {R : Value → Option (DataW H × List MemPlace)} {w : World} {b : Nat} {es : Array MapEntry} {clock : Nat} (hb : w.heap[b]? = some (.map es clock)) (F : Fit Try.prog 104 R es clock) {key : Value} {kl : Lit} (hkey : keyOf Try.prog 104 key = some kl) :
    ∃ v0 w1, (∃ st, (Instr.mapEntry 102 (.map (some b)) key).run Try.prog w = .ok (.tuple #[v0, goInt st]) w1) ∧ (Instr.mapUpdate 102 (.map (some b)) key v0).run Try.prog w = .ok () w1 ∧ (Instr.lookup 102 (.map (some b)) key false).run Try.prog w = .ok v0 w := by
  have K := keyLaw104
  have ht := Try.underlying102
  rcases K.find w hkey es.toList F.keys with ⟨h1, h2⟩ | ⟨j, e0, h1, h2, h3⟩
  · refine ⟨.int .i64 0, setBlock w b (.map (es.push ⟨key, .int .i64 0, clock⟩) (clock + 1)), ⟨clock, ?_⟩, ?_, ?_⟩
    · simp [Instr.mapEntry, run_underlying ht, MapKept.run_getObj_map hb, K.check w false hkey, h1, MapKept.run_setObj_map _ hb, Result.andThen, setBlock]
    · simp [Instr.mapUpdate, run_underlying ht, MapKept.run_getObj_map hb, K.check w false hkey, h1, MapKept.run_setObj_map _ hb, Result.andThen, setBlock]
    · simp [Instr.lookup, run_underlying ht, MapKept.run_getObj_map hb, K.check w _ hkey, h1, Result.andThen]
  · have hj : es[j]? = some e0 := by simpa using h2
    have hsame : es.modify j (fun e => { e with key := key }) = es := by
      apply Array.ext'
      rw [Array.toList_modify, modify_eq_set _ _ _ _ h2]
      have : ({ e0 with key := key } : MapEntry) = e0 := by rw [← h3]
      rw [this]
      exact set_self _ _ _ h2
    have hsame2 : es.modify j (fun e => { e with key := key, val := e0.val }) = es := by
      apply Array.ext'
      rw [Array.toList_modify, modify_eq_set _ _ _ _ h2]
      have : ({ e0 with key := key, val := e0.val } : MapEntry) = e0 := by rw [← h3]
      rw [this]
      exact set_self _ _ _ h2
    refine ⟨e0.val, setBlock w b (.map es clock), ⟨e0.born, ?_⟩, ?_, ?_⟩
    · simp [Instr.mapEntry, run_underlying ht, MapKept.run_getObj_map hb, K.check w false hkey, h1, hj, h3, K.stays w hkey, hsame, MapKept.run_setObj_map _ hb, Result.andThen, setBlock]
    · simp [Instr.mapUpdate, run_underlying ht, MapKept.run_getObj_map hb, K.check w false hkey, h1, hj, h3, K.stays w hkey, hsame2, MapKept.run_setObj_map _ hb, Result.andThen, setBlock]
    · simp [Instr.lookup, run_underlying ht, MapKept.run_getObj_map hb, K.check w _ hkey, h1, Result.andThen]
/-- One more at a key: what the four operations come to. -/
theorem bump {H : Type} {w : World} {b n : Nat} {D : DataW H} (h : w.ownsMap Try.prog 104 (plainElem Try.prog 3) b n D) (hn : n < maxLen) {f l : Int} (hf : i64 f) (hl : i64 l) :
    ∃ c : Int, D.atKey (kf f l) (.lit (.int .i64 0)) = .lit (.int .i64 c) ∧ (Instr.lookup 102 (.map (some b)) (.agg #[.int .i64 f, .int .i64 l]) false).run Try.prog w = .ok (.int .i64 c) w ∧
      ∃ v0 st w1, (Instr.mapEntry 102 (.map (some b)) (.agg #[.int .i64 f, .int .i64 l])).run Try.prog w = .ok (.tuple #[v0, goInt st]) w1 ∧ w.grownBy w1 (some b) ∧ (Instr.lookup 102 (.map (some b)) (.agg #[.int .i64 f, .int .i64 l]) false).run Try.prog w1 = .ok (.int .i64 c) w1 ∧
        ∀ z : Int, i64 z → ∃ w2, (Instr.entryStore 102 (.map (some b)) (goInt st) (.int .i64 z)).run Try.prog w1 = .ok () w2 ∧ w2.ownsMap Try.prog 104 (plainElem Try.prog 3) b (n + 1) (D.put (kf f l) (.lit (.int .i64 z))) ∧ w.grownBy w2 (some b) := by
  have hk := key104 hf hl
  obtain ⟨c, hrun, hat, hwc⟩ := h.lookup_int law104 Try.underlying102 Try.underlying3 (zero3 w) hk
  refine ⟨c, hat, hrun, ?_⟩
  obtain ⟨es, clock, hb, F, hs, hD⟩ := id h
  obtain ⟨v0, st, es1, clock1, hE, -, hS⟩ := entry_then_store (w := w) keyLaw104 Try.underlying102 zero3 hb F hk
  obtain ⟨u0, w1, ⟨st', hE'⟩, hU, hLk⟩ := entry_is_update hb F hk
  have e1 := hE.symm.trans hE'
  injection e1 with _ ew
  have e2 := hrun.symm.trans hLk
  injection e2 with eu _
  obtain ⟨w1', hU', hown1, -⟩ := h.update law104 Try.underlying102 hn hk (plainElem_int (H := H) Try.underlying3 hwc)
  rw [eu] at hU'
  have e3 := hU.symm.trans hU'
  injection e3 with _ e3
  rw [← e3] at hown1
  obtain ⟨c1, hrun1, hat1, -⟩ := hown1.lookup_int law104 Try.underlying102 Try.underlying3 (zero3 _) hk
  rw [Maps.atKey_put_same h.isMap (law104.key hk)] at hat1
  have ec : c = c1 := by simpa using hat1
  refine ⟨v0, st, _, hE, ⟨rfl, rfl, rfl, by simp [setBlock], fun i _ hi => heap_setBlock_other hb _ (fun e => hi (by rw [e]))⟩, by rw [ew, ec]; exact hrun1, fun z hz => ?_⟩
  obtain ⟨w2, hu, hown, hg⟩ := h.update law104 Try.underlying102 hn hk (plainElem_int Try.underlying3 (wf64 hz))
  obtain ⟨es', clock', h1, h2⟩ := hS (setBlock w b (.map es1 clock1)) (.int .i64 z) (heap_setBlock_same hb _)
  rw [setBlock_twice] at h1
  rw [hu] at h2
  injection h2 with _ h2
  exact ⟨w2, by rw [h1, h2], hown, hg⟩
end Go.Proofs.Ytchlolfdinakiaa.Q
