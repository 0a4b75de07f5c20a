/- A report that came in, opened. -/
import Derived.Test.YtchlolfdinakiaaQe
import Derived.Test.YtchlolfdinakiaaP8
namespace Go.Proofs.Ytchlolfdinakiaa.Q
open Go.RowKit
open Go.ChangeShapes Go.WideShapes Go.ChangeAt Go.Joins Go.Deep
set_option linter.unusedVariables false
section
variable {H : Type} {enc : TypeId × Value → H} {w : World} {base : Nat} {spare : Nat → Bool} {held : Bool}
theorem cells120 : Try.prog.cellsOf 120 = 5 := by kernel_rfl
theorem cells66 : Try.prog.cellsOf 66 = 7 := by kernel_rfl
theorem cells64 : Try.prog.cellsOf 64 = 1 := by kernel_rfl
theorem cells31 : Try.prog.cellsOf 31 = 1 := by kernel_rfl
theorem list7 {cs : List Value} (h : cs.length = 7) : ∃ a b c d e f g, cs = [a, b, c, d, e, f, g] := by
  match cs, h with
  | [a, b, c, d, e, f, g], _ => exact ⟨a, b, c, d, e, f, g, rfl⟩
theorem i64_of {n : Int} (h : (Lit.int .i64 n).wf = true) : i64 n := by
  simp [Lit.wf] at h
  exact h
/-- What holds of a record that came in. -/
def inRc (x : Rc) : Prop := fitR x ∧ i64 x.kind ∧ i64 x.task ∧ i64 x.fn ∧ i64 x.line
theorem dec_rec {n : Nat} {cs : List Value} {y : DataW H × List MemPlace} (h : DataW.trod enc Try.prog w base spare held n 120 cs = some y) : ∃ p : Rc, cs = encR p ∧ inRc p := by
  obtain ⟨xs, n', _, _, hlen, hxl, hg⟩ := DataW.trod_struct Try.underlying120 h
  simp only [List.size_toArray, List.length_cons, List.length_nil, Nat.zero_add, Nat.reduceAdd] at hxl
  rw [cells120] at hlen
  obtain ⟨c0, c1, c2, c3, c4, rfl⟩ := list5 hlen
  have g0 := hg 0 _ rfl
  have g1 := hg 1 _ rfl
  have g2 := hg 2 _ rfl
  have g3 := hg 3 _ rfl
  have g4 := hg 4 _ rfl
  simp only [List.getElem_toArray, List.getElem_cons_zero, List.getElem_cons_succ, cells3, cells9, List.drop_zero, List.drop_succ_cons, List.take_succ_cons, List.take_zero] at g0 g1 g2 g3 g4
  rw [List.getElem?_eq_getElem (by omega)] at g0 g1 g2 g3 g4
  obtain ⟨a, e0, -, wa⟩ := DataW.trod_int Try.underlying3 g0
  obtain ⟨b, e1, -, wb⟩ := DataW.trod_int Try.underlying3 g1
  obtain ⟨c, e2, -, wc⟩ := DataW.trod_int Try.underlying3 g2
  obtain ⟨d, e3, -, wd⟩ := DataW.trod_int Try.underlying3 g3
  obtain ⟨s, e4, -, hs⟩ := DataW.trod_string Try.underlying9 g4
  simp only [List.cons.injEq, and_true] at e0 e1 e2 e3 e4
  subst e0 e1 e2 e3 e4
  exact ⟨⟨a, b, c, d, s⟩, rfl, hs, i64_of wa, i64_of wb, i64_of wc, i64_of wd⟩
theorem recs_open {fuel : Nat} {v : Value} {x : DataW H × List MemPlace} (h : DataW.trod enc Try.prog w base spare held fuel 64 [v] = some x) : ∃ (A : Option Addr) (c : Nat) (ps : List Rc), v = .slice A ps.length c ∧ RdL encR 5 w 0 A ps ∧ (∀ p ∈ ps, inRc p) ∧ ps.length ≤ maxLen :=
  slice_open Try.underlying64 cells120 (by decide) (fun _ _ _ h => dec_rec h) h
theorem agg_list {P : Program} {r : Reach} {b0 n : Nat} {t : TypeId} {fs : Array Field} {v : Value} (hs : P.underlying t = some (.struct fs)) (hC : P.cellsOf t = n) (hv : Value.okWide P w r b0 t v) : ∃ l : List Value, v = .agg ⟨l⟩ ∧ l.length = n := by
  obtain ⟨cs, rfl, hsz⟩ := okWide_struct hs hv
  obtain ⟨l⟩ := cs
  exact ⟨l, rfl, hsz.trans hC⟩
/-- What holds of a report that came in. -/
def InRp (W : World) (A A' : Option Addr) (r : Rp) : Prop :=
  RdL encR 5 W 0 A r.recs ∧ RdL encS 1 W 0 A' r.vals ∧ (∀ p ∈ r.recs, inRc p) ∧ (∀ s ∈ r.vals, s.size ≤ maxLen) ∧ r.recs.length ≤ maxLen ∧ r.vals.length ≤ maxLen ∧ r.err.size ≤ maxLen ∧ r.trace.size ≤ maxLen ∧ i64 r.code ∧ i64 r.ticks ∧ i64 r.made
set_option maxRecDepth 100000 in
theorem rep_open {b0 : Nat} {rc : Reach} {v : Value} {d : DataW H} {p : List MemPlace} (hv : Value.okWide Try.prog w rc b0 66 v) (h : DataW.Trod enc Try.prog w base spare held 66 v d p) :
    ∃ (A A' : Option Addr) (c c' : Nat) (r : Rp), v = .agg #[.int .i64 r.code, .slice A r.recs.length c, .slice A' r.vals.length c', .string r.err, .string r.trace, .int .i64 r.ticks, .int .i64 r.made] ∧ InRp w A A' r := by
  obtain ⟨l, rfl, hl⟩ := agg_list Try.underlying66 cells66 hv
  obtain ⟨c0, c1, c2, c3, c4, c5, c6, rfl⟩ := list7 hl
  obtain ⟨fuel, hf⟩ := h
  obtain ⟨xs, n', _, _, hlen, hxl, hg⟩ := DataW.trod_struct Try.underlying66 hf
  simp only [List.size_toArray, List.length_cons, List.length_nil, Nat.zero_add, Nat.reduceAdd] at hxl
  have g0 := hg 0 _ rfl
  have g1 := hg 1 _ rfl
  have g2 := hg 2 _ rfl
  have g3 := hg 3 _ rfl
  have g4 := hg 4 _ rfl
  have g5 := hg 5 _ rfl
  have g6 := hg 6 _ rfl
  simp only [List.getElem_toArray, List.getElem_cons_zero, List.getElem_cons_succ, cells3, cells9, cells64, cells31, Value.cells, List.drop_zero, List.drop_succ_cons, List.take_succ_cons, List.take_zero] at g0 g1 g2 g3 g4 g5 g6
  rw [List.getElem?_eq_getElem (by omega)] at g0 g1 g2 g3 g4 g5 g6
  obtain ⟨code, e0, -, w0⟩ := DataW.trod_int Try.underlying3 g0
  obtain ⟨A, c, recs, rfl, r1, r2, r3⟩ := recs_open g1
  obtain ⟨A', c', vals, rfl, s1, s2, s3⟩ := strs_open Try.underlying31 Try.underlying9 cells9 g2
  obtain ⟨er, e3, -, w3⟩ := DataW.trod_string Try.underlying9 g3
  obtain ⟨tr, e4, -, w4⟩ := DataW.trod_string Try.underlying9 g4
  obtain ⟨ti, e5, -, w5⟩ := DataW.trod_int Try.underlying3 g5
  obtain ⟨ma, e6, -, w6⟩ := DataW.trod_int Try.underlying3 g6
  simp only [List.cons.injEq, and_true] at e0 e3 e4 e5 e6
  subst e0 e3 e4 e5 e6
  exact ⟨A, A', c, c', ⟨code, recs, vals, er, tr, ti, ma⟩, rfl, r1, s1, r2, s2, r3, s3, w3, w4, i64_of w0, i64_of w5, i64_of w6⟩
end
end Go.Proofs.Ytchlolfdinakiaa.Q
