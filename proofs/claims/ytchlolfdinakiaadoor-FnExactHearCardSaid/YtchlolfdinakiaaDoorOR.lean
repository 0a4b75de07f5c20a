/- A report that came in, opened. -/
import Derived.Test.YtchlolfdinakiaaDoorE10
import Derived.Test.YtchlolfdinakiaaDoorB0
import Derived.SliceStrings
import Derived.Deep.Slices
import Derived.ChangeArms
namespace Go.Proofs.YtchlolfdinakiaaDoor
open Go.RowKit
open Go.ChangeShapes Go.WideShapes Go.ChangeAt Go.Joins Go.Deep
set_option linter.unusedVariables false
section
variable {H : Type} {enc : TypeId × Value → H} {P : Program} {w : World} {base : Nat} {spare : Nat → Bool} {held : Bool}
theorem addr_add (b off k : Nat) : (⟨b, off, none⟩ : Addr).add k = ⟨b, off + k, none⟩ := by
  by_cases h : k = 0
  · subst h; simp [Addr.add]
  · simp [Addr.add, h]

/-- A slice whose elements decode. -/
theorem slice_open {α : Type} {en : α → List Value} {sz : Nat} {good : α → Prop} {t e : TypeId} {fuel : Nat} {v : Value} {x : DataW H × List MemPlace} (ht : P.underlying t = some (.slice e)) (hC : P.cellsOf e = sz) (hpos : 0 < sz)
    (hdec : ∀ (n : Nat) (cs : List Value) (y : DataW H × List MemPlace), DataW.trod enc P w base spare held n e cs = some y → ∃ a, cs = en a ∧ good a)
    (h : DataW.trod enc P w base spare held fuel t [v] = some x) : ∃ (A : Option Addr) (c : Nat) (xs : List α), v = .slice A xs.length c ∧ RdL en sz w 0 A xs ∧ (∀ a ∈ xs, good a) ∧ xs.length ≤ maxLen := by
  rcases open_slice ht h with ⟨hcs, _⟩ | ⟨a, len, cap, m, n, D, Pl, hcs, _, hl, hm, hmm, _, hi⟩
  · simp at hcs
    subst hcs
    exact ⟨none, 0, [], rfl, RdL.nil, by simp, by simp⟩
  · simp at hcs
    subst hcs
    have hlm : len ≤ m := by rw [hmm]; split <;> omega
    have each : ∀ i : Fin len, ∃ a' : α, w.cells? base (a.add (i.1 * sz)) sz = some (en a') ∧ good a' := fun i => by
      obtain ⟨cs', h1, h2⟩ := hi i.1 (by omega)
      rw [hC] at h1
      obtain ⟨a', rfl, hg⟩ := hdec _ _ _ h2
      exact ⟨a', h1, hg⟩
    obtain ⟨g, hg⟩ : ∃ g : Fin len → α, ∀ i : Fin len, w.cells? base (a.add (i.1 * sz)) sz = some (en (g i)) ∧ good (g i) := ⟨fun i => Classical.choose (each i), fun i => Classical.choose_spec (each i)⟩
    clear each hi
    refine ⟨some a, cap, List.ofFn g, by simp, ?_, ?_, by simpa using (by omega : len ≤ maxLen)⟩
    · intro h0
      have hlen : 0 < len := by simpa using h0
      have c0 := (hg ⟨0, hlen⟩).1
      obtain ⟨_, hl0, hat0⟩ := World.cells?_some c0
      obtain ⟨b, off, spot⟩ := a
      obtain ⟨u0, hfirst⟩ : ∃ u, w.cell? (⟨b, off, spot⟩ : Addr) = some u := by
        have := hat0 0 hpos
        simp only [Nat.zero_mul, Addr.add, if_true] at this
        rw [this]
        exact ⟨_, List.getElem?_eq_getElem (by omega)⟩
      have hspot : spot = none := World.cell?_spot hfirst
      subst hspot
      refine ⟨b, off, rfl, Nat.zero_le _, block_lt_of_cell hfirst, fun i x hx j u hu => ?_⟩
      have hi' : i < len := by have := (List.getElem?_eq_some_iff.1 hx).1; simpa using this
      have hx' := (List.getElem?_eq_some_iff.1 hx).2
      simp only [List.getElem_ofFn] at hx'
      rw [← hx'] at hu
      obtain ⟨_, hli, hat⟩ := World.cells?_some (hg ⟨i, hi'⟩).1
      have hj : j < sz := by have := (List.getElem?_eq_some_iff.1 hu).1; omega
      have := hat j hj
      rw [addr_add, addr_add] at this
      rw [this]; exact hu
    · intro a' ha'
      rw [List.mem_ofFn] at ha'
      obtain ⟨i, rfl⟩ := ha'
      exact (hg i).2
theorem strs_open {t e : TypeId} {fuel : Nat} {v : Value} {x : DataW H × List MemPlace} (ht : P.underlying t = some (.slice e)) (he : P.underlying e = some .string) (hc : P.cellsOf e = 1)
    (h : DataW.trod enc P w base spare held fuel t [v] = some x) : ∃ (A : Option Addr) (c : Nat) (xs : List ByteArray), v = .slice A xs.length c ∧ RdL encS 1 w 0 A xs ∧ (∀ s ∈ xs, s.size ≤ maxLen) ∧ xs.length ≤ maxLen := by
  rcases open_strings ht he hc h with ⟨hcs, _⟩ | ⟨a, len, cap, ss, hcs, _, hl, hm, hz, _, hcell, hws⟩
  · simp at hcs
    subst hcs
    exact ⟨none, 0, [], rfl, RdL.nil, by simp, by simp⟩
  · simp at hcs
    subst hcs
    have hlen : len ≤ ss.length := by rw [hz]; split <;> omega
    have h1 : (ss.take len).length = len := by rw [List.length_take]; omega
    refine ⟨some a, cap, ss.take len, by rw [h1], ?_, fun s hs => hws s (List.mem_of_mem_take hs), by omega⟩
    intro h0
    obtain ⟨b, off, spot⟩ := a
    have hspot : spot = none := by simpa [Addr.add] using World.cell?_spot (hcell 0 (by omega))
    subst hspot
    have cj : ∀ j, j < ss.length → w.cell? ⟨b, off + j, none⟩ = some (.string (ss.getD j ByteArray.empty)) := fun j hj => by
      have := hcell j hj
      by_cases hj0 : j = 0
      · subst hj0; simpa [Addr.add] using this
      · simpa [Addr.add, hj0] using this
    refine ⟨b, off, rfl, Nat.zero_le _, block_lt_of_cell (cj 0 (by omega)), fun i x hx j u hu => ?_⟩
    have hi : i < len := by have := (List.getElem?_eq_some_iff.1 hx).1; omega
    match j, hu with
    | 0, hu =>
      cases hu
      rw [Nat.mul_one, Nat.add_zero, cj i (by omega)]
      rw [List.getElem?_take_of_lt hi] at hx
      rw [List.getD_eq_getElem?_getD, hx]
      rfl
end
section
variable {H : Type} {enc : TypeId × Value → H} {w : World} {base : Nat} {spare : Nat → Bool} {held : Bool}
theorem cells3 : Tryd.prog.cellsOf 3 = 1 := by kernel_rfl
theorem cells9 : Tryd.prog.cellsOf 9 = 1 := by kernel_rfl
theorem list5 {cs : List Value} (h : cs.length = 5) : ∃ a b c d e, cs = [a, b, c, d, e] := by
  match cs, h with
  | [a, b, c, d, e], _ => exact ⟨a, b, c, d, e, rfl⟩
theorem cells83 : Tryd.prog.cellsOf 83 = 5 := by kernel_rfl
theorem cells33 : Tryd.prog.cellsOf 33 = 7 := by kernel_rfl
theorem cells30 : Tryd.prog.cellsOf 30 = 1 := by kernel_rfl
theorem cells31 : Tryd.prog.cellsOf 31 = 1 := by kernel_rfl
theorem list7 {cs : List Value} (h : cs.length = 7) : ∃ a b c d e f g, cs = [a, b, c, d, e, f, g] := by
  match cs, h with
  | [a, b, c, d, e, f, g], _ => exact ⟨a, b, c, d, e, f, g, rfl⟩
theorem i64_of {n : Int} (h : (Lit.int .i64 n).wf = true) : i64 n := by
  simp [Lit.wf] at h
  exact h
/-- What holds of a record that came in. -/
def inRc (x : Rc) : Prop := fitR x ∧ i64 x.kind ∧ i64 x.task ∧ i64 x.fn ∧ i64 x.line
theorem dec_rec {n : Nat} {cs : List Value} {y : DataW H × List MemPlace} (h : DataW.trod enc Tryd.prog w base spare held n 83 cs = some y) : ∃ p : Rc, cs = encR p ∧ inRc p := by
  obtain ⟨xs, n', _, _, hlen, hxl, hg⟩ := DataW.trod_struct Tryd.underlying83 h
  simp only [List.size_toArray, List.length_cons, List.length_nil, Nat.zero_add, Nat.reduceAdd] at hxl
  rw [cells83] at hlen
  obtain ⟨c0, c1, c2, c3, c4, rfl⟩ := list5 hlen
  have g0 := hg 0 _ rfl
  have g1 := hg 1 _ rfl
  have g2 := hg 2 _ rfl
  have g3 := hg 3 _ rfl
  have g4 := hg 4 _ rfl
  simp only [List.getElem_toArray, List.getElem_cons_zero, List.getElem_cons_succ, cells3, cells9, List.drop_zero, List.drop_succ_cons, List.take_succ_cons, List.take_zero] at g0 g1 g2 g3 g4
  rw [List.getElem?_eq_getElem (by omega)] at g0 g1 g2 g3 g4
  obtain ⟨a, e0, -, wa⟩ := DataW.trod_int Tryd.underlying3 g0
  obtain ⟨b, e1, -, wb⟩ := DataW.trod_int Tryd.underlying3 g1
  obtain ⟨c, e2, -, wc⟩ := DataW.trod_int Tryd.underlying3 g2
  obtain ⟨d, e3, -, wd⟩ := DataW.trod_int Tryd.underlying3 g3
  obtain ⟨s, e4, -, hs⟩ := DataW.trod_string Tryd.underlying9 g4
  simp only [List.cons.injEq, and_true] at e0 e1 e2 e3 e4
  subst e0 e1 e2 e3 e4
  exact ⟨⟨a, b, c, d, s⟩, rfl, hs, i64_of wa, i64_of wb, i64_of wc, i64_of wd⟩
theorem recs_open {fuel : Nat} {v : Value} {x : DataW H × List MemPlace} (h : DataW.trod enc Tryd.prog w base spare held fuel 30 [v] = some x) : ∃ (A : Option Addr) (c : Nat) (ps : List Rc), v = .slice A ps.length c ∧ RdL encR 5 w 0 A ps ∧ (∀ p ∈ ps, inRc p) ∧ ps.length ≤ maxLen :=
  slice_open Tryd.underlying30 cells83 (by decide) (fun _ _ _ h => dec_rec h) h
theorem agg_list {P : Program} {r : Reach} {b0 n : Nat} {t : TypeId} {fs : Array Field} {v : Value} (hs : P.underlying t = some (.struct fs)) (hC : P.cellsOf t = n) (hv : Value.okWide P w r b0 t v) : ∃ l : List Value, v = .agg ⟨l⟩ ∧ l.length = n := by
  obtain ⟨cs, rfl, hsz⟩ := okWide_struct hs hv
  obtain ⟨l⟩ := cs
  exact ⟨l, rfl, hsz.trans hC⟩
/-- What holds of a report that came in. -/
def InRp (W : World) (A A' : Option Addr) (r : Rp) : Prop :=
  RdL encR 5 W 0 A r.recs ∧ RdL encS 1 W 0 A' r.vals ∧ (∀ p ∈ r.recs, inRc p) ∧ (∀ s ∈ r.vals, s.size ≤ maxLen) ∧ r.recs.length ≤ maxLen ∧ r.vals.length ≤ maxLen ∧ r.err.size ≤ maxLen ∧ r.trace.size ≤ maxLen ∧ i64 r.code ∧ i64 r.ticks ∧ i64 r.made
set_option maxRecDepth 100000 in
theorem rep_open {b0 : Nat} {rc : Reach} {v : Value} {d : DataW H} {p : List MemPlace} (hv : Value.okWide Tryd.prog w rc b0 33 v) (h : DataW.Trod enc Tryd.prog w base spare held 33 v d p) :
    ∃ (A A' : Option Addr) (c c' : Nat) (r : Rp), v = .agg #[.int .i64 r.code, .slice A r.recs.length c, .slice A' r.vals.length c', .string r.err, .string r.trace, .int .i64 r.ticks, .int .i64 r.made] ∧ InRp w A A' r := by
  obtain ⟨l, rfl, hl⟩ := agg_list Tryd.underlying33 cells33 hv
  obtain ⟨c0, c1, c2, c3, c4, c5, c6, rfl⟩ := list7 hl
  obtain ⟨fuel, hf⟩ := h
  obtain ⟨xs, n', _, _, hlen, hxl, hg⟩ := DataW.trod_struct Tryd.underlying33 hf
  simp only [List.size_toArray, List.length_cons, List.length_nil, Nat.zero_add, Nat.reduceAdd] at hxl
  have g0 := hg 0 _ rfl
  have g1 := hg 1 _ rfl
  have g2 := hg 2 _ rfl
  have g3 := hg 3 _ rfl
  have g4 := hg 4 _ rfl
  have g5 := hg 5 _ rfl
  have g6 := hg 6 _ rfl
  simp only [List.getElem_toArray, List.getElem_cons_zero, List.getElem_cons_succ, cells3, cells9, cells30, cells31, Value.cells, List.drop_zero, List.drop_succ_cons, List.take_succ_cons, List.take_zero] at g0 g1 g2 g3 g4 g5 g6
  rw [List.getElem?_eq_getElem (by omega)] at g0 g1 g2 g3 g4 g5 g6
  obtain ⟨code, e0, -, w0⟩ := DataW.trod_int Tryd.underlying3 g0
  obtain ⟨A, c, recs, rfl, r1, r2, r3⟩ := recs_open g1
  obtain ⟨A', c', vals, rfl, s1, s2, s3⟩ := strs_open Tryd.underlying31 Tryd.underlying9 cells9 g2
  obtain ⟨er, e3, -, w3⟩ := DataW.trod_string Tryd.underlying9 g3
  obtain ⟨tr, e4, -, w4⟩ := DataW.trod_string Tryd.underlying9 g4
  obtain ⟨ti, e5, -, w5⟩ := DataW.trod_int Tryd.underlying3 g5
  obtain ⟨ma, e6, -, w6⟩ := DataW.trod_int Tryd.underlying3 g6
  simp only [List.cons.injEq, and_true] at e0 e3 e4 e5 e6
  subst e0 e3 e4 e5 e6
  exact ⟨A, A', c, c', ⟨code, recs, vals, er, tr, ti, ma⟩, rfl, r1, s1, r2, s2, r3, s3, w3, w4, i64_of w0, i64_of w5, i64_of w6⟩
end
end Go.Proofs.YtchlolfdinakiaaDoor
