/- Slices of records that came in, opened; pairs, tables. -/
import Derived.Test.YtchlolfdinakiaaP0
import Derived.Test.YtchlolfdinakiaaS5
import Derived.Test.YtchlolfdinakiaaB0
import Derived.Deep.Slices
import Derived.ChangeArms
namespace Go.Proofs.Ytchlolfdinakiaa
open Go.RowKit
open Go.ChangeShapes Go.WideShapes Go.Deep
section
variable {H : Type} {enc : TypeId × Value → H} {P : Program} {w : World} {base : Nat} {spare : Nat → Bool} {held : Bool}
theorem addr_add (b off k : Nat) : (⟨b, off, none⟩ : Addr).add k = ⟨b, off + k, none⟩ := by
  by_cases h : k = 0
  · subst h; simp [Addr.add]
  · simp [Addr.add, h]

/-- A slice whose elements decode. -/
theorem slice_open {α : Type} {en : α → List Value} {sz : Nat} {good : α → Prop} {t e : TypeId} {fuel : Nat} {v : Value} {x : DataW H × List MemPlace} (ht : P.underlying t = some (.slice e)) (hC : P.cellsOf e = sz) (hpos : 0 < sz)
    (hdec : ∀ (n : Nat) (cs : List Value) (y : DataW H × List MemPlace), DataW.trod enc P w base spare held n e cs = some y → ∃ a, cs = en a ∧ good a)
    (h : DataW.trod enc P w base spare held fuel t [v] = some x) : ∃ (A : Option Addr) (c : Nat) (xs : List α), v = .slice A xs.length c ∧ RdL en sz w 0 A xs ∧ (∀ a ∈ xs, good a) ∧ xs.length ≤ maxLen := by
  rcases open_slice ht h with ⟨hcs, _⟩ | ⟨a, len, cap, m, n, D, Pl, hcs, _, hl, hm, hmm, _, hi⟩
  · simp at hcs
    subst hcs
    exact ⟨none, 0, [], rfl, RdL.nil, by simp, by simp⟩
  · simp at hcs
    subst hcs
    have hlm : len ≤ m := by rw [hmm]; split <;> omega
    have each : ∀ i : Fin len, ∃ a' : α, w.cells? base (a.add (i.1 * sz)) sz = some (en a') ∧ good a' := fun i => by
      obtain ⟨cs', h1, h2⟩ := hi i.1 (by omega)
      rw [hC] at h1
      obtain ⟨a', rfl, hg⟩ := hdec _ _ _ h2
      exact ⟨a', h1, hg⟩
    obtain ⟨g, hg⟩ : ∃ g : Fin len → α, ∀ i : Fin len, w.cells? base (a.add (i.1 * sz)) sz = some (en (g i)) ∧ good (g i) := ⟨fun i => Classical.choose (each i), fun i => Classical.choose_spec (each i)⟩
    clear each hi
    refine ⟨some a, cap, List.ofFn g, by simp, ?_, ?_, by simpa using (by omega : len ≤ maxLen)⟩
    · intro h0
      have hlen : 0 < len := by simpa using h0
      have c0 := (hg ⟨0, hlen⟩).1
      obtain ⟨_, hl0, hat0⟩ := World.cells?_some c0
      obtain ⟨b, off, spot⟩ := a
      obtain ⟨u0, hfirst⟩ : ∃ u, w.cell? (⟨b, off, spot⟩ : Addr) = some u := by
        have := hat0 0 hpos
        simp only [Nat.zero_mul, Addr.add, if_true] at this
        rw [this]
        exact ⟨_, List.getElem?_eq_getElem (by omega)⟩
      have hspot : spot = none := World.cell?_spot hfirst
      subst hspot
      refine ⟨b, off, rfl, Nat.zero_le _, block_lt_of_cell hfirst, fun i x hx j u hu => ?_⟩
      have hi' : i < len := by have := (List.getElem?_eq_some_iff.1 hx).1; simpa using this
      have hx' := (List.getElem?_eq_some_iff.1 hx).2
      simp only [List.getElem_ofFn] at hx'
      rw [← hx'] at hu
      obtain ⟨_, hli, hat⟩ := World.cells?_some (hg ⟨i, hi'⟩).1
      have hj : j < sz := by have := (List.getElem?_eq_some_iff.1 hu).1; omega
      have := hat j hj
      rw [addr_add, addr_add] at this
      rw [this]; exact hu
    · intro a' ha'
      rw [List.mem_ofFn] at ha'
      obtain ⟨i, rfl⟩ := ha'
      exact (hg i).2
end

section
variable {H : Type} {enc : TypeId × Value → H} {w : World} {base : Nat} {spare : Nat → Bool} {held : Bool}
theorem cells3 : Try.prog.cellsOf 3 = 1 := by kernel_rfl
theorem cells2 : Try.prog.cellsOf 2 = 1 := by kernel_rfl
theorem cells9 : Try.prog.cellsOf 9 = 1 := by kernel_rfl
theorem cells23 : Try.prog.cellsOf 23 = 1 := by kernel_rfl
theorem cells115 : Try.prog.cellsOf 115 = 11 := by kernel_rfl

theorem list5 {cs : List Value} (h : cs.length = 5) : ∃ a b c d e, cs = [a, b, c, d, e] := by
  match cs, h with
  | [a, b, c, d, e], _ => exact ⟨a, b, c, d, e, rfl⟩
theorem list11 {cs : List Value} (h : cs.length = 11) : ∃ a b c d e f g i j k l, cs = [a, b, c, d, e, f, g, i, j, k, l] := by
  match cs, h with
  | [a, b, c, d, e, f, g, i, j, k, l], _ => exact ⟨a, b, c, d, e, f, g, i, j, k, l, rfl⟩

theorem dec_value {n : Nat} {cs : List Value} {y : DataW H × List MemPlace} (h : DataW.trod enc Try.prog w base spare held n 25 cs = some y) : ∃ (k n : Int) (f : Nat) (s : ByteArray) (r : Int), cs = [.int .i64 k, .int .i64 n, .float .f64 f, .string s, .int .i64 r] ∧ s.size ≤ maxLen := by
  obtain ⟨xs, n', _, _, hlen, hxl, hg⟩ := DataW.trod_struct Try.underlying25 h
  simp only [List.size_toArray, List.length_cons, List.length_nil, Nat.zero_add, Nat.reduceAdd] at hxl
  rw [cells25] at hlen
  obtain ⟨c0, c1, c2, c3, c4, rfl⟩ := list5 hlen
  · have g0 := hg 0 _ rfl
    have g1 := hg 1 _ rfl
    have g2 := hg 2 _ rfl
    have g3 := hg 3 _ rfl
    have g4 := hg 4 _ rfl
    simp only [List.getElem_toArray, List.getElem_cons_zero, List.getElem_cons_succ, cells3, cells2, cells9, cells23, List.drop_zero, List.drop_succ_cons, List.take_succ_cons, List.take_zero] at g0 g1 g2 g3 g4
    rw [List.getElem?_eq_getElem (by omega)] at g0 g1 g2 g3 g4
    obtain ⟨a, e0, -, -⟩ := DataW.trod_int Try.underlying3 g0
    obtain ⟨b, e1, -, -⟩ := DataW.trod_int Try.underlying2 g1
    obtain ⟨c, e2, -, -⟩ := trod_float Try.underlying23 g2
    obtain ⟨s, e3, -, hs⟩ := DataW.trod_string Try.underlying9 g3
    obtain ⟨r, e4, -, -⟩ := DataW.trod_int Try.underlying3 g4
    simp only [List.cons.injEq, and_true] at e0 e1 e2 e3 e4
    subst e0 e1 e2 e3 e4
    exact ⟨a, b, c, s, r, rfl, hs⟩

theorem dec_pair {n : Nat} {cs : List Value} {y : DataW H × List MemPlace} (h : DataW.trod enc Try.prog w base spare held n 115 cs = some y) : ∃ p : Pr, cs = encP p ∧ fitP p := by
  obtain ⟨xs, n', _, _, hlen, hxl, hg⟩ := DataW.trod_struct Try.underlying115 h
  simp only [List.size_toArray, List.length_cons, List.length_nil, Nat.zero_add, Nat.reduceAdd] at hxl
  rw [cells115] at hlen
  obtain ⟨c0, c1, c2, c3, c4, c5, c6, c7, c8, c9, c10, rfl⟩ := list11 hlen
  · have g0 := hg 0 _ rfl
    have g1 := hg 1 _ rfl
    have g2 := hg 2 _ rfl
    simp only [List.getElem_toArray, List.getElem_cons_zero, List.getElem_cons_succ, cells3, cells25, List.drop_zero, List.drop_succ_cons, List.take_succ_cons, List.take_zero] at g0 g1 g2
    rw [List.getElem?_eq_getElem (by omega)] at g0 g1 g2
    obtain ⟨k, n, f, s, r, e0, hs⟩ := dec_value g0
    obtain ⟨k', n', f', s', r', e1, hs'⟩ := dec_value g1
    obtain ⟨t, e2, -, -⟩ := DataW.trod_int Try.underlying3 g2
    simp only [List.cons.injEq, and_true] at e0 e1 e2
    obtain ⟨rfl, rfl, rfl, rfl, rfl⟩ := e0
    obtain ⟨rfl, rfl, rfl, rfl, rfl⟩ := e1
    subst e2
    exact ⟨⟨k, n, f, s, r, k', n', f', s', r', t⟩, rfl, hs, hs'⟩

theorem pairs_open {fuel : Nat} {v : Value} {x : DataW H × List MemPlace} (h : DataW.trod enc Try.prog w base spare held fuel 46 [v] = some x) : ∃ (A : Option Addr) (c : Nat) (ps : List Pr), v = .slice A ps.length c ∧ RdL encP 11 w 0 A ps ∧ (∀ p ∈ ps, fitP p) ∧ ps.length ≤ maxLen :=
  slice_open Try.underlying46 cells115 (by decide) (fun _ _ _ h => dec_pair h) h
end

end Go.Proofs.Ytchlolfdinakiaa
