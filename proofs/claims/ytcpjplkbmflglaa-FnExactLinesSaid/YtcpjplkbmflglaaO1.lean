/- A unit that came in, opened. -/
import Derived.Test.YtcpjplkbmflglaaU2
import Derived.ProofKit
import Derived.OpenShut
import Derived.Lib.SmallJoins
import Derived.SliceStrings
import Derived.Deep.Slices
import Derived.ChangeArms
namespace Go.Proofs.Ytcpjplkbmflglaa
open Go.RowKit
open Go.ChangeShapes Go.WideShapes Go.ChangeAt Go.Joins Go.Deep
set_option linter.unusedVariables false
section
variable {H : Type} {enc : TypeId × Value → H} {P : Program} {w : World} {base : Nat} {spare : Nat → Bool} {held : Bool}
theorem trod_float {fuel : Nat} {t : TypeId} {k : FloatKind} {cs : List Value} {x : DataW H × List MemPlace} (ht : P.underlying t = some (.float k)) (h : DataW.trod enc P w base spare held fuel t cs = some x) :
    ∃ b, cs = [.float k b] ∧ x = (.lit (.float k b), []) ∧ (Lit.float k b).wf = true := by
  cases fuel with
  | zero => simp [DataW.trod] at h
  | succ n =>
    unfold DataW.trod at h
    rw [ht] at h
    split at h <;> simp_all
theorem addr_add (b off k : Nat) : (⟨b, off, none⟩ : Addr).add k = ⟨b, off + k, none⟩ := by
  by_cases h : k = 0
  · subst h; simp [Addr.add]
  · simp [Addr.add, h]

/-- A slice whose elements decode. -/
theorem slice_open {α : Type} {en : α → List Value} {sz : Nat} {good : α → Prop} {t e : TypeId} {fuel : Nat} {v : Value} {x : DataW H × List MemPlace} (ht : P.underlying t = some (.slice e)) (hC : P.cellsOf e = sz) (hpos : 0 < sz)
    (hdec : ∀ (n : Nat) (cs : List Value) (y : DataW H × List MemPlace), DataW.trod enc P w base spare held n e cs = some y → ∃ a, cs = en a ∧ good a)
    (h : DataW.trod enc P w base spare held fuel t [v] = some x) : ∃ (A : Option Addr) (c : Nat) (xs : List α), v = .slice A xs.length c ∧ RdL en sz w 0 A xs ∧ (∀ a ∈ xs, good a) ∧ xs.length ≤ maxLen := by
  rcases open_slice ht h with ⟨hcs, _⟩ | ⟨a, len, cap, m, n, D, Pl, hcs, _, hl, hm, hmm, _, hi⟩
  · simp at hcs
    subst hcs
    exact ⟨none, 0, [], rfl, RdL.nil, by simp, by simp⟩
  · simp at hcs
    subst hcs
    have hlm : len ≤ m := by rw [hmm]; split <;> omega
    have each : ∀ i : Fin len, ∃ a' : α, w.cells? base (a.add (i.1 * sz)) sz = some (en a') ∧ good a' := fun i => by
      obtain ⟨cs', h1, h2⟩ := hi i.1 (by omega)
      rw [hC] at h1
      obtain ⟨a', rfl, hg⟩ := hdec _ _ _ h2
      exact ⟨a', h1, hg⟩
    obtain ⟨g, hg⟩ : ∃ g : Fin len → α, ∀ i : Fin len, w.cells? base (a.add (i.1 * sz)) sz = some (en (g i)) ∧ good (g i) := ⟨fun i => Classical.choose (each i), fun i => Classical.choose_spec (each i)⟩
    clear each hi
    refine ⟨some a, cap, List.ofFn g, by simp, ?_, ?_, by simpa using (by omega : len ≤ maxLen)⟩
    · intro h0
      have hlen : 0 < len := by simpa using h0
      have c0 := (hg ⟨0, hlen⟩).1
      obtain ⟨_, hl0, hat0⟩ := World.cells?_some c0
      obtain ⟨b, off, spot⟩ := a
      obtain ⟨u0, hfirst⟩ : ∃ u, w.cell? (⟨b, off, spot⟩ : Addr) = some u := by
        have := hat0 0 hpos
        simp only [Nat.zero_mul, Addr.add, if_true] at this
        rw [this]
        exact ⟨_, List.getElem?_eq_getElem (by omega)⟩
      have hspot : spot = none := World.cell?_spot hfirst
      subst hspot
      refine ⟨b, off, rfl, Nat.zero_le _, block_lt_of_cell hfirst, fun i x hx j u hu => ?_⟩
      have hi' : i < len := by have := (List.getElem?_eq_some_iff.1 hx).1; simpa using this
      have hx' := (List.getElem?_eq_some_iff.1 hx).2
      simp only [List.getElem_ofFn] at hx'
      rw [← hx'] at hu
      obtain ⟨_, hli, hat⟩ := World.cells?_some (hg ⟨i, hi'⟩).1
      have hj : j < sz := by have := (List.getElem?_eq_some_iff.1 hu).1; omega
      have := hat j hj
      rw [addr_add, addr_add] at this
      rw [this]; exact hu
    · intro a' ha'
      rw [List.mem_ofFn] at ha'
      obtain ⟨i, rfl⟩ := ha'
      exact (hg i).2
theorem strs_open {t e : TypeId} {fuel : Nat} {v : Value} {x : DataW H × List MemPlace} (ht : P.underlying t = some (.slice e)) (he : P.underlying e = some .string) (hc : P.cellsOf e = 1)
    (h : DataW.trod enc P w base spare held fuel t [v] = some x) : ∃ (A : Option Addr) (c : Nat) (xs : List ByteArray), v = .slice A xs.length c ∧ RdL encS 1 w 0 A xs ∧ (∀ s ∈ xs, s.size ≤ maxLen) ∧ xs.length ≤ maxLen := by
  rcases open_strings ht he hc h with ⟨hcs, _⟩ | ⟨a, len, cap, ss, hcs, _, hl, hm, hz, _, hcell, hws⟩
  · simp at hcs
    subst hcs
    exact ⟨none, 0, [], rfl, RdL.nil, by simp, by simp⟩
  · simp at hcs
    subst hcs
    have hlen : len ≤ ss.length := by rw [hz]; split <;> omega
    have h1 : (ss.take len).length = len := by rw [List.length_take]; omega
    refine ⟨some a, cap, ss.take len, by rw [h1], ?_, fun s hs => hws s (List.mem_of_mem_take hs), by omega⟩
    intro h0
    obtain ⟨b, off, spot⟩ := a
    have hspot : spot = none := by simpa [Addr.add] using World.cell?_spot (hcell 0 (by omega))
    subst hspot
    have cj : ∀ j, j < ss.length → w.cell? ⟨b, off + j, none⟩ = some (.string (ss.getD j ByteArray.empty)) := fun j hj => by
      have := hcell j hj
      by_cases hj0 : j = 0
      · subst hj0; simpa [Addr.add] using this
      · simpa [Addr.add, hj0] using this
    refine ⟨b, off, rfl, Nat.zero_le _, block_lt_of_cell (cj 0 (by omega)), fun i x hx j u hu => ?_⟩
    have hi : i < len := by have := (List.getElem?_eq_some_iff.1 hx).1; omega
    match j, hu with
    | 0, hu =>
      cases hu
      rw [Nat.mul_one, Nat.add_zero, cj i (by omega)]
      rw [List.getElem?_take_of_lt hi] at hx
      rw [List.getD_eq_getElem?_getD, hx]
      rfl
end
section
variable {H : Type} {enc : TypeId × Value → H} {w : World} {base : Nat} {spare : Nat → Bool} {held : Bool}
theorem own : ownKnob Try.prog.godebug = none := by kernel_rfl
theorem laidOut : laidOutB Try.prog = true := by kernel_rfl
theorem cells2 : Try.prog.cellsOf 2 = 1 := by kernel_rfl
theorem cells3 : Try.prog.cellsOf 3 = 1 := by kernel_rfl
theorem cells4 : Try.prog.cellsOf 4 = 1 := by kernel_rfl
theorem cells9 : Try.prog.cellsOf 9 = 1 := by kernel_rfl
theorem cells50 : Try.prog.cellsOf 50 = 1 := by kernel_rfl
theorem cells24 : Try.prog.cellsOf 24 = 1 := by kernel_rfl
theorem cells69 : Try.prog.cellsOf 69 = 7 := by kernel_rfl
theorem cells108 : Try.prog.cellsOf 108 = 8 := by kernel_rfl
theorem cells114 : Try.prog.cellsOf 114 = 2 := by kernel_rfl
theorem cells22 : Try.prog.cellsOf 22 = 1 := by kernel_rfl
theorem cells67 : Try.prog.cellsOf 67 = 1 := by kernel_rfl
theorem cells66 : Try.prog.cellsOf 66 = 1 := by kernel_rfl
theorem cells43 : Try.prog.cellsOf 43 = 1 := by kernel_rfl
theorem cells36 : Try.prog.cellsOf 36 = 1 := by kernel_rfl
theorem list1 {cs : List Value} (h : cs.length = 1) : ∃ a, cs = [a] := by
  match cs, h with
  | [a], _ => exact ⟨a, rfl⟩
theorem list2 {cs : List Value} (h : cs.length = 2) : ∃ a b, cs = [a, b] := by
  match cs, h with
  | [a, b], _ => exact ⟨a, b, rfl⟩
theorem list7 {cs : List Value} (h : cs.length = 7) : ∃ a b c d e f g, cs = [a, b, c, d, e, f, g] := by
  match cs, h with
  | [a, b, c, d, e, f, g], _ => exact ⟨a, b, c, d, e, f, g, rfl⟩
theorem list8 {cs : List Value} (h : cs.length = 8) : ∃ a b c d e f g h, cs = [a, b, c, d, e, f, g, h] := by
  match cs, h with
  | [a, b, c, d, e, f, g, h], _ => exact ⟨a, b, c, d, e, f, g, h, rfl⟩
theorem dec_one {n : Nat} {cs : List Value} {y : DataW H × List MemPlace} (h : DataW.trod enc Try.prog w base spare held n 3 cs = some y) : ∃ a : Int, cs = encI a ∧ True := by
  obtain ⟨a, e, -, -⟩ := DataW.trod_int Try.underlying3 h
  exact ⟨a, e, trivial⟩
theorem ints_open {fuel : Nat} {v : Value} {x : DataW H × List MemPlace} (h : DataW.trod enc Try.prog w base spare held fuel 36 [v] = some x) : ∃ (A : Option Addr) (c : Nat) (xs : List Int), v = .slice A xs.length c ∧ RdL encI 1 w 0 A xs ∧ (∀ a ∈ xs, True) ∧ xs.length ≤ maxLen :=
  slice_open Try.underlying36 cells3 (by decide) (fun _ _ _ h => dec_one h) h
theorem dec_up {n : Nat} {cs : List Value} {y : DataW H × List MemPlace} (h : DataW.trod enc Try.prog w base spare held n 114 cs = some y) : ∃ p : Up, cs = encU p ∧ True := by
  obtain ⟨xs, n', _, _, hlen, hxl, hg⟩ := DataW.trod_struct Try.underlying114 h
  simp only [List.size_toArray, List.length_cons, List.length_nil, Nat.zero_add, Nat.reduceAdd] at hxl
  rw [cells114] at hlen
  obtain ⟨c0, c1, rfl⟩ := list2 hlen
  have g0 := hg 0 _ rfl
  have g1 := hg 1 _ rfl
  simp only [List.getElem_toArray, List.getElem_cons_zero, List.getElem_cons_succ, cells3, cells4, List.drop_zero, List.drop_succ_cons, List.take_succ_cons, List.take_zero] at g0 g1
  rw [List.getElem?_eq_getElem (by omega)] at g0 g1
  obtain ⟨b, e0, -⟩ := DataW.trod_bool Try.underlying4 g0
  obtain ⟨i, e1, -, -⟩ := DataW.trod_int Try.underlying3 g1
  simp only [List.cons.injEq, and_true] at e0 e1
  subst e0 e1
  exact ⟨⟨b, i⟩, rfl, trivial⟩
theorem ups_open {fuel : Nat} {v : Value} {x : DataW H × List MemPlace} (h : DataW.trod enc Try.prog w base spare held fuel 66 [v] = some x) : ∃ (A : Option Addr) (c : Nat) (xs : List Up), v = .slice A xs.length c ∧ RdL encU 2 w 0 A xs ∧ (∀ a ∈ xs, True) ∧ xs.length ≤ maxLen :=
  slice_open Try.underlying66 cells114 (by decide) (fun _ _ _ h => dec_up h) h
theorem dec_node {n : Nat} {cs : List Value} {y : DataW H × List MemPlace} (h : DataW.trod enc Try.prog w base spare held n 108 cs = some y) : ∃ l : LN, cs = encN l ∧ (OkN w 0 l ∧ fitN l) := by
  obtain ⟨xs, n', _, _, hlen, hxl, hg⟩ := DataW.trod_struct Try.underlying108 h
  simp only [List.size_toArray, List.length_cons, List.length_nil, Nat.zero_add, Nat.reduceAdd] at hxl
  rw [cells108] at hlen
  obtain ⟨c0, c1, c2, c3, c4, c5, c6, c7, rfl⟩ := list8 hlen
  have g0 := hg 0 _ rfl
  have g1 := hg 1 _ rfl
  have g2 := hg 2 _ rfl
  have g3 := hg 3 _ rfl
  have g4 := hg 4 _ rfl
  have g5 := hg 5 _ rfl
  have g6 := hg 6 _ rfl
  have g7 := hg 7 _ rfl
  simp only [List.getElem_toArray, List.getElem_cons_zero, List.getElem_cons_succ, cells2, cells3, cells50, cells9, cells36, List.drop_zero, List.drop_succ_cons, List.take_succ_cons, List.take_zero] at g0 g1 g2 g3 g4 g5 g6 g7
  rw [List.getElem?_eq_getElem (by omega)] at g0 g1 g2 g3 g4 g5 g6 g7
  obtain ⟨a0, e0, -, -⟩ := DataW.trod_int Try.underlying3 g0
  obtain ⟨a1, e1, -, -⟩ := DataW.trod_int Try.underlying3 g1
  obtain ⟨a2, e2, -, -⟩ := DataW.trod_int Try.underlying3 g2
  obtain ⟨a3, e3, -, -⟩ := DataW.trod_int Try.underlying2 g3
  obtain ⟨a4, e4, -, -⟩ := trod_float Try.underlying50 g4
  obtain ⟨a5, e5, -, h5⟩ := DataW.trod_string Try.underlying9 g5
  obtain ⟨A6, k6, x6, rfl, r6, -, m6⟩ := ints_open g6
  obtain ⟨A7, k7, x7, rfl, r7, -, m7⟩ := ints_open g7
  simp only [List.cons.injEq, and_true] at e0 e1 e2 e3 e4 e5
  subst e0 e1 e2 e3 e4 e5
  exact ⟨⟨⟨a0, a1, a2, a3, a4, a5, x6, x7⟩, A6, k6, A7, k7⟩, rfl, ⟨r6, r7⟩, h5, m6, m7⟩
theorem nodes_open {fuel : Nat} {v : Value} {x : DataW H × List MemPlace} (h : DataW.trod enc Try.prog w base spare held fuel 67 [v] = some x) : ∃ (A : Option Addr) (c : Nat) (xs : List LN), v = .slice A xs.length c ∧ RdL encN 8 w 0 A xs ∧ (∀ l ∈ xs, OkN w 0 l ∧ fitN l) ∧ xs.length ≤ maxLen :=
  slice_open Try.underlying67 cells108 (by decide) (fun _ _ _ h => dec_node h) h
theorem dec_fn {n : Nat} {cs : List Value} {y : DataW H × List MemPlace} (h : DataW.trod enc Try.prog w base spare held n 69 cs = some y) : ∃ f : LF, cs = encF f ∧ (OkF w 0 f ∧ fitF f) := by
  obtain ⟨xs, n', _, _, hlen, hxl, hg⟩ := DataW.trod_struct Try.underlying69 h
  simp only [List.size_toArray, List.length_cons, List.length_nil, Nat.zero_add, Nat.reduceAdd] at hxl
  rw [cells69] at hlen
  obtain ⟨c0, c1, c2, c3, c4, c5, c6, rfl⟩ := list7 hlen
  have g0 := hg 0 _ rfl
  have g1 := hg 1 _ rfl
  have g2 := hg 2 _ rfl
  have g3 := hg 3 _ rfl
  have g4 := hg 4 _ rfl
  have g5 := hg 5 _ rfl
  have g6 := hg 6 _ rfl
  simp only [List.getElem_toArray, List.getElem_cons_zero, List.getElem_cons_succ, cells3, cells4, cells9, cells43, cells66, cells67, List.drop_zero, List.drop_succ_cons, List.take_succ_cons, List.take_zero] at g0 g1 g2 g3 g4 g5 g6
  rw [List.getElem?_eq_getElem (by omega)] at g0 g1 g2 g3 g4 g5 g6
  obtain ⟨a0, e0, -, h0⟩ := DataW.trod_string Try.underlying9 g0
  obtain ⟨a1, e1, -, -⟩ := DataW.trod_int Try.underlying3 g1
  obtain ⟨a2, e2, -, -⟩ := DataW.trod_int Try.underlying3 g2
  obtain ⟨a3, e3, -⟩ := DataW.trod_bool Try.underlying4 g3
  obtain ⟨A4, k4, x4, rfl, r4, q4, m4⟩ := strs_open Try.underlying43 Try.underlying9 cells9 g4
  obtain ⟨A5, k5, x5, rfl, r5, -, m5⟩ := ups_open g5
  obtain ⟨A6, k6, x6, rfl, r6, q6, m6⟩ := nodes_open g6
  simp only [List.cons.injEq, and_true] at e0 e1 e2 e3
  subst e0 e1 e2 e3
  exact ⟨⟨a0, a1, a2, a3, x4, A4, k4, x5, A5, k5, x6, A6, k6⟩, rfl, ⟨r4, r5, r6, fun l hl => (q6 l hl).1⟩, h0, ⟨m4, q4⟩, m5, m6, fun l hl => (q6 l hl).2⟩
theorem fns_open {fuel : Nat} {v : Value} {x : DataW H × List MemPlace} (h : DataW.trod enc Try.prog w base spare held fuel 22 [v] = some x) : ∃ (A : Option Addr) (c : Nat) (xs : List LF), v = .slice A xs.length c ∧ RdL encF 7 w 0 A xs ∧ (∀ f ∈ xs, OkF w 0 f ∧ fitF f) ∧ xs.length ≤ maxLen :=
  slice_open Try.underlying22 cells69 (by decide) (fun _ _ _ h => dec_fn h) h
theorem agg_list {P : Program} {r : Reach} {b0 n : Nat} {t : TypeId} {fs : Array Field} {v : Value} (hs : P.underlying t = some (.struct fs)) (hC : P.cellsOf t = n) (hv : Value.okWide P w r b0 t v) : ∃ l : List Value, v = .agg ⟨l⟩ ∧ l.length = n := by
  obtain ⟨cs, rfl, hsz⟩ := okWide_struct hs hv
  obtain ⟨l⟩ := cs
  exact ⟨l, rfl, hsz.trans hC⟩
set_option maxRecDepth 100000 in
theorem unit_open {b0 : Nat} {rc : Reach} {v : Value} {d : DataW H} {p : List MemPlace} (hv : Value.okWide Try.prog w rc b0 24 v) (h : DataW.Trod enc Try.prog w base spare held 24 v d p) :
    ∃ (A : Option Addr) (c : Nat) (fs : List LF), v = .agg #[.slice A fs.length c] ∧ RdF w 0 A fs ∧ (∀ f ∈ fs, fitF f) ∧ fs.length ≤ maxLen := by
  obtain ⟨l, rfl, hl⟩ := agg_list Try.underlying24 cells24 hv
  obtain ⟨c0, rfl⟩ := list1 hl
  obtain ⟨fuel, hf⟩ := h
  obtain ⟨xs, n', _, _, hlen, hxl, hg⟩ := DataW.trod_struct Try.underlying24 hf
  simp only [List.size_toArray, List.length_cons, List.length_nil, Nat.zero_add] at hxl
  have g0 := hg 0 _ rfl
  simp only [List.getElem_toArray, List.getElem_cons_zero, cells22, Value.cells, List.drop_zero, List.take_succ_cons, List.take_zero] at g0
  rw [List.getElem?_eq_getElem (by omega)] at g0
  obtain ⟨A, c, fs, rfl, r, q, m⟩ := fns_open g0
  exact ⟨A, c, fs, rfl, ⟨r, fun f hf => (q f hf).1⟩, fun f hf => (q f hf).2, m⟩
end
end Go.Proofs.Ytcpjplkbmflglaa
