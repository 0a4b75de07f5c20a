/- Words for the walks of Hear: rows of records and of strings of the call's own; what stands beside the reader. -/
import Derived.Test.YtchlolfdinakiaaDoorH4
import Derived.Deep.CutBlock
import Derived.Deep.DeepCutAuto
namespace Go.Proofs.YtchlolfdinakiaaDoor
open Go.RowKit

theorem But.row {P : Nat → Prop} {w w' : World} {base : Nat} {e : TypeId} {size n : Nat} {v : Value} {xs : List Value} (h : But P w w') (hO : w.ownsRow base e size v n xs) (hp : ∀ g, v.ownBlock = some g → ¬ P g) : w'.ownsRow base e size v n xs := by
  refine ⟨hO.1, hO.2.imp id ?_⟩
  rintro ⟨g, cap, cur, rfl, hB, hg, r⟩
  exact ⟨g, cap, cur, rfl, hB, (h.block g (Array.getElem?_eq_some_iff.1 hg).1 (hp g rfl)).trans hg, r⟩
theorem But.of_grown {w w' : World} {row : Option Nat} (h : w.grownBy w' row) : But (fun k => row = some k) w w' :=
  ⟨h.os, h.tape, h.output, h.size, fun k hk hx => h.block k hk (fun e => hx e.symm)⟩
theorem row_blk_ne {w : World} {base : Nat} {e t : TypeId} {size n g : Nat} {v : Value} {xs : List Value} {cs : Array Value} (h : w.ownsRow base e size v n xs) (hb : Blk w g t cs) (hne : e ≠ t) : v.ownBlock ≠ some g := by
  rcases h.2 with ⟨rfl, -⟩ | ⟨g', cap, cur, rfl, -, hg, -⟩
  · simp [Value.ownBlock]
  · intro he
    have e1 : g' = g := by simpa [Value.ownBlock] using he
    subst e1
    unfold Blk at hb
    rw [hg] at hb
    injection hb with hb
    injection hb with _ hb
    exact hne hb
theorem row_row_ne {w : World} {base base' : Nat} {e e' : TypeId} {size size' n n' : Nat} {v v' : Value} {xs xs' : List Value} (h : w.ownsRow base e size v n xs) (h' : w.ownsRow base' e' size' v' n' xs') (hne : e ≠ e') : ∀ k, v.ownBlock = some k → v'.ownBlock ≠ some k := by
  intro k hk
  rcases h'.2 with ⟨rfl, -⟩ | ⟨g', cap, cur, rfl, -, hg, -⟩
  · simp [Value.ownBlock]
  · intro he
    have e1 : g' = k := by simpa [Value.ownBlock] using he
    subst e1
    exact row_blk_ne h (t := e') (cs := cur) hg hne hk

theorem flat_at {α : Type} (enc : α → List Value) (sz : Nat) (hlen : ∀ x, (enc x).length = sz) : ∀ (xs : List α) (i : Nat) (x : α), xs[i]? = some x → ∀ j u, (enc x)[j]? = some u → (xs.flatMap enc)[i * sz + j]? = some u
  | [], i, x, h => by simp at h
  | y :: r, 0, x, h => by
    intro j u hu
    simp at h
    subst h
    rw [List.flatMap_cons, Nat.zero_mul, Nat.zero_add, List.getElem?_append_left (List.getElem?_eq_some_iff.1 hu).1]
    exact hu
  | y :: r, i + 1, x, h => by
    intro j u hu
    rw [List.flatMap_cons, List.getElem?_append_right (by rw [hlen, Nat.add_mul]; omega), hlen]
    rw [show (i + 1) * sz + j - sz = i * sz + j by rw [Nat.add_mul]; omega]
    exact flat_at enc sz hlen r i x (by simpa using h) j u hu
theorem addr_addH (g k : Nat) : (⟨g, 0, none⟩ : Addr).add k = ⟨g, k, none⟩ := by
  by_cases h : k = 0
  · subst h; simp [Addr.add]
  · simp [Addr.add, h]
/-- v holds these records in a row of the call's own, from block B on. -/
def OwR (w : World) (B : Nat) (v : Value) (ps : List Rc) : Prop := w.ownsRow B 62 5 v ps.length (ps.flatMap encR)
def OwS (w : World) (B : Nat) (v : Value) (vs : List ByteArray) : Prop := w.ownsRow B 9 1 v vs.length (vs.flatMap encS)
theorem ow_rd {α : Type} {enc : α → List Value} {sz B : Nat} {e : TypeId} {w : World} {v : Value} {xs : List α} (hlen : ∀ x, (enc x).length = sz) (h : w.ownsRow B e sz v xs.length (xs.flatMap enc)) :
    ∃ A c, v = .slice A xs.length c ∧ RdL enc sz w B A xs ∧ Wr w B A xs.length sz e := by
  rcases h.2 with ⟨rfl, e0⟩ | ⟨g, cap, cur, rfl, hB, hg, hnc, -, hs, -⟩
  · exact ⟨none, 0, by rw [e0], fun h0 => absurd h0 (by omega), fun h0 => absurd h0 (by omega)⟩
  · refine ⟨some ⟨g, 0, none⟩, cap, rfl, fun _ => ⟨g, 0, rfl, hB, (Array.getElem?_eq_some_iff.1 hg).1, fun i x hx j u hu => ?_⟩, fun _ => ⟨g, cur, rfl, hB, hg, by rw [hs]; exact Nat.mul_le_mul_right sz hnc⟩⟩
    have := World.ownsRow.cells h (g := g) rfl (i * sz + j) u (flat_at enc sz hlen xs i x hx j u hu)
    rw [addr_addH] at this
    rw [Nat.zero_add]
    exact this
theorem owR_push {w : World} {B : Nat} {v : Value} {ps : List Rc} {x : Rc} (h : w.ownsRow B 62 5 v (ps.length + 1) (ps.flatMap encR ++ [.int .i64 x.kind, .int .i64 x.task, .int .i64 x.fn, .int .i64 x.line, .string x.text])) : OwR w B v (ps ++ [x]) := by
  unfold OwR
  have e1 : (ps ++ [x]).length = ps.length + 1 := by simp
  have e2 : (ps ++ [x]).flatMap encR = ps.flatMap encR ++ [.int .i64 x.kind, .int .i64 x.task, .int .i64 x.fn, .int .i64 x.line, .string x.text] := by simp [encR]
  rw [e1, e2]; exact h
theorem owS_push {w : World} {B : Nat} {v : Value} {vs : List ByteArray} {x : ByteArray} (h : w.ownsRow B 9 1 v (vs.length + 1) (vs.flatMap encS ++ [.string x])) : OwS w B v (vs ++ [x]) := by
  unfold OwS
  have e1 : (vs ++ [x]).length = vs.length + 1 := by simp
  have e2 : (vs ++ [x]).flatMap encS = vs.flatMap encS ++ [.string x] := by simp [encS]
  rw [e1, e2]; exact h

/-- A row of bytes, whole, as a string. -/
theorem conv_all {w : World} {lo : Nat} {A : Option Addr} {l : List UInt8} {c : Nat} (hb : RdL encB 1 w lo A l) : (convert 35 9 (.slice A l.length c)).run Tryd.prog w = .ok (.string ⟨l.toArray⟩) w := by
  by_cases h0 : 0 < l.length
  · obtain ⟨b, off, rfl, -, -, -⟩ := hb h0
    have := conv_win hb 0 l.length c (by omega) h0 0
    rw [List.drop_zero, List.take_length] at this
    exact this
  · have e : l = [] := List.eq_nil_of_length_eq_zero (by omega)
    subst e
    exact conv_zero w A c 0

/-- What stands beside the reader: all that was there, the bytes, the cell of the result. -/
structure Env (A : Option Addr) (l : List UInt8) (lo R : Nat) (w : World) (wi : World) : Prop where
  bel : Below w.heap.size w wi
  rd : RdL encB 1 wi lo A l
  res : Blk wi R 39 #[.int .i64 0, .slice none 0 0, .slice none 0 0, .string ⟨#[]⟩, .string ⟨#[]⟩, .int .i64 0, .int .i64 0]
theorem Env.but {A : Option Addr} {l : List UInt8} {lo R : Nat} {w wi wj : World} {P : Nat → Prop} (h : Env A l lo R w wi) (hA : ∀ b o, A = some ⟨b, o, none⟩ → b < w.heap.size) (hb : But P wi wj) (hP : ∀ k, P k → w.heap.size ≤ k ∧ k ≠ R) : Env A l lo R w wj :=
  ⟨h.bel.trans (hb.below (fun k hk => (hP k hk).1) h.bel.size), hb.rd h.rd (fun g o _ e hp => by have h1 := (hP g hp).1; have h2 := hA g o e; omega), hb.blk h.res (fun hp => (hP R hp).2 rfl)⟩
theorem Env.alloc {A : Option Addr} {l : List UInt8} {lo R : Nat} {w wi : World} (h : Env A l lo R w wi) (o : Obj) : Env A l lo R w (wi.alloc o) :=
  ⟨h.bel.alloc h.bel.size o, h.rd.alloc o, h.res.alloc o⟩

/-- How far a reader still has to go. -/
def rdM (L rb : Nat) (w : World) : Nat := match w.cell? ⟨rb, 2, none⟩, w.cell? ⟨rb, 1, none⟩ with
  | some (.bool false), some (.int _ p) => L + 1 - p.toNat
  | _, _ => 0
theorem rdM_eq {L rb : Nat} {w : World} {t : TypeId} {s : Value} {p : Nat} {bad : Bool} (h : Blk w rb t #[s, .int .i64 (p : Int), .bool bad]) : rdM L rb w = if bad then 0 else L + 1 - p := by
  obtain ⟨-, h1, h2⟩ := box3 h
  unfold rdM
  rw [h1, h2]
  cases bad <;> simp
theorem info39 : (Tryd.prog.info? 62).map (fun i => (i.zero, i.size, i.bytes)) = some (some (.agg #[.int .i64 0, .int .i64 0, .int .i64 0, .int .i64 0, .string ⟨#[]⟩]), 5, 48) := by kernel_rfl
def okS (ps : List Rc) : Prop := ∀ x ∈ ps, i64 x.kind ∧ i64 x.task ∧ i64 x.fn ∧ i64 x.line
theorem okS_push {ps : List Rc} {x : Rc} (h : okS ps) (h1 : i64 x.kind) (h2 : i64 x.task) (h3 : i64 x.fn) (h4 : i64 x.line) : okS (ps ++ [x]) := fun y hy => by
  rcases List.mem_append.1 hy with hy | hy
  · exact h y hy
  · rw [List.mem_singleton] at hy; subst hy; exact ⟨h1, h2, h3, h4⟩
theorem totW_app (ps : List Rc) (x : Rc) : totW wR (ps ++ [x]) = totW wR ps + x.text.size := by
  induction ps with
  | nil => simp [totW, wR]
  | cons y r ih => simp only [List.cons_append, totW]; rw [ih]; omega
theorem totS_app (vs : List ByteArray) (x : ByteArray) : totS (vs ++ [x]) = totS vs + x.size := by
  induction vs with
  | nil => simp [totS]
  | cons y r ih => simp only [List.cons_append, totS]; rw [ih]; omega
/-- Reading n records of x's weight goes on. -/
theorem rec_wt {l : List UInt8} {p0 p1 p2 p3 p4 p5 : Nat} {b0 b1 b2 b3 b4 b5 : Bool} {n1 n2 n3 n4 : Int} {s : ByteArray} (h1 : NumRd l p0 b0 n1 p1 b1) (h2 : NumRd l p1 b1 n2 p2 b2) (h3 : NumRd l p2 b2 n3 p3 b3) (h4 : NumRd l p3 b3 n4 p4 b4) (h5 : TextRd l p4 b4 s p5 b5) : p0 ≤ p5 ∧ p5 ≤ l.length ∧ (b0 = true → b5 = true) ∧ (b5 = false → p0 + 1 + s.size ≤ p5 ∧ b0 = false) := by
  obtain ⟨-, a1, -, c1, d1, -⟩ := h1
  obtain ⟨-, a2, -, c2, d2, -⟩ := h2
  obtain ⟨-, a3, -, c3, d3, -⟩ := h3
  obtain ⟨-, a4, -, c4, d4, -⟩ := h4
  obtain ⟨-, a5, e5, c5, d5, -⟩ := h5
  refine ⟨by omega, e5, fun h => c5 (c4 (c3 (c2 (c1 h)))), fun h => ⟨by have := d5 h; omega, ?_⟩⟩
  cases b0 with
  | false => rfl
  | true => rw [c5 (c4 (c3 (c2 (c1 rfl))))] at h; cases h
end Go.Proofs.YtchlolfdinakiaaDoor
