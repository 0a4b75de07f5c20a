/- Words: worlds, slices that read as lists, blocks known whole. -/
import Derived.Test.YtcpjplkbmflglaaRows
import Derived.WalkKit
import Derived.WalkLawsBesides
import Derived.WalkSpells
import Derived.Outline
import Derived.Lib.Hide
import Derived.Laws.MakeOwn
import Derived.LoopTactic
import Derived.Deep.Draws
import Derived.Laws.Rows
import Derived.Deep.QuietTactic
import Derived.BigQuiet
import Derived.Deep.LoopGhost
import Derived.Deep.RegionHeld3
namespace Go.Proofs.Ytcpjplkbmflglaa
open Go.RowKit
theorem run_store_float (P : Program) (w : World) (a : Addr) (m : Mode) (k : FloatKind) (b : Nat) : (store a (.float k b) m).run P w = stored P w a (.float k b) m := run_store P w a _ m rfl
theorem bcell {W w1 : World} (hb : Below W.heap.size W w1) : (∀ b o, b < W.heap.size → w1.cell? ⟨b, o, none⟩ = W.cell? ⟨b, o, none⟩) ∧ (∀ b o, b < W.heap.size → w1.frozen? ⟨b, o, none⟩ = W.frozen? ⟨b, o, none⟩) :=
  ⟨fun b o h => hb.cell (p := ⟨b, o, none⟩) h, fun b o h => hb.frozen (p := ⟨b, o, none⟩) h⟩

/-- A new block, then a callee that keeps all that was there. -/
theorem below_then {w w1 : World} {o : Obj} (h : Below (w.alloc o).heap.size (w.alloc o) w1) : Below w.heap.size w w1 :=
  ((Below.refl _ _).alloc (Nat.le_refl _) _).trans (h.mono (by simp))
theorem below_new (w : World) (o : Obj) : Below w.heap.size w (w.alloc o) := (Below.refl _ _).alloc (Nat.le_refl _) _

theorem below_new2 (w : World) (a b : Obj) : Below w.heap.size w ((w.alloc a).alloc b) := ((Below.refl _ _).alloc (Nat.le_refl _) _).alloc (by simp) _
theorem below_new3 (w : World) (a b c : Obj) : Below w.heap.size w (((w.alloc a).alloc b).alloc c) := (((Below.refl _ _).alloc (Nat.le_refl _) _).alloc (by simp) _).alloc (by simp; omega) _

theorem bl_set {B : Nat} {a w : World} {p : Addr} (hp : B ≤ p.block) (u : Value) (h : Below B a w) : Below B a (w.setCell p u) := h.setCell hp u
theorem bl_alloc {B : Nat} {a w : World} (hB : B ≤ w.heap.size) (o : Obj) (h : Below B a w) : Below B a (w.alloc o) := h.alloc hB o
/-- The slice at address A reads as the records xs, each of sz cells; nothing is said of the address where xs is empty. 'lo': from this block on. -/
def RdL {α : Type} (enc : α → List Value) (sz : Nat) (w : World) (lo : Nat) (A : Option Addr) (xs : List α) : Prop :=
  0 < xs.length → ∃ b off, A = some ⟨b, off, none⟩ ∧ lo ≤ b ∧ b < w.heap.size ∧ ∀ i x, xs[i]? = some x → ∀ j u, (enc x)[j]? = some u → w.cell? ⟨b, off + i * sz + j, none⟩ = some u

section
variable {α : Type} {enc : α → List Value} {sz lo : Nat} {w w' : World} {A : Option Addr} {xs : List α}
theorem RdL.keep (h : RdL enc sz w lo A xs) (hs : w.heap.size ≤ w'.heap.size) (hk : ∀ b o, b < w.heap.size → w'.cell? ⟨b, o, none⟩ = w.cell? ⟨b, o, none⟩) : RdL enc sz w' lo A xs := fun h0 => by
  obtain ⟨b, off, e, hlo, hb, hc⟩ := h h0
  exact ⟨b, off, e, hlo, by omega, fun i x hx j u hu => (hk b _ hb).trans (hc i x hx j u hu)⟩
theorem RdL.below (h : RdL enc sz w lo A xs) (hb : Below w.heap.size w w') : RdL enc sz w' lo A xs := h.keep hb.size fun b o hlt => hb.cell (p := ⟨b, o, none⟩) hlt
theorem RdL.alloc (h : RdL enc sz w lo A xs) (o : Obj) : RdL enc sz (w.alloc o) lo A xs := h.below ((Below.refl _ _).alloc (Nat.le_refl _) o)
theorem RdL.drew (h : RdL enc sz w lo A xs) : RdL enc sz w.drew lo A xs := h
theorem RdL.drewN (h : RdL enc sz w lo A xs) (n : Nat) : RdL enc sz (w.drewN n) lo A xs := h
/-- Below a number that lies above the slice's block nothing has turned. -/
theorem RdL.below_lt {B : Nat} (h : RdL enc sz w lo A xs) (hb : Below B w w') (hB : ∀ b off, A = some ⟨b, off, none⟩ → b < B) : RdL enc sz w' lo A xs := fun h0 => by
  obtain ⟨b, off, e, hlo, hlt, hc⟩ := h h0
  have hbB := hB b off e
  exact ⟨b, off, e, hlo, Nat.lt_of_lt_of_le hlt hb.size, fun i x hx j u hu => (hb.cell (p := ⟨b, _, none⟩) hbB).trans (hc i x hx j u hu)⟩
theorem RdL.nil : RdL enc sz w lo A ([] : List α) := fun h => absurd h (by simp)
theorem RdL.lower {lo' : Nat} (h : RdL enc sz w lo A xs) (hl : lo' ≤ lo) : RdL enc sz w lo' A xs := fun h0 => by
  obtain ⟨b, off, e, hlo, r⟩ := h h0
  exact ⟨b, off, e, by omega, r⟩
theorem RdL.at_ (h : RdL enc sz w lo A xs) {k : Nat} (hk : k < xs.length) : ∃ b off, A = some ⟨b, off, none⟩ ∧ lo ≤ b ∧ b < w.heap.size ∧ ∀ j u, (enc xs[k])[j]? = some u → w.cell? ⟨b, off + k * sz + j, none⟩ = some u := by
  obtain ⟨b, off, e, hlo, hb, hc⟩ := h (by omega)
  exact ⟨b, off, e, hlo, hb, fun j u hu => hc k _ (List.getElem?_eq_getElem hk) j u hu⟩
end

/-- A block known whole. -/
def Blk (w : World) (g : Nat) (t : TypeId) (cs : Array Value) : Prop := w.heap[g]? = some (.cells cs t (0, 0))

section
variable {w w' : World} {g : Nat} {t : TypeId} {cs : Array Value}
theorem Blk.lt (h : Blk w g t cs) : g < w.heap.size := by
  unfold Blk at h
  exact (Array.getElem?_eq_some_iff.1 h).1
theorem Blk.cell (h : Blk w g t cs) (i : Nat) : w.cell? ⟨g, i, none⟩ = cs[i]? := cell_of_row w g i cs t (0, 0) h
theorem Blk.frozen (h : Blk w g t cs) (i : Nat) : w.frozen? ⟨g, i, none⟩ = false := by
  unfold Blk at h
  simp [World.frozen?, h]
theorem Blk.new (w : World) (t : TypeId) (cs : Array Value) : Blk (w.alloc (.cells cs t)) w.heap.size t cs := by
  unfold Blk World.alloc
  simp
theorem Blk.alloc (h : Blk w g t cs) (o : Obj) : Blk (w.alloc o) g t cs := (Below.heap_alloc w o g h.lt).trans h
theorem Blk.set_ (h : Blk w g t cs) (i : Nat) (u : Value) : Blk (w.setCell ⟨g, i, none⟩ u) g t (cs.setIfInBounds i u) := by
  unfold Blk at h ⊢
  simp [World.setCell, Array.getElem?_modify, h]
theorem Blk.far (h : Blk w g t cs) {p : Addr} (hp : g ≠ p.block) (u : Value) : Blk (w.setCell p u) g t cs := (Below.heap_setCell w p u g hp).trans h
theorem Blk.below {B : Nat} (h : Blk w g t cs) (hb : Below B w w') (hg : g < B) : Blk w' g t cs := (hb.block g hg).trans h
end

theorem cut_toNat (i : Nat) : ((i : Int)).toNat = i := Int.toNat_natCast i

def encS (s : ByteArray) : List Value := [.string s]
theorem rdS_at {w : World} {lo : Nat} {A : Option Addr} {xs : List ByteArray} (h : RdL encS 1 w lo A xs) {k : Nat} (hk : k < xs.length) :
    ∃ b off, A = some ⟨b, off, none⟩ ∧ lo ≤ b ∧ b < w.heap.size ∧ w.cell? ⟨b, off + k, none⟩ = some (.string xs[k]) := by
  obtain ⟨b, off, e, hlo, hb, hc⟩ := h.at_ hk
  exact ⟨b, off, e, hlo, hb, by simpa using hc 0 (.string xs[k]) rfl⟩

/-- What the strings weigh. -/
def totS : List ByteArray → Nat
  | [] => 0
  | s :: r => s.size + totS r
theorem totS_take (xs : List ByteArray) (k : Nat) (hk : k < xs.length) : totS (xs.take (k + 1)) = totS (xs.take k) + xs[k].size := by
  induction xs generalizing k with
  | nil => simp at hk
  | cons x r ih =>
    cases k with
    | zero => simp [totS]
    | succ k => simp only [List.take_succ_cons, totS, List.getElem_cons_succ]; rw [ih k (by simpa using hk)]; omega
theorem totS_le (xs : List ByteArray) (k : Nat) : totS (xs.take k) ≤ totS xs := by
  induction xs generalizing k with
  | nil => simp
  | cons x r ih => cases k with
    | zero => simp [totS]
    | succ k => simp only [List.take_succ_cons, totS]; have := ih k; omega
def negOr (t : Int) : Int := if t < 0 then -1 else t
def szS (xs : List ByteArray) (left : Int) : Int := negOr (left - xs.length - totS xs)

/-- A slice of n records of sz cells that may be written: a block known whole. -/
def Wr (w : World) (lo : Nat) (A : Option Addr) (n sz : Nat) (t : TypeId) : Prop := 0 < n → ∃ g cs, A = some ⟨g, 0, none⟩ ∧ lo ≤ g ∧ Blk w g t cs ∧ n * sz ≤ cs.size
theorem Wr.below {w w' : World} {lo : Nat} {A : Option Addr} {n sz : Nat} {t : TypeId} (h : Wr w lo A n sz t) (hb : Below w.heap.size w w') : Wr w' lo A n sz t := fun h0 => by
  obtain ⟨g, cs, e, hg, hB, hs⟩ := h h0
  exact ⟨g, cs, e, hg, hB.below hb hB.lt, hs⟩
/-- The first k records lie in the array. -/
def Full {α : Type} (enc : α → List Value) (sz : Nat) (cs : Array Value) (xs : List α) (k : Nat) : Prop := ∀ i x, i < k → xs[i]? = some x → ∀ j u, (enc x)[j]? = some u → cs[i * sz + j]? = some u
theorem Full.zero {α : Type} {enc : α → List Value} {sz : Nat} {cs : Array Value} {xs : List α} : Full enc sz cs xs 0 := fun i _ h => absurd h (by omega)
theorem Full.step {α : Type} {enc : α → List Value} {sz : Nat} {cs cs' : Array Value} {xs : List α} {k : Nat} (h : Full enc sz cs xs k) (hlen : ∀ x, (enc x).length ≤ sz)
    (hold : ∀ i, i < k * sz → cs'[i]? = cs[i]?) (hnew : ∀ x, xs[k]? = some x → ∀ j u, (enc x)[j]? = some u → cs'[k * sz + j]? = some u) : Full enc sz cs' xs (k + 1) := fun i x hi hx j u hu => by
  by_cases e : i = k
  · subst e; exact hnew x hx j u hu
  · have hj : j < sz := Nat.lt_of_lt_of_le (List.getElem?_eq_some_iff.1 hu).1 (hlen x)
    have hik : i + 1 ≤ k := by omega
    have hm := Nat.mul_le_mul_right sz hik
    rw [Nat.add_mul] at hm
    rw [hold _ (by omega)]
    exact h i x (by omega) hx j u hu
theorem Full.set1 {cs : Array Value} {xs : List ByteArray} {k : Nat} (h : Full encS 1 cs xs k) (hk : k < xs.length) (hs : cs.size = xs.length) : Full encS 1 (cs.setIfInBounds k (.string xs[k])) xs (k + 1) := by
  refine h.step (fun _ => Nat.le_refl _) (fun i hi => ?_) (fun x hx j u hu => ?_)
  · rw [Array.getElem?_setIfInBounds_ne (by omega)]
  · rw [List.getElem?_eq_getElem hk] at hx
    cases hx
    match j, hu with
    | 0, hu =>
      cases hu
      rw [Nat.mul_one, Nat.add_zero, Array.getElem?_setIfInBounds_self_of_lt (by omega)]
theorem rd_of_blk {α : Type} {enc : α → List Value} {sz lo g : Nat} {w : World} {t : TypeId} {cs : Array Value} {xs : List α} (h : Blk w g t cs) (hg : lo ≤ g) (hf : Full enc sz cs xs xs.length) : RdL enc sz w lo (some ⟨g, 0, none⟩) xs := fun _ =>
  ⟨g, 0, rfl, hg, h.lt, fun i x hx j u hu => by
    rw [Nat.zero_add, h.cell]
    exact hf i x (List.getElem?_eq_some_iff.1 hx).1 hx j u hu⟩

theorem dN_size (w : World) (n : Nat) : (w.drewN n).heap.size = w.heap.size := rfl
theorem dN_cell (w : World) (n : Nat) (a : Addr) : (w.drewN n).cell? a = w.cell? a := rfl
theorem dN_frozen (w : World) (n : Nat) (a : Addr) : (w.drewN n).frozen? a = w.frozen? a := rfl
theorem bl_drewN {B : Nat} {a w : World} (n : Nat) (h : Below B a w) : Below B a (w.drewN n) := ⟨h.os, h.tape, h.output, h.size, h.block⟩

theorem RdL.set_far {α : Type} {enc : α → List Value} {sz lo : Nat} {w : World} {A : Option Addr} {xs : List α} {p : Addr} (h : RdL enc sz w lo A xs) (hp : p.block < lo) (u : Value) : RdL enc sz (w.setCell p u) lo A xs := fun h0 => by
  obtain ⟨b, off, e, hlo, hb, hc⟩ := h h0
  exact ⟨b, off, e, hlo, by simpa [World.setCell] using hb, fun i x hx j v hv => (World.cell?_setCell_other w p _ u (fun e => by subst e; simp at hp; omega)).trans (hc i x hx j v hv)⟩

theorem bl_undrew {a w : World} (h : Below a.drew.heap.size a.drew w) : Below a.heap.size a w := ⟨h.os, h.tape, h.output, h.size, h.block⟩
theorem bl_undrewN {a w : World} {n : Nat} (h : Below (a.drewN n).heap.size (a.drewN n) w) : Below a.heap.size a w := ⟨h.os, h.tape, h.output, h.size, h.block⟩

/-- What records weigh. -/
def totW {α : Type} (f : α → Nat) : List α → Nat
  | [] => 0
  | s :: r => f s + totW f r
theorem totW_take {α : Type} (f : α → Nat) (xs : List α) (k : Nat) (x : α) (hk : xs[k]? = some x) : totW f (xs.take (k + 1)) = totW f (xs.take k) + f x := by
  induction xs generalizing k with
  | nil => simp at hk
  | cons y r ih =>
    cases k with
    | zero => simp at hk; subst hk; simp [totW]
    | succ k => simp only [List.take_succ_cons, totW]; rw [ih k (by simpa using hk)]; omega
theorem totW_le {α : Type} (f : α → Nat) (xs : List α) (k : Nat) : totW f (xs.take k) ≤ totW f xs := by
  induction xs generalizing k with
  | nil => simp
  | cons x r ih => cases k with
    | zero => simp [totW]
    | succ k => simp only [List.take_succ_cons, totW]; have := ih k; omega
theorem negOr_neg {t : Int} (h : t < 0) : negOr t = -1 := by unfold negOr; rw [if_pos h]
theorem negOr_pos {t : Int} (h : 0 ≤ t) : negOr t = t := by unfold negOr; rw [if_neg (by omega)]

/-- A row of cells laid into an array. -/
def putL (cs : Array Value) (o : Nat) : List Value → Array Value
  | [] => cs
  | v :: r => putL (cs.setIfInBounds o v) (o + 1) r
theorem putL_size (l : List Value) : ∀ (cs : Array Value) (o : Nat), (putL cs o l).size = cs.size := by
  induction l with
  | nil => intro cs o; rfl
  | cons v r ih => intro cs o; unfold putL; rw [ih]; simp
theorem putL_old (l : List Value) : ∀ (cs : Array Value) (o i : Nat), i < o → (putL cs o l)[i]? = cs[i]? := by
  induction l with
  | nil => intro cs o i _; rfl
  | cons v r ih => intro cs o i h; unfold putL; rw [ih _ _ _ (by omega), Array.getElem?_setIfInBounds_ne (by omega)]
theorem putL_new (l : List Value) : ∀ (cs : Array Value) (o : Nat), o + l.length ≤ cs.size → ∀ j u, l[j]? = some u → (putL cs o l)[o + j]? = some u := by
  induction l with
  | nil => intro cs o _ j u h; simp at h
  | cons v r ih =>
    intro cs o hs j u h
    unfold putL
    simp only [List.length_cons] at hs
    cases j with
    | zero =>
      simp at h; subst h
      rw [putL_old _ _ _ _ (by omega)]
      have hlt : o < cs.size := by omega
      simp [hlt]
    | succ j =>
      have := ih (cs.setIfInBounds o v) (o + 1) (by simp; omega) j u (by simpa using h)
      rw [show o + (j + 1) = o + 1 + j from by omega]
      exact this
theorem Full.put {α : Type} {enc : α → List Value} {sz : Nat} {cs : Array Value} {xs : List α} {k : Nat} {x : α} (h : Full enc sz cs xs k) (hx : xs[k]? = some x) (hlen : ∀ x, (enc x).length = sz) (hs : xs.length * sz ≤ cs.size) : Full enc sz (putL cs (k * sz) (enc x)) xs (k + 1) := by
  have hk := (List.getElem?_eq_some_iff.1 hx).1
  have hm := Nat.mul_le_mul_right sz (show k + 1 ≤ xs.length by omega)
  rw [Nat.add_mul, Nat.one_mul] at hm
  refine h.step (fun x => Nat.le_of_eq (hlen x)) (fun i hi => putL_old _ _ _ _ hi) (fun y hy j u hu => ?_)
  rw [hx] at hy; cases hy
  exact putL_new _ _ _ (by rw [hlen]; omega) j u hu

/-- Of the blocks that were there those alone for which P holds may have turned. -/
structure But (P : Nat → Prop) (w w' : World) : Prop where
  os : w'.os = w.os
  tape : w'.tape = w.tape
  output : w'.output = w.output
  size : w.heap.size ≤ w'.heap.size
  block : ∀ k, k < w.heap.size → ¬ P k → w'.heap[k]? = w.heap[k]?
section
variable {P Q : Nat → Prop} {a b c w w' : World}
theorem But.refl (P : Nat → Prop) (w : World) : But P w w := ⟨rfl, rfl, rfl, Nat.le_refl _, fun _ _ _ => rfl⟩
theorem But.trans (h : But P a b) (k : But P b c) : But P a c :=
  ⟨k.os.trans h.os, k.tape.trans h.tape, k.output.trans h.output, Nat.le_trans h.size k.size, fun i hi hx => (k.block i (Nat.lt_of_lt_of_le hi h.size) hx).trans (h.block i hi hx)⟩
theorem But.of_below (h : Below w.heap.size w w') : But P w w' := ⟨h.os, h.tape, h.output, h.size, fun k hk _ => h.block k hk⟩
theorem But.set {g : Nat} (h : But P a w) (hp : P g) (i : Nat) (u : Value) : But P a (w.setCell ⟨g, i, none⟩ u) :=
  ⟨h.os, h.tape, h.output, by simpa using h.size, fun k hk hx => (Below.heap_setCell w ⟨g, i, none⟩ u k (by rintro rfl; exact hx hp)).trans (h.block k hk hx)⟩
theorem But.mono (h : But P w w') (hpq : ∀ k, k < w.heap.size → P k → Q k) : But Q w w' := ⟨h.os, h.tape, h.output, h.size, fun k hk hx => h.block k hk (fun hp => hx (hpq k hk hp))⟩
theorem But.below {B : Nat} (h : But P w w') (hB : ∀ k, P k → B ≤ k) (hs : B ≤ w.heap.size) : Below B w w' := ⟨h.os, h.tape, h.output, h.size, fun k hk => h.block k (by omega) (fun hp => by have := hB k hp; omega)⟩
theorem But.blk {g : Nat} {t : TypeId} {cs : Array Value} (h : But P w w') (hb : Blk w g t cs) (hg : ¬ P g) : Blk w' g t cs := (h.block g hb.lt hg).trans hb
theorem But.rd {α : Type} {enc : α → List Value} {sz lo : Nat} {A : Option Addr} {xs : List α} (h : But P w w') (hr : RdL enc sz w lo A xs) (hg : ∀ g o, 0 < xs.length → A = some ⟨g, o, none⟩ → ¬ P g) : RdL enc sz w' lo A xs := fun h0 => by
  obtain ⟨g, o, e, hlo, hlt, hc⟩ := hr h0
  exact ⟨g, o, e, hlo, Nat.lt_of_lt_of_le hlt h.size, fun i x hx j u hu => (World.cell?_of_block (h.block g hlt (hg g o h0 e))).trans (hc i x hx j u hu)⟩
end
/-- The block at whose head a slice that is not empty starts. -/
def Head (n : Nat) (A : Option Addr) (k : Nat) : Prop := 0 < n ∧ A = some ⟨k, 0, none⟩

theorem Wr.lower {w : World} {lo lo' : Nat} {A : Option Addr} {n sz : Nat} {t : TypeId} (h : Wr w lo A n sz t) (hl : lo' ≤ lo) : Wr w lo' A n sz t := fun h0 => by
  obtain ⟨g, cs, e, h1, h2⟩ := h h0
  exact ⟨g, cs, e, Nat.le_trans hl h1, h2⟩
theorem Wr.set_far {w : World} {lo : Nat} {A : Option Addr} {n sz : Nat} {t : TypeId} {p : Addr} (h : Wr w lo A n sz t) (hp : p.block < lo) (u : Value) : Wr (w.setCell p u) lo A n sz t := fun h0 => by
  obtain ⟨g, cs, e, h1, h2, h3⟩ := h h0
  exact ⟨g, cs, e, h1, h2.far (by omega) u, h3⟩
theorem Wr.alloc {w : World} {lo : Nat} {A : Option Addr} {n sz : Nat} {t : TypeId} (h : Wr w lo A n sz t) (o : Obj) : Wr (w.alloc o) lo A n sz t := fun h0 => by
  obtain ⟨g, cs, e, h1, h2, h3⟩ := h h0
  exact ⟨g, cs, e, h1, h2.alloc o, h3⟩
theorem rd_empty {α : Type} {enc : α → List Value} {sz lo : Nat} {w : World} {A : Option Addr} {xs : List α} (h : xs.length = 0) : RdL enc sz w lo A xs := fun h0 => absurd h0 (by omega)
theorem But.wr {P : Nat → Prop} {w w' : World} {lo : Nat} {A : Option Addr} {n sz : Nat} {t : TypeId} (h : But P w w') (hw : Wr w lo A n sz t) (hp : ∀ g, Head n A g → ¬ P g) : Wr w' lo A n sz t := fun h0 => by
  obtain ⟨g, cs, e, h1, h2, h3⟩ := hw h0
  exact ⟨g, cs, e, h1, h.blk h2 (hp g ⟨h0, e⟩), h3⟩
end Go.Proofs.Ytcpjplkbmflglaa
