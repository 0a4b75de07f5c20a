/- Words for worlds and slices that later texts share. -/
import Derived.Test.YtchlolfdinakiaaQs
import Derived.Deep.RegionHeld3
namespace Go.Proofs.Ytchlolfdinakiaa.Q
open Go.RowKit
attribute [local go_sem] run_store_float

theorem dN_size (w : World) (n : Nat) : (w.drewN n).heap.size = w.heap.size := rfl
theorem dN_cell (w : World) (n : Nat) (a : Addr) : (w.drewN n).cell? a = w.cell? a := rfl
theorem dN_frozen (w : World) (n : Nat) (a : Addr) : (w.drewN n).frozen? a = w.frozen? a := rfl
theorem bl_drewN {B : Nat} {a w : World} (n : Nat) (h : Below B a w) : Below B a (w.drewN n) := ⟨h.os, h.tape, h.output, h.size, h.block⟩

theorem RdL.set_far {α : Type} {enc : α → List Value} {sz lo : Nat} {w : World} {A : Option Addr} {xs : List α} {p : Addr} (h : RdL enc sz w lo A xs) (hp : p.block < lo) (u : Value) : RdL enc sz (w.setCell p u) lo A xs := fun h0 => by
  obtain ⟨b, off, e, hlo, hb, hc⟩ := h h0
  exact ⟨b, off, e, hlo, by simpa [World.setCell] using hb, fun i x hx j v hv => (World.cell?_setCell_other w p _ u (fun e => by subst e; simp at hp; omega)).trans (hc i x hx j v hv)⟩

theorem bl_undrew {a w : World} (h : Below a.drew.heap.size a.drew w) : Below a.heap.size a w := ⟨h.os, h.tape, h.output, h.size, h.block⟩
theorem bl_undrewN {a w : World} {n : Nat} (h : Below (a.drewN n).heap.size (a.drewN n) w) : Below a.heap.size a w := ⟨h.os, h.tape, h.output, h.size, h.block⟩

/-- What records weigh. -/
def totW {α : Type} (f : α → Nat) : List α → Nat
  | [] => 0
  | s :: r => f s + totW f r
theorem totW_take {α : Type} (f : α → Nat) (xs : List α) (k : Nat) (x : α) (hk : xs[k]? = some x) : totW f (xs.take (k + 1)) = totW f (xs.take k) + f x := by
  induction xs generalizing k with
  | nil => simp at hk
  | cons y r ih =>
    cases k with
    | zero => simp at hk; subst hk; simp [totW]
    | succ k => simp only [List.take_succ_cons, totW]; rw [ih k (by simpa using hk)]; omega
theorem totW_le {α : Type} (f : α → Nat) (xs : List α) (k : Nat) : totW f (xs.take k) ≤ totW f xs := by
  induction xs generalizing k with
  | nil => simp
  | cons x r ih => cases k with
    | zero => simp [totW]
    | succ k => simp only [List.take_succ_cons, totW]; have := ih k; omega
theorem negOr_neg {t : Int} (h : t < 0) : negOr t = -1 := by unfold negOr; rw [if_pos h]
theorem negOr_pos {t : Int} (h : 0 ≤ t) : negOr t = t := by unfold negOr; rw [if_neg (by omega)]

/-- A row of cells laid into an array. -/
def putL (cs : Array Value) (o : Nat) : List Value → Array Value
  | [] => cs
  | v :: r => putL (cs.setIfInBounds o v) (o + 1) r
theorem putL_size (l : List Value) : ∀ (cs : Array Value) (o : Nat), (putL cs o l).size = cs.size := by
  induction l with
  | nil => intro cs o; rfl
  | cons v r ih => intro cs o; unfold putL; rw [ih]; simp
theorem putL_old (l : List Value) : ∀ (cs : Array Value) (o i : Nat), i < o → (putL cs o l)[i]? = cs[i]? := by
  induction l with
  | nil => intro cs o i _; rfl
  | cons v r ih => intro cs o i h; unfold putL; rw [ih _ _ _ (by omega), Array.getElem?_setIfInBounds_ne (by omega)]
theorem putL_new (l : List Value) : ∀ (cs : Array Value) (o : Nat), o + l.length ≤ cs.size → ∀ j u, l[j]? = some u → (putL cs o l)[o + j]? = some u := by
  induction l with
  | nil => intro cs o _ j u h; simp at h
  | cons v r ih =>
    intro cs o hs j u h
    unfold putL
    simp only [List.length_cons] at hs
    cases j with
    | zero =>
      simp at h; subst h
      rw [putL_old _ _ _ _ (by omega)]
      have hlt : o < cs.size := by omega
      simp [hlt]
    | succ j =>
      have := ih (cs.setIfInBounds o v) (o + 1) (by simp; omega) j u (by simpa using h)
      rw [show o + (j + 1) = o + 1 + j from by omega]
      exact this
theorem Full.put {α : Type} {enc : α → List Value} {sz : Nat} {cs : Array Value} {xs : List α} {k : Nat} {x : α} (h : Full enc sz cs xs k) (hx : xs[k]? = some x) (hlen : ∀ x, (enc x).length = sz) (hs : xs.length * sz ≤ cs.size) : Full enc sz (putL cs (k * sz) (enc x)) xs (k + 1) := by
  have hk := (List.getElem?_eq_some_iff.1 hx).1
  have hm := Nat.mul_le_mul_right sz (show k + 1 ≤ xs.length by omega)
  rw [Nat.add_mul, Nat.one_mul] at hm
  refine h.step (fun x => Nat.le_of_eq (hlen x)) (fun i hi => putL_old _ _ _ _ hi) (fun y hy j u hu => ?_)
  rw [hx] at hy; cases hy
  exact putL_new _ _ _ (by rw [hlen]; omega) j u hu

end Go.Proofs.Ytchlolfdinakiaa.Q
