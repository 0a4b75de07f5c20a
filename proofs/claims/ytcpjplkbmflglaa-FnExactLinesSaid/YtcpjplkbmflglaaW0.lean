/- Arrays of numbers and of truths, known whole. -/
import Derived.Test.YtcpjplkbmflglaaU3
namespace Go.Proofs.Ytcpjplkbmflglaa
open Go.RowKit
attribute [local go_sem] run_store_float
def BI (w : World) (g : Nat) (xs : List Int) : Prop := Blk w g 3 (xs.map (Value.int .i64)).toArray
theorem BI.cell {w : World} {g : Nat} {xs : List Int} (h : BI w g xs) {k : Nat} {x : Int} (hk : xs[k]? = some x) : w.cell? ⟨g, k, none⟩ = some (Value.int .i64 x) := by
  unfold BI at h
  rw [h.cell]
  simp [hk]
theorem BI.fz {w : World} {g : Nat} {xs : List Int} (h : BI w g xs) (k : Nat) : w.frozen? ⟨g, k, none⟩ = false := Blk.frozen h k
theorem BI.lt {w : World} {g : Nat} {xs : List Int} (h : BI w g xs) : g < w.heap.size := Blk.lt h
theorem BI.set_ {w : World} {g : Nat} {xs : List Int} (h : BI w g xs) (k : Nat) (v : Int) : BI (w.setCell ⟨g, k, none⟩ (Value.int .i64 v)) g (xs.set k v) := by
  unfold BI at h ⊢
  have := h.set_ k (Value.int .i64 v)
  rw [List.map_set]
  simpa using this
theorem BI.far {w : World} {g : Nat} {xs : List Int} (h : BI w g xs) {p : Addr} (hp : g ≠ p.block) (u : Value) : BI (w.setCell p u) g xs := Blk.far h hp u
theorem BI.alloc {w : World} {g : Nat} {xs : List Int} (h : BI w g xs) (o : Obj) : BI (w.alloc o) g xs := Blk.alloc h o
theorem BI.drew {w : World} {g : Nat} {xs : List Int} (h : BI w g xs) : BI w.drew g xs := h
theorem BI.drewN {w : World} {g : Nat} {xs : List Int} (h : BI w g xs) (n : Nat) : BI (w.drewN n) g xs := h
theorem BI.below {w w' : World} {g : Nat} {xs : List Int} (h : BI w g xs) (hb : Below w.heap.size w w') : BI w' g xs := Blk.below h hb h.lt
theorem BI.but {P : Nat → Prop} {w w' : World} {g : Nat} {xs : List Int} (h : BI w g xs) (hb : But P w w') (hg : ¬ P g) : BI w' g xs := hb.blk h hg
theorem BI.rd {w : World} {g lo : Nat} {xs : List Int} (h : BI w g xs) (hg : lo ≤ g) : RdL encI 1 w lo (some ⟨g, 0, none⟩) xs := fun _ =>
  ⟨g, 0, rfl, hg, h.lt, fun i x hx j u hu => by
    match j, hu with
    | 0, hu =>
      cases hu
      have := h.cell hx
      simpa using this⟩
theorem BI.make {w : World} (n : Nat) : BI (w.alloc (.cells (madeCells (Value.cells (Value.int .i64 0)) n) 3)) w.heap.size (List.replicate n 0) := by
  have : madeCells (Value.cells (Value.int .i64 0)) n = ((List.replicate n 0).map (Value.int .i64)).toArray := by
    apply Array.ext'
    simp [madeCells]
    refine List.ext_getElem (by simp) (fun i _ _ => ?_)
    simp [Value.cells, Nat.mod_one]
  rw [this]
  exact Blk.new _ _ _
def encB (b : Bool) : List Value := [.bool b]
def BB (w : World) (g : Nat) (xs : List Bool) : Prop := Blk w g 4 (xs.map (Value.bool)).toArray
theorem BB.cell {w : World} {g : Nat} {xs : List Bool} (h : BB w g xs) {k : Nat} {x : Bool} (hk : xs[k]? = some x) : w.cell? ⟨g, k, none⟩ = some (Value.bool x) := by
  unfold BB at h
  rw [h.cell]
  simp [hk]
theorem BB.fz {w : World} {g : Nat} {xs : List Bool} (h : BB w g xs) (k : Nat) : w.frozen? ⟨g, k, none⟩ = false := Blk.frozen h k
theorem BB.lt {w : World} {g : Nat} {xs : List Bool} (h : BB w g xs) : g < w.heap.size := Blk.lt h
theorem BB.set_ {w : World} {g : Nat} {xs : List Bool} (h : BB w g xs) (k : Nat) (v : Bool) : BB (w.setCell ⟨g, k, none⟩ (Value.bool v)) g (xs.set k v) := by
  unfold BB at h ⊢
  have := h.set_ k (Value.bool v)
  rw [List.map_set]
  simpa using this
theorem BB.far {w : World} {g : Nat} {xs : List Bool} (h : BB w g xs) {p : Addr} (hp : g ≠ p.block) (u : Value) : BB (w.setCell p u) g xs := Blk.far h hp u
theorem BB.alloc {w : World} {g : Nat} {xs : List Bool} (h : BB w g xs) (o : Obj) : BB (w.alloc o) g xs := Blk.alloc h o
theorem BB.drew {w : World} {g : Nat} {xs : List Bool} (h : BB w g xs) : BB w.drew g xs := h
theorem BB.drewN {w : World} {g : Nat} {xs : List Bool} (h : BB w g xs) (n : Nat) : BB (w.drewN n) g xs := h
theorem BB.below {w w' : World} {g : Nat} {xs : List Bool} (h : BB w g xs) (hb : Below w.heap.size w w') : BB w' g xs := Blk.below h hb h.lt
theorem BB.but {P : Nat → Prop} {w w' : World} {g : Nat} {xs : List Bool} (h : BB w g xs) (hb : But P w w') (hg : ¬ P g) : BB w' g xs := hb.blk h hg
theorem BB.rd {w : World} {g lo : Nat} {xs : List Bool} (h : BB w g xs) (hg : lo ≤ g) : RdL encB 1 w lo (some ⟨g, 0, none⟩) xs := fun _ =>
  ⟨g, 0, rfl, hg, h.lt, fun i x hx j u hu => by
    match j, hu with
    | 0, hu =>
      cases hu
      have := h.cell hx
      simpa using this⟩
theorem BB.make {w : World} (n : Nat) : BB (w.alloc (.cells (madeCells (Value.cells (Value.bool false)) n) 4)) w.heap.size (List.replicate n false) := by
  have : madeCells (Value.cells (Value.bool false)) n = ((List.replicate n false).map (Value.bool)).toArray := by
    apply Array.ext'
    simp [madeCells]
    refine List.ext_getElem (by simp) (fun i _ _ => ?_)
    simp [Value.cells, Nat.mod_one]
  rw [this]
  exact Blk.new _ _ _
end Go.Proofs.Ytcpjplkbmflglaa
