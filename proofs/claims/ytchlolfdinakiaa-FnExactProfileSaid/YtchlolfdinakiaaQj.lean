/- A row of counts of the call's own behind sort.Slice. -/
import Derived.Test.YtchlolfdinakiaaQy
namespace Go.Proofs.Ytchlolfdinakiaa.Q
open Go.Shelf Go.RowKit Go.Lib Go.Sort
theorem holds_own {w : World} {B g cap : Nat} {l : List Ct} (h : OwC w B (.slice (some ⟨g, 0, none⟩) l.length cap) l) : HoldsK encC 3 w g 0 l.toArray := by
  intro t ht
  unfold flatK at ht
  simp at ht
  rw [get_flatK encC 3 l.toArray t (by simpa using ht)]
  obtain ⟨A, c, e, hr, -⟩ := ow_rd (enc := encC) (fun _ => rfl) h
  cases e
  have hk : t / 3 < l.length := by omega
  obtain ⟨b, off, e, hlo, hb, c0, c1, c2⟩ := rdC_at hr (List.getElem?_eq_getElem hk)
  cases e
  have hf : w.frozen? ⟨g, 0 + t, none⟩ = false := World.ownsRow.frozenAt h _
  refine ⟨?_, hf⟩
  have e2 : l.toArray[t / 3]! = l[t / 3] := by simp [hk]
  rw [e2]
  have hm : t % 3 = 0 ∨ t % 3 = 1 ∨ t % 3 = 2 := by omega
  rcases hm with hm | hm | hm
  · rw [show (⟨g, 0 + t, none⟩ : Addr) = ⟨g, 0 + t / 3 * 3, none⟩ by congr 1; omega, c0, hm]; rfl
  · rw [show (⟨g, 0 + t, none⟩ : Addr) = ⟨g, 0 + t / 3 * 3 + 1, none⟩ by congr 1; omega, c1, hm]; rfl
  · rw [show (⟨g, 0 + t, none⟩ : Addr) = ⟨g, 0 + t / 3 * 3 + 2, none⟩ by congr 1; omega, c2, hm]; rfl
theorem put_block {w : World} {n g : Nat} {d : Array Ct} {os : Array Obj} (k : Nat) (hk : k < w.heap.size) (hx : k ≠ g) : (grow (putRowK encC 3 (Sort.ahead w n) g 0 d) os).heap[k]? = w.heap[k]? := by
  have h1 : k < (putRowK encC 3 (Sort.ahead w n) g 0 d).heap.size := by rw [size_putRowK]; exact hk
  show ((putRowK encC 3 (Sort.ahead w n) g 0 d).heap ++ os)[k]? = _
  rw [Array.getElem?_append_left h1]
  show ((Sort.ahead w n).heap.modify g _)[k]? = _
  rw [Array.getElem?_modify, if_neg (fun e => hx e.symm)]
  rfl
theorem put_same {w : World} {n g : Nat} {d : Array Ct} {os : Array Obj} {cur : Array Value} (h : Blk w g 106 cur) : ∃ cur', Blk (grow (putRowK encC 3 (Sort.ahead w n) g 0 d) os) g 106 cur' ∧ cur'.size = cur.size := by
  have h1 : g < (putRowK encC 3 (Sort.ahead w n) g 0 d).heap.size := by rw [size_putRowK]; exact h.lt
  refine ⟨putCells id 0 (flatK encC 3 d) cur, ?_, by simp [putCells]⟩
  show ((putRowK encC 3 (Sort.ahead w n) g 0 d).heap ++ os)[g]? = _
  rw [Array.getElem?_append_left h1]
  show ((Sort.ahead w n).heap.modify g _)[g]? = _
  rw [Array.getElem?_modify, if_pos rfl]
  show (w.heap[g]?).map _ = _
  unfold Blk at h
  rw [h]
  rfl
theorem put_but {w : World} {n g : Nat} {d : Array Ct} {os : Array Obj} : But (fun k => k = g) w (grow (putRowK encC 3 (Sort.ahead w n) g 0 d) os) := by
  refine ⟨rfl, rfl, rfl, ?_, fun k hk hx => put_block k hk hx⟩
  show w.heap.size ≤ ((putRowK encC 3 (Sort.ahead w n) g 0 d).heap ++ os).size
  rw [Array.size_append, size_putRowK]
  show w.heap.size ≤ w.heap.size + _
  omega
/-- What the sort leaves. -/
theorem sorted_reads {w : World} {B g cap : Nat} {l : List Ct} (h : OwC w B (.slice (some ⟨g, 0, none⟩) l.length cap) l) (d : Array Ct) (hd : d.size = l.length) (n : Nat) (os : Array Obj) :
    RdL encC 3 (grow (putRowK encC 3 (Sort.ahead w n) g 0 d) os) B (some ⟨g, 0, none⟩) d.toList ∧ Wr (grow (putRowK encC 3 (Sort.ahead w n) g 0 d) os) B (some ⟨g, 0, none⟩) l.length 3 106 := by
  have hin := own_in h (g := g) rfl
  have hH := holds_own h
  have h2 := holdsK_grow (enc := encC) (k := 3) (putRowK encC 3 (Sort.ahead w n) g 0 d) os g 0 d (by rw [size_putRowK]; exact hin.2) (holdsK_putRowK (enc := encC) (k := 3) (Sort.ahead w n) g 0 l.toArray d (holdsK_ahead _ _ _ _ _ _ _ hH) (by simpa using hd))
  refine ⟨fun h0 => ⟨g, 0, rfl, hin.1, ?_, fun i x hx j u hu => ?_⟩, fun h0 => ?_⟩
  · exact Nat.lt_of_lt_of_le hin.2 put_but.size
  · have hi : i < d.size := by have := (List.getElem?_eq_some_iff.1 hx).1; simpa using this
    have hj : j < 3 := (List.getElem?_eq_some_iff.1 hu).1
    have := (h2.cell (i := i) (c := j) hi hj).1
    have ex : d[i]! = x := by
      have := (List.getElem?_eq_some_iff.1 hx).2
      simp at this
      simp [hi, this]
    rw [ex] at this
    rw [this]
    have e2 := List.getElem?_eq_some_iff.1 hu
    rw [getElem!_pos _ j e2.1, e2.2]
  · rcases h.2 with ⟨e, -⟩ | ⟨g', cap', cur, e, hB, hg, hnc, -, hs, -⟩
    · cases e
    · cases e
      obtain ⟨cur', hb, hz⟩ := put_same (n := n) (d := d) (os := os) (show Blk w g 106 cur from hg)
      exact ⟨g, cur', rfl, hB, hb, by rw [hz, hs]; exact Nat.mul_le_mul_right 3 hnc⟩
end Go.Proofs.Ytchlolfdinakiaa.Q
