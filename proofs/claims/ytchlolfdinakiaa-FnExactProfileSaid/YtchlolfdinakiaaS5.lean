/- A slice of strings that came in, opened. -/
import Derived.Test.YtchlolfdinakiaaS3
import Derived.SliceStrings
namespace Go.Proofs.Ytchlolfdinakiaa
open Go.RowKit
open Go.ChangeShapes Go.WideShapes
section
variable {H : Type} {enc : TypeId × Value → H} {P : Program} {w : World} {base : Nat} {spare : Nat → Bool} {held : Bool}
theorem strs_open {t e : TypeId} {fuel : Nat} {v : Value} {x : DataW H × List MemPlace} (ht : P.underlying t = some (.slice e)) (he : P.underlying e = some .string) (hc : P.cellsOf e = 1)
    (h : DataW.trod enc P w base spare held fuel t [v] = some x) : ∃ (A : Option Addr) (c : Nat) (xs : List ByteArray), v = .slice A xs.length c ∧ RdL encS 1 w 0 A xs ∧ (∀ s ∈ xs, s.size ≤ maxLen) ∧ xs.length ≤ maxLen := by
  rcases open_strings ht he hc h with ⟨hcs, _⟩ | ⟨a, len, cap, ss, hcs, _, hl, hm, hz, _, hcell, hws⟩
  · simp at hcs
    subst hcs
    exact ⟨none, 0, [], rfl, RdL.nil, by simp, by simp⟩
  · simp at hcs
    subst hcs
    have hlen : len ≤ ss.length := by rw [hz]; split <;> omega
    have h1 : (ss.take len).length = len := by rw [List.length_take]; omega
    refine ⟨some a, cap, ss.take len, by rw [h1], ?_, fun s hs => hws s (List.mem_of_mem_take hs), by omega⟩
    intro h0
    obtain ⟨b, off, spot⟩ := a
    have hspot : spot = none := by simpa [Addr.add] using World.cell?_spot (hcell 0 (by omega))
    subst hspot
    have cj : ∀ j, j < ss.length → w.cell? ⟨b, off + j, none⟩ = some (.string (ss.getD j ByteArray.empty)) := fun j hj => by
      have := hcell j hj
      by_cases hj0 : j = 0
      · subst hj0; simpa [Addr.add] using this
      · simpa [Addr.add, hj0] using this
    refine ⟨b, off, rfl, Nat.zero_le _, block_lt_of_cell (cj 0 (by omega)), fun i x hx j u hu => ?_⟩
    have hi : i < len := by have := (List.getElem?_eq_some_iff.1 hx).1; omega
    match j, hu with
    | 0, hu =>
      cases hu
      rw [Nat.mul_one, Nat.add_zero, cj i (by omega)]
      rw [List.getElem?_take_of_lt hi] at hx
      rw [List.getD_eq_getElem?_getD, hx]
      rfl
end

end Go.Proofs.Ytchlolfdinakiaa
