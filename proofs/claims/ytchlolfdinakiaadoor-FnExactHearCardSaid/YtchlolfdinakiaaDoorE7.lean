/- Rows of bytes: marks. -/
import Derived.Test.YtchlolfdinakiaaDoorE6
import Derived.Test.YtchlolfdinakiaaDoorD6
namespace Go.Proofs.YtchlolfdinakiaaDoor
open Go.RowKit
attribute [local go_sem] run_store_float

/-- The first n bytes of block g are marks from q on. -/
def Marked (w : World) (g n : Nat) (q : Int) : Prop := ∀ i, i < n → w.cell? ⟨g, i, none⟩ = some (.int .u8 ((q + i) % 256))
theorem heldb_any (g n c : Nat) (q : Int) (w : World) (h : Marked w g n q) (hn : n ≤ 1000000) (hq : 0 ≤ q ∧ q ≤ 1000000000000) :
    Calls Tryd.prog 18 #[.slice (some ⟨g, 0, none⟩) n c, .int .i64 q] w fun e w' => e = .returned (.int .i64 (q + n)) ∧ w = w' := by
  go_enter Tryd.func18, Tryd.ntmps18
  go_wp2
  go_loop [1, 5] (fun l i => ∃ k : Nat, k ≤ n ∧ i = .int .i64 k ∧ l = .int .i64 (q + k)) (fun _ i => n - (intOf i).toNat)
  case atStart => exact ⟨0, Nat.zero_le _, rfl, by simp⟩
  case round =>
    obtain ⟨k, hk, rfl, rfl⟩ := hrel
    by_cases hlt : k < n
    · have hc := h k hlt
      clear h
      go_wp2
      exact ⟨⟨k + 1, by omega, by go_num, by go_num⟩, by simp [intOf]; omega⟩
    · have hkk : k = n := by omega
      subst hkk
      go_wp2
      go_ret
      exact ⟨rfl, rfl⟩
theorem Only.setCell {g : Nat} {w wr : World} (h : Only g w wr) (i : Nat) (u : Value) : Only g w (wr.setCell ⟨g, i, none⟩ u) :=
  ⟨h.os, h.tape, h.output, by simpa using h.size, fun k hk => (Below.heap_setCell wr ⟨g, i, none⟩ u k hk).trans (h.block k hk)⟩
theorem markb_any (g n c : Nat) (q : Int) (cs0 : Array Value) (w : World) (h : Blk w g 5 cs0) (hcs : n ≤ cs0.size) (hn : n ≤ 1000000) (hq : 0 ≤ q ∧ q ≤ 1000000000000) :
    Calls Tryd.prog 17 #[.slice (some ⟨g, 0, none⟩) n c, .int .i64 q] w fun e w' => e = .returned (.int .i64 (q + n)) ∧ Marked w' g n q ∧ Only g w w' := by
  go_enter Tryd.func17, Tryd.ntmps17
  go_wp2
  go_loopw [1, 5] (fun l i wr => ∃ (k : Nat) (cs : Array Value), k ≤ n ∧ i = .int .i64 k ∧ l = .int .i64 (q + k) ∧ Blk wr g 5 cs ∧ cs.size = cs0.size ∧ Hid (∀ i, i < k → cs[i]? = some (.int .u8 ((q + i) % 256))) ∧ Only g w wr) (fun _ i _ => n - (intOf i).toNat)
  case atStart => exact ⟨0, cs0, Nat.zero_le _, rfl, by simp, h, rfl, Lib.hid (fun i hi => absurd hi (by omega)), ⟨rfl, rfl, rfl, rfl, fun _ _ => rfl⟩⟩
  case round =>
    obtain ⟨k, cs, hk, rfl, rfl, hblk, hsz, hm, honly⟩ := hrel
    by_cases hlt : k < n
    · obtain ⟨u0, hc⟩ : ∃ u0, wr.cell? ⟨g, k, none⟩ = some u0 := ⟨_, (hblk.cell k).trans (Array.getElem?_eq_getElem (by omega))⟩
      have hf := hblk.frozen k
      have HB := Lib.hid hblk
      have HS := Lib.hid hsz
      clear hblk h hsz
      go_wp2
      refine ⟨⟨k + 1, _, by omega, by go_num, by go_num, HB.out.set_ k _, by rw [Array.size_setIfInBounds]; exact HS.out, Lib.hid (fun i hi => ?_), honly.setCell k _⟩, by simp [intOf]; omega⟩
      by_cases e : i = k
      · subst e
        rw [Array.getElem?_setIfInBounds_self_of_lt (by have := HS.out; omega)]
      · rw [Array.getElem?_setIfInBounds_ne (Ne.symm e)]
        exact hm.out i (by omega)
    · have hkk : k = n := by omega
      subst hkk
      have HB := Lib.hid hblk
      clear hblk h
      go_wp2
      go_ret
      exact ⟨rfl, fun i hi => (HB.out.cell i).trans (hm.out i hi), honly⟩
end Go.Proofs.YtchlolfdinakiaaDoor
