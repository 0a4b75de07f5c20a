/- The order of counts; sort.Slice as Profile of the program calls it. -/
import Derived.Test.YtchlolfdinakiaaQx
import Derived.Test.YtchlolfdinakiaaQp2
import Derived.Shelf.GgSortFunc.Tiny
import Derived.Deep.QuietTactic
import Derived.BigQuiet
namespace Go.Proofs.Ytchlolfdinakiaa.Q
open Go.Shelf Go.RowKit Go.Lib Go.Sort
attribute [local go_sem] run_store_float
instance : Inhabited Ct := ⟨⟨0, 0, 0⟩⟩
def ltC (a b : Ct) : Bool := decide (a.fn < b.fn) || (decide (a.fn = b.fn) && decide (a.line < b.line))
theorem swo_ltC : SWO ltC where
  irrefl := fun x => by simp [ltC]
  trans := fun x y z h1 h2 => by simp [ltC] at *; omega
  ntrans := fun x y z h1 h2 => by simp [ltC] at *; omega
noncomputable def svT : TypeInfo := (Try.prog.info? 68).get (by kernel_rfl)
noncomputable def svE : TypeInfo := (Try.prog.info? 106).get (by kernel_rfl)
theorem svK (n : Nat) (h2 : 2 ≤ n) : Lib.swapperK n svE 25 = 9 := by
  have a : svE.hasPointers = false := by kernel_rfl
  have b : svE.bytes = 24 := by kernel_rfl
  have c : (n == 0) = false := by simp; omega
  have d : (n == 1) = false := by simp; omega
  simp [Lib.swapperK, a, b, c, d]

set_option maxHeartbeats 2000000 in
/-- The closure that compares. -/
theorem less_any (blk off c Bs size : Nat) (W : World) (F L : Nat → Int) (hs : W.cell? ⟨Bs, 0, none⟩ = some (.slice (some ⟨blk, off, none⟩) size c))
    (hc : ∀ t, t < size → W.cell? ⟨blk, off + t * 3, none⟩ = some (.int .i64 (F t)) ∧ W.cell? ⟨blk, off + t * 3 + 1, none⟩ = some (.int .i64 (L t))) (i j : Nat) (hi : i < size) (hj : j < size) (_hsz : size < 4611686018427387904) :
    Calls Try.prog 77 #[.int .i64 i, .int .i64 j, .pointer (some ⟨Bs, 0, none⟩)] W fun e w' => e = .returned (.bool (decide (F i < F j) || (decide (F i = F j) && decide (L i < L j)))) ∧ ∃ q, w' = W.drewN q := by
  obtain ⟨ci, di⟩ := hc i hi
  obtain ⟨cj, dj⟩ := hc j hj
  clear hc
  generalize F i = f1 at *
  generalize F j = f2 at *
  generalize L i = l1 at *
  generalize L j = l2 at *
  rcases Int.lt_trichotomy f1 f2 with h | h | h
  · have h' : ¬ f1 = f2 := by omega
    · go_enter Try.func77, Try.ntmps77
      go_wp2
      go_quiet (fail)
      go_wp2
      go_ret
      exact ⟨by simp [*], nq, rfl⟩
  · subst h
    have h' : ¬ f1 < f1 := by omega
    by_cases hl : l1 < l2
    · go_enter Try.func77, Try.ntmps77
      go_wp2
      go_quiet (fail)
      go_wp2
      go_ret
      exact ⟨by simp [*], nq, rfl⟩
    · go_enter Try.func77, Try.ntmps77
      go_wp2
      go_quiet (fail)
      go_wp2
      go_ret
      exact ⟨by simp [*], nq, rfl⟩
  · have h' : ¬ f1 = f2 := by omega
    have h2 : ¬ f1 < f2 := by omega
    · go_enter Try.func77, Try.ntmps77
      go_wp2
      go_quiet (fail)
      go_wp2
      go_ret
      exact ⟨by simp [*], nq, rfl⟩

theorem sort_counts (blk off c Bs : Nat) (d : Array Ct) (h2 : 2 ≤ d.size) (hsz : d.size < 4611686018427387904) (w : World) (hH : HoldsK encC 3 w blk off d) (hblk : blk < w.heap.size)
    (hBs : w.cell? ⟨Bs, 0, none⟩ = some (.slice (some ⟨blk, off, none⟩) d.size c)) (hB1 : Bs < w.heap.size) (hB2 : Bs ≠ blk) :
    Calls Try.prog 76 #[.iface 68 (.slice (some ⟨blk, off, none⟩) d.size c), .func (.func 77) #[] #[.pointer (some ⟨Bs, 0, none⟩)]] w fun e w' =>
      e = .returned (.tuple #[]) ∧ ∃ d' n os, PermIn 0 d.size d d' ∧ SortedIn ltC 0 d.size d' ∧ w' = grow (putRowK encC 3 (Sort.ahead w n) blk off d') os := by
  have hless : LessReadsK Try.prog 77 #[.pointer (some ⟨Bs, 0, none⟩)] encC 3 ltC blk off d.size w := by
    intro m os dk hs i j hi hj
    have e : sortWorldK encC 3 w blk off m dk os = putRowK encC 3 (grow (Sort.ahead w m) os) blk off dk := by
      unfold sortWorldK; rw [putRowK_grow _ _ (Sort.ahead w m) _ blk off _ hblk]
    have hHg : HoldsK encC 3 (grow (Sort.ahead w m) os) blk off d := holdsK_grow _ _ _ _ blk off d hblk (holdsK_ahead _ _ _ _ _ _ _ hH)
    refine less_any blk off c Bs d.size _ (fun t => dk[t]!.fn) (fun t => dk[t]!.line) ?_ (fun t ht => ?_) i j hi hj (by omega)
    · rw [e, cell?_putRowK_other _ _ _ blk off dk _ (by exact hB2), cell?_grow _ _ _ (by exact hB1)]; exact hBs
    · rw [e]; exact ⟨((holdsK_putRowK _ _ _ blk off d dk hHg hs).cell (i := t) (c := 0) (by omega) (by omega)).1, ((holdsK_putRowK _ _ _ blk off d dk hHg hs).cell (i := t) (c := 1) (by omega) (by omega)).1⟩
  exact Any.sort_Slice_cells_sorted Try.laysGg6 68 106 svT svE (by kernel_rfl) (by kernel_rfl) (by kernel_rfl) (by kernel_rfl) 25 (fun _ => by kernel_rfl) encC 3 (fun _ => rfl) (by kernel_rfl) (fun _ => by kernel_rfl)
    (fun x v hv => by simp [encC] at hv; rcases hv with rfl | rfl | rfl <;> rfl) ltC swo_ltC 77 _
    (enters_of Try.func77 (by kernel_rfl) rfl) blk off c d h2 hsz 110 (by rw [svK _ h2]; kernel_rfl) false
    (fun args W => run_callFunc_extern Try.func110 (by kernel_rfl) (by kernel_rfl) (by kernel_rfl) (e := Extern.ReflectliteSwapper.swap false) (by kernel_rfl) args W) w hless hH hblk
end Go.Proofs.Ytchlolfdinakiaa.Q
