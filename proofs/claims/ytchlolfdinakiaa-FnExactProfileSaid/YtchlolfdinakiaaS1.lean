/- Lists of strings copied and compared. -/
import Derived.Test.YtchlolfdinakiaaS0
import Derived.Deep.QuietTactic
import Derived.BigQuiet
import Derived.Deep.LoopGhost
namespace Go.Proofs.Ytchlolfdinakiaa
open Go.RowKit

def SlS (w : World) (xs : List ByteArray) (e : Ending) (w' : World) : Prop := ∃ A c, e = .returned (.slice A xs.length c) ∧ RdL encS 1 w' w.heap.size A xs ∧ Below w.heap.size w w'

/-- The first k records lie in the array. -/
def Full {α : Type} (enc : α → List Value) (sz : Nat) (cs : Array Value) (xs : List α) (k : Nat) : Prop := ∀ i x, i < k → xs[i]? = some x → ∀ j u, (enc x)[j]? = some u → cs[i * sz + j]? = some u
theorem Full.zero {α : Type} {enc : α → List Value} {sz : Nat} {cs : Array Value} {xs : List α} : Full enc sz cs xs 0 := fun i _ h => absurd h (by omega)
theorem Full.step {α : Type} {enc : α → List Value} {sz : Nat} {cs cs' : Array Value} {xs : List α} {k : Nat} (h : Full enc sz cs xs k) (hlen : ∀ x, (enc x).length ≤ sz)
    (hold : ∀ i, i < k * sz → cs'[i]? = cs[i]?) (hnew : ∀ x, xs[k]? = some x → ∀ j u, (enc x)[j]? = some u → cs'[k * sz + j]? = some u) : Full enc sz cs' xs (k + 1) := fun i x hi hx j u hu => by
  by_cases e : i = k
  · subst e; exact hnew x hx j u hu
  · have hj : j < sz := Nat.lt_of_lt_of_le (List.getElem?_eq_some_iff.1 hu).1 (hlen x)
    have hik : i + 1 ≤ k := by omega
    have hm := Nat.mul_le_mul_right sz hik
    rw [Nat.add_mul] at hm
    rw [hold _ (by omega)]
    exact h i x (by omega) hx j u hu
theorem Full.set1 {cs : Array Value} {xs : List ByteArray} {k : Nat} (h : Full encS 1 cs xs k) (hk : k < xs.length) (hs : cs.size = xs.length) : Full encS 1 (cs.setIfInBounds k (.string xs[k])) xs (k + 1) := by
  refine h.step (fun _ => Nat.le_refl _) (fun i hi => ?_) (fun x hx j u hu => ?_)
  · rw [Array.getElem?_setIfInBounds_ne (by omega)]
  · rw [List.getElem?_eq_getElem hk] at hx
    cases hx
    match j, hu with
    | 0, hu =>
      cases hu
      rw [Nat.mul_one, Nat.add_zero, Array.getElem?_setIfInBounds_self_of_lt (by omega)]
theorem rd_of_blk {α : Type} {enc : α → List Value} {sz lo g : Nat} {w : World} {t : TypeId} {cs : Array Value} {xs : List α} (h : Blk w g t cs) (hg : lo ≤ g) (hf : Full enc sz cs xs xs.length) : RdL enc sz w lo (some ⟨g, 0, none⟩) xs := fun _ =>
  ⟨g, 0, rfl, hg, h.lt, fun i x hx j u hu => by
    rw [Nat.zero_add, h.cell]
    exact hf i x (List.getElem?_eq_some_iff.1 hx).1 hx j u hu⟩

theorem info9 : (Try.prog.info? 9).map (fun i => (i.zero, i.size, i.bytes)) = some (some (.string ⟨#[]⟩), 1, 16) := by kernel_rfl

theorem tos_any (A : Option Addr) (c : Nat) (xs : List ByteArray) (w : World) (lo : Nat) (h : RdL encS 1 w lo A xs) (hn : xs.length ≤ 1048576) :
    Calls Try.prog 48 #[.slice A xs.length c] w (SlS w xs) := by
  obtain ⟨i0, hi0, hz0, hz1, hz2⟩ := info_parts info9
  have hmk := fun (W : World) => run_make (P := Try.prog) W 31 9 i0 _ Try.underlying31 hi0 hz0 .i64 .i64 (xs.length : Int) (xs.length : Int) (by omega) (by omega) (by rw [hz2]; omega) (by omega)
  rw [hz1, Nat.mul_one, Int.toNat_natCast] at hmk
  have hcs : (madeCells (Value.string ⟨#[]⟩).cells xs.length).size = xs.length := by simp [madeCells]
  generalize hc0 : madeCells (Value.string ⟨#[]⟩).cells xs.length = cs0 at *
  clear hc0 hz0 hz1 hz2 hi0
  go_enter Try.func48, Try.ntmps48
  go_wp2
  go_loopw [4] (fun i wr => ∃ k : Nat, k ≤ xs.length ∧ i = .int .i64 k ∧ ∃ cs : Array Value, Blk wr w.heap.size 9 cs ∧ cs.size = xs.length ∧ Full encS 1 cs xs k ∧ Below w.heap.size w wr) (fun i _ => xs.length - (intOf i).toNat)
  case atStart => exact ⟨0, Nat.zero_le _, rfl, cs0, Blk.new _ _ _, hcs, Full.zero, below_new _ _⟩
  case round =>
    obtain ⟨k, hk, rfl, cs, hblk, hsz, hcs', hbel⟩ := hrel
    by_cases hlt : k < xs.length
    · obtain ⟨b, off, rfl, hlo, hb, hc⟩ := rdS_at h hlt
      have hc1 : wr.cell? ⟨b, off + k, none⟩ = some (.string xs[k]) := (hbel.cell (p := ⟨b, off + k, none⟩) hb).trans hc
      obtain ⟨u0, hd⟩ : ∃ u, wr.cell? ⟨w.heap.size, k, none⟩ = some u := ⟨cs[k]'(by omega), by rw [hblk.cell, Array.getElem?_eq_getElem]⟩
      have hfz : wr.frozen? ⟨w.heap.size, k, none⟩ = false := hblk.frozen k
      have H1 := Lib.hid h; have H2 := Lib.hid hblk; have H3 := Lib.hid hcs'; have H4 := Lib.hid hc; have H5 := Lib.hid hsz
      clear h hblk hcs' hc hmk hsz
      go_wp2
      exact ⟨⟨k + 1, by omega, by go_num, cs.setIfInBounds k (.string xs[k]), H2.out.set_ k _, by simp [H5.out], H3.out.set1 hlt H5.out, hbel.setCell (Nat.le_refl _) _⟩, by simp [intOf]; omega⟩
    · have hkk : k = xs.length := by omega
      subst hkk
      clear hmk h
      go_wp2
      go_ret
      exact ⟨_, _, rfl, rd_of_blk hblk (Nat.le_refl _) hcs', hbel⟩

theorem eqs_any (A A' : Option Addr) (c c' : Nat) (xs : List ByteArray) (w : World) (lo lo' : Nat) (h : RdL encS 1 w lo A xs) (h' : RdL encS 1 w lo' A' xs) (hn : xs.length ≤ maxLen) :
    Calls Try.prog 49 #[.slice A xs.length c, .slice A' xs.length c'] w fun e w' => e = .returned (.bool true) ∧ Below w.heap.size w w' := by
  unfold maxLen at hn
  go_enter Try.func49, Try.ntmps49
  go_wp2
  go_loopw [5] (fun i wr => ∃ k : Nat, k ≤ xs.length ∧ i = .int .i64 k ∧ ∃ n, wr = w.drewN n) (fun i _ => xs.length - (intOf i).toNat)
  case atStart => exact ⟨0, Nat.zero_le _, rfl, 0, rfl⟩
  case round =>
    obtain ⟨k, hk, rfl, n, rfl⟩ := hrel
    by_cases hlt : k < xs.length
    · obtain ⟨b, off, rfl, hlo, hb, hc⟩ := rdS_at h hlt
      obtain ⟨b', off', rfl, hlo', hb', hc'⟩ := rdS_at h' hlt
      clear h h'
      have k1 : (0 : Int) ≤ k := by omega
      have k2 : (k : Int) < xs.length := by omega
      go_wp2
      go_quiet (fail)
      go_wp2
      exact ⟨⟨k + 1, by omega, by go_num, _, rfl⟩, by simp [intOf]; omega⟩
    · have hkk : k = xs.length := by omega
      subst hkk
      clear h h'
      go_wp2
      go_ret
      exact ⟨rfl, ⟨rfl, rfl, rfl, Nat.le_refl _, fun _ _ => rfl⟩⟩

end Go.Proofs.Ytchlolfdinakiaa
