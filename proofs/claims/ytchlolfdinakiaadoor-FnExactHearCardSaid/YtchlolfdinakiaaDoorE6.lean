/- Rows of bytes: comparison. -/
import Derived.Test.YtchlolfdinakiaaDoorE5
namespace Go.Proofs.YtchlolfdinakiaaDoor
open Go.RowKit
attribute [local go_sem] run_store_float

def encB (c : UInt8) : List Value := [.int .u8 (c.toNat : Int)]
theorem rdB_at {w : World} {lo : Nat} {A : Option Addr} {xs : List UInt8} (h : RdL encB 1 w lo A xs) {k : Nat} (hk : k < xs.length) :
    ∃ b off, A = some ⟨b, off, none⟩ ∧ lo ≤ b ∧ b < w.heap.size ∧ w.cell? ⟨b, off + k, none⟩ = some (.int .u8 (xs[k].toNat : Int)) := by
  obtain ⟨b, off, e, hlo, hb, hc⟩ := h.at_ hk
  exact ⟨b, off, e, hlo, hb, by simpa using hc 0 (.int .u8 (xs[k].toNat : Int)) rfl⟩
theorem own_rd {w : World} {B : Nat} {v : Value} {l : List UInt8} (h : Own w B v l) : ∃ A c, v = .slice A l.length c ∧ RdL encB 1 w B A l := by
  rcases h.2 with ⟨rfl, e⟩ | ⟨g, cap, cur, rfl, hB, hg, _⟩
  · refine ⟨none, 0, by rw [e], fun h0 => absurd h0 (by omega)⟩
  · refine ⟨some ⟨g, 0, none⟩, cap, rfl, fun _ => ⟨g, 0, rfl, hB, (Array.getElem?_eq_some_iff.1 hg).1, fun i x hx j u hu => ?_⟩⟩
    match j, hu with
    | 0, hu =>
      have := World.ownsRow.cells h (g := g) rfl i (.int .u8 (x.toNat : Int)) (by simp [Lib.byteCells, hx])
      simp [encB] at hu
      subst hu
      have e : (⟨g, 0, none⟩ : Addr).add i = ⟨g, i, none⟩ := by cases i <;> simp [Addr.add]
      rw [e] at this
      simpa using this
theorem eqb_any (A A' : Option Addr) (c c' : Nat) (xs : List UInt8) (w : World) (lo lo' : Nat) (h : RdL encB 1 w lo A xs) (h' : RdL encB 1 w lo' A' xs) (hn : xs.length ≤ maxLen) :
    Calls Tryd.prog 14 #[.slice A xs.length c, .slice A' xs.length c'] w fun e w' => e = .returned (.bool true) ∧ Below w.heap.size w w' := by
  unfold maxLen at hn
  go_enter Tryd.func14, Tryd.ntmps14
  go_wp2
  go_loopw [5] (fun i wr => ∃ k : Nat, k ≤ xs.length ∧ i = .int .i64 k ∧ ∃ n, wr = w.drewN n) (fun i _ => xs.length - (intOf i).toNat)
  case atStart => exact ⟨0, Nat.zero_le _, rfl, 0, rfl⟩
  case round =>
    obtain ⟨k, hk, rfl, n, rfl⟩ := hrel
    by_cases hlt : k < xs.length
    · obtain ⟨b, off, rfl, hlo, hb, hc⟩ := rdB_at h hlt
      obtain ⟨b', off', rfl, hlo', hb', hc'⟩ := rdB_at h' hlt
      clear h h'
      have k1 : (0 : Int) ≤ k := by omega
      have k2 : (k : Int) < xs.length := by omega
      go_wp2
      go_quiet (fail)
      go_wp2
      exact ⟨⟨k + 1, by omega, by go_num, _, rfl⟩, by simp [intOf]; omega⟩
    · have hkk : k = xs.length := by omega
      subst hkk
      clear h h'
      go_wp2
      go_ret
      exact ⟨rfl, ⟨rfl, rfl, rfl, Nat.le_refl _, fun _ _ => rfl⟩⟩
end Go.Proofs.YtchlolfdinakiaaDoor
