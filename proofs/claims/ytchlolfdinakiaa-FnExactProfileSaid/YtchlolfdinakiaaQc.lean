/- Counts of a profile: words, comparison, marks. -/
import Derived.Test.YtchlolfdinakiaaQe
namespace Go.Proofs.Ytchlolfdinakiaa.Q
open Go.RowKit
attribute [local go_sem] run_store_float

/-- A count. -/
structure Ct where
  fn : Int
  line : Int
  hits : Int
def encC (p : Ct) : List Value := [.int .i64 p.fn, .int .i64 p.line, .int .i64 p.hits]
theorem rdC_at {w : World} {lo : Nat} {A : Option Addr} {ps : List Ct} (h : RdL encC 3 w lo A ps) {k : Nat} {p : Ct} (hk : ps[k]? = some p) :
    ∃ b off, A = some ⟨b, off, none⟩ ∧ lo ≤ b ∧ b < w.heap.size ∧ w.cell? ⟨b, off + k * 3, none⟩ = some (.int .i64 p.fn) ∧ w.cell? ⟨b, off + k * 3 + 1, none⟩ = some (.int .i64 p.line) ∧ w.cell? ⟨b, off + k * 3 + 2, none⟩ = some (.int .i64 p.hits) := by
  have hlt := (List.getElem?_eq_some_iff.1 hk).1
  obtain ⟨b, off, e, hlo, hb, hc⟩ := h (by omega)
  have hj := hc k p hk
  exact ⟨b, off, e, hlo, hb, hj 0 _ rfl, hj 1 _ rfl, hj 2 _ rfl⟩
theorem eqc_any (p : Ct) (w : World) : Calls Try.prog 78 #[.agg #[.int .i64 p.fn, .int .i64 p.line, .int .i64 p.hits], .agg #[.int .i64 p.fn, .int .i64 p.line, .int .i64 p.hits]] w fun e w' => e = .returned (.bool true) ∧ Below w.heap.size w w' := by
  go_enter Try.func78, Try.ntmps78
  go_wp2
  go_ret
  exact ⟨rfl, below_new2 _ _ _⟩
theorem eqcs_any (A A' : Option Addr) (c c' : Nat) (ps : List Ct) (w : World) (lo lo' : Nat) (h : RdL encC 3 w lo A ps) (h' : RdL encC 3 w lo' A' ps) (hn : ps.length ≤ maxLen) :
    Calls Try.prog 40 #[.slice A ps.length c, .slice A' ps.length c'] w fun e w' => e = .returned (.bool true) ∧ Below w.heap.size w w' := by
  unfold maxLen at hn
  go_enter Try.func40, Try.ntmps40
  go_wp2
  go_loopw [5] (fun i wr => ∃ k : Nat, k ≤ ps.length ∧ i = .int .i64 k ∧ Below w.heap.size w wr) (fun i _ => ps.length - (intOf i).toNat)
  case atStart => exact ⟨0, Nat.zero_le _, rfl, Below.refl _ _⟩
  case round =>
    obtain ⟨k, hk, rfl, hbel⟩ := hrel
    by_cases hlt : k < ps.length
    · obtain ⟨p, hpk⟩ : ∃ p, ps[k]? = some p := ⟨_, List.getElem?_eq_getElem hlt⟩
      obtain ⟨b, off, rfl, hlo, hb, c0, c1, c2⟩ := rdC_at (h.below hbel) hpk
      obtain ⟨b', off', rfl, hlo', hb', d0, d1, d2⟩ := rdC_at (h'.below hbel) hpk
      clear h h' hpk
      have k1 : (0 : Int) ≤ k := by omega
      have k2 : (k : Int) < ps.length := by omega
      go_wp2
      go_region_held3 (fun w' => w'.cell? ⟨b, off + k * 3, none⟩ = some (.int .i64 p.fn) ∧ w'.cell? ⟨b, off + k * 3 + 1, none⟩ = some (.int .i64 p.line) ∧ w'.cell? ⟨b, off + k * 3 + 2, none⟩ = some (.int .i64 p.hits) ∧ w'.cell? ⟨b', off' + k * 3, none⟩ = some (.int .i64 p.fn) ∧ w'.cell? ⟨b', off' + k * 3 + 1, none⟩ = some (.int .i64 p.line) ∧ w'.cell? ⟨b', off' + k * 3 + 2, none⟩ = some (.int .i64 p.hits)) (simp [go_sem, *]) ((go_at_call 78; refine (eqc_any p _).mono ?_; rintro e w1 ⟨rfl, hb1⟩; replace hb1 := bl_undrew hb1; obtain ⟨hc1, hf1⟩ := bcell hb1; have HB1 : Below w.heap.size w w1 := hbel.trans (hb1.mono hbel.size)))
      go_wp2
      exact ⟨⟨k + 1, by omega, by go_num, HB1⟩, by simp [intOf]; omega⟩
    · have hkk : k = ps.length := by omega
      subst hkk
      clear h h'
      go_wp2
      go_ret
      exact ⟨rfl, hbel⟩
def mkC (z : Int) : Ct := ⟨z, z + 1, z + 1 + 1⟩
def markC (q n : Nat) : List Ct := (List.range n).map fun (i : Nat) => mkC ((q : Int) + (i : Int) * 3)
theorem markC_len (q n : Nat) : (markC q n).length = n := by simp [markC]
theorem markC_at (q n k : Nat) (h : k < n) : (markC q n)[k]? = some (mkC ((q : Int) + (k : Int) * 3)) := by simp [markC, h]
theorem markcs_any (A : Option Addr) (n c : Nat) (q : Nat) (w : World) (lo : Nat) (h : Wr w lo A n 3 106) (hn : n ≤ 1048576) (hq : 0 < q ∧ q ≤ 1000000000) :
    Calls Try.prog 43 #[.slice A n c, .int .i64 (q : Int)] w fun e w' => e = .returned (.int .i64 ((q + n * 3 : Nat) : Int)) ∧ RdL encC 3 w' lo A (markC q n) ∧ But (Head n A) w w' := by
  by_cases h0 : 0 < n
  · obtain ⟨g, cs0, rfl, hlo, hblk0, hcs0⟩ := h h0
    have hgl : Head n (some ⟨g, 0, none⟩) g := ⟨h0, rfl⟩
    clear h
    go_enter Try.func43, Try.ntmps43
    go_wp2
    go_loopw [1, 5] (fun l i wr => ∃ (k : Nat) (cs : Array Value), k ≤ n ∧ i = .int .i64 k ∧ l = .int .i64 ((q + k * 3 : Nat) : Int) ∧ Blk wr g 106 cs ∧ n * 3 ≤ cs.size ∧ Full encC 3 cs (markC q n) k ∧ But (Head n (some ⟨g, 0, none⟩)) w wr) (fun _ i _ => n - (intOf i).toNat)
    case atStart => exact ⟨0, cs0, Nat.zero_le _, rfl, by simp, hblk0, by omega, Full.zero, But.refl _ _⟩
    case round =>
      obtain ⟨k, cs, hk, rfl, rfl, hblk, hsz, hfull, hwin⟩ := hrel
      clear hblk0
      by_cases hlt : k < n
      · have HS := Lib.hid hsz
        have HBk := Lib.hid hblk
        have HF := Lib.hid hfull
        have HW := Lib.hid hwin
        have hgw := hblk.lt
        have hle : k * 3 + 3 ≤ cs.size := by omega
        have cellEx : ∀ j, j < 3 → ∃ u, wr.cell? ⟨g, k * 3 + j, none⟩ = some u := fun j hj => ⟨cs[k * 3 + j]'(by omega), by rw [hblk.cell, Array.getElem?_eq_getElem]⟩
        obtain ⟨d0, hd0⟩ := cellEx 0 (by omega); obtain ⟨d1, hd1⟩ := cellEx 1 (by omega); obtain ⟨d2, hd2⟩ := cellEx 2 (by omega)
        have fz : ∀ j, wr.frozen? ⟨g, j, none⟩ = false := fun j => hblk.frozen j
        clear hblk hsz hcs0 cellEx hfull hwin
        rw [Nat.add_zero] at hd0
        go_wp2
        refine ⟨⟨k + 1, putL cs (k * 3) (encC (mkC ((q : Int) + (k : Int) * 3))), by omega, by go_num, ?_, ?_, by rw [putL_size]; exact HS.out, HF.out.put (markC_at q n k hlt) (fun _ => rfl) (by rw [markC_len]; exact HS.out), (((HW.out).set hgl (k * 3) (.int .i64 ((q : Int) + (k : Int) * 3))).set hgl (k * 3 + 1) (.int .i64 ((q : Int) + (k : Int) * 3 + 1))).set hgl (k * 3 + 2) (.int .i64 ((q : Int) + (k : Int) * 3 + 1 + 1))⟩, by simp [intOf]; omega⟩
        · exact congrArg (Value.int .i64) (by omega)
        · exact (((HBk.out).set_ (k * 3) (.int .i64 ((q : Int) + (k : Int) * 3))).set_ (k * 3 + 1) (.int .i64 ((q : Int) + (k : Int) * 3 + 1))).set_ (k * 3 + 2) (.int .i64 ((q : Int) + (k : Int) * 3 + 1 + 1))
      · have hkk : k = n := by omega
        subst hkk
        have hrd : RdL encC 3 wr lo (some ⟨g, 0, none⟩) (markC q k) := rd_of_blk hblk hlo (by rw [markC_len]; exact hfull)
        clear hblk hsz hcs0 hfull
        go_wp2
        go_ret
        exact ⟨rfl, hrd, hwin⟩
  · obtain rfl : n = 0 := by omega
    clear h
    go_enter Try.func43, Try.ntmps43
    go_wp2
    go_loop [1, 5] (fun l i => i = .int .i64 0 ∧ l = .int .i64 (q : Int)) (fun _ _ => 0)
    case atStart => exact ⟨rfl, rfl⟩
    case round =>
      obtain ⟨rfl, rfl⟩ := hrel
      go_wp2
      go_ret
      exact ⟨rfl, rd_empty (markC_len _ _), But.refl _ _⟩
theorem heldcs_any (A : Option Addr) (n c q : Nat) (w : World) (lo : Nat) (h : RdL encC 3 w lo A (markC q n)) (hn : n ≤ 1048576) (hq : 0 < q ∧ q ≤ 1000000000) :
    Calls Try.prog 44 #[.slice A n c, .int .i64 (q : Int)] w fun e w' => e = .returned (.int .i64 ((q + n * 3 : Nat) : Int)) ∧ Below w.heap.size w w' := by
  go_enter Try.func44, Try.ntmps44
  go_wp2
  go_loopw [1, 5] (fun l i wr => ∃ k : Nat, k ≤ n ∧ i = .int .i64 k ∧ l = .int .i64 ((q + k * 3 : Nat) : Int) ∧ Below w.heap.size w wr) (fun _ i _ => n - (intOf i).toNat)
  case atStart => exact ⟨0, Nat.zero_le _, rfl, by simp, Below.refl _ _⟩
  case round =>
    obtain ⟨k, hk, rfl, rfl, hbel⟩ := hrel
    by_cases hlt : k < n
    · obtain ⟨b, off, rfl, hlo, hb, c0, c1, c2⟩ := rdC_at (h.below hbel) (markC_at q n k hlt)
      simp only [mkC] at c0 c1 c2
      clear h
      have k1 : (0 : Int) ≤ k := by omega
      have k2 : (k : Int) < n := by omega
      have hq0 : (0 : Int) ≤ (q : Int) + (k : Int) * 3 := by omega
      go_wp2
      exact ⟨⟨k + 1, by omega, by go_num, congrArg (Value.int .i64) (by omega), hbel⟩, by simp [intOf]; omega⟩
    · have hkk : k = n := by omega
      subst hkk
      clear h
      go_wp2
      go_ret
      exact ⟨rfl, hbel⟩
end Go.Proofs.Ytchlolfdinakiaa.Q
