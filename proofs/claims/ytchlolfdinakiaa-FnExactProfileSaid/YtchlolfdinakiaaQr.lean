/- Records of a report: words, size guard, copy, comparison. -/
import Derived.Test.YtchlolfdinakiaaQg
import Derived.Test.YtchlolfdinakiaaV2
namespace Go.Proofs.Ytchlolfdinakiaa.Q
open Go.RowKit
attribute [local go_sem] run_store_float

/-- A record. -/
structure Rc where
  kind : Int
  task : Int
  fn : Int
  line : Int
  text : ByteArray
def encR (p : Rc) : List Value := [.int .i64 p.kind, .int .i64 p.task, .int .i64 p.fn, .int .i64 p.line, .string p.text]
theorem rdR_at {w : World} {lo : Nat} {A : Option Addr} {ps : List Rc} (h : RdL encR 5 w lo A ps) {k : Nat} {p : Rc} (hk : ps[k]? = some p) :
    ∃ b off, A = some ⟨b, off, none⟩ ∧ lo ≤ b ∧ b < w.heap.size ∧ w.cell? ⟨b, off + k * 5, none⟩ = some (.int .i64 p.kind) ∧ w.cell? ⟨b, off + k * 5 + 1, none⟩ = some (.int .i64 p.task) ∧ w.cell? ⟨b, off + k * 5 + 2, none⟩ = some (.int .i64 p.fn) ∧ w.cell? ⟨b, off + k * 5 + 3, none⟩ = some (.int .i64 p.line) ∧ w.cell? ⟨b, off + k * 5 + 4, none⟩ = some (.string p.text) := by
  have hlt := (List.getElem?_eq_some_iff.1 hk).1
  obtain ⟨b, off, e, hlo, hb, hc⟩ := h (by omega)
  have hj := hc k p hk
  exact ⟨b, off, e, hlo, hb, hj 0 _ rfl, hj 1 _ rfl, hj 2 _ rfl, hj 3 _ rfl, hj 4 _ rfl⟩
def wR (p : Rc) : Nat := p.text.size
def fitR (p : Rc) : Prop := p.text.size ≤ maxLen

theorem szr_any (p : Rc) (left : Int) (w : World) (hp : fitR p) (h0 : 0 ≤ left) (h1 : left ≤ 1048576) :
    Calls Try.prog 89 #[.agg #[.int .i64 p.kind, .int .i64 p.task, .int .i64 p.fn, .int .i64 p.line, .string p.text], .int .i64 left] w fun e w' => e = .returned (.int .i64 (negOr (left - wR p))) ∧ Below w.heap.size w w' := by
  unfold fitR maxLen at hp
  unfold wR
  by_cases hA : left - p.text.size < 0
  · rw [negOr_neg hA]
    go_enter Try.func89, Try.ntmps89
    go_wp2
    go_ret
    exact ⟨rfl, below_new _ _⟩
  · rw [negOr_pos (by omega)]
    go_enter Try.func89, Try.ntmps89
    go_wp2
    go_ret
    exact ⟨rfl, below_new _ _⟩

def szRS (ps : List Rc) (left : Int) : Int := negOr (left - ps.length - totW wR ps)
theorem szrs_any (A : Option Addr) (c : Nat) (ps : List Rc) (left : Int) (w : World) (lo : Nat) (h : RdL encR 5 w lo A ps) (hx : ∀ p ∈ ps, fitR p) (hn : ps.length ≤ maxLen) (h0 : 0 ≤ left) (h1 : left ≤ 1048576) :
    Calls Try.prog 73 #[.slice A ps.length c, .int .i64 left] w fun e w' => e = .returned (.int .i64 (szRS ps left)) ∧ Below w.heap.size w w' := by
  unfold maxLen at hn
  by_cases hl : left - ps.length < 0
  · go_enter Try.func73, Try.ntmps73
    go_wp2
    go_ret
    refine ⟨?_, Below.refl _ _⟩
    unfold szRS
    rw [negOr_neg (by omega)]; rfl
  · go_enter Try.func73, Try.ntmps73
    go_wp2
    go_loopw [1, 5] (fun l i wr => ∃ k : Nat, k ≤ ps.length ∧ i = .int .i64 k ∧ l = .int .i64 (left - ps.length - totW wR (ps.take k)) ∧ 0 ≤ left - ps.length - totW wR (ps.take k) ∧ Below w.heap.size w wr) (fun _ i _ => ps.length - (intOf i).toNat)
    case atStart => exact ⟨0, Nat.zero_le _, rfl, by simp [totW], by simp [totW]; omega, Below.refl _ _⟩
    case round =>
      obtain ⟨k, hk, rfl, rfl, hp, hbel⟩ := hrel
      by_cases hlt : k < ps.length
      · obtain ⟨p, hpk⟩ : ∃ p, ps[k]? = some p := ⟨_, List.getElem?_eq_getElem hlt⟩
        obtain ⟨b, off, rfl, hlo, hb, c0, c1, c2, c3, c4⟩ := rdR_at (h.below hbel) hpk
        have hfit := hx p (List.mem_of_getElem? hpk)
        have ht := Lib.hid (totW_take wR ps k p hpk)
        have hle := totW_le wR ps (k + 1)
        have HP := Lib.hid hpk
        clear hx h hpk
        go_wp2_with fail
        refine (szr_any p _ _ hfit (by omega) (by omega)).mono ?_
        rintro e w1 ⟨rfl, hb1⟩
        have HB1 := hbel.trans (hb1.mono hbel.size)
        have ht' := ht.out
        by_cases hneg : left - ps.length - totW wR (ps.take k) - wR p < 0
        · rw [negOr_neg hneg]
          clear ht'
          go_wp2
          go_ret
          have ht' := ht.out
          refine ⟨?_, HB1⟩
          unfold szRS
          rw [negOr_neg (by omega)]; rfl
        · rw [negOr_pos (by omega)]
          clear ht'
          go_wp2
          have ht' := ht.out
          refine ⟨⟨k + 1, by omega, by go_num, ?_, by omega, HB1⟩, by simp [intOf]; omega⟩
          rw [ht']; push_cast; go_num
      · have hkk : k = ps.length := by omega
        subst hkk
        clear hx h
        rw [List.take_length] at hp
        go_wp2
        go_ret
        refine ⟨?_, hbel⟩
        unfold szRS
        rw [negOr_pos (by omega)]
        exact congrArg (fun l => Ending.returned (Value.int .i64 (left - ps.length - (totW wR l : Nat)))) List.take_length

theorem tor_any (p : Rc) (w : World) : Calls Try.prog 90 #[.agg #[.int .i64 p.kind, .int .i64 p.task, .int .i64 p.fn, .int .i64 p.line, .string p.text]] w fun e w' => e = .returned (.agg #[.int .i64 p.kind, .int .i64 p.task, .int .i64 p.fn, .int .i64 p.line, .string p.text]) ∧ Below w.heap.size w w' := by
  go_enter Try.func90, Try.ntmps90
  go_wp2
  refine bodyPost_ret (by simp [results, Try.results90, go_sem, *]; rfl) rfl ?_
  exact ⟨rfl, by (repeat (first | with_reducible assumption | with_reducible exact Below.refl _ _ | with_reducible refine Below.drew ?_ | with_reducible refine bl_drewN _ ?_ | ((with_reducible refine bl_alloc ?_ _ ?_); · (first | omega | (simp; done) | (simp; omega))) | ((with_reducible refine bl_set ?_ _ ?_); · (first | omega | (simp; done) | (simp; omega)))))⟩
theorem eqr_any (p : Rc) (w : World) : Calls Try.prog 96 #[.agg #[.int .i64 p.kind, .int .i64 p.task, .int .i64 p.fn, .int .i64 p.line, .string p.text], .agg #[.int .i64 p.kind, .int .i64 p.task, .int .i64 p.fn, .int .i64 p.line, .string p.text]] w fun e w' => e = .returned (.bool true) ∧ Below w.heap.size w w' := by
  go_enter Try.func96, Try.ntmps96
  go_wp2
  go_ret
  exact ⟨rfl, below_new2 _ _ _⟩

theorem info99 : (Try.prog.info? 99).map (fun i => (i.zero, i.size, i.bytes)) = some (some (.agg #[.int .i64 0, .int .i64 0, .int .i64 0, .int .i64 0, .string ⟨#[]⟩]), 5, 48) := by kernel_rfl
def RsS (w : World) (ps : List Rc) (e : Ending) (w' : World) : Prop := ∃ A c, e = .returned (.slice A ps.length c) ∧ RdL encR 5 w' w.heap.size A ps ∧ Wr w' w.heap.size A ps.length 5 99 ∧ Below w.heap.size w w'
theorem tors_any (A : Option Addr) (c : Nat) (ps : List Rc) (w : World) (lo : Nat) (h : RdL encR 5 w lo A ps) (hn : ps.length ≤ 1048576) :
    Calls Try.prog 75 #[.slice A ps.length c] w (RsS w ps) := by
  obtain ⟨i0, hi0, hz0, hz1, hz2⟩ := info_parts info99
  have hmk := fun (W : World) => run_make (P := Try.prog) W 70 99 i0 _ Try.underlying70 hi0 hz0 .i64 .i64 (ps.length : Int) (ps.length : Int) (by omega) (by omega) (by rw [hz2]; omega) (by omega)
  rw [hz1, Int.toNat_natCast] at hmk
  have hcs : (madeCells (Value.agg #[.int .i64 0, .int .i64 0, .int .i64 0, .int .i64 0, .string ⟨#[]⟩]).cells (ps.length * 5)).size = ps.length * 5 := by simp [madeCells]
  generalize hc0 : madeCells (Value.agg #[.int .i64 0, .int .i64 0, .int .i64 0, .int .i64 0, .string ⟨#[]⟩]).cells (ps.length * 5) = cs0 at *
  clear hc0 hz0 hz1 hz2 hi0
  go_enter Try.func75, Try.ntmps75
  go_wp2
  go_loopw [4] (fun i wr => ∃ k : Nat, k ≤ ps.length ∧ i = .int .i64 k ∧ ∃ cs : Array Value, Blk wr w.heap.size 99 cs ∧ cs.size = ps.length * 5 ∧ Full encR 5 cs ps k ∧ Below w.heap.size w wr) (fun i _ => ps.length - (intOf i).toNat)
  case atStart => exact ⟨0, Nat.zero_le _, rfl, cs0, Blk.new _ _ _, hcs, Full.zero, below_new _ _⟩
  case round =>
    obtain ⟨k, hk, rfl, cs, hblk, hsz, hcs', hbel⟩ := hrel
    by_cases hlt : k < ps.length
    · obtain ⟨p, hpk⟩ : ∃ p, ps[k]? = some p := ⟨_, List.getElem?_eq_getElem hlt⟩
      obtain ⟨b, off, rfl, hlo, hb, c0, c1, c2, c3, c4⟩ := rdR_at (h.below hbel) hpk
      have hgl := hblk.lt
      have H1 := Lib.hid h; have H2 := Lib.hid hblk; have H3 := Lib.hid hcs'; have H5 := Lib.hid hsz; have H6 := Lib.hid hpk
      clear h hblk hcs' hmk hsz hpk
      go_wp2_with fail
      refine (tor_any p _).mono ?_
      rintro e w1 ⟨rfl, hb1⟩
      have H7 := Lib.hid (H2.out.below hb1 hgl)
      have HB1 : Below w.heap.size w w1 := hbel.trans (hb1.mono hbel.size)
      have hle : k * 5 + 5 ≤ cs.size := by have := H5.out; omega
      have cellEx : ∀ j, j < 5 → ∃ u, w1.cell? ⟨w.heap.size, k * 5 + j, none⟩ = some u := fun j hj => ⟨cs[k * 5 + j]'(by omega), by rw [H7.out.cell, Array.getElem?_eq_getElem]⟩
      obtain ⟨d0, hd0⟩ := cellEx 0 (by omega); obtain ⟨d1, hd1⟩ := cellEx 1 (by omega); obtain ⟨d2, hd2⟩ := cellEx 2 (by omega); obtain ⟨d3, hd3⟩ := cellEx 3 (by omega); obtain ⟨d4, hd4⟩ := cellEx 4 (by omega)
      have fz : ∀ j, w1.frozen? ⟨w.heap.size, j, none⟩ = false := fun j => H7.out.frozen j
      clear cellEx hle c0 c1 c2 c3 c4
      rw [Nat.add_zero] at hd0
      go_wp2
      refine ⟨⟨k + 1, by omega, by go_num, putL cs (k * 5) (encR p), ?_, by rw [putL_size]; exact H5.out, H3.out.put H6.out (fun _ => rfl) (Nat.le_of_eq H5.out.symm), by (repeat (first | with_reducible assumption | with_reducible exact Below.refl _ _ | with_reducible refine Below.drew ?_ | with_reducible refine bl_drewN _ ?_ | ((with_reducible refine bl_alloc ?_ _ ?_); · (first | omega | (simp; done) | (simp; omega))) | ((with_reducible refine bl_set ?_ _ ?_); · (first | omega | (simp; done) | (simp; omega)))))⟩, by simp [intOf]; omega⟩
      exact (((((H7.out).set_ _ _).set_ _ _).set_ _ _).set_ _ _).set_ _ _
    · have hkk : k = ps.length := by omega
      subst hkk
      clear hmk h
      go_wp2
      go_ret
      exact ⟨_, _, rfl, rd_of_blk hblk (Nat.le_refl _) hcs', fun _ => ⟨_, _, rfl, Nat.le_refl _, hblk, Nat.le_of_eq hsz.symm⟩, hbel⟩

theorem eqrs_any (A A' : Option Addr) (c c' : Nat) (ps : List Rc) (w : World) (lo lo' : Nat) (h : RdL encR 5 w lo A ps) (h' : RdL encR 5 w lo' A' ps) (hn : ps.length ≤ maxLen) :
    Calls Try.prog 79 #[.slice A ps.length c, .slice A' ps.length c'] w fun e w' => e = .returned (.bool true) ∧ Below w.heap.size w w' := by
  unfold maxLen at hn
  go_enter Try.func79, Try.ntmps79
  go_wp2
  go_loopw [5] (fun i wr => ∃ k : Nat, k ≤ ps.length ∧ i = .int .i64 k ∧ Below w.heap.size w wr) (fun i _ => ps.length - (intOf i).toNat)
  case atStart => exact ⟨0, Nat.zero_le _, rfl, Below.refl _ _⟩
  case round =>
    obtain ⟨k, hk, rfl, hbel⟩ := hrel
    by_cases hlt : k < ps.length
    · obtain ⟨p, hpk⟩ : ∃ p, ps[k]? = some p := ⟨_, List.getElem?_eq_getElem hlt⟩
      obtain ⟨b, off, rfl, hlo, hb, c0, c1, c2, c3, c4⟩ := rdR_at (h.below hbel) hpk
      obtain ⟨b', off', rfl, hlo', hb', d0, d1, d2, d3, d4⟩ := rdR_at (h'.below hbel) hpk
      clear h h' hpk
      have k1 : (0 : Int) ≤ k := by omega
      have k2 : (k : Int) < ps.length := by omega
      go_wp2
      go_region_held3 (fun w' => w'.cell? ⟨b, off + k * 5, none⟩ = some (.int .i64 p.kind) ∧ w'.cell? ⟨b, off + k * 5 + 1, none⟩ = some (.int .i64 p.task) ∧ w'.cell? ⟨b, off + k * 5 + 2, none⟩ = some (.int .i64 p.fn) ∧ w'.cell? ⟨b, off + k * 5 + 3, none⟩ = some (.int .i64 p.line) ∧ w'.cell? ⟨b, off + k * 5 + 4, none⟩ = some (.string p.text) ∧ w'.cell? ⟨b', off' + k * 5, none⟩ = some (.int .i64 p.kind) ∧ w'.cell? ⟨b', off' + k * 5 + 1, none⟩ = some (.int .i64 p.task) ∧ w'.cell? ⟨b', off' + k * 5 + 2, none⟩ = some (.int .i64 p.fn) ∧ w'.cell? ⟨b', off' + k * 5 + 3, none⟩ = some (.int .i64 p.line) ∧ w'.cell? ⟨b', off' + k * 5 + 4, none⟩ = some (.string p.text)) (simp [go_sem, *]) ((go_at_call 96; refine (eqr_any p _).mono ?_; rintro e w1 ⟨rfl, hb1⟩; replace hb1 := bl_undrew hb1; obtain ⟨hc1, hf1⟩ := bcell hb1; have HB1 : Below w.heap.size w w1 := hbel.trans (hb1.mono hbel.size)))
      go_wp2
      exact ⟨⟨k + 1, by omega, by go_num, HB1⟩, by simp [intOf]; omega⟩
    · have hkk : k = ps.length := by omega
      subst hkk
      clear h h'
      go_wp2
      go_ret
      exact ⟨rfl, hbel⟩
end Go.Proofs.Ytchlolfdinakiaa.Q
