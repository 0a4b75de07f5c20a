/- How long a told report is; marks on a row of the call's own. -/
import Derived.Test.YtchlolfdinakiaaDoorE9
namespace Go.Proofs.YtchlolfdinakiaaDoor
open Go.RowKit
attribute [local go_sem] run_store_float

theorem textB_len (s : ByteArray) (hs : s.size ≤ 1048576) : (textB s).length ≤ 22 + s.size := by
  have h1 := numB_len (s.size : Int) (by omega) (by omega)
  unfold textB
  have e2 : s.data.toList.length = s.size := Array.length_toList
  rw [List.length_append]
  omega
theorem recB_len (x : Rc) (h : okRc x) (hs : x.text.size ≤ 1048576) : (recB x).length ≤ 110 + wR x := by
  obtain ⟨a, b, c, d, -⟩ := h
  have h1 := numB_len _ a.1 a.2
  have h2 := numB_len _ b.1 b.2
  have h3 := numB_len _ c.1 c.2
  have h4 := numB_len _ d.1 d.2
  have h5 := textB_len x.text hs
  unfold recB wR
  simp only [List.length_append]
  omega
theorem recs_len (xs : List Rc) (h : ∀ x ∈ xs, okRc x) (hs : totW wR xs ≤ 1048576) : (xs.flatMap recB).length ≤ 110 * xs.length + totW wR xs := by
  induction xs with
  | nil => simp
  | cons x r ih =>
    have e : totW wR (x :: r) = wR x + totW wR r := rfl
    have e3 : wR x = x.text.size := rfl
    have h1 := recB_len x (h x (by simp)) (by omega)
    have h2 := ih (fun y hy => h y (by simp [hy])) (by omega)
    rw [List.flatMap_cons, List.length_append, List.length_cons]
    omega
theorem vals_len (xs : List ByteArray) (hs : totS xs ≤ 1048576) : (xs.flatMap textB).length ≤ 22 * xs.length + totS xs := by
  induction xs with
  | nil => simp
  | cons x r ih =>
    have e : totS (x :: r) = x.size + totS r := rfl
    have h1 := textB_len x (by omega)
    have h2 := ih (by omega)
    rw [List.flatMap_cons, List.length_append, List.length_cons]
    omega
theorem tellB_len (r : Rp) (h : okRp r) (hs : wRp r ≤ 1048576) : (tellB r).length ≤ 1000000000000 := by
  obtain ⟨a, b, c, d, -⟩ := h
  have e : wRp r = r.recs.length + totW wR r.recs + r.vals.length + totS r.vals + r.err.size + r.trace.size := rfl
  have h1 := numB_len _ a.1 a.2
  have h2 := numB_len _ b.1 b.2
  have h3 := numB_len _ c.1 c.2
  have h4 := numB_len (r.recs.length : Int) (by omega) (by omega)
  have h5 := numB_len (r.vals.length : Int) (by omega) (by omega)
  have h6 := recs_len r.recs d (by omega)
  have h7 := vals_len r.vals (by omega)
  have h8 := textB_len r.err (by omega)
  have h9 := textB_len r.trace (by omega)
  unfold tellB valsB recsB headB
  simp only [List.length_append]
  omega
theorem totW_mem (xs : List Rc) (x : Rc) (h : x ∈ xs) : wR x ≤ totW wR xs := by
  induction xs with
  | nil => cases h
  | cons y r ih =>
    have e : totW wR (y :: r) = wR y + totW wR r := rfl
    rcases List.mem_cons.1 h with rfl | h
    · omega
    · have := ih h; omega
theorem totS_mem (xs : List ByteArray) (x : ByteArray) (h : x ∈ xs) : x.size ≤ totS xs := by
  induction xs with
  | nil => cases h
  | cons y r ih =>
    have e : totS (y :: r) = y.size + totS r := rfl
    rcases List.mem_cons.1 h with rfl | h
    · omega
    · have := ih h; omega
/-- A report whose numbers are int64s and that the size guard lets by. -/
theorem okRp_of (r : Rp) (h1 : i64 r.code) (h2 : i64 r.ticks) (h3 : i64 r.made) (h4 : ∀ x ∈ r.recs, i64 x.kind ∧ i64 x.task ∧ i64 x.fn ∧ i64 x.line) (hs : wRp r ≤ 1048576) : okRp r := by
  have e : wRp r = r.recs.length + totW wR r.recs + r.vals.length + totS r.vals + r.err.size + r.trace.size := rfl
  refine ⟨h1, h2, h3, fun x hx => ?_, fun s hs => ?_, by omega, by omega, by omega, by omega⟩
  · obtain ⟨a, b, c, d⟩ := h4 x hx
    have := totW_mem r.recs x hx
    unfold wR at this
    exact ⟨a, b, c, d, by unfold wR at e; omega⟩
  · have := totS_mem r.vals s hs; omega
theorem tellR_len (r : Rp) : (tellR r).length ≤ 1000000 := by
  unfold tellR
  split
  · simp
  · omega

theorem markb_zero (A : Option Addr) (c : Nat) (q : Int) (w : World) : Calls Tryd.prog 17 #[.slice A 0 c, .int .i64 q] w fun e w' => e = .returned (.int .i64 q) ∧ w = w' := by
  go_enter Tryd.func17, Tryd.ntmps17
  go_wp2
  go_loop [1, 5] (fun l i => i = .int .i64 0 ∧ l = .int .i64 q) (fun _ _ => 0)
  case atStart => exact ⟨rfl, rfl⟩
  case round =>
    obtain ⟨rfl, rfl⟩ := hrel
    go_wp2
    go_ret
    exact ⟨rfl, rfl⟩
theorem heldb_zero (A : Option Addr) (c : Nat) (q : Int) (w : World) : Calls Tryd.prog 18 #[.slice A 0 c, .int .i64 q] w fun e w' => e = .returned (.int .i64 q) ∧ w = w' := by
  go_enter Tryd.func18, Tryd.ntmps18
  go_wp2
  go_loop [1, 5] (fun l i => i = .int .i64 0 ∧ l = .int .i64 q) (fun _ _ => 0)
  case atStart => exact ⟨rfl, rfl⟩
  case round =>
    obtain ⟨rfl, rfl⟩ := hrel
    go_wp2
    go_ret
    exact ⟨rfl, rfl⟩
/-- The n bytes of a slice are marks from 1 on. -/
def MarkedS (w : World) (A : Option Addr) (n : Nat) : Prop := 0 < n → ∃ g, A = some ⟨g, 0, none⟩ ∧ g < w.heap.size ∧ Marked w g n 1
theorem But.marked {P : Nat → Prop} {w w' : World} {A : Option Addr} {n : Nat} (h : But P w w') (hm : MarkedS w A n) (hp : ∀ g, Head n A g → ¬ P g) : MarkedS w' A n := fun h0 => by
  obtain ⟨g, e, hlt, h1⟩ := hm h0
  exact ⟨g, e, Nat.lt_of_lt_of_le hlt h.size, fun i hi => (World.cell?_of_block (h.block g hlt (hp g ⟨h0, e⟩))).trans (h1 i hi)⟩
theorem MarkedS.below {w w' : World} {A : Option Addr} {n : Nat} (hm : MarkedS w A n) (h : Below w.heap.size w w') : MarkedS w' A n := (But.of_below (P := fun _ => False) h).marked hm (fun _ _ h => h)
theorem markbO_any (A : Option Addr) (n c : Nat) (l : List UInt8) (B : Nat) (w : World) (hO : Own w B (.slice A n c) l) (hn : l.length = n) (hl : n ≤ 1000000) :
    Calls Tryd.prog 17 #[.slice A n c, .int .i64 1] w fun e w' => e = .returned (.int .i64 (1 + (n : Int))) ∧ MarkedS w' A n ∧ But (Head n A) w w' := by
  by_cases h0 : 0 < n
  · rcases hO.2 with ⟨e, -⟩ | ⟨g, cap, cur, e, hB, hg, hc, hm, hs, -⟩
    · cases e; omega
    · injection e with e1 e2 e3
      subst e1
      refine (markb_any g n c 1 cur w hg (by omega) hl ⟨by omega, by omega⟩).mono ?_
      rintro e w1 ⟨rfl, hmk, ho⟩
      refine ⟨rfl, fun _ => ⟨g, rfl, ?_, hmk⟩, ⟨ho.os, ho.tape, ho.output, Nat.le_of_eq ho.size.symm, fun k hk hx => ho.block k (fun e => hx ⟨h0, by rw [e]⟩)⟩⟩
      rw [ho.size]; exact (Array.getElem?_eq_some_iff.1 hg).1
  · obtain rfl : n = 0 := by omega
    refine (markb_zero A c 1 w).mono ?_
    rintro e w1 ⟨rfl, rfl⟩
    exact ⟨rfl, fun h => absurd h h0, But.refl _ _⟩
theorem heldbS_any (A : Option Addr) (n c : Nat) (w : World) (hm : MarkedS w A n) (hl : n ≤ 1000000) :
    Calls Tryd.prog 18 #[.slice A n c, .int .i64 1] w fun e w' => e = .returned (.int .i64 (1 + (n : Int))) ∧ w = w' := by
  by_cases h0 : 0 < n
  · obtain ⟨g, rfl, -, h1⟩ := hm h0
    exact heldb_any g n c 1 w h1 hl ⟨by omega, by omega⟩
  · obtain rfl : n = 0 := by omega
    exact heldb_zero A c 1 w
theorem But.own {P : Nat → Prop} {w w' : World} {B : Nat} {v : Value} {l : List UInt8} (h : But P w w') (hO : Own w B v l) (hp : ∀ g, v.ownBlock = some g → ¬ P g) : Own w' B v l := by
  refine ⟨hO.1, hO.2.imp id ?_⟩
  rintro ⟨g, cap, cur, rfl, hB, hg, r⟩
  exact ⟨g, cap, cur, rfl, hB, (h.block g (Array.getElem?_eq_some_iff.1 hg).1 (hp g rfl)).trans hg, r⟩
theorem tab_one {w : World} (h : Tab w) : 1 < w.heap.size := by
  have h0 := h w (Below.refl _ _)
  unfold Lib.TabIs World.var? at h0
  rw [gTab1] at h0
  simp only [Option.bind_some] at h0
  rcases Nat.lt_or_ge 1 w.heap.size with h1 | h1
  · exact h1
  · rw [Array.getElem?_eq_none h1] at h0; cases h0
end Go.Proofs.YtchlolfdinakiaaDoor
