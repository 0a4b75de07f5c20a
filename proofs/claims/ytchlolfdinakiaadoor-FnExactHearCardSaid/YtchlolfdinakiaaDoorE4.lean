/- The reference's Tell without its bound. -/
import Derived.Test.YtchlolfdinakiaaDoorE3
namespace Go.Proofs.YtchlolfdinakiaaDoor
open Go.RowKit
attribute [local go_sem] run_store_float run_store_func

/-- A report. -/
structure Rp where
  code : Int
  recs : List Rc
  vals : List ByteArray
  err : ByteArray
  trace : ByteArray
  ticks : Int
  made : Int
def i64 (n : Int) : Prop := -9223372036854775808 ≤ n ∧ n ≤ 9223372036854775807
def okRc (x : Rc) : Prop := i64 x.kind ∧ i64 x.task ∧ i64 x.fn ∧ i64 x.line ∧ x.text.size ≤ 1000000000000
def okRp (r : Rp) : Prop := i64 r.code ∧ i64 r.ticks ∧ i64 r.made ∧ (∀ x ∈ r.recs, okRc x) ∧ (∀ s ∈ r.vals, s.size ≤ 1000000000000) ∧ r.err.size ≤ 1000000000000 ∧ r.trace.size ≤ 1000000000000 ∧ r.recs.length ≤ 1000000000000 ∧ r.vals.length ≤ 1000000000000
def recB (x : Rc) : List UInt8 := numB x.kind ++ numB x.task ++ numB x.fn ++ numB x.line ++ textB x.text
def headB (r : Rp) : List UInt8 := numB r.code ++ numB r.ticks ++ numB r.made ++ numB r.recs.length
def recsB (r : Rp) : List UInt8 := headB r ++ r.recs.flatMap recB
def valsB (r : Rp) : List UInt8 := recsB r ++ numB r.vals.length ++ r.vals.flatMap textB
def tellB (r : Rp) : List UInt8 := valsB r ++ textB r.err ++ textB r.trace
theorem Kept.blk {B : Nat} {w w' : World} {g : Nat} {t : TypeId} {cs : Array Value} (h : Kept B w w') (hb : Blk w g t cs) (ht : t ≠ 5) : Blk w' g t cs := h.oth g _ hb (by simp) (fun c fz e => by cases e; exact ht rfl)
theorem box7 {w : World} {g : Nat} {t : TypeId} {a b c d e f h : Value} (hb : Blk w g t #[a, b, c, d, e, f, h]) : w.cell? ⟨g, 0, none⟩ = some a ∧ w.cell? ⟨g, 1, none⟩ = some b ∧ w.cell? ⟨g, 2, none⟩ = some c ∧ w.cell? ⟨g, 3, none⟩ = some d ∧ w.cell? ⟨g, 4, none⟩ = some e ∧ w.cell? ⟨g, 5, none⟩ = some f ∧ w.cell? ⟨g, 6, none⟩ = some h :=
  ⟨hb.cell 0, hb.cell 1, hb.cell 2, hb.cell 3, hb.cell 4, hb.cell 5, hb.cell 6⟩
theorem box5 {w : World} {g : Nat} {t : TypeId} {a b c d e : Value} (hb : Blk w g t #[a, b, c, d, e]) : w.cell? ⟨g, 0, none⟩ = some a ∧ w.cell? ⟨g, 1, none⟩ = some b ∧ w.cell? ⟨g, 2, none⟩ = some c ∧ w.cell? ⟨g, 3, none⟩ = some d ∧ w.cell? ⟨g, 4, none⟩ = some e :=
  ⟨hb.cell 0, hb.cell 1, hb.cell 2, hb.cell 3, hb.cell 4⟩
theorem flat_step {α : Type} (f : α → List UInt8) (xs : List α) (k : Nat) (x : α) (h : xs[k]? = some x) : (xs.take (k + 1)).flatMap f = (xs.take k).flatMap f ++ f x := by
  rw [List.take_add_one, h]; simp
theorem flat_le {α : Type} (f : α → List UInt8) (xs : List α) (k : Nat) : ((xs.take k).flatMap f).length ≤ (xs.flatMap f).length := by
  conv => rhs; rw [← List.take_append_drop k xs, List.flatMap_append, List.length_append]
  omega

theorem snumB_any (B : Nat) (v : Value) (l : List UInt8) (n : Int) (h0 : -9223372036854775808 ≤ n) (h1 : n ≤ 9223372036854775807) (w : World) (hB : B ≤ w.heap.size) (hown : Own w B v l) (hl : l.length ≤ 1000000000000) :
    Calls Tryd.prog 59 #[v, .int .i64 n] w fun e w' => ∃ v', e = .returned v' ∧ Own w' B v' (l ++ numB n) ∧ Kept B w w' := snum_any B v l n h0 h1 w hB hown hl

set_option maxRecDepth 100000 in
set_option maxHeartbeats 1600000 in
theorem l5tell_any (A A' : Option Addr) (c c' : Nat) (r : Rp) (w : World) (lo lo' : Nat) (h : RdL encR 5 w lo A r.recs) (h' : RdL encS 1 w lo' A' r.vals) (hok : okRp r) (hlen : (tellB r).length ≤ 1000000000000) :
    Calls Tryd.prog 31 #[.agg #[.int .i64 r.code, .slice A r.recs.length c, .slice A' r.vals.length c', .string r.err, .string r.trace, .int .i64 r.ticks, .int .i64 r.made]] w fun e w' => ∃ v', e = .returned v' ∧ Own w' (w.heap.size + 1) v' (tellB r) ∧ Below w.heap.size w w' := by
  obtain ⟨hn1, hn2, hn3, hokr, hokv, hn31, hn32, hrl, hvl⟩ := hok
  have hn4 : i64 r.recs.length := ⟨by omega, by omega⟩
  have hn21 : i64 r.vals.length := ⟨by omega, by omega⟩
  have lA : (headB r).length ≤ (recsB r).length := by unfold recsB; rw [List.length_append]; omega
  have lB : (recsB r).length + (numB r.vals.length).length ≤ (valsB r).length := by unfold valsB; simp only [List.length_append]; omega
  have lC : (valsB r).length + (textB r.err).length + (textB r.trace).length = (tellB r).length := by unfold tellB; simp only [List.length_append]
  have lH : (numB r.code).length + (numB r.ticks).length + (numB r.made).length + (numB r.recs.length).length = (headB r).length := by unfold headB; simp only [List.length_append]
  have g := h.alloc (.cells #[.int .i64 r.code, .slice A r.recs.length c, .slice A' r.vals.length c', .string r.err, .string r.trace, .int .i64 r.ticks, .int .i64 r.made] 39)
  have g' := h'.alloc (.cells #[.int .i64 r.code, .slice A r.recs.length c, .slice A' r.vals.length c', .string r.err, .string r.trace, .int .i64 r.ticks, .int .i64 r.made] 39)
  have hX0 := Blk.new w 39 #[.int .i64 r.code, .slice A r.recs.length c, .slice A' r.vals.length c', .string r.err, .string r.trace, .int .i64 r.ticks, .int .i64 r.made]
  have hW : Below w.heap.size w (w.alloc (.cells #[.int .i64 r.code, .slice A r.recs.length c, .slice A' r.vals.length c', .string r.err, .string r.trace, .int .i64 r.ticks, .int .i64 r.made] 39)) := below_new _ _
  have hsz : (w.alloc (.cells #[.int .i64 r.code, .slice A r.recs.length c, .slice A' r.vals.length c', .string r.err, .string r.trace, .int .i64 r.ticks, .int .i64 r.made] 39)).heap.size = w.heap.size + 1 := by simp
  go_enter Tryd.func31, Tryd.ntmps31
  go_wp2_with fail
  generalize w.alloc (.cells #[.int .i64 r.code, .slice A r.recs.length c, .slice A' r.vals.length c', .string r.err, .string r.trace, .int .i64 r.ticks, .int .i64 r.made] 39) = W0 at *
  obtain ⟨B, hBe⟩ : ∃ B, B = W0.heap.size := ⟨_, rfl⟩
  have HBe := Lib.hid hBe
  have hS0 : B ≤ W0.heap.size := by omega
  have hT0 := Kept.refl B W0
  have hO0 : Own W0 B (.slice none 0 0) [] := World.ownsRow_nil _ _ _ _
  obtain ⟨x0_0, x1_0, x2_0, x3_0, x4_0, x5_0, x6_0⟩ := box7 hX0
  clear h h' hBe
  refine (snumB_any B _ ([]) r.code hn1.1 hn1.2 _ hS0 hO0 (by simp)).mono ?_
  rintro e w1 ⟨v1, rfl, hO1, hK1⟩
  have hS1 := Nat.le_trans hS0 hK1.bel.size
  have hT1 := hT0.trans hK1
  have hX1 := hK1.blk hX0 (by decide)
  obtain ⟨x0_1, x1_1, x2_1, x3_1, x4_1, x5_1, x6_1⟩ := box7 hX1
  clear hK1 hT0 hX0 hO0 x0_0 x1_0 x2_0 x3_0 x4_0 x5_0 x6_0
  go_wp2_with fail
  refine (snumB_any B _ ([] ++ numB r.code) r.ticks hn2.1 hn2.2 _ hS1 hO1 (by first | omega | (simp only [List.length_append, List.length_nil]; omega))).mono ?_
  rintro e w2 ⟨v2, rfl, hO2, hK2⟩
  have hS2 := Nat.le_trans hS1 hK2.bel.size
  have hT2 := hT1.trans hK2
  have hX2 := hK2.blk hX1 (by decide)
  obtain ⟨x0_2, x1_2, x2_2, x3_2, x4_2, x5_2, x6_2⟩ := box7 hX2
  clear hK2 hT1 hX1 hO1 x0_1 x1_1 x2_1 x3_1 x4_1 x5_1 x6_1
  go_wp2_with fail
  refine (snumB_any B _ ([] ++ numB r.code ++ numB r.ticks) r.made hn3.1 hn3.2 _ hS2 hO2 (by first | omega | (simp only [List.length_append, List.length_nil]; omega))).mono ?_
  rintro e w3 ⟨v3, rfl, hO3, hK3⟩
  have hS3 := Nat.le_trans hS2 hK3.bel.size
  have hT3 := hT2.trans hK3
  have hX3 := hK3.blk hX2 (by decide)
  obtain ⟨x0_3, x1_3, x2_3, x3_3, x4_3, x5_3, x6_3⟩ := box7 hX3
  clear hK3 hT2 hX2 hO2 x0_2 x1_2 x2_2 x3_2 x4_2 x5_2 x6_2
  go_wp2_with fail
  refine (snumB_any B _ ([] ++ numB r.code ++ numB r.ticks ++ numB r.made) (r.recs.length : Int) hn4.1 hn4.2 _ hS3 hO3 (by first | omega | (simp only [List.length_append, List.length_nil]; omega))).mono ?_
  rintro e w4 ⟨v4, rfl, hO4, hK4⟩
  have hS4 := Nat.le_trans hS3 hK4.bel.size
  have hT4 := hT3.trans hK4
  have hX4 := hK4.blk hX3 (by decide)
  obtain ⟨x0_4, x1_4, x2_4, x3_4, x4_4, x5_4, x6_4⟩ := box7 hX4
  clear hK4 hT3 hX3 hO3 x0_3 x1_3 x2_3 x3_3 x4_3 x5_3 x6_3
  have HX4 := Lib.hid hX4
  go_wp2
  go_loopw [3, 28] (fun o i wr => ∃ k : Nat, k ≤ r.recs.length ∧ i = .int .i64 k ∧ Own wr B o (headB r ++ (r.recs.take k).flatMap recB) ∧ Kept B W0 wr ∧ Blk wr w.heap.size 39 #[.int .i64 r.code, .slice A r.recs.length c, .slice A' r.vals.length c', .string r.err, .string r.trace, .int .i64 r.ticks, .int .i64 r.made]) (fun _ i _ => r.recs.length - (intOf i).toNat)
  case atStart => exact ⟨0, Nat.zero_le _, rfl, by simpa [headB] using hO4, hT4, HX4.out⟩
  case round =>
    obtain ⟨k, hk, rfl, hown, hkept, hbox⟩ := hrel
    clear hO4 hT4 hX4 HX4 hS1 hS2 hS3 hS4 x0_4 x1_4 x2_4 x3_4 x4_4 x5_4 x6_4
    have hS := Nat.le_trans hS0 hkept.bel.size
    by_cases hlt : k < r.recs.length
    · obtain ⟨p, hpk⟩ : ∃ p, r.recs[k]? = some p := ⟨_, List.getElem?_eq_getElem hlt⟩
      obtain ⟨b, off, rfl, hlo, hb, c0, c1, c2, c3, c4⟩ := rdR_at (g.below (by rw [← HBe.out]; exact hkept.bel)) hpk
      obtain ⟨hp1, hp2, hp3, hp4, hp5⟩ := hokr p (List.mem_of_getElem? hpk)
      have f1 := congrArg List.length (flat_step recB r.recs k p hpk)
      have f2 := flat_le recB r.recs (k + 1)
      have f3 : (recB p).length = (numB p.kind).length + (numB p.task).length + (numB p.fn).length + (numB p.line).length + (textB p.text).length := by unfold recB; simp only [List.length_append]
      have f4 : (recsB r).length = (headB r).length + (r.recs.flatMap recB).length := by unfold recsB; simp only [List.length_append]
      rw [List.length_append] at f1
      have F1 : (headB r).length + ((r.recs.take k).flatMap recB).length + (recB p).length ≤ 1000000000000 := by omega
      clear f1 f2 f4
      have HP := Lib.hid hpk
      have HG := Lib.hid hbox
      have hX5 := Blk.new wr 62 #[.int .i64 p.kind, .int .i64 p.task, .int .i64 p.fn, .int .i64 p.line, .string p.text]
      have hO5 := hown.new (below_new wr (.cells #[.int .i64 p.kind, .int .i64 p.task, .int .i64 p.fn, .int .i64 p.line, .string p.text] 62))
      have hT5 := hkept.alloc hS (.cells #[.int .i64 p.kind, .int .i64 p.task, .int .i64 p.fn, .int .i64 p.line, .string p.text] 62)
      have hY5 := hbox.alloc (.cells #[.int .i64 p.kind, .int .i64 p.task, .int .i64 p.fn, .int .i64 p.line, .string p.text] 62)
      have hS5 : B ≤ (wr.alloc (.cells #[.int .i64 p.kind, .int .i64 p.task, .int .i64 p.fn, .int .i64 p.line, .string p.text] 62)).heap.size := by simp; omega
      clear hpk g g' hown hkept hbox
      go_wp2_with fail
      generalize wr.alloc (.cells #[.int .i64 p.kind, .int .i64 p.task, .int .i64 p.fn, .int .i64 p.line, .string p.text] 62) = w5 at *
      obtain ⟨x0_5, x1_5, x2_5, x3_5, x4_5⟩ := box5 hX5
      refine (snumB_any B _ (headB r ++ (r.recs.take k).flatMap recB) p.kind hp1.1 hp1.2 _ hS5 hO5 (by first | omega | (simp only [List.length_append]; omega))).mono ?_
      rintro e w6 ⟨v6, rfl, hO6, hK6⟩
      have hS6 := Nat.le_trans hS5 hK6.bel.size
      have hT6 := hT5.trans hK6
      have hX6 := hK6.blk hX5 (by decide)
      have hY6 := hK6.blk hY5 (by decide)
      obtain ⟨x0_6, x1_6, x2_6, x3_6, x4_6⟩ := box5 hX6
      clear hK6 hT5 hX5 hO5 x0_5 x1_5 x2_5 x3_5 x4_5 hY5
      go_wp2_with fail
      refine (snumB_any B _ (headB r ++ (r.recs.take k).flatMap recB ++ numB p.kind) p.task hp2.1 hp2.2 _ hS6 hO6 (by first | omega | (simp only [List.length_append]; omega))).mono ?_
      rintro e w7 ⟨v7, rfl, hO7, hK7⟩
      have hS7 := Nat.le_trans hS6 hK7.bel.size
      have hT7 := hT6.trans hK7
      have hX7 := hK7.blk hX6 (by decide)
      have hY7 := hK7.blk hY6 (by decide)
      obtain ⟨x0_7, x1_7, x2_7, x3_7, x4_7⟩ := box5 hX7
      clear hK7 hT6 hX6 hO6 x0_6 x1_6 x2_6 x3_6 x4_6 hY6
      go_wp2_with fail
      refine (snumB_any B _ (headB r ++ (r.recs.take k).flatMap recB ++ numB p.kind ++ numB p.task) p.fn hp3.1 hp3.2 _ hS7 hO7 (by first | omega | (simp only [List.length_append]; omega))).mono ?_
      rintro e w8 ⟨v8, rfl, hO8, hK8⟩
      have hS8 := Nat.le_trans hS7 hK8.bel.size
      have hT8 := hT7.trans hK8
      have hX8 := hK8.blk hX7 (by decide)
      have hY8 := hK8.blk hY7 (by decide)
      obtain ⟨x0_8, x1_8, x2_8, x3_8, x4_8⟩ := box5 hX8
      clear hK8 hT7 hX7 hO7 x0_7 x1_7 x2_7 x3_7 x4_7 hY7
      go_wp2_with fail
      refine (snumB_any B _ (headB r ++ (r.recs.take k).flatMap recB ++ numB p.kind ++ numB p.task ++ numB p.fn) p.line hp4.1 hp4.2 _ hS8 hO8 (by first | omega | (simp only [List.length_append]; omega))).mono ?_
      rintro e w9 ⟨v9, rfl, hO9, hK9⟩
      have hS9 := Nat.le_trans hS8 hK9.bel.size
      have hT9 := hT8.trans hK9
      have hX9 := hK9.blk hX8 (by decide)
      have hY9 := hK9.blk hY8 (by decide)
      obtain ⟨x0_9, x1_9, x2_9, x3_9, x4_9⟩ := box5 hX9
      clear hK9 hT8 hX8 hO8 x0_8 x1_8 x2_8 x3_8 x4_8 hY8
      go_wp2_with fail
      refine (stxt_any B _ (headB r ++ (r.recs.take k).flatMap recB ++ numB p.kind ++ numB p.task ++ numB p.fn ++ numB p.line) p.text hp5 _ hS9 hO9 (by first | omega | (simp only [List.length_append]; omega))).mono ?_
      rintro e w10 ⟨v10, rfl, hO10, hK10⟩
      have hS10 := Nat.le_trans hS9 hK10.bel.size
      have hT10 := hT9.trans hK10
      have hX10 := hK10.blk hX9 (by decide)
      have hY10 := hK10.blk hY9 (by decide)
      obtain ⟨x0_10, x1_10, x2_10, x3_10, x4_10⟩ := box5 hX10
      clear hK10 hT9 hX9 hO9 x0_9 x1_9 x2_9 x3_9 x4_9 hY9
      go_wp2
      refine ⟨⟨k + 1, by omega, by go_num, ?_, hT10, hY10⟩, by simp [intOf]; omega⟩
      rw [flat_step recB r.recs k p HP.out]
      simpa [recB, List.append_assoc] using hO10
    · have hkk : k = r.recs.length := by omega
      subst hkk
      have hO20 := hown
      rw [List.take_length] at hO20
      change Own wr B _ (recsB r) at hO20
      have hX20 := hbox
      have hT20 := hkept
      have hS20 := hS
      obtain ⟨x0_20, x1_20, x2_20, x3_20, x4_20, x5_20, x6_20⟩ := box7 hX20
      clear hown hbox hkept g hS
      go_wp2_with fail
      refine (snumB_any B _ (recsB r) (r.vals.length : Int) hn21.1 hn21.2 _ hS20 hO20 (by first | omega | (simp only [List.length_append]; omega))).mono ?_
      rintro e w21 ⟨v21, rfl, hO21, hK21⟩
      have hS21 := Nat.le_trans hS20 hK21.bel.size
      have hT21 := hT20.trans hK21
      have hX21 := hK21.blk hX20 (by decide)
      obtain ⟨x0_21, x1_21, x2_21, x3_21, x4_21, x5_21, x6_21⟩ := box7 hX21
      clear hK21 hT20 hX20 hO20 x0_20 x1_20 x2_20 x3_20 x4_20 x5_20 x6_20
      have HX21 := Lib.hid hX21
      go_wp2
      go_loopw [3, 61] (fun o i wr => ∃ k : Nat, k ≤ r.vals.length ∧ i = .int .i64 k ∧ Own wr B o (recsB r ++ numB r.vals.length ++ (r.vals.take k).flatMap textB) ∧ Kept B W0 wr ∧ Blk wr w.heap.size 39 #[.int .i64 r.code, .slice A r.recs.length c, .slice A' r.vals.length c', .string r.err, .string r.trace, .int .i64 r.ticks, .int .i64 r.made]) (fun _ i _ => r.vals.length - (intOf i).toNat)
      case atStart => exact ⟨0, Nat.zero_le _, rfl, by simpa using hO21, hT21, HX21.out⟩
      case round =>
        obtain ⟨k, hk, rfl, hown, hkept, hbox⟩ := hrel
        clear hO21 hT21 hX21 HX21 hS21 x0_21 x1_21 x2_21 x3_21 x4_21 x5_21 x6_21 hS20
        have hS30 := Nat.le_trans hS0 hkept.bel.size
        have lV : (valsB r).length = (recsB r).length + (numB r.vals.length).length + (r.vals.flatMap textB).length := by unfold valsB; simp only [List.length_append]
        by_cases hlt : k < r.vals.length
        · obtain ⟨b, off, rfl, hlo, hb, hc⟩ := rdS_at (g'.below (by rw [← HBe.out]; exact hkept.bel)) hlt
          have hv5 := hokv _ (List.getElem_mem hlt)
          have f1 := congrArg List.length (flat_step textB r.vals k _ (List.getElem?_eq_getElem hlt))
          have f2 := flat_le textB r.vals (k + 1)
          rw [List.length_append] at f1
          have F1 : (recsB r).length + (numB r.vals.length).length + ((r.vals.take k).flatMap textB).length ≤ 1000000000000 := by omega
          clear f1 f2
          have hO30 := hown
          have hT30 := hkept
          have hX30 := hbox
          obtain ⟨x0_30, x1_30, x2_30, x3_30, x4_30, x5_30, x6_30⟩ := box7 hX30
          clear hown hkept hbox g'
          go_wp2_with fail
          refine (stxt_any B _ (recsB r ++ numB r.vals.length ++ (r.vals.take k).flatMap textB) _ hv5 _ hS30 hO30 (by first | omega | (simp only [List.length_append]; omega))).mono ?_
          rintro e w31 ⟨v31, rfl, hO31, hK31⟩
          have hS31 := Nat.le_trans hS30 hK31.bel.size
          have hT31 := hT30.trans hK31
          have hX31 := hK31.blk hX30 (by decide)
          obtain ⟨x0_31, x1_31, x2_31, x3_31, x4_31, x5_31, x6_31⟩ := box7 hX31
          clear hK31 hT30 hX30 hO30 x0_30 x1_30 x2_30 x3_30 x4_30 x5_30 x6_30
          go_wp2
          refine ⟨⟨k + 1, by omega, by go_num, ?_, hT31, hX31⟩, by simp [intOf]; omega⟩
          rw [flat_step textB r.vals k _ (List.getElem?_eq_getElem hlt)]
          rw [← List.append_assoc]
          exact hO31
        · have hkk : k = r.vals.length := by omega
          subst hkk
          have hO30 := hown
          rw [List.take_length] at hO30
          change Own wr B _ (valsB r) at hO30
          have hX30 := hbox
          have hT30 := hkept
          obtain ⟨x0_30, x1_30, x2_30, x3_30, x4_30, x5_30, x6_30⟩ := box7 hX30
          clear hown hbox hkept g' lV
          go_wp2_with fail
          refine (stxt_any B _ (valsB r) r.err hn31 _ hS30 hO30 (by first | omega | (simp only [List.length_append]; omega))).mono ?_
          rintro e w31 ⟨v31, rfl, hO31, hK31⟩
          have hS31 := Nat.le_trans hS30 hK31.bel.size
          have hT31 := hT30.trans hK31
          have hX31 := hK31.blk hX30 (by decide)
          obtain ⟨x0_31, x1_31, x2_31, x3_31, x4_31, x5_31, x6_31⟩ := box7 hX31
          clear hK31 hT30 hX30 hO30 x0_30 x1_30 x2_30 x3_30 x4_30 x5_30 x6_30
          go_wp2_with fail
          refine (stxt_any B _ (valsB r ++ textB r.err) r.trace hn32 _ hS31 hO31 (by first | omega | (simp only [List.length_append]; omega))).mono ?_
          rintro e w32 ⟨v32, rfl, hO32, hK32⟩
          have hS32 := Nat.le_trans hS31 hK32.bel.size
          have hT32 := hT31.trans hK32
          have hX32 := hK32.blk hX31 (by decide)
          obtain ⟨x0_32, x1_32, x2_32, x3_32, x4_32, x5_32, x6_32⟩ := box7 hX32
          clear hK32 hT31 hX31 hO31 x0_31 x1_31 x2_31 x3_31 x4_31 x5_31 x6_31
          go_wp2
          refine bodyPost_ret (by simp [results, Tryd.results31, go_sem]; rfl) rfl ?_
          refine ⟨_, rfl, ?_, hW.trans (hT32.bel.mono (by have := HBe.out; omega))⟩
          rw [HBe.out, hsz] at hO32
          exact hO32
end Go.Proofs.YtchlolfdinakiaaDoor
