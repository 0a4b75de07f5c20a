/- Tell of both sides. -/
import Derived.Test.YtchlolfdinakiaaDoorE4
namespace Go.Proofs.YtchlolfdinakiaaDoor
open Go.RowKit
attribute [local go_sem] run_store_float run_store_func

theorem Keptb.blkO {b B : Nat} {w w' : World} {g : Nat} {t : TypeId} {cs : Array Value} (h : Keptb b B w w') (hb : Blk w g t cs) (ht : t ≠ 5) (hne : g ≠ b) : Blk w' g t cs := h.oth g _ hb (fun e => hne (Option.some.inj e)) (fun c fz e => by cases e; exact ht rfl)
theorem gTab1 : Tryd.prog.globalNamed "internal/strconv.uint64pow10" = some 1 := by kernel_rfl
theorem tab_keptb {b B : Nat} {w w1 : World} (hT : Lib.TabBelow Tryd.prog B w "internal/strconv.uint64pow10" .u64 Lib.pow10Tab) (hK : Keptb b B w w1) (hb : b ≠ 1) (hB : 1 < B) : Lib.TabBelow Tryd.prog B w1 "internal/strconv.uint64pow10" .u64 Lib.pow10Tab := fun w2 h2 => by
  have h0 := hT w (Below.refl _ _)
  have e1 : w2.heap[1]? = w.heap[1]? := (h2.block 1 hB).trans (hK.block 1 hB (fun e => hb e.symm))
  unfold Lib.TabIs World.var? at *
  rw [gTab1] at *
  simp only [Option.bind_some] at *
  rw [e1]; exact h0
def tellR (r : Rp) : List UInt8 := if (tellB r).length > 1000000 then [] else tellB r
theorem Own.len {w : World} {B : Nat} {v : Value} {l : List UInt8} (h : Own w B v l) : ∃ A c, v = .slice A l.length c := by
  rcases h.2 with ⟨rfl, e⟩ | ⟨g, cap, cur, rfl, _⟩
  · rw [e]; exact ⟨none, 0, rfl⟩
  · exact ⟨_, _, rfl⟩
theorem Own.mono {w : World} {B B' : Nat} {v : Value} {l : List UInt8} (h : Own w B v l) (hB : B' ≤ B) : Own w B' v l :=
  ⟨h.1, h.2.imp id (fun ⟨g, cap, cur, e, hb, r⟩ => ⟨g, cap, cur, e, Nat.le_trans hB hb, r⟩)⟩
theorem below_of_keptb {b B : Nat} {w W0 wr : World} (hW : Below w.heap.size w W0) (hK : Keptb b B W0 wr) (hb : w.heap.size ≤ b) (hB : w.heap.size ≤ B) : Below w.heap.size w wr :=
  ⟨hK.os.trans hW.os, hK.tape.trans hW.tape, hK.output.trans hW.output, Nat.le_trans hW.size hK.size, fun k hk => (hK.block k (by omega) (by omega)).trans (hW.block k hk)⟩
theorem Keptb.alloc {b B : Nat} {a w : World} (h : Keptb b B a w) (hB : B ≤ w.heap.size) (o : Obj) : Keptb b B a (w.alloc o) := h.trans (Keptb.of ((Kept.refl B w).alloc hB o))
theorem stell_any (A A' : Option Addr) (c c' : Nat) (r : Rp) (w : World) (lo lo' : Nat) (h : RdL encR 5 w lo A r.recs) (h' : RdL encS 1 w lo' A' r.vals) (hok : okRp r) (hlen : (tellB r).length ≤ 1000000000000) :
    Calls Tryd.prog 11 #[.agg #[.int .i64 r.code, .slice A r.recs.length c, .slice A' r.vals.length c', .string r.err, .string r.trace, .int .i64 r.ticks, .int .i64 r.made]] w fun e w' => ∃ v', e = .returned v' ∧ Own w' w.heap.size v' (tellR r) ∧ Below w.heap.size w w' := by
  have hT := l5tell_any A A' c c' r (w.alloc (.cells #[.int .i64 r.code, .slice A r.recs.length c, .slice A' r.vals.length c', .string r.err, .string r.trace, .int .i64 r.ticks, .int .i64 r.made] 39)) lo lo' (h.alloc _) (h'.alloc _) hok hlen
  have hW : Below w.heap.size w (w.alloc (.cells #[.int .i64 r.code, .slice A r.recs.length c, .slice A' r.vals.length c', .string r.err, .string r.trace, .int .i64 r.ticks, .int .i64 r.made] 39)) := below_new _ _
  clear h h'
  by_cases hbig : (tellB r).length > 1000000
  · have e1 : tellR r = [] := if_pos hbig
    rw [e1]
    obtain ⟨L, hL⟩ : ∃ L, L = tellB r := ⟨_, rfl⟩
    rw [← hL] at hT hbig
    clear hL e1 hlen hok
    go_enter Tryd.func11, Tryd.ntmps11
    go_wp2_with (go_at_call 31; refine hT.mono ?_; rintro e w1 ⟨v1, rfl, hO1, hb1⟩; refine Hid.out ?_)
    refine Lib.hid ?_
    have HB : Below w.heap.size w w1 := hW.trans (hb1.mono (by simp))
    obtain ⟨A1, c1, rfl⟩ := hO1.len
    clear hT hO1 hb1
    go_wp2
    go_ret
    exact ⟨_, rfl, World.ownsRow_nil _ _ _ _, HB⟩
  · have e1 : tellR r = tellB r := if_neg hbig
    rw [e1]
    obtain ⟨L, hL⟩ : ∃ L, L = tellB r := ⟨_, rfl⟩
    rw [← hL] at hT hbig ⊢
    clear hL e1 hlen hok
    have hbig' : ¬ (1000000 : Int) < L.length := by omega
    go_enter Tryd.func11, Tryd.ntmps11
    go_wp2_with (go_at_call 31; refine hT.mono ?_; rintro e w1 ⟨v1, rfl, hO1, hb1⟩; refine Hid.out ?_)
    refine Lib.hid ?_
    have HB : Below w.heap.size w w1 := hW.trans (hb1.mono (by simp))
    have hO2 : Own w1 w.heap.size v1 L := hO1.mono (by simp; omega)
    obtain ⟨A1, c1, rfl⟩ := hO2.len
    have HO := Lib.hid hO2
    clear hT hO1 hO2 hb1
    go_wp2
    go_ret
    exact ⟨_, rfl, HO.out, HB⟩

set_option maxRecDepth 100000 in
set_option maxHeartbeats 3200000 in
theorem itell_any (A A' : Option Addr) (c c' : Nat) (r : Rp) (w : World) (lo lo' : Nat) (h : RdL encR 5 w lo A r.recs) (h' : RdL encS 1 w lo' A' r.vals) (hok : okRp r) (hlen : (tellB r).length ≤ 1000000000000) (hTab : Lib.TabBelow Tryd.prog w.heap.size w "internal/strconv.uint64pow10" .u64 Lib.pow10Tab) (h1w : 1 < w.heap.size) :
    Calls Tryd.prog 13 #[.agg #[.int .i64 r.code, .slice A r.recs.length c, .slice A' r.vals.length c', .string r.err, .string r.trace, .int .i64 r.ticks, .int .i64 r.made]] w fun e w' => ∃ v', e = .returned v' ∧ Own w' w.heap.size v' (tellR r) ∧ Below w.heap.size w w' := by
  obtain ⟨hn1, hn2, hn3, hokr, hokv, hn31, hn32, hrl, hvl⟩ := hok
  have hn4 : i64 r.recs.length := ⟨by omega, by omega⟩
  have hn21 : i64 r.vals.length := ⟨by omega, by omega⟩
  have lA : (headB r).length ≤ (recsB r).length := by unfold recsB; rw [List.length_append]; omega
  have lB : (recsB r).length + (numB r.vals.length).length ≤ (valsB r).length := by unfold valsB; simp only [List.length_append]; omega
  have lC : (valsB r).length + (textB r.err).length + (textB r.trace).length = (tellB r).length := by unfold tellB; simp only [List.length_append]
  have lH : (numB r.code).length + (numB r.ticks).length + (numB r.made).length + (numB r.recs.length).length = (headB r).length := by unfold headB; simp only [List.length_append]
  have g := ((h.alloc (.cells #[.int .i64 r.code, .slice A r.recs.length c, .slice A' r.vals.length c', .string r.err, .string r.trace, .int .i64 r.ticks, .int .i64 r.made] 39)).alloc (.cells #[.slice none 0 0] 35)).alloc (.cells #[.func (.func 34) #[] #[.pointer (some ⟨w.heap.size + 1, 0, none⟩)]] 59)
  have g' := ((h'.alloc (.cells #[.int .i64 r.code, .slice A r.recs.length c, .slice A' r.vals.length c', .string r.err, .string r.trace, .int .i64 r.ticks, .int .i64 r.made] 39)).alloc (.cells #[.slice none 0 0] 35)).alloc (.cells #[.func (.func 34) #[] #[.pointer (some ⟨w.heap.size + 1, 0, none⟩)]] 59)
  have hX0 : Blk (((w.alloc (.cells #[.int .i64 r.code, .slice A r.recs.length c, .slice A' r.vals.length c', .string r.err, .string r.trace, .int .i64 r.ticks, .int .i64 r.made] 39)).alloc (.cells #[.slice none 0 0] 35)).alloc (.cells #[.func (.func 34) #[] #[.pointer (some ⟨w.heap.size + 1, 0, none⟩)]] 59)) w.heap.size 39 #[.int .i64 r.code, .slice A r.recs.length c, .slice A' r.vals.length c', .string r.err, .string r.trace, .int .i64 r.ticks, .int .i64 r.made] := ((Blk.new w 39 _).alloc _).alloc _
  have hV0 : Blk (((w.alloc (.cells #[.int .i64 r.code, .slice A r.recs.length c, .slice A' r.vals.length c', .string r.err, .string r.trace, .int .i64 r.ticks, .int .i64 r.made] 39)).alloc (.cells #[.slice none 0 0] 35)).alloc (.cells #[.func (.func 34) #[] #[.pointer (some ⟨w.heap.size + 1, 0, none⟩)]] 59)) (w.heap.size + 1) 35 #[.slice none 0 0] := by have := Blk.new (w.alloc (.cells #[.int .i64 r.code, .slice A r.recs.length c, .slice A' r.vals.length c', .string r.err, .string r.trace, .int .i64 r.ticks, .int .i64 r.made] 39)) 35 #[.slice none 0 0]; rw [World.size_alloc] at this; exact this.alloc _
  have hF0 : Blk (((w.alloc (.cells #[.int .i64 r.code, .slice A r.recs.length c, .slice A' r.vals.length c', .string r.err, .string r.trace, .int .i64 r.ticks, .int .i64 r.made] 39)).alloc (.cells #[.slice none 0 0] 35)).alloc (.cells #[.func (.func 34) #[] #[.pointer (some ⟨w.heap.size + 1, 0, none⟩)]] 59)) (w.heap.size + 1 + 1) 59 #[.func (.func 34) #[] #[.pointer (some ⟨w.heap.size + 1, 0, none⟩)]] := by have := Blk.new ((w.alloc (.cells #[.int .i64 r.code, .slice A r.recs.length c, .slice A' r.vals.length c', .string r.err, .string r.trace, .int .i64 r.ticks, .int .i64 r.made] 39)).alloc (.cells #[.slice none 0 0] 35)) 59 #[.func (.func 34) #[] #[.pointer (some ⟨w.heap.size + 1, 0, none⟩)]]; rw [World.size_alloc, World.size_alloc] at this; exact this
  have hW : Below w.heap.size w (((w.alloc (.cells #[.int .i64 r.code, .slice A r.recs.length c, .slice A' r.vals.length c', .string r.err, .string r.trace, .int .i64 r.ticks, .int .i64 r.made] 39)).alloc (.cells #[.slice none 0 0] 35)).alloc (.cells #[.func (.func 34) #[] #[.pointer (some ⟨w.heap.size + 1, 0, none⟩)]] 59)) := below_new3 _ _ _ _
  have hsz : (((w.alloc (.cells #[.int .i64 r.code, .slice A r.recs.length c, .slice A' r.vals.length c', .string r.err, .string r.trace, .int .i64 r.ticks, .int .i64 r.made] 39)).alloc (.cells #[.slice none 0 0] 35)).alloc (.cells #[.func (.func 34) #[] #[.pointer (some ⟨w.heap.size + 1, 0, none⟩)]] 59)).heap.size = w.heap.size + 3 := by simp
  go_enter Tryd.func13, Tryd.ntmps13
  go_wp2_with fail
  generalize ((w.alloc (.cells #[.int .i64 r.code, .slice A r.recs.length c, .slice A' r.vals.length c', .string r.err, .string r.trace, .int .i64 r.ticks, .int .i64 r.made] 39)).alloc (.cells #[.slice none 0 0] 35)).alloc (.cells #[.func (.func 34) #[] #[.pointer (some ⟨w.heap.size + 1, 0, none⟩)]] 59) = W0 at *
  obtain ⟨B, hBe⟩ : ∃ B, B = W0.heap.size := ⟨_, rfl⟩
  have HBe := Lib.hid hBe
  have hS0 : B ≤ W0.heap.size := by omega
  have hbB : (w.heap.size + 1) < B := by omega
  have hfB : w.heap.size + 1 + 1 < B := by omega
  have hb1 : (w.heap.size + 1) ≠ 1 := by omega
  have hZ0 := Keptb.refl (w.heap.size + 1) B W0
  have hO0 : Own W0 B (.slice none 0 0) [] := World.ownsRow_nil _ _ _ _
  have hT0 : Lib.TabBelow Tryd.prog B W0 "internal/strconv.uint64pow10" .u64 Lib.pow10Tab := fun w2 h2 => hTab w2 (hW.trans (h2.mono (by omega)))
  obtain ⟨x0_0, x1_0, x2_0, x3_0, x4_0, x5_0, x6_0⟩ := box7 hX0
  have y0 : W0.cell? ⟨w.heap.size + 1 + 1, 0, none⟩ = some (.func (.func 34) #[] #[.pointer (some ⟨w.heap.size + 1, 0, none⟩)]) := hF0.cell 0
  clear hBe hTab
  refine (inum_any (w.heap.size + 1) B _ ([]) r.code hn1.1 hn1.2 _ hbB hS0 hV0 hO0 (by simp) hT0).mono ?_
  rintro e w1 ⟨rfl, v1, hV1, hO1, hK1⟩
  have hS1 := Nat.le_trans hS0 hK1.size
  have hT1 := tab_keptb hT0 hK1 hb1 (by omega)
  have hZ1 := hZ0.trans hK1
  have hF1 := hK1.blkO hF0 (by decide) (by omega)
  have hX1 := hK1.blkO hX0 (by decide) (by omega)
  obtain ⟨x0_1, x1_1, x2_1, x3_1, x4_1, x5_1, x6_1⟩ := box7 hX1
  have y1 : w1.cell? ⟨w.heap.size + 1 + 1, 0, none⟩ = some (.func (.func 34) #[] #[.pointer (some ⟨w.heap.size + 1, 0, none⟩)]) := hF1.cell 0
  clear hK1 hT0 hZ0 hF0 hX0 hO0 hV0 y0 x0_0 x1_0 x2_0 x3_0 x4_0 x5_0 x6_0
  go_wp2_with fail
  refine (inum_any (w.heap.size + 1) B _ ([] ++ numB r.code) r.ticks hn2.1 hn2.2 _ hbB hS1 hV1 hO1 (by first | omega | (simp only [List.length_append, List.length_nil]; omega)) hT1).mono ?_
  rintro e w2 ⟨rfl, v2, hV2, hO2, hK2⟩
  have hS2 := Nat.le_trans hS1 hK2.size
  have hT2 := tab_keptb hT1 hK2 hb1 (by omega)
  have hZ2 := hZ1.trans hK2
  have hF2 := hK2.blkO hF1 (by decide) (by omega)
  have hX2 := hK2.blkO hX1 (by decide) (by omega)
  obtain ⟨x0_2, x1_2, x2_2, x3_2, x4_2, x5_2, x6_2⟩ := box7 hX2
  have y2 : w2.cell? ⟨w.heap.size + 1 + 1, 0, none⟩ = some (.func (.func 34) #[] #[.pointer (some ⟨w.heap.size + 1, 0, none⟩)]) := hF2.cell 0
  clear hK2 hT1 hZ1 hF1 hX1 hO1 hV1 y1 x0_1 x1_1 x2_1 x3_1 x4_1 x5_1 x6_1
  go_wp2_with fail
  refine (inum_any (w.heap.size + 1) B _ ([] ++ numB r.code ++ numB r.ticks) r.made hn3.1 hn3.2 _ hbB hS2 hV2 hO2 (by first | omega | (simp only [List.length_append, List.length_nil]; omega)) hT2).mono ?_
  rintro e w3 ⟨rfl, v3, hV3, hO3, hK3⟩
  have hS3 := Nat.le_trans hS2 hK3.size
  have hT3 := tab_keptb hT2 hK3 hb1 (by omega)
  have hZ3 := hZ2.trans hK3
  have hF3 := hK3.blkO hF2 (by decide) (by omega)
  have hX3 := hK3.blkO hX2 (by decide) (by omega)
  obtain ⟨x0_3, x1_3, x2_3, x3_3, x4_3, x5_3, x6_3⟩ := box7 hX3
  have y3 : w3.cell? ⟨w.heap.size + 1 + 1, 0, none⟩ = some (.func (.func 34) #[] #[.pointer (some ⟨w.heap.size + 1, 0, none⟩)]) := hF3.cell 0
  clear hK3 hT2 hZ2 hF2 hX2 hO2 hV2 y2 x0_2 x1_2 x2_2 x3_2 x4_2 x5_2 x6_2
  go_wp2_with fail
  refine (inum_any (w.heap.size + 1) B _ ([] ++ numB r.code ++ numB r.ticks ++ numB r.made) (r.recs.length : Int) hn4.1 hn4.2 _ hbB hS3 hV3 hO3 (by first | omega | (simp only [List.length_append, List.length_nil]; omega)) hT3).mono ?_
  rintro e w4 ⟨rfl, v4, hV4, hO4, hK4⟩
  have hS4 := Nat.le_trans hS3 hK4.size
  have hT4 := tab_keptb hT3 hK4 hb1 (by omega)
  have hZ4 := hZ3.trans hK4
  have hF4 := hK4.blkO hF3 (by decide) (by omega)
  have hX4 := hK4.blkO hX3 (by decide) (by omega)
  obtain ⟨x0_4, x1_4, x2_4, x3_4, x4_4, x5_4, x6_4⟩ := box7 hX4
  have y4 : w4.cell? ⟨w.heap.size + 1 + 1, 0, none⟩ = some (.func (.func 34) #[] #[.pointer (some ⟨w.heap.size + 1, 0, none⟩)]) := hF4.cell 0
  clear hK4 hT3 hZ3 hF3 hX3 hO3 hV3 y3 x0_3 x1_3 x2_3 x3_3 x4_3 x5_3 x6_3
  have HX4 := Lib.hid hX4
  have HV4 := Lib.hid hV4
  have HF4 := Lib.hid hF4
  go_wp2
  go_loopw [32] (fun i wr => ∃ (k : Nat) (v : Value), k ≤ r.recs.length ∧ i = .int .i64 k ∧ Blk wr (w.heap.size + 1) 35 #[v] ∧ Own wr B v (headB r ++ (r.recs.take k).flatMap recB) ∧ Keptb (w.heap.size + 1) B W0 wr ∧ Blk wr w.heap.size 39 #[.int .i64 r.code, .slice A r.recs.length c, .slice A' r.vals.length c', .string r.err, .string r.trace, .int .i64 r.ticks, .int .i64 r.made] ∧ Blk wr (w.heap.size + 1 + 1) 59 #[.func (.func 34) #[] #[.pointer (some ⟨w.heap.size + 1, 0, none⟩)]] ∧ Lib.TabBelow Tryd.prog B wr "internal/strconv.uint64pow10" .u64 Lib.pow10Tab) (fun i _ => r.recs.length - (intOf i).toNat)
  case atStart => exact ⟨0, _, Nat.zero_le _, rfl, HV4.out, by simpa [headB] using hO4, hZ4, HX4.out, HF4.out, hT4⟩
  case round =>
    obtain ⟨k, v, hk, rfl, hV5, hown, hkept, hbox, hF5, hT5⟩ := hrel
    clear hO4 hZ4 hX4 HX4 hV4 HV4 hF4 HF4 hT4 hS1 hS2 hS3 hS4 x0_4 x1_4 x2_4 x3_4 x4_4 x5_4 x6_4 y4
    have hS := Nat.le_trans hS0 hkept.size
    have HBW := below_of_keptb hW hkept (by omega) (by omega)
    by_cases hlt : k < r.recs.length
    · obtain ⟨p, hpk⟩ : ∃ p, r.recs[k]? = some p := ⟨_, List.getElem?_eq_getElem hlt⟩
      obtain ⟨b, off, rfl, hlo, hb, c0, c1, c2, c3, c4⟩ := rdR_at (h.below HBW) hpk
      obtain ⟨hp1, hp2, hp3, hp4, hp5⟩ := hokr p (List.mem_of_getElem? hpk)
      have f1 := congrArg List.length (flat_step recB r.recs k p hpk)
      have f2 := flat_le recB r.recs (k + 1)
      have f3 : (recB p).length = (numB p.kind).length + (numB p.task).length + (numB p.fn).length + (numB p.line).length + (textB p.text).length := by unfold recB; simp only [List.length_append]
      have f4 : (recsB r).length = (headB r).length + (r.recs.flatMap recB).length := by unfold recsB; simp only [List.length_append]
      rw [List.length_append] at f1
      have F1 : (headB r).length + ((r.recs.take k).flatMap recB).length + (recB p).length ≤ 1000000000000 := by omega
      clear f1 f2 f4
      have HP := Lib.hid hpk
      have hX5 := hbox.alloc (.cells #[.int .i64 p.kind, .int .i64 p.task, .int .i64 p.fn, .int .i64 p.line, .string p.text] 62)
      have hY5 := Blk.new wr 62 #[.int .i64 p.kind, .int .i64 p.task, .int .i64 p.fn, .int .i64 p.line, .string p.text]
      have hO5 := hown.new (below_new wr (.cells #[.int .i64 p.kind, .int .i64 p.task, .int .i64 p.fn, .int .i64 p.line, .string p.text] 62))
      have hZ5 := hkept.alloc hS (.cells #[.int .i64 p.kind, .int .i64 p.task, .int .i64 p.fn, .int .i64 p.line, .string p.text] 62)
      have hgw : (w.heap.size + 1) < wr.heap.size := by omega
      have hfw : w.heap.size + 1 + 1 < wr.heap.size := by omega
      have y5' : wr.cell? ⟨w.heap.size + 1 + 1, 0, none⟩ = some (.func (.func 34) #[] #[.pointer (some ⟨w.heap.size + 1, 0, none⟩)]) := hF5.cell 0
      replace hV5 := hV5.alloc (.cells #[.int .i64 p.kind, .int .i64 p.task, .int .i64 p.fn, .int .i64 p.line, .string p.text] 62)
      replace hF5 := hF5.alloc (.cells #[.int .i64 p.kind, .int .i64 p.task, .int .i64 p.fn, .int .i64 p.line, .string p.text] 62)
      replace hT5 : Lib.TabBelow Tryd.prog B (wr.alloc (.cells #[.int .i64 p.kind, .int .i64 p.task, .int .i64 p.fn, .int .i64 p.line, .string p.text] 62)) "internal/strconv.uint64pow10" .u64 Lib.pow10Tab := Lib.TabBelow.on hT5 ((Below.refl _ _).alloc hS _)
      have hS5 : B ≤ (wr.alloc (.cells #[.int .i64 p.kind, .int .i64 p.task, .int .i64 p.fn, .int .i64 p.line, .string p.text] 62)).heap.size := by simp; omega
      clear hpk h h' g g' hown hkept hbox
      go_wp2_with fail
      generalize wr.alloc (.cells #[.int .i64 p.kind, .int .i64 p.task, .int .i64 p.fn, .int .i64 p.line, .string p.text] 62) = w5 at *
      obtain ⟨x0_5, x1_5, x2_5, x3_5, x4_5⟩ := box5 hY5
      have y5 : w5.cell? ⟨w.heap.size + 1 + 1, 0, none⟩ = some (.func (.func 34) #[] #[.pointer (some ⟨w.heap.size + 1, 0, none⟩)]) := hF5.cell 0
      refine (inum_any (w.heap.size + 1) B _ (headB r ++ (r.recs.take k).flatMap recB) p.kind hp1.1 hp1.2 _ hbB hS5 hV5 hO5 (by first | omega | (simp only [List.length_append]; omega)) hT5).mono ?_
      rintro e w6 ⟨rfl, v6, hV6, hO6, hK6⟩
      have hS6 := Nat.le_trans hS5 hK6.size
      have hT6 := tab_keptb hT5 hK6 hb1 (by omega)
      have hZ6 := hZ5.trans hK6
      have hF6 := hK6.blkO hF5 (by decide) (by omega)
      have hX6 := hK6.blkO hX5 (by decide) (by omega)
      have hY6 := hK6.blkO hY5 (by decide) (by omega)
      obtain ⟨x0_6, x1_6, x2_6, x3_6, x4_6⟩ := box5 hY6
      have y6 : w6.cell? ⟨w.heap.size + 1 + 1, 0, none⟩ = some (.func (.func 34) #[] #[.pointer (some ⟨w.heap.size + 1, 0, none⟩)]) := hF6.cell 0
      clear hK6 hT5 hZ5 hF5 hX5 hO5 hV5 y5 x0_5 x1_5 x2_5 x3_5 x4_5 hY5
      go_wp2_with fail
      refine (inum_any (w.heap.size + 1) B _ (headB r ++ (r.recs.take k).flatMap recB ++ numB p.kind) p.task hp2.1 hp2.2 _ hbB hS6 hV6 hO6 (by first | omega | (simp only [List.length_append]; omega)) hT6).mono ?_
      rintro e w7 ⟨rfl, v7, hV7, hO7, hK7⟩
      have hS7 := Nat.le_trans hS6 hK7.size
      have hT7 := tab_keptb hT6 hK7 hb1 (by omega)
      have hZ7 := hZ6.trans hK7
      have hF7 := hK7.blkO hF6 (by decide) (by omega)
      have hX7 := hK7.blkO hX6 (by decide) (by omega)
      have hY7 := hK7.blkO hY6 (by decide) (by omega)
      obtain ⟨x0_7, x1_7, x2_7, x3_7, x4_7⟩ := box5 hY7
      have y7 : w7.cell? ⟨w.heap.size + 1 + 1, 0, none⟩ = some (.func (.func 34) #[] #[.pointer (some ⟨w.heap.size + 1, 0, none⟩)]) := hF7.cell 0
      clear hK7 hT6 hZ6 hF6 hX6 hO6 hV6 y6 x0_6 x1_6 x2_6 x3_6 x4_6 hY6
      go_wp2_with fail
      refine (inum_any (w.heap.size + 1) B _ (headB r ++ (r.recs.take k).flatMap recB ++ numB p.kind ++ numB p.task) p.fn hp3.1 hp3.2 _ hbB hS7 hV7 hO7 (by first | omega | (simp only [List.length_append]; omega)) hT7).mono ?_
      rintro e w8 ⟨rfl, v8, hV8, hO8, hK8⟩
      have hS8 := Nat.le_trans hS7 hK8.size
      have hT8 := tab_keptb hT7 hK8 hb1 (by omega)
      have hZ8 := hZ7.trans hK8
      have hF8 := hK8.blkO hF7 (by decide) (by omega)
      have hX8 := hK8.blkO hX7 (by decide) (by omega)
      have hY8 := hK8.blkO hY7 (by decide) (by omega)
      obtain ⟨x0_8, x1_8, x2_8, x3_8, x4_8⟩ := box5 hY8
      have y8 : w8.cell? ⟨w.heap.size + 1 + 1, 0, none⟩ = some (.func (.func 34) #[] #[.pointer (some ⟨w.heap.size + 1, 0, none⟩)]) := hF8.cell 0
      clear hK8 hT7 hZ7 hF7 hX7 hO7 hV7 y7 x0_7 x1_7 x2_7 x3_7 x4_7 hY7
      go_wp2_with fail
      refine (inum_any (w.heap.size + 1) B _ (headB r ++ (r.recs.take k).flatMap recB ++ numB p.kind ++ numB p.task ++ numB p.fn) p.line hp4.1 hp4.2 _ hbB hS8 hV8 hO8 (by first | omega | (simp only [List.length_append]; omega)) hT8).mono ?_
      rintro e w9 ⟨rfl, v9, hV9, hO9, hK9⟩
      have hS9 := Nat.le_trans hS8 hK9.size
      have hT9 := tab_keptb hT8 hK9 hb1 (by omega)
      have hZ9 := hZ8.trans hK9
      have hF9 := hK9.blkO hF8 (by decide) (by omega)
      have hX9 := hK9.blkO hX8 (by decide) (by omega)
      have hY9 := hK9.blkO hY8 (by decide) (by omega)
      obtain ⟨x0_9, x1_9, x2_9, x3_9, x4_9⟩ := box5 hY9
      have y9 : w9.cell? ⟨w.heap.size + 1 + 1, 0, none⟩ = some (.func (.func 34) #[] #[.pointer (some ⟨w.heap.size + 1, 0, none⟩)]) := hF9.cell 0
      clear hK9 hT8 hZ8 hF8 hX8 hO8 hV8 y8 x0_8 x1_8 x2_8 x3_8 x4_8 hY8
      go_wp2_with fail
      refine (itxt_any (w.heap.size + 1) (w.heap.size + 1 + 1) B _ (headB r ++ (r.recs.take k).flatMap recB ++ numB p.kind ++ numB p.task ++ numB p.fn ++ numB p.line) p.text hp5 _ hbB hS9 hV9 hF9 hO9 (by first | omega | (simp only [List.length_append]; omega)) hT9).mono ?_
      rintro e w10 ⟨rfl, v10, hV10, hO10, hK10⟩
      have hS10 := Nat.le_trans hS9 hK10.size
      have hT10 := tab_keptb hT9 hK10 hb1 (by omega)
      have hZ10 := hZ9.trans hK10
      have hF10 := hK10.blkO hF9 (by decide) (by omega)
      have hX10 := hK10.blkO hX9 (by decide) (by omega)
      have hY10 := hK10.blkO hY9 (by decide) (by omega)
      obtain ⟨x0_10, x1_10, x2_10, x3_10, x4_10⟩ := box5 hY10
      have y10 : w10.cell? ⟨w.heap.size + 1 + 1, 0, none⟩ = some (.func (.func 34) #[] #[.pointer (some ⟨w.heap.size + 1, 0, none⟩)]) := hF10.cell 0
      clear hK10 hT9 hZ9 hF9 hX9 hO9 hV9 y9 x0_9 x1_9 x2_9 x3_9 x4_9 hY9
      go_wp2
      refine ⟨⟨k + 1, _, by omega, by go_num, hV10, ?_, hZ10, hX10, hF10, hT10⟩, by simp [intOf]; omega⟩
      rw [flat_step recB r.recs k p HP.out]
      simpa [recB, List.append_assoc] using hO10
    · have hkk : k = r.recs.length := by omega
      subst hkk
      have hO20 := hown
      rw [List.take_length] at hO20
      change Own wr B _ (recsB r) at hO20
      have hX20 := hbox
      have hZ20 := hkept
      have hV20 := hV5
      have hF20 := hF5
      have hT20 := hT5
      have hS20 := hS
      obtain ⟨x0_20, x1_20, x2_20, x3_20, x4_20, x5_20, x6_20⟩ := box7 hX20
      have y20 : wr.cell? ⟨w.heap.size + 1 + 1, 0, none⟩ = some (.func (.func 34) #[] #[.pointer (some ⟨w.heap.size + 1, 0, none⟩)]) := hF20.cell 0
      clear hown hbox hkept hV5 hF5 hT5 h g g' hS HBW
      go_wp2_with fail
      refine (inum_any (w.heap.size + 1) B _ (recsB r) (r.vals.length : Int) hn21.1 hn21.2 _ hbB hS20 hV20 hO20 (by first | omega | (simp only [List.length_append]; omega)) hT20).mono ?_
      rintro e w21 ⟨rfl, v21, hV21, hO21, hK21⟩
      have hS21 := Nat.le_trans hS20 hK21.size
      have hT21 := tab_keptb hT20 hK21 hb1 (by omega)
      have hZ21 := hZ20.trans hK21
      have hF21 := hK21.blkO hF20 (by decide) (by omega)
      have hX21 := hK21.blkO hX20 (by decide) (by omega)
      obtain ⟨x0_21, x1_21, x2_21, x3_21, x4_21, x5_21, x6_21⟩ := box7 hX21
      have y21 : w21.cell? ⟨w.heap.size + 1 + 1, 0, none⟩ = some (.func (.func 34) #[] #[.pointer (some ⟨w.heap.size + 1, 0, none⟩)]) := hF21.cell 0
      clear hK21 hT20 hZ20 hF20 hX20 hO20 hV20 y20 x0_20 x1_20 x2_20 x3_20 x4_20 x5_20 x6_20
      have HX21 := Lib.hid hX21
      have HV21 := Lib.hid hV21
      have HF21 := Lib.hid hF21
      go_wp2
      go_loopw [65] (fun i wr => ∃ (k : Nat) (v : Value), k ≤ r.vals.length ∧ i = .int .i64 k ∧ Blk wr (w.heap.size + 1) 35 #[v] ∧ Own wr B v (recsB r ++ numB r.vals.length ++ (r.vals.take k).flatMap textB) ∧ Keptb (w.heap.size + 1) B W0 wr ∧ Blk wr w.heap.size 39 #[.int .i64 r.code, .slice A r.recs.length c, .slice A' r.vals.length c', .string r.err, .string r.trace, .int .i64 r.ticks, .int .i64 r.made] ∧ Blk wr (w.heap.size + 1 + 1) 59 #[.func (.func 34) #[] #[.pointer (some ⟨w.heap.size + 1, 0, none⟩)]] ∧ Lib.TabBelow Tryd.prog B wr "internal/strconv.uint64pow10" .u64 Lib.pow10Tab) (fun i _ => r.vals.length - (intOf i).toNat)
      case atStart => exact ⟨0, _, Nat.zero_le _, rfl, HV21.out, by simpa using hO21, hZ21, HX21.out, HF21.out, hT21⟩
      case round =>
        obtain ⟨k, v, hk, rfl, hV30, hown, hkept, hbox, hF30, hT30⟩ := hrel
        clear hO21 hZ21 hX21 HX21 hV21 HV21 hF21 HF21 hT21 hS21 x0_21 x1_21 x2_21 x3_21 x4_21 x5_21 x6_21 y21 hS20
        have hS30 := Nat.le_trans hS0 hkept.size
        have HBW := below_of_keptb hW hkept (by omega) (by omega)
        have lV : (valsB r).length = (recsB r).length + (numB r.vals.length).length + (r.vals.flatMap textB).length := by unfold valsB; simp only [List.length_append]
        by_cases hlt : k < r.vals.length
        · obtain ⟨b, off, rfl, hlo, hb, hc⟩ := rdS_at (h'.below HBW) hlt
          have hv5 := hokv _ (List.getElem_mem hlt)
          have f1 := congrArg List.length (flat_step textB r.vals k _ (List.getElem?_eq_getElem hlt))
          have f2 := flat_le textB r.vals (k + 1)
          rw [List.length_append] at f1
          have F1 : (recsB r).length + (numB r.vals.length).length + ((r.vals.take k).flatMap textB).length ≤ 1000000000000 := by omega
          clear f1 f2
          have hO30 := hown
          have hZ30 := hkept
          have hX30 := hbox
          obtain ⟨x0_30, x1_30, x2_30, x3_30, x4_30, x5_30, x6_30⟩ := box7 hX30
          have y30 : wr.cell? ⟨w.heap.size + 1 + 1, 0, none⟩ = some (.func (.func 34) #[] #[.pointer (some ⟨w.heap.size + 1, 0, none⟩)]) := hF30.cell 0
          clear hown hkept hbox h' HBW
          go_wp2_with fail
          refine (itxt_any (w.heap.size + 1) (w.heap.size + 1 + 1) B _ (recsB r ++ numB r.vals.length ++ (r.vals.take k).flatMap textB) _ hv5 _ hbB hS30 hV30 hF30 hO30 (by first | omega | (simp only [List.length_append]; omega)) hT30).mono ?_
          rintro e w31 ⟨rfl, v31, hV31, hO31, hK31⟩
          have hS31 := Nat.le_trans hS30 hK31.size
          have hT31 := tab_keptb hT30 hK31 hb1 (by omega)
          have hZ31 := hZ30.trans hK31
          have hF31 := hK31.blkO hF30 (by decide) (by omega)
          have hX31 := hK31.blkO hX30 (by decide) (by omega)
          obtain ⟨x0_31, x1_31, x2_31, x3_31, x4_31, x5_31, x6_31⟩ := box7 hX31
          have y31 : w31.cell? ⟨w.heap.size + 1 + 1, 0, none⟩ = some (.func (.func 34) #[] #[.pointer (some ⟨w.heap.size + 1, 0, none⟩)]) := hF31.cell 0
          clear hK31 hT30 hZ30 hF30 hX30 hO30 hV30 y30 x0_30 x1_30 x2_30 x3_30 x4_30 x5_30 x6_30
          go_wp2
          refine ⟨⟨k + 1, _, by omega, by go_num, hV31, ?_, hZ31, hX31, hF31, hT31⟩, by simp [intOf]; omega⟩
          rw [flat_step textB r.vals k _ (List.getElem?_eq_getElem hlt)]
          rw [← List.append_assoc]
          exact hO31
        · have hkk : k = r.vals.length := by omega
          subst hkk
          have hO30 := hown
          rw [List.take_length] at hO30
          change Own wr B _ (valsB r) at hO30
          have hX30 := hbox
          have hZ30 := hkept
          obtain ⟨x0_30, x1_30, x2_30, x3_30, x4_30, x5_30, x6_30⟩ := box7 hX30
          have y30 : wr.cell? ⟨w.heap.size + 1 + 1, 0, none⟩ = some (.func (.func 34) #[] #[.pointer (some ⟨w.heap.size + 1, 0, none⟩)]) := hF30.cell 0
          clear hown hbox hkept h' HBW lV
          go_wp2_with fail
          refine (itxt_any (w.heap.size + 1) (w.heap.size + 1 + 1) B _ (valsB r) r.err hn31 _ hbB hS30 hV30 hF30 hO30 (by first | omega | (simp only [List.length_append]; omega)) hT30).mono ?_
          rintro e w31 ⟨rfl, v31, hV31, hO31, hK31⟩
          have hS31 := Nat.le_trans hS30 hK31.size
          have hT31 := tab_keptb hT30 hK31 hb1 (by omega)
          have hZ31 := hZ30.trans hK31
          have hF31 := hK31.blkO hF30 (by decide) (by omega)
          have hX31 := hK31.blkO hX30 (by decide) (by omega)
          obtain ⟨x0_31, x1_31, x2_31, x3_31, x4_31, x5_31, x6_31⟩ := box7 hX31
          have y31 : w31.cell? ⟨w.heap.size + 1 + 1, 0, none⟩ = some (.func (.func 34) #[] #[.pointer (some ⟨w.heap.size + 1, 0, none⟩)]) := hF31.cell 0
          clear hK31 hT30 hZ30 hF30 hX30 hO30 hV30 y30 x0_30 x1_30 x2_30 x3_30 x4_30 x5_30 x6_30
          go_wp2_with fail
          refine (itxt_any (w.heap.size + 1) (w.heap.size + 1 + 1) B _ (valsB r ++ textB r.err) r.trace hn32 _ hbB hS31 hV31 hF31 hO31 (by first | omega | (simp only [List.length_append]; omega)) hT31).mono ?_
          rintro e w32 ⟨rfl, v32, hV32, hO32, hK32⟩
          have hS32 := Nat.le_trans hS31 hK32.size
          have hT32 := tab_keptb hT31 hK32 hb1 (by omega)
          have hZ32 := hZ31.trans hK32
          have hF32 := hK32.blkO hF31 (by decide) (by omega)
          have hX32 := hK32.blkO hX31 (by decide) (by omega)
          obtain ⟨x0_32, x1_32, x2_32, x3_32, x4_32, x5_32, x6_32⟩ := box7 hX32
          have y32 : w32.cell? ⟨w.heap.size + 1 + 1, 0, none⟩ = some (.func (.func 34) #[] #[.pointer (some ⟨w.heap.size + 1, 0, none⟩)]) := hF32.cell 0
          clear hK32 hT31 hZ31 hF31 hX31 hO31 hV31 y31 x0_31 x1_31 x2_31 x3_31 x4_31 x5_31 x6_31
          have HB : Below w.heap.size w w32 := below_of_keptb hW hZ32 (by omega) (by omega)
          have hO : Own w32 w.heap.size v32 (tellB r) := hO32.mono (by omega)
          obtain ⟨A1, c1, rfl⟩ := hO.len
          have z1 : w32.cell? ⟨w.heap.size + 1, 0, none⟩ = some (.slice A1 (tellB r).length c1) := hV32.cell 0
          have HO := Lib.hid hO
          clear hO hO32 hV32 hX32 hF32 hZ32 hT32 x0_32 x1_32 x2_32 x3_32 x4_32 x5_32 x6_32 y32 lA lB lC lH hlen
          by_cases hbig : (tellB r).length > 1000000
          · have e1 : tellR r = [] := if_pos hbig
            have E1 := Lib.hid e1
            generalize (tellB r).length = L at *
            clear e1
            go_wp2
            go_ret
            exact ⟨_, rfl, by rw [E1.out]; exact World.ownsRow_nil _ _ _ _, HB⟩
          · have e1 : tellR r = tellB r := if_neg hbig
            have E1 := Lib.hid e1
            clear e1
            generalize tellB r = L at *
            have hbig' : ¬ (1000000 : Int) < L.length := by omega
            go_wp2
            go_ret
            exact ⟨_, rfl, by rw [E1.out]; exact HO.out, HB⟩
end Go.Proofs.YtchlolfdinakiaaDoor
