/- Copies of bytes; marks of a report, held. -/
import Derived.Test.YtchlolfdinakiaaDoorH5
import Derived.Deep.RegionHeld3
namespace Go.Proofs.YtchlolfdinakiaaDoor
open Go.RowKit
attribute [local go_sem] run_store_float

theorem Full.setB {cs : Array Value} {l : List UInt8} {k : Nat} (h : Full encB 1 cs l k) (hk : k < l.length) (hs : cs.size = l.length) : Full encB 1 (cs.setIfInBounds k (.int .u8 (l[k].toNat : Int))) l (k + 1) := by
  have := h.put (sz := 1) (List.getElem?_eq_getElem hk) (fun _ => rfl) (by omega)
  rw [Nat.mul_one] at this
  exact this
def BsS (w : World) (l : List UInt8) (e : Ending) (w' : World) : Prop := ∃ g cs, e = .returned (.slice (some ⟨g, 0, none⟩) l.length l.length) ∧ w.heap.size ≤ g ∧ Blk w' g 5 cs ∧ cs.size = l.length ∧ RdL encB 1 w' w.heap.size (some ⟨g, 0, none⟩) l ∧ Below w.heap.size w w'
theorem tobs_any (A : Option Addr) (c : Nat) (l : List UInt8) (w : World) (lo : Nat) (h : RdL encB 1 w lo A l) (hn : l.length ≤ 1048576) : Calls Tryd.prog 20 #[.slice A l.length c] w (BsS w l) := by
  obtain ⟨i0, hi0, hz0, hz1, hz2⟩ := info_parts infoByte
  have hmk := fun (W : World) => run_make (P := Tryd.prog) W 35 5 i0 _ Tryd.underlying35 hi0 hz0 .i64 .i64 (l.length : Int) (l.length : Int) (by omega) (by omega) (by rw [hz2]; omega) (by omega)
  rw [hz1, Nat.mul_one, Int.toNat_natCast] at hmk
  have hcs : (madeCells (Value.int .u8 0).cells l.length).size = l.length := by simp [madeCells]
  generalize hc0 : madeCells (Value.int .u8 0).cells l.length = cs0 at *
  clear hc0 hz0 hz1 hz2 hi0
  go_enter Tryd.func20, Tryd.ntmps20
  go_wp2
  go_loopw [4] (fun i wr => ∃ k : Nat, k ≤ l.length ∧ i = .int .i64 k ∧ ∃ cs : Array Value, Blk wr w.heap.size 5 cs ∧ cs.size = l.length ∧ Full encB 1 cs l k ∧ Below w.heap.size w wr) (fun i _ => l.length - (intOf i).toNat)
  case atStart => exact ⟨0, Nat.zero_le _, rfl, cs0, Blk.new _ _ _, hcs, Full.zero, below_new _ _⟩
  case round =>
    obtain ⟨k, hk, rfl, cs, hblk, hsz, hcs', hbel⟩ := hrel
    by_cases hlt : k < l.length
    · obtain ⟨b, off, rfl, hlo, hb, hc⟩ := rdB_at h hlt
      have hc1 : wr.cell? ⟨b, off + k, none⟩ = some (.int .u8 (l[k].toNat : Int)) := (hbel.cell (p := ⟨b, off + k, none⟩) hb).trans hc
      obtain ⟨d, hd⟩ : ∃ d : Int, d = (l[k].toNat : Int) := ⟨_, rfl⟩
      rw [← hd] at hc1
      obtain ⟨u0, hdc⟩ : ∃ u, wr.cell? ⟨w.heap.size, k, none⟩ = some u := ⟨cs[k]'(by omega), by rw [hblk.cell, Array.getElem?_eq_getElem]⟩
      have hfz : wr.frozen? ⟨w.heap.size, k, none⟩ = false := hblk.frozen k
      have H1 := Lib.hid h; have H2 := Lib.hid hblk; have H3 := Lib.hid hcs'; have H4 := Lib.hid hc; have H5 := Lib.hid hsz; have HD := Lib.hid hd
      clear h hblk hcs' hc hmk hsz hd
      have k1 : (0 : Int) ≤ k := by omega
      have k2 : (k : Int) < l.length := by omega
      go_wp2
      exact ⟨⟨k + 1, by omega, by go_num, cs.setIfInBounds k (.int .u8 d), H2.out.set_ k _, by simp [H5.out], by rw [HD.out]; exact H3.out.setB hlt H5.out, hbel.setCell (Nat.le_refl _) _⟩, by simp [intOf]; omega⟩
    · have hkk : k = l.length := by omega
      subst hkk
      clear hmk h
      go_wp2
      go_ret
      exact ⟨_, _, rfl, Nat.le_refl _, hblk, hsz, rd_of_blk hblk (Nat.le_refl _) hcs', hbel⟩
theorem markb2_any (g n c : Nat) (cs0 : Array Value) (w : World) (h : Blk w g 5 cs0) (hcs : n ≤ cs0.size) (hn : n ≤ 1048576) :
    Calls Tryd.prog 17 #[.slice (some ⟨g, 0, none⟩) n c, .int .i64 1] w fun e w' => e = .returned (.int .i64 (1 + (n : Int))) ∧ But (fun x => x = g) w w' := by
  go_enter Tryd.func17, Tryd.ntmps17
  go_wp2
  go_loopw [1, 5] (fun l i wr => ∃ (k : Nat) (cs : Array Value), k ≤ n ∧ i = .int .i64 k ∧ l = .int .i64 (1 + (k : Int)) ∧ Blk wr g 5 cs ∧ cs.size = cs0.size ∧ But (fun x => x = g) w wr) (fun _ i _ => n - (intOf i).toNat)
  case atStart => exact ⟨0, cs0, Nat.zero_le _, rfl, by simp, h, rfl, But.refl _ _⟩
  case round =>
    obtain ⟨k, cs, hk, rfl, rfl, hblk, hsz, honly⟩ := hrel
    by_cases hlt : k < n
    · obtain ⟨u0, hc⟩ : ∃ u0, wr.cell? ⟨g, k, none⟩ = some u0 := ⟨_, (hblk.cell k).trans (Array.getElem?_eq_getElem (by omega))⟩
      have hf := hblk.frozen k
      have HB := Lib.hid hblk
      have HS := Lib.hid hsz
      clear hblk h hsz
      go_wp2
      exact ⟨⟨k + 1, _, by omega, by go_num, by go_num, HB.out.set_ k _, by rw [Array.size_setIfInBounds]; exact HS.out, honly.set rfl k _⟩, by simp [intOf]; omega⟩
    · have hkk : k = n := by omega
      subst hkk
      clear hblk h
      go_wp2
      go_ret
      exact ⟨rfl, honly⟩

theorem helds_any (A : Option Addr) (n c q : Nat) (w : World) (lo : Nat) (h : RdL encS 1 w lo A (markS q n)) (hn : n ≤ 1048576) (hq : 0 < q ∧ q ≤ 1000000000) :
    Calls Tryd.prog 47 #[.slice A n c, .int .i64 (q : Int)] w fun e w' => e = .returned (.int .i64 ((q + n : Nat) : Int)) ∧ Below w.heap.size w w' := by
  go_enter Tryd.func47, Tryd.ntmps47
  go_wp2
  go_loopw [1, 5] (fun l i wr => ∃ k : Nat, k ≤ n ∧ i = .int .i64 k ∧ l = .int .i64 ((q + k : Nat) : Int) ∧ Below w.heap.size w wr) (fun _ i _ => n - (intOf i).toNat)
  case atStart => exact ⟨0, Nat.zero_le _, rfl, rfl, Below.refl _ _⟩
  case round =>
    obtain ⟨k, hk, rfl, rfl, hbel⟩ := hrel
    by_cases hlt : k < n
    · obtain ⟨b, off, rfl, hlo, hb, hc⟩ := rdS_at (h.below hbel) (k := k) (by rw [markS_len]; exact hlt)
      have he : (markS q n)[k]'(by rw [markS_len]; exact hlt) = mtx (q + k) := by
        have := markS_at q n k hlt
        rw [List.getElem?_eq_getElem (by rw [markS_len]; exact hlt)] at this
        injection this
      rw [he] at hc
      clear h he
      have k1 : (0 : Int) ≤ k := by omega
      have k2 : (k : Int) < n := by omega
      go_wp2
      go_region_held3 (fun w' => w'.cell? ⟨b, off + k, none⟩ = some (.string (mtx (q + k)))) (simp [go_sem, *]) ((go_at_call 64; refine (mtxI_any (q + k) _ (by omega) (by omega) (by omega) _).mono ?_; rintro e w1 ⟨rfl, hb1⟩; replace hb1 := bl_undrew hb1; obtain ⟨hc1, hf1⟩ := bcell hb1; have HB1 : Below w.heap.size w w1 := hbel.trans (hb1.mono hbel.size)))
      go_wp2
      exact ⟨⟨k + 1, by omega, by go_num, by go_num, HB1⟩, by simp [intOf]; omega⟩
    · have hkk : k = n := by omega
      subst hkk
      clear h
      go_wp2
      go_ret
      exact ⟨rfl, hbel⟩
theorem heldrs_any (A : Option Addr) (n c q : Nat) (w : World) (lo : Nat) (h : RdL encR 5 w lo A (markR q n)) (hn : n ≤ 1048576) (hq : 0 < q ∧ q ≤ 1000000000) :
    Calls Tryd.prog 46 #[.slice A n c, .int .i64 (q : Int)] w fun e w' => e = .returned (.int .i64 ((q + n * 5 : Nat) : Int)) ∧ Below w.heap.size w w' := by
  go_enter Tryd.func46, Tryd.ntmps46
  go_wp2
  go_loopw [1, 5] (fun l i wr => ∃ k : Nat, k ≤ n ∧ i = .int .i64 k ∧ l = .int .i64 ((q + k * 5 : Nat) : Int) ∧ Below w.heap.size w wr) (fun _ i _ => n - (intOf i).toNat)
  case atStart => exact ⟨0, Nat.zero_le _, rfl, by simp, Below.refl _ _⟩
  case round =>
    obtain ⟨k, hk, rfl, rfl, hbel⟩ := hrel
    by_cases hlt : k < n
    · obtain ⟨b, off, rfl, hlo, hb, c0, c1, c2, c3, c4⟩ := rdR_at (h.below hbel) (markR_at q n k hlt)
      simp only [mkR] at c0 c1 c2 c3 c4
      clear h
      have k1 : (0 : Int) ≤ k := by omega
      have k2 : (k : Int) < n := by omega
      have hq0 : (0 : Int) ≤ (q : Int) + (k : Int) * 5 := by omega
      go_wp2
      go_region_held3 (fun w' => w'.cell? ⟨b, off + k * 5 + 4, none⟩ = some (.string (mtx (q + k * 5 + 4)))) (simp [go_sem, *]) ((go_at_call 64; refine (mtxI_any (q + k * 5 + 4) _ (by omega) (by omega) (by omega) _).mono ?_; rintro e w1 ⟨rfl, hb1⟩; replace hb1 := bl_undrew hb1; obtain ⟨hc1, hf1⟩ := bcell hb1; have HB1 : Below w.heap.size w w1 := hbel.trans (hb1.mono hbel.size)))
      go_wp2
      exact ⟨⟨k + 1, by omega, by go_num, congrArg (Value.int .i64) (by omega), HB1⟩, by simp [intOf]; omega⟩
    · have hkk : k = n := by omega
      subst hkk
      clear h
      go_wp2
      go_ret
      exact ⟨rfl, hbel⟩
theorem heldrp_any (A A' : Option Addr) (n m c c' : Nat) (code ticks made : Int) (er tr : ByteArray) (q : Nat) (w : World) (lo lo' : Nat) (h : RdL encR 5 w lo A (markR q n)) (h' : RdL encS 1 w lo' A' (markS (q + n * 5) m)) (hn : n ≤ 1048576) (hm : m ≤ 1048576) (hq : 0 < q ∧ q ≤ 1000000) :
    Calls Tryd.prog 22 #[.agg #[.int .i64 code, .slice A n c, .slice A' m c', .string er, .string tr, .int .i64 ticks, .int .i64 made], .int .i64 (q : Int)] w fun e w' => e = .returned (.int .i64 ((q + n * 5 + m : Nat) : Int)) ∧ Below w.heap.size w w' := by
  have hbox := Blk.new w 39 #[.int .i64 code, .slice A n c, .slice A' m c', .string er, .string tr, .int .i64 ticks, .int .i64 made]
  have HX := Lib.hid hbox
  have g := h.alloc (.cells #[.int .i64 code, .slice A n c, .slice A' m c', .string er, .string tr, .int .i64 ticks, .int .i64 made] 39)
  have g' := Lib.hid (h'.alloc (.cells #[.int .i64 code, .slice A n c, .slice A' m c', .string er, .string tr, .int .i64 ticks, .int .i64 made] 39))
  clear h h' hbox
  go_enter Tryd.func22, Tryd.ntmps22
  go_wp2_with fail
  refine (heldrs_any _ _ _ q _ lo g hn (by omega)).mono ?_
  rintro e w1 ⟨rfl, hb1⟩
  have HB1 := Lib.hid (below_then hb1)
  have hX1 := HX.out.below hb1 HX.out.lt
  have g2 := g'.out.below hb1
  obtain ⟨x0, x1, x2, x3, x4, x5, x6⟩ := box7 hX1
  clear hb1 g hX1
  go_wp2_with fail
  refine (helds_any _ _ _ (q + n * 5) _ lo' g2 hm (by omega)).mono ?_
  rintro e w2 ⟨rfl, hb2⟩
  have HB2 := Lib.hid (HB1.out.trans (hb2.mono HB1.out.size))
  clear hb2
  go_wp2
  go_ret
  exact ⟨rfl, HB2.out⟩
end Go.Proofs.YtchlolfdinakiaaDoor
