/- Bytes of one's own: a text behind its length; the two closures of the program's Tell. -/
import Derived.Test.YtchlolfdinakiaaDoorE1
import Derived.Test.YtchlolfdinakiaaDoorX1
namespace Go.Proofs.YtchlolfdinakiaaDoor
open Go.RowKit
attribute [local go_sem] run_store_float

def numB (n : Int) : List UInt8 := Lib.itoa n ++ [32]
def textB (s : ByteArray) : List UInt8 := numB s.size ++ s.data.toList
theorem numB_len (n : Int) (h0 : -9223372036854775808 ≤ n) (h1 : n ≤ 9223372036854775807) : (numB n).length ≤ 22 := by
  have := Lib.itoa_length_le n h0 h1
  simp [numB]; omega

set_option maxRecDepth 100000 in
theorem stxt_any (B : Nat) (v : Value) (l : List UInt8) (s : ByteArray) (hs : s.size ≤ 1000000000000) (w : World) (hB : B ≤ w.heap.size) (hown : Own w B v l) (hl : l.length ≤ 1000000000000) :
    Calls Tryd.prog 60 #[v, .string s] w fun e w' => ∃ v', e = .returned v' ∧ Own w' B v' (l ++ textB s) ∧ Kept B w w' := by
  obtain ⟨i0, hi, hz0, hz1, hz2⟩ := info_parts infoByte
  have hnl := numB_len s.size (by omega) (by omega)
  have hnum := snum_any B v l s.size (by omega) (by omega) w hB hown hl
  obtain ⟨m, hm⟩ : ∃ m, m = l ++ numB s.size := ⟨_, rfl⟩
  have hml : m.length ≤ 1000000000022 := by rw [hm, List.length_append]; omega
  have HM := Lib.hid hm
  rw [show l ++ (Lib.itoa (s.size : Int) ++ [32]) = l ++ numB s.size from rfl, ← hm] at hnum
  clear hm hown hnl
  go_enter Tryd.func60, Tryd.ntmps60
  go_wp2_with (go_at_call 59; refine hnum.mono ?_; rintro e w1 ⟨v1, rfl, hO1, hK1⟩; refine Hid.out ?_)
  refine Lib.hid ?_
  clear hnum
  go_wp2
  go_loopw [0, 5] (fun o i wr => ∃ k : Nat, k ≤ s.size ∧ i = .int .i64 k ∧ Own wr B o (m ++ s.data.toList.take k) ∧ Kept B w wr) (fun _ i _ => s.size - (intOf i).toNat)
  case atStart => exact ⟨0, Nat.zero_le _, rfl, by simpa using hO1, hK1⟩
  case round =>
    obtain ⟨k, hk, rfl, hown, hkept⟩ := hrel
    clear hO1 hK1
    have hsz := hkept.bel.size
    by_cases hlt : k < s.size
    · have hlt2 : k < s.data.toList.length := by rw [Array.length_toList]; exact hlt
      go_wp2_with (at_builtin; refine wpList_append_own _ rfl _ _ 35 rfl B 5 i0 (.int .u8 0) 1 1 Tryd.underlying35 hi hz0 hz1 hz2 rfl (by decide) _ _ _ rfl (hown.alloc _) ⟨wr.heap.size, 0, none⟩ 1 1 [Value.int .u8 ((s[k]'hlt).toNat : Int)] rfl rfl (by intro j u' hj; match j, hj with | 0, hj => simp at hj; subst hj; simp [Addr.add]) (by intro u' hu'; simp at hu'; subst hu'; rfl) (by unfold maxLen; simp; omega) (by simp; omega) (by simp; omega) ?_; intro v2 w2 hown2 hgrow _)
      refine ⟨⟨k + 1, by omega, by go_num, ?_, hkept.append (Nat.le_trans hB hsz) hown _ hgrow⟩, by simp [intOf]; omega⟩
      rw [List.take_add_one, List.getElem?_eq_getElem hlt2]
      have := own_push (c := s[k]'hlt) hown2
      rw [List.append_assoc] at this
      exact this
    · have hkk : k = s.size := by omega
      subst hkk
      go_wp2
      refine bodyPost_ret (by simp [results, Tryd.results60, go_sem]; rfl) rfl ?_
      refine ⟨_, rfl, ?_, hkept⟩
      have e1 : s.data.toList.take s.size = s.data.toList := List.take_of_length_le (by rw [Array.length_toList]; exact Nat.le_refl _)
      rw [e1, HM.out, List.append_assoc] at hown
      exact hown

/-- Block b holds v and may be written; below B nothing else turns, nor does whatever is no row of bytes. -/
structure Keptb (b B : Nat) (w w' : World) : Prop where
  os : w'.os = w.os
  tape : w'.tape = w.tape
  output : w'.output = w.output
  size : w.heap.size ≤ w'.heap.size
  block : ∀ k, k < B → k ≠ b → w'.heap[k]? = w.heap[k]?
  oth : Lib.OthersKept 5 (some b) w w'
theorem Keptb.refl (b B : Nat) (w : World) : Keptb b B w w := ⟨rfl, rfl, rfl, Nat.le_refl _, fun _ _ _ => rfl, Lib.OthersKept.refl _ _ _⟩
theorem Keptb.trans {b B : Nat} {a c d : World} (h : Keptb b B a c) (k : Keptb b B c d) : Keptb b B a d :=
  ⟨k.os.trans h.os, k.tape.trans h.tape, k.output.trans h.output, Nat.le_trans h.size k.size, fun i hi hb => (k.block i hi hb).trans (h.block i hi hb), h.oth.trans k.oth⟩
theorem Keptb.of {b B : Nat} {w w' : World} (h : Kept B w w') : Keptb b B w w' :=
  ⟨h.bel.os, h.bel.tape, h.bel.output, h.bel.size, fun k hk _ => h.bel.block k hk, fun k o hk _ ho => h.oth k o hk (by simp) ho⟩
theorem Keptb.store {b B : Nat} {a w : World} (h : Keptb b B a w) (v : Value) : Keptb b B a (w.setCell ⟨b, 0, none⟩ v) :=
  ⟨h.os, h.tape, h.output, by simpa using h.size, fun k hk hb => (Below.heap_setCell w ⟨b, 0, none⟩ v k hb).trans (h.block k hk hb), h.oth.setCell ⟨b, 0, none⟩ rfl v⟩
theorem Own.store {w : World} {B b : Nat} {v : Value} {l : List UInt8} (h : Own w B v l) (hb : b < B) (u : Value) : Own (w.setCell ⟨b, 0, none⟩ u) B v l :=
  World.ownsRow.kept (row := some b) h ⟨rfl, rfl, rfl, by simp, fun k _ hne => Below.heap_setCell w ⟨b, 0, none⟩ u k (fun e => hne (by rw [e]))⟩ (by
    rcases ho : v.ownBlock with _ | k
    · exact .inl rfl
    · right; intro e; cases e; have := (World.ownsRow.lt h _ ho).1; omega)

set_option maxRecDepth 100000 in
theorem inum_any (b B : Nat) (v : Value) (l : List UInt8) (n : Int) (h0 : -9223372036854775808 ≤ n) (h1 : n ≤ 9223372036854775807) (w : World) (hbB : b < B) (hB : B ≤ w.heap.size) (hblk : Blk w b 35 #[v]) (hown : Own w B v l) (hl : l.length ≤ 1000000000000)
    (hT : Lib.TabBelow Tryd.prog B w "internal/strconv.uint64pow10" .u64 Lib.pow10Tab) :
    Calls Tryd.prog 34 #[.int .i64 n, .pointer (some ⟨b, 0, none⟩)] w fun e w' => e = .returned (.tuple #[]) ∧ ∃ v', Blk w' b 35 #[v'] ∧ Own w' B v' (l ++ numB n) ∧ Keptb b B w w' := by
  obtain ⟨i0, hi, hz0, hz1, hz2⟩ := info_parts infoByte
  have hnl := Lib.itoa_length_le n h0 h1
  have hc := hblk.cell 0
  have hcf := hblk.frozen 0
  simp at hc
  have hA := Tryd.strconv_AppendInt_10 B l.length n h0 h1 v (Lib.byteCells l) w hown hB (by omega) hT
  have HB := Lib.hid hblk
  clear hblk hown
  go_enter Tryd.func34, Tryd.ntmps34
  go_wp2_with (go_at_call 35; refine hA.mono ?_; rintro e w1 ⟨v1, rfl, hO1, hb1, ho1⟩; refine Hid.out ?_)
  refine Lib.hid ?_
  have hO : Own w1 B v1 (l ++ Lib.itoa n) := by
    unfold Own
    rw [List.length_append, Lib.byteCells_append]; exact hO1
  have hK1 : Kept B w w1 := ⟨hb1, ho1⟩
  have hsz := hb1.size
  have hB1 := HB.out.below hb1 hbB
  have hc1 := hB1.cell 0
  have hf1 := hB1.frozen 0
  simp at hc1
  clear hA hO1 hc hcf
  go_wp2_with (at_builtin; refine wpList_append_own _ rfl _ _ 35 rfl B 5 i0 (.int .u8 0) 1 1 Tryd.underlying35 hi hz0 hz1 hz2 rfl (by decide) _ _ _ rfl (hO.alloc _) ⟨w1.heap.size, 0, none⟩ 1 1 [Value.int .u8 32] rfl rfl (by intro j u' hj; match j, hj with | 0, hj => simp at hj; subst hj; simp [Addr.add]) (by intro u' hu'; simp at hu'; subst hu'; rfl) (by unfold maxLen; simp; omega) (by simp; omega) (by simp; omega) ?_; intro v2 w2 hown2 hgrow _; refine Hid.out ?_)
  refine Lib.hid ?_
  obtain ⟨g, cap, hv2⟩ : ∃ g cap, v2 = .slice (some ⟨g, 0, none⟩) ((l ++ Lib.itoa n).length + 1) cap := by
    rcases hown2.2 with ⟨-, h0⟩ | ⟨g, cap, cur, e, -⟩
    · omega
    · exact ⟨g, cap, e⟩
  subst hv2
  have hK2 := hK1.append (Nat.le_trans hB hsz) hO _ hgrow
  have e1 := own_push (c := 32) hown2
  rw [List.append_assoc] at e1
  have hB2 := HB.out.below hK2.bel hbB
  have hc2 := hB2.cell 0
  have hf2 := hB2.frozen 0
  simp at hc2
  have E1 := Lib.hid e1
  have HB2 := Lib.hid hB2
  clear hown2 e1 hO hB1 hB2 hc1 hf1
  go_wp2
  simp only [List.length_append] at HB2 E1
  refine bodyPost_end (v := .tuple #[]) (by simp [results, Tryd.results34, go_sem]) rfl ?_
  exact ⟨rfl, _, HB2.out.set_ 0 _, E1.out.store hbB _, (Keptb.of hK2).store _⟩
end Go.Proofs.YtchlolfdinakiaaDoor
