/- Bytes of one's own: a number, a text, written behind what is there. -/
import Derived.Test.YtchlolfdinakiaaDoorD2
import Derived.Test.YtchlolfdinakiaaDoorG0
import Derived.Lib.AppendIntMem
import Derived.Lib.OthersKept
import Derived.Lib.BufferKept
import Derived.OwnWalk
namespace Go.Proofs.YtchlolfdinakiaaDoor
open Go.RowKit
attribute [local go_sem] run_store_float

theorem infoByte : (Tryd.prog.info? 5).map (fun i => (i.zero, i.size, i.bytes)) = some (some (.int .u8 0), 1, 1) := by kernel_rfl
/-- v holds these bytes in a row of the call's own, from block B on. -/
def Own (w : World) (B : Nat) (v : Value) (l : List UInt8) : Prop := w.ownsRow B 5 1 v l.length (Lib.byteCells l)
/-- What is kept: all below B, and whatever is no row of bytes. -/
structure Kept (B : Nat) (w w' : World) : Prop where
  bel : Below B w w'
  oth : Lib.OthersKept 5 none w w'
theorem Kept.refl (B : Nat) (w : World) : Kept B w w := ⟨Below.refl _ _, Lib.OthersKept.refl _ _ _⟩
theorem Kept.trans {B : Nat} {a b c : World} (h : Kept B a b) (k : Kept B b c) : Kept B a c := ⟨h.bel.trans k.bel, h.oth.trans k.oth⟩
theorem Kept.alloc {B : Nat} {a w : World} (h : Kept B a w) (hB : B ≤ w.heap.size) (o : Obj) : Kept B a (w.alloc o) := ⟨h.bel.alloc hB o, h.oth.alloc o⟩
theorem Kept.new {B : Nat} {a w w' : World} (h : Kept B a w) (hB : B ≤ w.heap.size) (hb : Below w.heap.size w w') : Kept B a w' := ⟨h.bel.trans (hb.mono hB), h.oth.below hb⟩
theorem Own.new {w w' : World} {B : Nat} {v : Value} {l : List UInt8} (h : Own w B v l) (hb : Below w.heap.size w w') : Own w' B v l :=
  World.ownsRow.kept (row := none) h ⟨hb.os, hb.tape, hb.output, hb.size, fun k hk _ => hb.block k hk⟩ (by cases hv : v.ownBlock <;> simp)

theorem Own.alloc {w : World} {B : Nat} {v : Value} {l : List UInt8} (h : Own w B v l) (o : Obj) : (w.alloc o).ownsRow B 5 1 v l.length (Lib.byteCells l) := World.ownsRow.alloc h o
theorem own_push {w : World} {B : Nat} {v : Value} {m : List UInt8} {c : UInt8} (h : w.ownsRow B 5 1 v (m.length + 1) (Lib.byteCells m ++ [Value.int .u8 (c.toNat : Int)])) : Own w B v (m ++ [c]) := by
  unfold Own
  have e1 : (m ++ [c]).length = m.length + 1 := by simp
  have e2 : Lib.byteCells (m ++ [c]) = Lib.byteCells m ++ [Value.int .u8 (c.toNat : Int)] := by simp [Lib.byteCells]
  rw [e1, e2]; exact h
theorem own_row {w : World} {B n : Nat} {v : Value} {xs : List Value} (h : w.ownsRow B 5 1 v n xs) : ∀ g, v.ownBlock = some g → ∃ c fz, w.heap[g]? = some (.cells c 5 fz) := by
  intro g hg
  rcases h.2 with ⟨rfl, _⟩ | ⟨g', cap, cur, rfl, _, h1, _⟩
  · cases hg
  · cases hg; exact ⟨_, _, h1⟩
theorem Kept.append {B : Nat} {a W w2 : World} {v : Value} {l : List UInt8} (h : Kept B a W) (hB : B ≤ W.heap.size) (hown : Own W B v l) (o : Obj) (hg : (W.alloc o).grownBy w2 v.ownBlock) : Kept B a w2 :=
  ⟨(h.bel.alloc hB o).grown hg (by simp; omega) (fun k hk => (World.ownsRow.lt hown k hk).1), (h.oth.alloc o).grown hg (own_row (hown.alloc o))⟩
set_option maxRecDepth 100000 in
theorem snum_any (B : Nat) (v : Value) (l : List UInt8) (n : Int) (h0 : -9223372036854775808 ≤ n) (h1 : n ≤ 9223372036854775807) (w : World) (hB : B ≤ w.heap.size) (hown : Own w B v l) (hl : l.length ≤ 1000000000000) :
    Calls Tryd.prog 59 #[v, .int .i64 n] w fun e w' => ∃ v', e = .returned v' ∧ Own w' B v' (l ++ (Lib.itoa n ++ [32])) ∧ Kept B w w' := by
  obtain ⟨i0, hi, hz0, hz1, hz2⟩ := info_parts infoByte
  have hL := Lib.itoa_length_le n h0 h1
  obtain ⟨d, hd⟩ : ∃ d, d = Lib.itoa n := ⟨_, rfl⟩
  rw [← hd] at hL
  have HD := Lib.hid hd
  have hdec := fun w => dec_any n h0 h1 w
  rw [← hd] at hdec
  clear hd
  go_enter Tryd.func59, Tryd.ntmps59
  go_wp2_with (go_at_call 24; refine (hdec _).mono ?_; rintro e w1 ⟨rfl, hb1⟩; refine Hid.out ?_)
  refine Lib.hid ?_
  have hK1 := (Kept.refl B w).new hB hb1
  have hO1 := hown.new hb1
  clear hb1 hdec hown
  go_wp2
  go_loopw [0, 6] (fun o i wr => ∃ k : Nat, k ≤ d.length ∧ i = .int .i64 k ∧ Own wr B o (l ++ d.take k) ∧ Kept B w wr) (fun _ i _ => d.length - (intOf i).toNat)
  case atStart => exact ⟨0, Nat.zero_le _, rfl, by simpa using hO1, hK1⟩
  case round =>
    obtain ⟨k, hk, rfl, hown, hkept⟩ := hrel
    clear hO1 hK1
    have hsz := hkept.bel.size
    by_cases hlt : k < d.length
    · have hlt2 : k < (⟨d.toArray⟩ : ByteArray).size := by show k < d.toArray.size; simpa using hlt
      go_wp2_with (at_builtin; refine wpList_append_own _ rfl _ _ 35 rfl B 5 i0 (.int .u8 0) 1 1 Tryd.underlying35 hi hz0 hz1 hz2 rfl (by decide) _ _ _ rfl (hown.alloc _) ⟨wr.heap.size, 0, none⟩ 1 1 [Value.int .u8 (((⟨d.toArray⟩ : ByteArray)[k]'hlt2).toNat : Int)] rfl rfl (by intro j u' hj; match j, hj with | 0, hj => simp at hj; subst hj; simp [Addr.add]) (by intro u' hu'; simp at hu'; subst hu'; rfl) (by unfold maxLen; simp; omega) (by simp; omega) (by simp; omega) ?_; intro v2 w2 hown2 hgrow _)
      refine ⟨⟨k + 1, by omega, by go_num, ?_, hkept.append (Nat.le_trans hB hsz) hown _ hgrow⟩, by simp [intOf]; omega⟩
      rw [List.take_add_one, List.getElem?_eq_getElem hlt]
      have := own_push (c := d[k]) hown2
      simpa using this
    · have hkk : k = d.length := by omega
      subst hkk
      go_wp2_with (at_builtin; refine wpList_append_own _ rfl _ _ 35 rfl B 5 i0 (.int .u8 0) 1 1 Tryd.underlying35 hi hz0 hz1 hz2 rfl (by decide) _ _ _ rfl (hown.alloc _) ⟨wr.heap.size, 0, none⟩ 1 1 [Value.int .u8 32] rfl rfl (by intro j u' hj; match j, hj with | 0, hj => simp at hj; subst hj; simp [Addr.add]) (by intro u' hu'; simp at hu'; subst hu'; rfl) (by unfold maxLen; simp; omega) (by simp; omega) (by simp; omega) ?_; intro v2 w2 hown2 hgrow _)
      have e1 := own_push (c := 32) hown2
      rw [List.take_length] at e1
      refine bodyPost_ret (by simp [results, Tryd.results59, go_sem]; rfl) rfl ?_
      refine ⟨v2, rfl, ?_, hkept.append (Nat.le_trans hB hsz) hown _ hgrow⟩
      rw [← HD.out, ← List.append_assoc]
      exact e1
end Go.Proofs.YtchlolfdinakiaaDoor
