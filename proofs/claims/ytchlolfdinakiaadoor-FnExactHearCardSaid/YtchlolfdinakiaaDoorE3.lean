/- Bytes of one's own: the closure that writes a text. -/
import Derived.Test.YtchlolfdinakiaaDoorE2
import Derived.Test.YtchlolfdinakiaaDoorR1
import Derived.Lib.AppendStr
namespace Go.Proofs.YtchlolfdinakiaaDoor
open Go.RowKit
theorem run_store_func (P : Program) (w : World) (a : Addr) (m : Mode) (f : Fn) (x y : Array Value) : (store a (.func f x y) m).run P w = stored P w a (.func f x y) m := run_store P w a _ m rfl
attribute [local go_sem] run_store_float run_store_func

/-- The closure that writes a number, over block b. -/
def numF (b : Nat) : Value := .func (.func 34) #[] #[.pointer (some ⟨b, 0, none⟩)]
theorem Keptb.blk {b B : Nat} {w w' : World} {g : Nat} {t : TypeId} {cs : Array Value} (h : Keptb b B w w') (hb : Blk w g t cs) (hg : g < B) (hne : g ≠ b) : Blk w' g t cs := (h.block g hg hne).trans hb
theorem own_strs {w : World} {B : Nat} {v : Value} {m : List UInt8} {s : ByteArray} (h : w.ownsRow B 5 1 v (m.length + s.size) (Lib.byteCells m ++ Lib.strCells s)) : Own w B v (m ++ s.data.toList) := by
  unfold Own
  have e1 : (m ++ s.data.toList).length = m.length + s.size := by rw [List.length_append, Array.length_toList]; rfl
  have e2 : Lib.byteCells (m ++ s.data.toList) = Lib.byteCells m ++ Lib.strCells s := by
    rw [Lib.byteCells_append]; rfl
  rw [e1, e2]; exact h
theorem Kept.append0 {B : Nat} {a W w2 : World} {v : Value} {l : List UInt8} (h : Kept B a W) (hB : B ≤ W.heap.size) (hown : Own W B v l) (hg : W.grownBy w2 v.ownBlock) : Kept B a w2 :=
  ⟨h.bel.grown hg hB (fun k hk => (World.ownsRow.lt hown k hk).1), h.oth.grown hg (own_row hown)⟩

set_option maxRecDepth 100000 in
theorem itxt_any (b ct B : Nat) (v : Value) (l : List UInt8) (s : ByteArray) (hs : s.size ≤ 1000000000000) (w : World) (hbB : b < B) (hB : B ≤ w.heap.size) (hblk : Blk w b 35 #[v]) (hfun : Blk w ct 59 #[numF b]) (hown : Own w B v l) (hl : l.length ≤ 1000000000000)
    (hT : Lib.TabBelow Tryd.prog B w "internal/strconv.uint64pow10" .u64 Lib.pow10Tab) :
    Calls Tryd.prog 36 #[.string s, .pointer (some ⟨ct, 0, none⟩), .pointer (some ⟨b, 0, none⟩)] w fun e w' => e = .returned (.tuple #[]) ∧ ∃ v', Blk w' b 35 #[v'] ∧ Own w' B v' (l ++ textB s) ∧ Keptb b B w w' := by
  obtain ⟨i0, hi, hz0, hz1, hz2⟩ := info_parts infoByte
  have hnl := numB_len s.size (by omega) (by omega)
  have hc := hfun.cell 0
  simp at hc
  unfold numF at hc
  have hA := inum_any b B v l s.size (by omega) (by omega) w hbB hB hblk hown hl hT
  clear hblk hown hfun
  go_enter Tryd.func36, Tryd.ntmps36
  go_wp2_with (go_at_call 34; refine hA.mono ?_; rintro e w1 ⟨rfl, v1, hB1, hO1, hK1⟩; refine Hid.out ?_)
  refine Lib.hid ?_
  have hsz := hK1.size
  have hc1 := hB1.cell 0
  have hf1 := hB1.frozen 0
  simp at hc1
  have HB1 := Lib.hid hB1
  clear hA hc hB1
  go_wp2_with (at_builtin; refine Lib.wpList_append_own_string _ rfl _ _ 35 9 rfl B 5 i0 Tryd.underlying35 Tryd.underlying9 hi hz0 hz1 hz2 _ _ _ rfl hO1 s rfl (by unfold maxLen; simp; omega) (by simp; omega) (by omega) ?_; intro v2 w2 hown2 hgrow _; refine Hid.out ?_)
  refine Lib.hid ?_
  obtain ⟨g, cap, hv2⟩ : ∃ g cap, v2 = .slice (some ⟨g, 0, none⟩) ((l ++ numB s.size).length + s.size) cap := by
    rcases hown2.2 with ⟨-, h0⟩ | ⟨g, cap, cur, e, -⟩
    · simp [numB] at h0
    · exact ⟨g, cap, e⟩
  subst hv2
  have hK2 := (Kept.refl B w1).append0 (by omega) hO1 hgrow
  have e1 := own_strs hown2
  rw [List.append_assoc] at e1
  have hB2 := HB1.out.below hK2.bel hbB
  have hc2 := hB2.cell 0
  have hf2 := hB2.frozen 0
  simp at hc2
  have E1 := Lib.hid e1
  have HB2 := Lib.hid hB2
  clear hown2 e1 hO1 hB2 hc1 hf1
  go_wp2
  simp only [List.length_append] at HB2 E1
  refine bodyPost_end (v := .tuple #[]) (by simp [results, Tryd.results36, go_sem]) rfl ?_
  exact ⟨rfl, _, HB2.out.set_ 0 _, E1.out.store hbB _, (hK1.trans (Keptb.of hK2)).store _⟩
end Go.Proofs.YtchlolfdinakiaaDoor
