/- Marks: what a mark keeps; the marks on strings, whole numbers and ups. -/
import Derived.Test.YtcpjplkbmflglaaU4
import Derived.Laws.IdiomStrings
import Derived.Lib.ItoaLen
import Derived.Lib.ItoaMem
namespace Go.Proofs.Ytcpjplkbmflglaa
open Go.RowKit
attribute [local go_sem] run_store_float
set_option linter.unusedVariables false
theorem conv1 (w : World) (m : Nat) : (convert 106 9 (.slice (some ⟨w.heap.size, 0, none⟩) 1 1)).run Try.prog (w.alloc (.cells #[.int .u8 (48 + (m : Int) % 10)] 5)) = .ok (.string ⟨#[UInt8.ofNat (48 + m % 10)]⟩) (w.alloc (.cells #[.int .u8 (48 + (m : Int) % 10)] 5)) := by
  have := run_convert_bytes_back (P := Try.prog) (w.alloc (.cells #[.int .u8 (48 + (m : Int) % 10)] 5)) 106 9 5 ⟨w.heap.size, 0, none⟩ 1 [UInt8.ofNat (48 + m % 10)] Try.underlying106 Try.underlying5 Try.underlying9 (fun j hj => by
    obtain rfl : j = 0 := by simpa using hj
    have : (UInt8.ofNat (48 + m % 10)).toNat = 48 + m % 10 := by simp; omega
    simp [Addr.add, go_sem]
    omega)
  exact this
theorem bcat (a b : List UInt8) : (⟨a.toArray⟩ : ByteArray) ++ ⟨b.toArray⟩ = ⟨(a ++ b).toArray⟩ := by
  apply ByteArray.ext
  simp
theorem dig_cons (m : Nat) (acc : List UInt8) : (⟨#[48 + UInt8.ofNat (m % 10)]⟩ : ByteArray) ++ ⟨acc.toArray⟩ = ⟨(UInt8.ofNat (48 + m % 10) :: acc).toArray⟩ := by
  have := bcat [48 + UInt8.ofNat (m % 10)] acc
  rw [UInt8.ofNat_add]
  exact this
def mtx (q : Nat) : ByteArray := ⟨(109 :: Lib.decDigits q).toArray⟩
set_option maxRecDepth 100000 in
theorem mtx_any (N : Nat) (h0 : 0 < N) (hN : N ≤ 1000000000000) (w : World) : Calls Try.prog 52 #[.int .i64 (N : Int)] w fun e w' => e = .returned (.string (mtx N)) ∧ Below w.heap.size w w' := by
  have g2 : ¬ ((N : Int) ≤ 0) := by omega
  have hLN : (Lib.decDigits N).length ≤ 21 := by
    have h1 := Lib.itoa_length_le (N : Int) (by omega) (by omega)
    rwa [Lib.itoa_nonneg] at h1
  go_enter Try.func52, Try.ntmps52
  go_wp2
  go_loopw [0, 3] (fun i o wr => ∃ (m : Nat) (acc : List UInt8), m ≤ 1000000000000 ∧ i = .int .i64 (m : Int) ∧ o = .string ⟨acc.toArray⟩ ∧ Hid ((0 < m ∧ Lib.decDigits N = Lib.decDigits m ++ acc) ∨ (m = 0 ∧ Lib.decDigits N = acc)) ∧ Below w.heap.size w wr) (fun i _ _ => (intOf i).toNat)
  case atStart => exact ⟨N, [], hN, rfl, rfl, Lib.hid (.inl ⟨h0, by simp⟩), Below.refl _ _⟩
  case round =>
    obtain ⟨m, acc, hm, rfl, rfl, hd, hb⟩ := hrel
    have hcv := conv1 wr m
    have hL : acc.length ≤ 21 := by
      rcases hd.out with ⟨_, h⟩ | ⟨_, h⟩
      · rw [h, List.length_append] at hLN; omega
      · rw [← h]; exact hLN
    by_cases hm0 : 0 < m
    · go_wp2
      have hdd : Lib.decDigits N = Lib.decDigits m ++ acc := by
        rcases hd.out with ⟨_, h⟩ | ⟨h, _⟩
        · exact h
        · omega
      refine ⟨⟨m / 10, UInt8.ofNat (48 + m % 10) :: acc, by omega, rfl, by rw [dig_cons], Lib.hid ?_, hb.alloc hb.size _⟩, by simp [intOf]; omega⟩
      rw [hdd, Lib.decDigits]
      by_cases h10 : m < 10
      · right
        refine ⟨by omega, ?_⟩
        rw [dif_pos h10, Nat.mod_eq_of_lt h10]; rfl
      · left
        refine ⟨by omega, ?_⟩
        rw [dif_neg h10]; simp
    · have hdd : Lib.decDigits N = acc := by
        rcases hd.out with ⟨h, _⟩ | ⟨_, h⟩
        · omega
        · exact h
      have HD := Lib.hid hdd
      clear hdd
      go_wp2
      go_ret
      refine ⟨?_, hb⟩
      unfold mtx
      rw [HD.out]
      exact congrArg (fun x => Ending.returned (.string x)) (bcat [109] acc)

/-- The cells of a node and of a function that name its lists. -/
def keepAt (t : TypeId) (j : Nat) : Prop := (t = 52 ∧ 6 ≤ j % 8) ∨ (t = 47 ∧ 4 ≤ j % 7)
/-- Of the old blocks those with P alone have turned, and they keep their type, their size and the cells that name lists. -/
structure Turn (P : Nat → Prop) (w w' : World) : Prop where
  but : But P w w'
  kept : ∀ g t cs, Blk w g t cs → ∃ cs', Blk w' g t cs' ∧ cs'.size = cs.size ∧ ∀ j, keepAt t j → cs'[j]? = cs[j]?
section
variable {P Q : Nat → Prop} {a w w' : World} {g : Nat} {t : TypeId} {cs : Array Value}
theorem Turn.refl (P : Nat → Prop) (w : World) : Turn P w w := ⟨But.refl _ _, fun g t cs h => ⟨cs, h, rfl, fun _ _ => rfl⟩⟩
theorem Turn.trans (h : Turn P a w) (k : Turn P w w') : Turn P a w' := ⟨h.but.trans k.but, fun g t cs hb => by
  obtain ⟨c1, h1, h2, h3⟩ := h.kept g t cs hb
  obtain ⟨c2, k1, k2, k3⟩ := k.kept g t c1 h1
  exact ⟨c2, k1, k2.trans h2, fun j hj => (k3 j hj).trans (h3 j hj)⟩⟩
theorem Turn.of_below (h : Below w.heap.size w w') : Turn P w w' := ⟨But.of_below h, fun g t cs hb => ⟨cs, hb.below h hb.lt, rfl, fun _ _ => rfl⟩⟩
theorem Turn.below (h : Turn P a w) (k : Below w.heap.size w w') : Turn P a w' := h.trans (Turn.of_below k)
theorem Turn.alloc (h : Turn P a w) (o : Obj) : Turn P a (w.alloc o) := h.below (below_new w o)
theorem Turn.mono (h : Turn P w w') (hpq : ∀ k, P k → Q k) : Turn Q w w' := ⟨h.but.mono fun k _ hk => hpq k hk, h.kept⟩
theorem Blk.uniq {t' : TypeId} {cs' : Array Value} (h : Blk w g t cs) (h' : Blk w g t' cs') : t = t' ∧ cs = cs' := by
  unfold Blk at h h'
  rw [h] at h'
  injection h' with h'
  injection h' with h1 h2
  exact ⟨h2, h1⟩
theorem Turn.set (h : Turn P a w) (hb : Blk a g t cs) (hp : P g) {i : Nat} (hk : ¬ keepAt t i) (u : Value) : Turn P a (w.setCell ⟨g, i, none⟩ u) := ⟨h.but.set hp i u, fun g' t' cs' hb' => by
  obtain ⟨c1, h1, h2, h3⟩ := h.kept g' t' cs' hb'
  by_cases e : g' = g
  · subst e
    obtain ⟨rfl, rfl⟩ := hb.uniq hb'
    refine ⟨c1.setIfInBounds i u, h1.set_ i u, by simpa using h2, fun j hj => ?_⟩
    rw [Array.getElem?_setIfInBounds_ne (by rintro rfl; exact hk hj)]
    exact h3 j hj
  · exact ⟨c1, h1.far (by simpa using e) u, h2, h3⟩⟩
theorem Turn.cellEx (h : Turn P a w) (hb : Blk a g t cs) {i : Nat} (hi : i < cs.size) : ∃ u, w.cell? ⟨g, i, none⟩ = some u := by
  obtain ⟨c1, h1, h2, -⟩ := h.kept g t cs hb
  exact ⟨c1[i]'(by omega), by rw [h1.cell, Array.getElem?_eq_getElem]⟩
theorem Turn.fz (h : Turn P a w) (hb : Blk a g t cs) (i : Nat) : w.frozen? ⟨g, i, none⟩ = false := by
  obtain ⟨c1, h1, -⟩ := h.kept g t cs hb
  exact h1.frozen i
theorem Turn.lt (h : Turn P a w) (hb : Blk a g t cs) : g < w.heap.size := Nat.lt_of_lt_of_le hb.lt h.but.size
theorem Turn.keep (h : Turn P a w) (hb : Blk a g t cs) {i : Nat} (hk : keepAt t i) : w.cell? ⟨g, i, none⟩ = a.cell? ⟨g, i, none⟩ := by
  obtain ⟨c1, h1, -, h3⟩ := h.kept g t cs hb
  rw [h1.cell, hb.cell]
  exact h3 i hk
end
/-- A list of n records of sz cells that a mark may write: a block with P. -/
def Ar (P : Nat → Prop) (w : World) (A : Option Addr) (n sz : Nat) (t : TypeId) : Prop := 0 < n → ∃ g cs, A = some ⟨g, 0, none⟩ ∧ P g ∧ Blk w g t cs ∧ n * sz ≤ cs.size
theorem Ar.turn {P Q : Nat → Prop} {w w' : World} {A : Option Addr} {n sz : Nat} {t : TypeId} (h : Ar P w A n sz t) (k : Turn Q w w') : Ar P w' A n sz t := fun h0 => by
  obtain ⟨g, cs, e, hp, hb, hs⟩ := h h0
  obtain ⟨c1, h1, h2, -⟩ := k.kept g t cs hb
  exact ⟨g, c1, e, hp, h1, by omega⟩
theorem Ar.of_wr {w : World} {lo hi : Nat} {A : Option Addr} {n sz : Nat} {t : TypeId} (h : Wr w lo A n sz t) (hh : w.heap.size ≤ hi) : Ar (fun g => lo ≤ g ∧ g < hi) w A n sz t := fun h0 => by
  obtain ⟨g, cs, e, hl, hb, hs⟩ := h h0
  exact ⟨g, cs, e, ⟨hl, Nat.lt_of_lt_of_le hb.lt hh⟩, hb, hs⟩
def markI (q n : Nat) : List Int := (List.range n).map fun (i : Nat) => (q : Int) + (i : Int)
theorem markI_len (q n : Nat) : (markI q n).length = n := by simp [markI]
theorem markI_at (q n k : Nat) (h : k < n) : (markI q n)[k]? = some ((q : Int) + (k : Int)) := by simp [markI, h]
set_option maxRecDepth 100000 in
theorem markis_any (P : Nat → Prop) (A : Option Addr) (n c : Nat) (q : Nat) (w : World) (h : Ar P w A n 1 3) (hq : q + n ≤ 1000000000000) (hn : n ≤ maxLen) :
    Calls Try.prog 15 #[.slice A n c, .int .i64 (q : Int)] w fun e w' => e = .returned (.int .i64 ((q + n : Nat) : Int)) ∧ RdL encI 1 w' 0 A (markI q n) ∧ Turn P w w' := by
  unfold maxLen at hn
  by_cases h0 : 0 < n
  · obtain ⟨g, cs0, rfl, hp, hblk0, hcs0⟩ := h h0
    have HB0 := Lib.hid hblk0
    clear h hblk0
    go_enter Try.func15, Try.ntmps15
    go_wp2
    go_loopw [1, 5] (fun l i wr => ∃ (k : Nat) (cs : Array Value), k ≤ n ∧ i = .int .i64 k ∧ l = .int .i64 ((q + k : Nat) : Int) ∧ Blk wr g 3 cs ∧ n * 1 ≤ cs.size ∧ Full encI 1 cs (markI q n) k ∧ Turn P w wr) (fun _ i _ => n - (intOf i).toNat)
    case atStart => exact ⟨0, cs0, Nat.zero_le _, rfl, by simp, HB0.out, by omega, Full.zero, Turn.refl _ _⟩
    case round =>
      obtain ⟨k, cs, hk, rfl, rfl, hblk, hsz, hfull, hwin⟩ := hrel
      by_cases hlt : k < n
      · have HS := Lib.hid hsz
        have HBk := Lib.hid hblk
        have HF := Lib.hid hfull
        have HW := Lib.hid hwin
        have hgw := hblk.lt
        obtain ⟨d0, hd0⟩ : ∃ u, wr.cell? ⟨g, k, none⟩ = some u := ⟨cs[k]'(by omega), by rw [hblk.cell, Array.getElem?_eq_getElem]⟩
        have fz : ∀ j, wr.frozen? ⟨g, j, none⟩ = false := fun j => hblk.frozen j
        clear hblk hsz hcs0 hfull hwin
        go_wp2
        refine ⟨⟨k + 1, putL cs (k * 1) (encI ((q : Int) + (k : Int))), by omega, by go_num, ?_, ?_, by rw [putL_size]; exact HS.out, HF.out.put (markI_at q n k hlt) (fun _ => rfl) (by rw [markI_len]; exact HS.out), (HW.out).set HB0.out hp (by unfold keepAt; simp) _⟩, by simp [intOf]; omega⟩
        · exact congrArg (Value.int .i64) (by omega)
        · rw [Nat.mul_one]; exact (HBk.out).set_ k _
      · have hkk : k = n := by omega
        subst hkk
        have hrd : RdL encI 1 wr 0 (some ⟨g, 0, none⟩) (markI q k) := rd_of_blk hblk (Nat.zero_le _) (by rw [markI_len]; exact hfull)
        clear hblk hsz hcs0 hfull
        go_wp2
        go_ret
        exact ⟨rfl, hrd, hwin⟩
  · obtain rfl : n = 0 := by omega
    clear h
    go_enter Try.func15, Try.ntmps15
    go_wp2
    go_loop [1, 5] (fun l i => i = .int .i64 0 ∧ l = .int .i64 (q : Int)) (fun _ _ => 0)
    case atStart => exact ⟨rfl, rfl⟩
    case round =>
      obtain ⟨rfl, rfl⟩ := hrel
      go_wp2
      go_ret
      exact ⟨rfl, rd_empty (markI_len _ _), Turn.refl _ _⟩
theorem heldis_any (A : Option Addr) (n c q : Nat) (w : World) (lo : Nat) (h : RdL encI 1 w lo A (markI q n)) (hq : q + n ≤ 1000000000000) (hn : n ≤ maxLen) :
    Calls Try.prog 16 #[.slice A n c, .int .i64 (q : Int)] w fun e w' => e = .returned (.int .i64 ((q + n : Nat) : Int)) ∧ Below w.heap.size w w' := by
  unfold maxLen at hn
  go_enter Try.func16, Try.ntmps16
  go_wp2
  go_loopw [1, 5] (fun l i wr => ∃ k : Nat, k ≤ n ∧ i = .int .i64 k ∧ l = .int .i64 ((q + k : Nat) : Int) ∧ Below w.heap.size w wr) (fun _ i _ => n - (intOf i).toNat)
  case atStart => exact ⟨0, Nat.zero_le _, rfl, by simp, Below.refl _ _⟩
  case round =>
    obtain ⟨k, hk, rfl, rfl, hbel⟩ := hrel
    by_cases hlt : k < n
    · obtain ⟨b, off, rfl, hlo, hb, c0⟩ := rdI_at (h.below hbel) (markI_at q n k hlt)
      clear h
      have k1 : (0 : Int) ≤ k := by omega
      have k2 : (k : Int) < n := by omega
      go_wp2
      exact ⟨⟨k + 1, by omega, by go_num, congrArg (Value.int .i64) (by omega), hbel⟩, by simp [intOf]; omega⟩
    · have hkk : k = n := by omega
      subst hkk
      clear h
      go_wp2
      go_ret
      exact ⟨rfl, hbel⟩
set_option maxRecDepth 100000 in
theorem markss_any (P : Nat → Prop) (A : Option Addr) (n c : Nat) (q : Nat) (w : World) (h : Ar P w A n 1 9) (h1 : 0 < q) (hq : q + n ≤ 1000000000000) (hn : n ≤ maxLen) :
    Calls Try.prog 53 #[.slice A n c, .int .i64 (q : Int)] w fun e w' => e = .returned (.int .i64 ((q + n : Nat) : Int)) ∧ Turn P w w' := by
  unfold maxLen at hn
  by_cases h0 : 0 < n
  · obtain ⟨g, cs0, rfl, hp, hblk0, hcs0⟩ := h h0
    have HB0 := Lib.hid hblk0
    clear h hblk0
    go_enter Try.func53, Try.ntmps53
    go_wp2
    go_loopw [1, 5] (fun l i wr => ∃ (k : Nat), k ≤ n ∧ i = .int .i64 k ∧ l = .int .i64 ((q + k : Nat) : Int) ∧ Turn P w wr) (fun _ i _ => n - (intOf i).toNat)
    case atStart => exact ⟨0, Nat.zero_le _, rfl, by simp, Turn.refl _ _⟩
    case round =>
      obtain ⟨k, hk, rfl, rfl, hwin⟩ := hrel
      by_cases hlt : k < n
      · have HW := Lib.hid hwin
        have hgw := hwin.lt HB0.out
        clear hwin
        go_wp2_with fail
        refine (mtx_any (q + k) (by omega) (by omega) _).mono ?_
        rintro e w1 ⟨rfl, hb1⟩
        have HW1 := Lib.hid (HW.out.below hb1)
        have hgw1 : g < w1.heap.size := HW1.out.lt HB0.out
        obtain ⟨d0, hd0⟩ := HW1.out.cellEx HB0.out (i := k) (by omega)
        have fz : ∀ j, w1.frozen? ⟨g, j, none⟩ = false := HW1.out.fz HB0.out
        clear hb1 hcs0
        go_wp2
        refine ⟨⟨k + 1, by omega, by go_num, ?_, (HW1.out).set HB0.out hp (by unfold keepAt; simp) _⟩, by simp [intOf]; omega⟩
        exact congrArg (Value.int .i64) (by omega)
      · have hkk : k = n := by omega
        subst hkk
        clear hcs0
        go_wp2
        go_ret
        exact ⟨rfl, hwin⟩
  · obtain rfl : n = 0 := by omega
    clear h
    go_enter Try.func53, Try.ntmps53
    go_wp2
    go_loop [1, 5] (fun l i => i = .int .i64 0 ∧ l = .int .i64 (q : Int)) (fun _ _ => 0)
    case atStart => exact ⟨rfl, rfl⟩
    case round =>
      obtain ⟨rfl, rfl⟩ := hrel
      go_wp2
      go_ret
      exact ⟨rfl, Turn.refl _ _⟩
set_option maxRecDepth 100000 in
theorem markus_any (P : Nat → Prop) (A : Option Addr) (n c : Nat) (q : Nat) (w : World) (h : Ar P w A n 2 60) (hq : q + 2 * n ≤ 1000000000000) (hn : n ≤ maxLen) :
    Calls Try.prog 54 #[.slice A n c, .int .i64 (q : Int)] w fun e w' => e = .returned (.int .i64 ((q + 2 * n : Nat) : Int)) ∧ Turn P w w' := by
  unfold maxLen at hn
  by_cases h0 : 0 < n
  · obtain ⟨g, cs0, rfl, hp, hblk0, hcs0⟩ := h h0
    have HB0 := Lib.hid hblk0
    clear h hblk0
    go_enter Try.func54, Try.ntmps54
    go_wp2
    go_loopw [1, 5] (fun l i wr => ∃ (k : Nat), k ≤ n ∧ i = .int .i64 k ∧ l = .int .i64 ((q + 2 * k : Nat) : Int) ∧ Turn P w wr) (fun _ i _ => n - (intOf i).toNat)
    case atStart => exact ⟨0, Nat.zero_le _, rfl, by simp, Turn.refl _ _⟩
    case round =>
      obtain ⟨k, hk, rfl, rfl, hwin⟩ := hrel
      by_cases hlt : k < n
      · have HW := Lib.hid hwin
        have hgw := hwin.lt HB0.out
        obtain ⟨d0, hd0⟩ := HW.out.cellEx HB0.out (i := k * 2) (by omega)
        obtain ⟨d1, hd1⟩ := HW.out.cellEx HB0.out (i := k * 2 + 1) (by omega)
        have fz : ∀ j, wr.frozen? ⟨g, j, none⟩ = false := HW.out.fz HB0.out
        clear hwin hcs0
        go_wp2
        all_goals
          refine ⟨⟨k + 1, by omega, by go_num, ?_, ((HW.out).set HB0.out hp (by unfold keepAt; simp) _).set HB0.out hp (by unfold keepAt; simp) _⟩, by simp [intOf]; omega⟩
          exact congrArg (Value.int .i64) (by omega)
      · have hkk : k = n := by omega
        subst hkk
        clear hcs0
        go_wp2
        go_ret
        exact ⟨rfl, hwin⟩
  · obtain rfl : n = 0 := by omega
    clear h
    go_enter Try.func54, Try.ntmps54
    go_wp2
    go_loop [1, 5] (fun l i => i = .int .i64 0 ∧ l = .int .i64 (q : Int)) (fun _ _ => 0)
    case atStart => exact ⟨rfl, rfl⟩
    case round =>
      obtain ⟨rfl, rfl⟩ := hrel
      go_wp2
      go_ret
      exact ⟨rfl, Turn.refl _ _⟩
/-- The same with a whole number as the mark. -/
theorem mtxZ (z : Int) (h0 : 0 < z) (hz : z ≤ 1000000000000) (w : World) : Calls Try.prog 52 #[.int .i64 z] w fun e w' => ∃ s, e = .returned (.string s) ∧ Below w.heap.size w w' := by
  obtain ⟨N, rfl⟩ : ∃ N : Nat, z = N := ⟨z.toNat, by omega⟩
  exact (mtx_any N (by omega) (by omega) w).mono fun e w' ⟨h, hb⟩ => ⟨_, h, hb⟩
theorem markisZ (P : Nat → Prop) (A : Option Addr) (n c : Nat) (z : Int) (w : World) (h : Ar P w A n 1 3) (h0 : 0 ≤ z) (hq : z + n ≤ 1000000000000) (hn : n ≤ maxLen) :
    Calls Try.prog 15 #[.slice A n c, .int .i64 z] w fun e w' => e = .returned (.int .i64 (z + n)) ∧ Turn P w w' := by
  obtain ⟨N, rfl⟩ : ∃ N : Nat, z = N := ⟨z.toNat, by omega⟩
  exact (markis_any P A n c N w h (by omega) hn).mono fun e w' ⟨h, _, hb⟩ => ⟨by rw [h]; simp, hb⟩
theorem markssZ (P : Nat → Prop) (A : Option Addr) (n c : Nat) (z : Int) (w : World) (h : Ar P w A n 1 9) (h0 : 0 < z) (hq : z + n ≤ 1000000000000) (hn : n ≤ maxLen) :
    Calls Try.prog 53 #[.slice A n c, .int .i64 z] w fun e w' => e = .returned (.int .i64 (z + n)) ∧ Turn P w w' := by
  obtain ⟨N, rfl⟩ : ∃ N : Nat, z = N := ⟨z.toNat, by omega⟩
  exact (markss_any P A n c N w h (by omega) (by omega) hn).mono fun e w' ⟨h, hb⟩ => ⟨by rw [h]; simp, hb⟩
theorem markusZ (P : Nat → Prop) (A : Option Addr) (n c : Nat) (z : Int) (w : World) (h : Ar P w A n 2 60) (h0 : 0 ≤ z) (hq : z + 2 * n ≤ 1000000000000) (hn : n ≤ maxLen) :
    Calls Try.prog 54 #[.slice A n c, .int .i64 z] w fun e w' => e = .returned (.int .i64 (z + 2 * n)) ∧ Turn P w w' := by
  obtain ⟨N, rfl⟩ : ∃ N : Nat, z = N := ⟨z.toNat, by omega⟩
  exact (markus_any P A n c N w h (by omega) hn).mono fun e w' ⟨h, hb⟩ => ⟨by rw [h]; simp, hb⟩
/-- Nodes that a mark may write; a node's own slices lie as 'ls' says. -/
def ShN (P : Nat → Prop) (w : World) (A : Option Addr) (ls : List LN) : Prop := Ar P w A ls.length 8 52 ∧ (∀ g o, A = some ⟨g, o, none⟩ → ∀ i l, ls[i]? = some l → w.cell? ⟨g, i * 8 + 6, none⟩ = some (.slice l.ra l.nd.refs.length l.rc) ∧ w.cell? ⟨g, i * 8 + 7, none⟩ = some (.slice l.ka l.nd.kids.length l.kc)) ∧ ∀ l ∈ ls, Ar P w l.ra l.nd.refs.length 1 3 ∧ Ar P w l.ka l.nd.kids.length 1 3
theorem ShN.turn {P : Nat → Prop} {w w' : World} {A : Option Addr} {ls : List LN} (h : ShN P w A ls) (k : Turn P w w') : ShN P w' A ls := by
  refine ⟨h.1.turn k, fun g o e i l hl => ?_, fun l hl => ⟨(h.2.2 l hl).1.turn k, (h.2.2 l hl).2.turn k⟩⟩
  have hi := (List.getElem?_eq_some_iff.1 hl).1
  obtain ⟨g', cs, e', hp, hb, hs⟩ := h.1 (by omega)
  rw [e] at e'
  injection e' with e'
  injection e' with e1 e2
  subst e1
  obtain ⟨k1, k2⟩ := h.2.1 g o e i l hl
  rw [k.keep hb (i := i * 8 + 6) (by unfold keepAt; first | (simp; done) | (simp; omega) | omega), k.keep hb (i := i * 8 + 7) (by unfold keepAt; first | (simp; done) | (simp; omega) | omega)]
  exact ⟨k1, k2⟩
theorem ShN.of {w : World} {lo hi : Nat} {A : Option Addr} {ls : List LN} (h : RdN w lo A ls) (k : WrNs w lo A ls) (hh : w.heap.size ≤ hi) : ShN (fun g => lo ≤ g ∧ g < hi) w A ls := by
  refine ⟨Ar.of_wr k.1 hh, fun g o e i l hl => ?_, fun l hl => ⟨Ar.of_wr (k.2 l hl).1 hh, Ar.of_wr (k.2 l hl).2.1 hh⟩⟩
  have hi := (List.getElem?_eq_some_iff.1 hl).1
  obtain ⟨g', cs, e', -⟩ := k.1 (by omega)
  obtain ⟨b, off, e2, -, -, hc⟩ := h.1 (by omega)
  rw [e'] at e e2
  injection e with e; injection e with e1 e3; subst e1
  injection e2 with e2; injection e2 with e4 e5; subst e4; subst e5
  have c6 := hc i l hl 6 _ rfl
  have c7 := hc i l hl 7 _ rfl
  rw [Nat.zero_add] at c6 c7
  exact ⟨c6, c7⟩
def cntN (l : LN) : Nat := 6 + l.nd.refs.length + l.nd.kids.length
set_option maxRecDepth 100000 in
set_option maxHeartbeats 4000000 in
theorem markns_any (P : Nat → Prop) (A : Option Addr) (c : Nat) (ls : List LN) (z : Int) (w : World) (h : ShN P w A ls) (hf : ∀ l ∈ ls, fitN l) (h1 : 0 < z) (hq : z + (totW cntN ls : Nat) ≤ 1000000000000) (hn : ls.length ≤ maxLen) :
    Calls Try.prog 55 #[.slice A ls.length c, .int .i64 z] w fun e w' => e = .returned (.int .i64 (z + (totW cntN ls : Nat))) ∧ Turn P w w' := by
  unfold maxLen at hn
  have H := Lib.hid h; have HF := Lib.hid hf; have HQ := Lib.hid hq
  by_cases h0 : 0 < ls.length
  · obtain ⟨g, cs0, rfl, hp, hblk0, hcs0⟩ := h.1 h0
    have HB0 := Lib.hid hblk0; have HC0 := Lib.hid hcs0
    clear h hf hblk0 hcs0 hq
    go_enter Try.func55, Try.ntmps55
    go_wp2
    go_loopw [1, 5] (fun l i wr => ∃ (k : Nat) (p : Int), k ≤ ls.length ∧ i = .int .i64 k ∧ l = .int .i64 p ∧ Hid (p = z + (totW cntN (ls.take k) : Nat)) ∧ 0 < p ∧ Turn P w wr) (fun _ i _ => ls.length - (intOf i).toNat)
    case atStart => exact ⟨0, z, Nat.zero_le _, rfl, rfl, Lib.hid (by simp [totW]), h1, Turn.refl _ _⟩
    case round =>
      obtain ⟨k, p, hk, rfl, rfl, HP, hp0, hwin⟩ := hrel
      by_cases hlt : k < ls.length
      · obtain ⟨l, hl⟩ : ∃ l, ls[k]? = some l := ⟨_, List.getElem?_eq_getElem hlt⟩
        have hmem : l ∈ ls := List.mem_of_getElem? hl
        obtain ⟨-, f1, f2⟩ := HF.out l hmem
        have hstep := totW_take cntN ls k l hl
        have hle := totW_le cntN ls (k + 1)
        have hbd : p + 6 + l.nd.refs.length + l.nd.kids.length ≤ 1000000000000 := by
          have e1 := HP.out; have e2 := HQ.out
          unfold cntN at hstep
          unfold cntN at e1 e2 hle
          omega
        have HP2 : Hid (p + 6 + l.nd.refs.length + l.nd.kids.length = z + (totW cntN (ls.take (k + 1)) : Nat)) := Lib.hid (by
          have e1 := HP.out
          rw [hstep, e1]
          have : cntN l = 6 + l.nd.refs.length + l.nd.kids.length := rfl
          omega)
        clear hstep hle
        have HM := Lib.hid hmem; have HL := Lib.hid hl
        have HW := Lib.hid hwin
        have hgw := hwin.lt HB0.out
        have hcs := HC0.out
        obtain ⟨d0, hd0⟩ := HW.out.cellEx HB0.out (i := k * 8) (by omega)
        obtain ⟨d1, hd1⟩ := HW.out.cellEx HB0.out (i := k * 8 + 1) (by omega)
        obtain ⟨d2, hd2⟩ := HW.out.cellEx HB0.out (i := k * 8 + 2) (by omega)
        obtain ⟨d3, hd3⟩ := HW.out.cellEx HB0.out (i := k * 8 + 3) (by omega)
        obtain ⟨d4, hd4⟩ := HW.out.cellEx HB0.out (i := k * 8 + 4) (by omega)
        have fz : ∀ j, wr.frozen? ⟨g, j, none⟩ = false := HW.out.fz HB0.out
        have hh : k * 8 + 8 ≤ cs0.size := by omega
        clear hwin hcs hmem hl HP HQ
        have HH := Lib.hid hh
        clear hh
        go_wp2_with fail
        refine (mtxZ _ (by omega) (by omega) _).mono ?_
        rintro e w1 ⟨s1, rfl, hb1⟩
        have HW1 : Hid (Turn P w w1) := Lib.hid (Turn.below (by have hx := HW.out; (repeat (first | with_reducible assumption | ((with_reducible refine Turn.set ?_ HB0.out hp (by unfold keepAt; first | (simp; done) | (simp; omega) | omega) _))))) hb1)
        have hgw1 : g < w1.heap.size := HW1.out.lt HB0.out
        obtain ⟨x5, hx5⟩ := HW1.out.cellEx HB0.out (i := k * 8 + 5) (by have := HH.out; omega)
        obtain ⟨hx6, -⟩ := (H.out.turn HW1.out).2.1 g 0 rfl k l HL.out
        have fz1 : ∀ j, w1.frozen? ⟨g, j, none⟩ = false := HW1.out.fz HB0.out
        clear hb1 hd0 hd1 hd2 hd3 hd4 fz hgw
        go_wp2_with fail
        refine (markisZ P l.ra l.nd.refs.length l.rc _ _ (((H.out.2.2 l HM.out).1.turn HW1.out).turn (Turn.set (P := P) (Turn.refl _ _) (((HW1.out.kept _ _ _ HB0.out).choose_spec).1) hp (by unfold keepAt; first | (simp; done) | (simp; omega) | omega) _)) (by omega) (by omega) f1).mono ?_
        rintro e w2 ⟨rfl, ht2⟩
        have HW2 : Hid (Turn P w w2) := Lib.hid (Turn.trans (by have hx := HW1.out; (repeat (first | with_reducible assumption | ((with_reducible refine Turn.set ?_ HB0.out hp (by unfold keepAt; first | (simp; done) | (simp; omega) | omega) _))))) ht2)
        have hgw2 : g < w2.heap.size := HW2.out.lt HB0.out
        obtain ⟨-, hx7⟩ := (H.out.turn HW2.out).2.1 g 0 rfl k l HL.out
        have fz2 : ∀ j, w2.frozen? ⟨g, j, none⟩ = false := HW2.out.fz HB0.out
        clear ht2 hx5 hx6 fz1 hgw1
        go_wp2_with fail
        refine (markisZ P l.ka l.nd.kids.length l.kc _ _ ((H.out.2.2 l HM.out).2.turn HW2.out) (by omega) (by omega) f2).mono ?_
        rintro e w3 ⟨rfl, ht3⟩
        have HW3 : Hid (Turn P w w3) := Lib.hid (Turn.trans HW2.out ht3)
        have hgw3 : g < w3.heap.size := HW3.out.lt HB0.out
        clear ht3 hx7 fz2 hgw2
        go_wp2
        refine ⟨⟨k + 1, _, by omega, by go_num, rfl, Lib.hid ?_, by omega, HW3.out⟩, by simp [intOf]; omega⟩
        rw [← HP2.out]; omega
      · have hkk : k = ls.length := by omega
        subst hkk
        have HE : Hid (p = z + (totW cntN ls : Nat)) := Lib.hid (by have := HP.out; rwa [List.take_length] at this)
        clear HC0 HP
        go_wp2
        go_ret
        exact ⟨congrArg (fun x => Ending.returned (.int .i64 x)) HE.out, hwin⟩
  · have hl0 : ls.length = 0 := by omega
    obtain rfl : ls = [] := List.eq_nil_of_length_eq_zero hl0
    clear h H HQ hq
    go_enter Try.func55, Try.ntmps55
    go_wp2
    go_loop [1, 5] (fun l i => i = .int .i64 0 ∧ l = .int .i64 z) (fun _ _ => 0)
    case atStart => exact ⟨rfl, rfl⟩
    case round =>
      obtain ⟨rfl, rfl⟩ := hrel
      go_wp2
      go_ret
      exact ⟨by simp [totW], Turn.refl _ _⟩
/-- Functions that a mark may write. -/
def ShF (P : Nat → Prop) (w : World) (A : Option Addr) (fs : List LF) : Prop := Ar P w A fs.length 7 47 ∧ (∀ g o, A = some ⟨g, o, none⟩ → ∀ i f, fs[i]? = some f → w.cell? ⟨g, i * 7 + 4, none⟩ = some (.slice f.va f.vars.length f.vc) ∧ w.cell? ⟨g, i * 7 + 5, none⟩ = some (.slice f.ua f.ups.length f.uc) ∧ w.cell? ⟨g, i * 7 + 6, none⟩ = some (.slice f.na f.ns.length f.nc)) ∧ ∀ f ∈ fs, Ar P w f.va f.vars.length 1 9 ∧ Ar P w f.ua f.ups.length 2 60 ∧ ShN P w f.na f.ns
theorem ShF.turn {P : Nat → Prop} {w w' : World} {A : Option Addr} {fs : List LF} (h : ShF P w A fs) (k : Turn P w w') : ShF P w' A fs := by
  refine ⟨h.1.turn k, fun g o e i f hf => ?_, fun f hf => ⟨(h.2.2 f hf).1.turn k, (h.2.2 f hf).2.1.turn k, (h.2.2 f hf).2.2.turn k⟩⟩
  have hi := (List.getElem?_eq_some_iff.1 hf).1
  obtain ⟨g', cs, e', hp, hb, hs⟩ := h.1 (by omega)
  rw [e] at e'
  injection e' with e'
  injection e' with e1 e2
  subst e1
  obtain ⟨k1, k2, k3⟩ := h.2.1 g o e i f hf
  rw [k.keep hb (i := i * 7 + 4) (by unfold keepAt; first | (simp; done) | (simp; omega) | omega), k.keep hb (i := i * 7 + 5) (by unfold keepAt; first | (simp; done) | (simp; omega) | omega), k.keep hb (i := i * 7 + 6) (by unfold keepAt; first | (simp; done) | (simp; omega) | omega)]
  exact ⟨k1, k2, k3⟩
theorem ShF.of {w : World} {lo hi : Nat} {A : Option Addr} {fs : List LF} (h : RdF w lo A fs) (k : WrFs w lo A fs) (hh : w.heap.size ≤ hi) : ShF (fun g => lo ≤ g ∧ g < hi) w A fs := by
  refine ⟨Ar.of_wr k.1 hh, fun g o e i f hf => ?_, fun f hf => ⟨Ar.of_wr (k.2 f hf).1 hh, Ar.of_wr (k.2 f hf).2.1 hh, ShN.of (h.2 f hf).2.2 (k.2 f hf).2.2 hh⟩⟩
  have hi := (List.getElem?_eq_some_iff.1 hf).1
  obtain ⟨g', cs, e', -⟩ := k.1 (by omega)
  obtain ⟨b, off, e2, -, -, hc⟩ := h.1 (by omega)
  rw [e'] at e e2
  injection e with e; injection e with e1 e3; subst e1
  injection e2 with e2; injection e2 with e4 e5; subst e4; subst e5
  have c4 := hc i f hf 4 _ rfl
  have c5 := hc i f hf 5 _ rfl
  have c6 := hc i f hf 6 _ rfl
  rw [Nat.zero_add] at c4 c5 c6
  exact ⟨c4, c5, c6⟩
def cntF (f : LF) : Nat := 4 + f.vars.length + 2 * f.ups.length + totW cntN f.ns
set_option maxRecDepth 100000 in
set_option maxHeartbeats 4000000 in
theorem markfs_any (P : Nat → Prop) (A : Option Addr) (c : Nat) (fs : List LF) (z : Int) (w : World) (h : ShF P w A fs) (hf : ∀ f ∈ fs, fitF f) (h1 : 0 < z) (hq : z + (totW cntF fs : Nat) ≤ 1000000000000) (hn : fs.length ≤ maxLen) :
    Calls Try.prog 34 #[.slice A fs.length c, .int .i64 z] w fun e w' => e = .returned (.int .i64 (z + (totW cntF fs : Nat))) ∧ Turn P w w' := by
  unfold maxLen at hn
  have H := Lib.hid h; have HF := Lib.hid hf; have HQ := Lib.hid hq
  by_cases h0 : 0 < fs.length
  · obtain ⟨g, cs0, rfl, hp, hblk0, hcs0⟩ := h.1 h0
    have HB0 := Lib.hid hblk0; have HC0 := Lib.hid hcs0
    clear h hf hblk0 hcs0 hq
    go_enter Try.func34, Try.ntmps34
    go_wp2
    go_loopw [1, 5] (fun l i wr => ∃ (k : Nat) (p : Int), k ≤ fs.length ∧ i = .int .i64 k ∧ l = .int .i64 p ∧ Hid (p = z + (totW cntF (fs.take k) : Nat)) ∧ 0 < p ∧ Turn P w wr) (fun _ i _ => fs.length - (intOf i).toNat)
    case atStart => exact ⟨0, z, Nat.zero_le _, rfl, rfl, Lib.hid (by simp [totW]), h1, Turn.refl _ _⟩
    case round =>
      obtain ⟨k, p, hk, rfl, rfl, HP, hp0, hwin⟩ := hrel
      by_cases hlt : k < fs.length
      · obtain ⟨l, hl⟩ : ∃ l, fs[k]? = some l := ⟨_, List.getElem?_eq_getElem hlt⟩
        have hmem : l ∈ fs := List.mem_of_getElem? hl
        obtain ⟨-, ⟨f1, -⟩, f2, f3, f4⟩ := HF.out l hmem
        have F4 := Lib.hid f4
        clear f4
        have hstep := totW_take cntF fs k l hl
        have hle := totW_le cntF fs (k + 1)
        have hcn : cntF l = 4 + l.vars.length + 2 * l.ups.length + totW cntN l.ns := rfl
        have hbd : p + 4 + l.vars.length + 2 * l.ups.length + (totW cntN l.ns : Nat) ≤ 1000000000000 := by
          have e1 := HP.out; have e2 := HQ.out
          omega
        have HP2 : Hid (p + 4 + l.vars.length + 2 * l.ups.length + (totW cntN l.ns : Nat) = z + (totW cntF (fs.take (k + 1)) : Nat)) := Lib.hid (by
          have e1 := HP.out
          omega)
        clear hstep hle hcn
        have HM := Lib.hid hmem; have HL := Lib.hid hl
        have HW := Lib.hid hwin
        have HH : Hid (k * 7 + 7 ≤ cs0.size) := Lib.hid (by have hcs := HC0.out; omega)
        clear hwin hmem hl HP HQ
        go_wp2_with fail
        refine (mtxZ _ (by omega) (by omega) _).mono ?_
        rintro e w1 ⟨s1, rfl, hb1⟩
        have HW1 : Hid (Turn P w w1) := Lib.hid (Turn.below HW.out hb1)
        have hgw1 : g < w1.heap.size := HW1.out.lt HB0.out
        obtain ⟨x0, hx0⟩ := HW1.out.cellEx HB0.out (i := k * 7) (by have := HH.out; omega)
        obtain ⟨x1, hx1⟩ := HW1.out.cellEx HB0.out (i := k * 7 + 1) (by have := HH.out; omega)
        obtain ⟨x2, hx2⟩ := HW1.out.cellEx HB0.out (i := k * 7 + 2) (by have := HH.out; omega)
        obtain ⟨x3, hx3⟩ := HW1.out.cellEx HB0.out (i := k * 7 + 3) (by have := HH.out; omega)
        obtain ⟨hx4, -, -⟩ := (H.out.turn HW1.out).2.1 g 0 rfl k l HL.out
        have fz1 : ∀ j, w1.frozen? ⟨g, j, none⟩ = false := HW1.out.fz HB0.out
        clear hb1 HW
        go_wp2_with fail
        refine (markssZ P l.va l.vars.length l.vc _ _ ((H.out.2.2 l HM.out).1.turn (show Turn P w _ from (by have hx := HW1.out; (repeat (first | with_reducible assumption | ((with_reducible refine Turn.set ?_ HB0.out hp (by unfold keepAt; first | (simp; done) | (simp; omega) | omega) _))))))) (by omega) (by omega) f1).mono ?_
        rintro e w2 ⟨rfl, ht2⟩
        have HW2 : Hid (Turn P w w2) := Lib.hid (Turn.trans (by have hx := HW1.out; (repeat (first | with_reducible assumption | ((with_reducible refine Turn.set ?_ HB0.out hp (by unfold keepAt; first | (simp; done) | (simp; omega) | omega) _))))) ht2)
        have hgw2 : g < w2.heap.size := HW2.out.lt HB0.out
        obtain ⟨-, hx5, -⟩ := (H.out.turn HW2.out).2.1 g 0 rfl k l HL.out
        have fz2 : ∀ j, w2.frozen? ⟨g, j, none⟩ = false := HW2.out.fz HB0.out
        clear ht2 hx0 hx1 hx2 hx3 hx4 fz1 hgw1
        go_wp2_with fail
        refine (markusZ P l.ua l.ups.length l.uc _ _ ((H.out.2.2 l HM.out).2.1.turn HW2.out) (by omega) (by omega) f2).mono ?_
        rintro e w3 ⟨rfl, ht3⟩
        have HW3 : Hid (Turn P w w3) := Lib.hid (Turn.trans HW2.out ht3)
        have hgw3 : g < w3.heap.size := HW3.out.lt HB0.out
        obtain ⟨-, -, hx6⟩ := (H.out.turn HW3.out).2.1 g 0 rfl k l HL.out
        have fz3 : ∀ j, w3.frozen? ⟨g, j, none⟩ = false := HW3.out.fz HB0.out
        clear ht3 hx5 fz2 hgw2
        go_wp2_with fail
        refine (markns_any P l.na l.nc l.ns _ _ ((H.out.2.2 l HM.out).2.2.turn HW3.out) F4.out (by omega) (by omega) f3).mono ?_
        rintro e w4 ⟨rfl, ht4⟩
        have HW4 : Hid (Turn P w w4) := Lib.hid (Turn.trans HW3.out ht4)
        have hgw4 : g < w4.heap.size := HW4.out.lt HB0.out
        clear ht4 hx6 fz3 hgw3
        go_wp2
        refine ⟨⟨k + 1, _, by omega, by go_num, rfl, Lib.hid ?_, by omega, HW4.out⟩, by simp [intOf]; omega⟩
        rw [← HP2.out]; omega
      · have hkk : k = fs.length := by omega
        subst hkk
        have HE : Hid (p = z + (totW cntF fs : Nat)) := Lib.hid (by have := HP.out; rwa [List.take_length] at this)
        clear HC0 HP
        go_wp2
        go_ret
        exact ⟨congrArg (fun x => Ending.returned (.int .i64 x)) HE.out, hwin⟩
  · have hl0 : fs.length = 0 := by omega
    obtain rfl : fs = [] := List.eq_nil_of_length_eq_zero hl0
    clear h H HQ hq
    go_enter Try.func34, Try.ntmps34
    go_wp2
    go_loop [1, 5] (fun l i => i = .int .i64 0 ∧ l = .int .i64 z) (fun _ _ => 0)
    case atStart => exact ⟨rfl, rfl⟩
    case round =>
      obtain ⟨rfl, rfl⟩ := hrel
      go_wp2
      go_ret
      exact ⟨by simp [totW], Turn.refl _ _⟩
set_option maxRecDepth 100000 in
theorem markun_any (P : Nat → Prop) (A : Option Addr) (c : Nat) (fs : List LF) (z : Int) (w : World) (h : ShF P w A fs) (hf : ∀ f ∈ fs, fitF f) (h1 : 0 < z) (hq : z + (totW cntF fs : Nat) ≤ 1000000000000) (hn : fs.length ≤ maxLen) :
    Calls Try.prog 14 #[.agg #[.slice A fs.length c], .int .i64 z] w fun e w' => e = .returned (.int .i64 (z + (totW cntF fs : Nat))) ∧ Turn P w w' := by
  have H := Lib.hid h; have HF := Lib.hid hf; have HQ := Lib.hid hq
  clear h hf hq
  go_enter Try.func14, Try.ntmps14
  go_wp2_with fail
  refine (markfs_any P A c fs z _ (H.out.turn (Turn.alloc (Turn.refl _ _) _)) HF.out h1 HQ.out hn).mono ?_
  rintro e w1 ⟨rfl, ht⟩
  go_wp2
  go_ret
  exact ⟨rfl, (Turn.alloc (Turn.refl _ _) _).trans ht⟩
theorem cntN_le : ∀ xs : List LN, totW cntN xs ≤ 6 * (xs.length + totW wN xs) := by
  intro xs
  induction xs with
  | nil => simp [totW]
  | cons x r ih =>
    simp only [totW, List.length_cons]
    have : cntN x ≤ 6 + wN x := by unfold cntN wN; omega
    omega
theorem cntF_le : ∀ xs : List LF, totW cntF xs ≤ 6 * (xs.length + totW wF xs) := by
  intro xs
  induction xs with
  | nil => simp [totW]
  | cons x r ih =>
    simp only [totW, List.length_cons]
    have : cntF x ≤ 4 + 6 * wF x := by have := cntN_le x.ns; unfold cntF wF; omega
    omega
end Go.Proofs.Ytcpjplkbmflglaa
