/- The size guard. -/
import Derived.Test.YtcpjplkbmflglaaU1
namespace Go.Proofs.Ytcpjplkbmflglaa
open Go.RowKit
attribute [local go_sem] run_store_float
theorem ret_int {k : IntKind} {a b : Int} (h : a = b) : Ending.returned (.int k a) = .returned (.int k b) := by rw [h]
theorem szs_any (A : Option Addr) (c : Nat) (xs : List ByteArray) (left : Int) (w : World) (lo : Nat) (h : RdL encS 1 w lo A xs) (hx : ∀ s ∈ xs, s.size ≤ maxLen) (hn : xs.length ≤ maxLen) (h0 : 0 ≤ left) (h1 : left ≤ 1048576) :
    Calls Try.prog 56 #[.slice A xs.length c, .int .i64 left] w fun e w' => e = .returned (.int .i64 (szS xs left)) ∧ w = w' := by
  unfold maxLen at hx hn
  by_cases hl : left - xs.length < 0
  · go_enter Try.func56, Try.ntmps56
    go_wp2
    go_ret
    refine ⟨?_, rfl⟩
    unfold szS negOr
    rw [if_pos (by omega)]; rfl
  · go_enter Try.func56, Try.ntmps56
    go_wp2
    go_loop [1, 5] (fun l i => ∃ k : Nat, k ≤ xs.length ∧ i = .int .i64 k ∧ l = .int .i64 (left - xs.length - totS (xs.take k)) ∧ 0 ≤ left - xs.length - totS (xs.take k)) (fun _ i => xs.length - (intOf i).toNat)
    case atStart => exact ⟨0, Nat.zero_le _, rfl, by simp [totS], by simp [totS]; omega⟩
    case round =>
      obtain ⟨k, hk, rfl, rfl, hp⟩ := hrel
      by_cases hlt : k < xs.length
      · obtain ⟨b, off, rfl, hlo, hb, hc⟩ := rdS_at h hlt
        have hsz := hx _ (List.getElem_mem hlt)
        have ht := Lib.hid (totS_take xs k hlt)
        have hle := totS_le xs (k + 1)
        clear hx h
        go_wp2
        · go_ret
          have ht' := ht.out
          refine ⟨?_, rfl⟩
          unfold szS negOr
          rw [if_pos (by omega)]; rfl
        · have ht' := ht.out
          refine ⟨⟨k + 1, by omega, by go_num, ?_, by omega⟩, by simp [intOf]; omega⟩
          rw [ht']; push_cast; go_num
      · have hkk : k = xs.length := by omega
        subst hkk
        clear hx h
        rw [List.take_length] at hp
        go_wp2
        go_ret
        refine ⟨?_, rfl⟩
        unfold szS negOr
        rw [if_neg (by omega)]; rfl

theorem szs2_any (A : Option Addr) (c : Nat) (xs : List ByteArray) (left : Int) (w : World) (lo : Nat) (h : RdL encS 1 w lo A xs) (hx : ∀ s ∈ xs, s.size ≤ maxLen) (hn : xs.length ≤ maxLen) (h0 : 0 ≤ left) (h1 : left ≤ 1048576) :
    Calls Try.prog 56 #[.slice A xs.length c, .int .i64 left] w fun e w' => e = .returned (.int .i64 (negOr (left - (xs.length + totS xs : Nat)))) ∧ Below w.heap.size w w' := by
  refine (szs_any A c xs left w lo h hx hn h0 h1).mono ?_
  rintro e w' ⟨rfl, rfl⟩
  exact ⟨by unfold szS; congr 3; push_cast; omega, Below.refl _ _⟩
theorem szi_any (A : Option Addr) (n c : Nat) (left : Int) (w : World) (hn : n ≤ maxLen) (h0 : 0 ≤ left) (h1 : left ≤ 1048576) :
    Calls Try.prog 95 #[.slice A n c, .int .i64 left] w fun e w' => e = .returned (.int .i64 (negOr (left - n))) ∧ w = w' := by
  unfold maxLen at hn
  by_cases hl : left - n < 0
  · rw [negOr_neg hl]
    go_enter Try.func95, Try.ntmps95
    go_wp2
    go_ret
    exact ⟨rfl, rfl⟩
  · rw [negOr_pos (by omega)]
    go_enter Try.func95, Try.ntmps95
    go_wp2
    go_ret
    exact ⟨rfl, rfl⟩
theorem szu_any (A : Option Addr) (n c : Nat) (left : Int) (w : World) (hn : n ≤ maxLen) (h0 : 0 ≤ left) (h1 : left ≤ 1048576) :
    Calls Try.prog 57 #[.slice A n c, .int .i64 left] w fun e w' => e = .returned (.int .i64 (negOr (left - n))) ∧ w = w' := by
  unfold maxLen at hn
  by_cases hl : left - n < 0
  · rw [negOr_neg hl]
    go_enter Try.func57, Try.ntmps57
    go_wp2
    go_ret
    exact ⟨rfl, rfl⟩
  · rw [negOr_pos (by omega)]
    go_enter Try.func57, Try.ntmps57
    go_wp2
    go_ret
    exact ⟨rfl, rfl⟩
theorem szi2_any (A : Option Addr) (n c : Nat) (left : Int) (w : World) (hn : n ≤ maxLen) (h0 : 0 ≤ left) (h1 : left ≤ 1048576) :
    Calls Try.prog 95 #[.slice A n c, .int .i64 left] w fun e w' => e = .returned (.int .i64 (negOr (left - n))) ∧ Below w.heap.size w w' := by
  refine (szi_any A n c left w hn h0 h1).mono ?_
  rintro e w' ⟨rfl, rfl⟩
  exact ⟨rfl, Below.refl _ _⟩
theorem szu2_any (A : Option Addr) (n c : Nat) (left : Int) (w : World) (hn : n ≤ maxLen) (h0 : 0 ≤ left) (h1 : left ≤ 1048576) :
    Calls Try.prog 57 #[.slice A n c, .int .i64 left] w fun e w' => e = .returned (.int .i64 (negOr (left - n))) ∧ Below w.heap.size w w' := by
  refine (szu_any A n c left w hn h0 h1).mono ?_
  rintro e w' ⟨rfl, rfl⟩
  exact ⟨rfl, Below.refl _ _⟩
theorem szn_any (l : LN) (left : Int) (w : World) (hp : fitN l) (h0 : 0 ≤ left) (h1 : left ≤ 1048576) :
    Calls Try.prog 72 #[.agg #[.int .i64 l.nd.kind, .int .i64 l.nd.line, .int .i64 l.nd.op, .int .i64 l.nd.num, .float .f64 l.nd.flt, .string l.nd.str, .slice l.ra l.nd.refs.length l.rc, .slice l.ka l.nd.kids.length l.kc], .int .i64 left] w fun e w' => e = .returned (.int .i64 (negOr (left - (wN l : Nat)))) ∧ Below w.heap.size w w' := by
  obtain ⟨p1, p2, p3⟩ := hp
  unfold maxLen at p1 p2 p3
  unfold wN
  by_cases h2 : left - (l.nd.str.size : Nat) < 0
  · rw [negOr_neg (by omega)]
    go_enter Try.func72, Try.ntmps72
    go_wp2
    go_ret
    exact ⟨by first | rfl | exact ret_int (by push_cast; omega), below_new _ _⟩
  by_cases h3 : left - (l.nd.str.size : Nat) - (l.nd.refs.length : Nat) < 0
  · rw [negOr_neg (by omega)]
    go_enter Try.func72, Try.ntmps72
    go_wp2_with fail
    refine (szi2_any _ _ _ _ _ (by unfold maxLen; omega) (by omega) (by omega)).mono ?_
    rintro e w1 ⟨rfl, hb1⟩
    have HB1 : Below w.heap.size w w1 := below_then hb1
    have hz1 : w.heap.size < w1.heap.size := by have := hb1.size; (try simp at this); omega
    obtain ⟨hc1, hf1⟩ := bcell hb1
    rw [negOr_neg (by omega)]
    clear hb1
    go_wp2
    go_ret
    exact ⟨by first | rfl | exact ret_int (by push_cast; omega), HB1⟩
  by_cases h4 : left - (l.nd.str.size : Nat) - (l.nd.refs.length : Nat) - (l.nd.kids.length : Nat) < 0
  · rw [negOr_neg (by omega)]
    go_enter Try.func72, Try.ntmps72
    go_wp2_with fail
    refine (szi2_any _ _ _ _ _ (by unfold maxLen; omega) (by omega) (by omega)).mono ?_
    rintro e w1 ⟨rfl, hb1⟩
    have HB1 : Below w.heap.size w w1 := below_then hb1
    have hz1 : w.heap.size < w1.heap.size := by have := hb1.size; (try simp at this); omega
    obtain ⟨hc1, hf1⟩ := bcell hb1
    rw [negOr_pos (by omega)]
    clear hb1
    go_wp2_with fail
    refine (szi2_any _ _ _ _ _ (by unfold maxLen; omega) (by omega) (by omega)).mono ?_
    rintro e w2 ⟨rfl, hb2⟩
    have HB2 : Below w.heap.size w w2 := HB1.trans (hb2.mono HB1.size)
    have hz2 : w.heap.size < w2.heap.size := by have := hb2.size; (try simp at this); omega
    obtain ⟨hc2, hf2⟩ := bcell hb2
    rw [negOr_neg (by omega)]
    clear hb2
    go_wp2
    go_ret
    exact ⟨by first | rfl | exact ret_int (by push_cast; omega), HB2⟩
  rw [negOr_pos (by omega)]
  go_enter Try.func72, Try.ntmps72
  go_wp2_with fail
  refine (szi2_any _ _ _ _ _ (by unfold maxLen; omega) (by omega) (by omega)).mono ?_
  rintro e w1 ⟨rfl, hb1⟩
  have HB1 : Below w.heap.size w w1 := below_then hb1
  have hz1 : w.heap.size < w1.heap.size := by have := hb1.size; (try simp at this); omega
  obtain ⟨hc1, hf1⟩ := bcell hb1
  rw [negOr_pos (by omega)]
  clear hb1
  go_wp2_with fail
  refine (szi2_any _ _ _ _ _ (by unfold maxLen; omega) (by omega) (by omega)).mono ?_
  rintro e w2 ⟨rfl, hb2⟩
  have HB2 : Below w.heap.size w w2 := HB1.trans (hb2.mono HB1.size)
  have hz2 : w.heap.size < w2.heap.size := by have := hb2.size; (try simp at this); omega
  obtain ⟨hc2, hf2⟩ := bcell hb2
  rw [negOr_pos (by omega)]
  clear hb2
  go_wp2
  go_ret
  exact ⟨by first | rfl | exact ret_int (by push_cast; omega), HB2⟩
def szNS (xs : List LN) (left : Int) : Int := negOr (left - (xs.length + totW wN xs : Nat))
set_option maxHeartbeats 1000000 in
theorem szns_any (A : Option Addr) (c : Nat) (xs : List LN) (left : Int) (w : World) (lo : Nat) (h : RdN w lo A xs) (hx : ∀ p ∈ xs, fitN p) (hn : xs.length ≤ maxLen) (h0 : 0 ≤ left) (h1 : left ≤ 1048576) :
    Calls Try.prog 58 #[.slice A xs.length c, .int .i64 left] w fun e w' => e = .returned (.int .i64 (negOr (left - (xs.length + totW wN xs : Nat)))) ∧ Below w.heap.size w w' := by
  unfold maxLen at hn
  by_cases hl : left - xs.length < 0
  · go_enter Try.func58, Try.ntmps58
    go_wp2
    go_ret
    refine ⟨?_, Below.refl _ _⟩
    rw [negOr_neg (by omega)]; rfl
  · go_enter Try.func58, Try.ntmps58
    go_wp2
    go_loopw [1, 5] (fun l i wr => ∃ k : Nat, k ≤ xs.length ∧ i = .int .i64 k ∧ l = .int .i64 (left - xs.length - totW wN (xs.take k)) ∧ 0 ≤ left - xs.length - totW wN (xs.take k) ∧ Below w.heap.size w wr) (fun _ i _ => xs.length - (intOf i).toNat)
    case atStart => exact ⟨0, Nat.zero_le _, rfl, by simp [totW], by simp [totW]; omega, Below.refl _ _⟩
    case round =>
      obtain ⟨k, hk, rfl, rfl, hp, hbel⟩ := hrel
      by_cases hlt : k < xs.length
      · obtain ⟨p, hpk⟩ : ∃ p, xs[k]? = some p := ⟨_, List.getElem?_eq_getElem hlt⟩
        obtain ⟨b, off, rfl, hlo, hb, c0, c1, c2, c3, c4, c5, c6, c7, hok⟩ := rdN_at (h.below hbel) hpk
        have hfit := Lib.hid (hx p (List.mem_of_getElem? hpk))
        have ht := Lib.hid (totW_take wN xs k p hpk)
        have hle := totW_le wN xs (k + 1)
        have HP := Lib.hid hpk
        have HOK := Lib.hid hok
        clear hx h hpk hok
        go_wp2_with fail
        refine (szn_any p _ _ hfit.out (by omega) (by omega)).mono ?_
        rintro e w1 ⟨rfl, hb1⟩
        have HB1 := hbel.trans (hb1.mono hbel.size)
        have ht' := ht.out
        by_cases hneg : left - xs.length - totW wN (xs.take k) - wN p < 0
        · rw [negOr_neg hneg]
          clear ht'
          go_wp2
          go_ret
          have ht' := ht.out
          refine ⟨?_, HB1⟩
          rw [negOr_neg (by omega)]; rfl
        · rw [negOr_pos (by omega)]
          clear ht'
          go_wp2
          have ht' := ht.out
          refine ⟨⟨k + 1, by omega, by go_num, ?_, by omega, HB1⟩, by simp [intOf]; omega⟩
          rw [ht']; push_cast; go_num
      · have hkk : k = xs.length := by omega
        subst hkk
        clear hx h
        rw [List.take_length] at hp
        go_wp2
        go_ret
        refine ⟨?_, hbel⟩
        rw [negOr_pos (by omega), List.take_length, show left - ((xs.length + totW wN xs : Nat) : Int) = left - xs.length - totW wN xs by omega]; rfl
theorem szf_any (f : LF) (left : Int) (w : World) (lo : Nat) (h : OkF w lo f) (hp : fitF f) (h0 : 0 ≤ left) (h1 : left ≤ 1048576) :
    Calls Try.prog 35 #[.agg #[.string f.name, .int .i64 f.line, .int .i64 f.params, .bool f.rest, .slice f.va f.vars.length f.vc, .slice f.ua f.ups.length f.uc, .slice f.na f.ns.length f.nc], .int .i64 left] w fun e w' => e = .returned (.int .i64 (negOr (left - (wF f : Nat)))) ∧ Below w.heap.size w w' := by
  obtain ⟨p1, ⟨p2, p3⟩, p4, p5, p6⟩ := hp
  obtain ⟨o1, -, o3⟩ := h
  have P3 := Lib.hid p3; have P6 := Lib.hid p6; have O1 := Lib.hid o1; have O3 := Lib.hid o3
  clear p3 p6 o1 o3
  unfold maxLen at p1 p2 p4 p5
  unfold wF
  by_cases h2 : left - (f.name.size : Nat) < 0
  · rw [negOr_neg (by omega)]
    go_enter Try.func35, Try.ntmps35
    go_wp2
    go_ret
    exact ⟨by first | rfl | exact ret_int (by push_cast; omega), below_new _ _⟩
  by_cases h3 : left - (f.name.size : Nat) - (f.vars.length + totS f.vars : Nat) < 0
  · rw [negOr_neg (by omega)]
    go_enter Try.func35, Try.ntmps35
    go_wp2_with fail
    refine (szs2_any _ _ f.vars _ _ lo (O1.out.alloc _) P3.out (by unfold maxLen; omega) (by omega) (by omega)).mono ?_
    rintro e w1 ⟨rfl, hb1⟩
    have HB1 : Below w.heap.size w w1 := below_then hb1
    have hz1 : w.heap.size < w1.heap.size := by have := hb1.size; (try simp at this); omega
    obtain ⟨hc1, hf1⟩ := bcell hb1
    rw [negOr_neg (by omega)]
    clear hb1
    go_wp2
    go_ret
    exact ⟨by first | rfl | exact ret_int (by push_cast; omega), HB1⟩
  by_cases h4 : left - (f.name.size : Nat) - (f.vars.length + totS f.vars : Nat) - (f.ups.length : Nat) < 0
  · rw [negOr_neg (by omega)]
    go_enter Try.func35, Try.ntmps35
    go_wp2_with fail
    refine (szs2_any _ _ f.vars _ _ lo (O1.out.alloc _) P3.out (by unfold maxLen; omega) (by omega) (by omega)).mono ?_
    rintro e w1 ⟨rfl, hb1⟩
    have HB1 : Below w.heap.size w w1 := below_then hb1
    have hz1 : w.heap.size < w1.heap.size := by have := hb1.size; (try simp at this); omega
    obtain ⟨hc1, hf1⟩ := bcell hb1
    rw [negOr_pos (by omega)]
    clear hb1
    go_wp2_with fail
    refine (szu2_any _ _ _ _ _ (by unfold maxLen; omega) (by omega) (by omega)).mono ?_
    rintro e w2 ⟨rfl, hb2⟩
    have HB2 : Below w.heap.size w w2 := HB1.trans (hb2.mono HB1.size)
    have hz2 : w.heap.size < w2.heap.size := by have := hb2.size; (try simp at this); omega
    obtain ⟨hc2, hf2⟩ := bcell hb2
    rw [negOr_neg (by omega)]
    clear hb2
    go_wp2
    go_ret
    exact ⟨by first | rfl | exact ret_int (by push_cast; omega), HB2⟩
  by_cases h5 : left - (f.name.size : Nat) - (f.vars.length + totS f.vars : Nat) - (f.ups.length : Nat) - (f.ns.length + totW wN f.ns : Nat) < 0
  · rw [negOr_neg (by omega)]
    go_enter Try.func35, Try.ntmps35
    go_wp2_with fail
    refine (szs2_any _ _ f.vars _ _ lo (O1.out.alloc _) P3.out (by unfold maxLen; omega) (by omega) (by omega)).mono ?_
    rintro e w1 ⟨rfl, hb1⟩
    have HB1 : Below w.heap.size w w1 := below_then hb1
    have hz1 : w.heap.size < w1.heap.size := by have := hb1.size; (try simp at this); omega
    obtain ⟨hc1, hf1⟩ := bcell hb1
    rw [negOr_pos (by omega)]
    clear hb1
    go_wp2_with fail
    refine (szu2_any _ _ _ _ _ (by unfold maxLen; omega) (by omega) (by omega)).mono ?_
    rintro e w2 ⟨rfl, hb2⟩
    have HB2 : Below w.heap.size w w2 := HB1.trans (hb2.mono HB1.size)
    have hz2 : w.heap.size < w2.heap.size := by have := hb2.size; (try simp at this); omega
    obtain ⟨hc2, hf2⟩ := bcell hb2
    rw [negOr_pos (by omega)]
    clear hb2
    go_wp2_with fail
    refine (szns_any _ _ f.ns _ _ lo (O3.out.below HB2) P6.out (by unfold maxLen; omega) (by omega) (by omega)).mono ?_
    rintro e w3 ⟨rfl, hb3⟩
    have HB3 : Below w.heap.size w w3 := HB2.trans (hb3.mono HB2.size)
    have hz3 : w.heap.size < w3.heap.size := by have := hb3.size; (try simp at this); omega
    obtain ⟨hc3, hf3⟩ := bcell hb3
    rw [negOr_neg (by omega)]
    clear hb3
    go_wp2
    go_ret
    exact ⟨by first | rfl | exact ret_int (by push_cast; omega), HB3⟩
  rw [negOr_pos (by omega)]
  go_enter Try.func35, Try.ntmps35
  go_wp2_with fail
  refine (szs2_any _ _ f.vars _ _ lo (O1.out.alloc _) P3.out (by unfold maxLen; omega) (by omega) (by omega)).mono ?_
  rintro e w1 ⟨rfl, hb1⟩
  have HB1 : Below w.heap.size w w1 := below_then hb1
  have hz1 : w.heap.size < w1.heap.size := by have := hb1.size; (try simp at this); omega
  obtain ⟨hc1, hf1⟩ := bcell hb1
  rw [negOr_pos (by omega)]
  clear hb1
  go_wp2_with fail
  refine (szu2_any _ _ _ _ _ (by unfold maxLen; omega) (by omega) (by omega)).mono ?_
  rintro e w2 ⟨rfl, hb2⟩
  have HB2 : Below w.heap.size w w2 := HB1.trans (hb2.mono HB1.size)
  have hz2 : w.heap.size < w2.heap.size := by have := hb2.size; (try simp at this); omega
  obtain ⟨hc2, hf2⟩ := bcell hb2
  rw [negOr_pos (by omega)]
  clear hb2
  go_wp2_with fail
  refine (szns_any _ _ f.ns _ _ lo (O3.out.below HB2) P6.out (by unfold maxLen; omega) (by omega) (by omega)).mono ?_
  rintro e w3 ⟨rfl, hb3⟩
  have HB3 : Below w.heap.size w w3 := HB2.trans (hb3.mono HB2.size)
  have hz3 : w.heap.size < w3.heap.size := by have := hb3.size; (try simp at this); omega
  obtain ⟨hc3, hf3⟩ := bcell hb3
  rw [negOr_pos (by omega)]
  clear hb3
  go_wp2
  go_ret
  exact ⟨by first | rfl | exact ret_int (by push_cast; omega), HB3⟩
def szFS (xs : List LF) (left : Int) : Int := negOr (left - (xs.length + totW wF xs : Nat))
set_option maxHeartbeats 1000000 in
theorem szfs_any (A : Option Addr) (c : Nat) (xs : List LF) (left : Int) (w : World) (lo : Nat) (h : RdF w lo A xs) (hx : ∀ p ∈ xs, fitF p) (hn : xs.length ≤ maxLen) (h0 : 0 ≤ left) (h1 : left ≤ 1048576) :
    Calls Try.prog 17 #[.slice A xs.length c, .int .i64 left] w fun e w' => e = .returned (.int .i64 (negOr (left - (xs.length + totW wF xs : Nat)))) ∧ Below w.heap.size w w' := by
  unfold maxLen at hn
  by_cases hl : left - xs.length < 0
  · go_enter Try.func17, Try.ntmps17
    go_wp2
    go_ret
    refine ⟨?_, Below.refl _ _⟩
    rw [negOr_neg (by omega)]; rfl
  · go_enter Try.func17, Try.ntmps17
    go_wp2
    go_loopw [1, 5] (fun l i wr => ∃ k : Nat, k ≤ xs.length ∧ i = .int .i64 k ∧ l = .int .i64 (left - xs.length - totW wF (xs.take k)) ∧ 0 ≤ left - xs.length - totW wF (xs.take k) ∧ Below w.heap.size w wr) (fun _ i _ => xs.length - (intOf i).toNat)
    case atStart => exact ⟨0, Nat.zero_le _, rfl, by simp [totW], by simp [totW]; omega, Below.refl _ _⟩
    case round =>
      obtain ⟨k, hk, rfl, rfl, hp, hbel⟩ := hrel
      by_cases hlt : k < xs.length
      · obtain ⟨p, hpk⟩ : ∃ p, xs[k]? = some p := ⟨_, List.getElem?_eq_getElem hlt⟩
        obtain ⟨b, off, rfl, hlo, hb, c0, c1, c2, c3, c4, c5, c6, hok⟩ := rdF_at (h.below hbel) hpk
        have hfit := Lib.hid (hx p (List.mem_of_getElem? hpk))
        have ht := Lib.hid (totW_take wF xs k p hpk)
        have hle := totW_le wF xs (k + 1)
        have HP := Lib.hid hpk
        have HOK := Lib.hid hok
        clear hx h hpk hok
        go_wp2_with fail
        refine (szf_any p _ _ lo HOK.out hfit.out (by omega) (by omega)).mono ?_
        rintro e w1 ⟨rfl, hb1⟩
        have HB1 := hbel.trans (hb1.mono hbel.size)
        have ht' := ht.out
        by_cases hneg : left - xs.length - totW wF (xs.take k) - wF p < 0
        · rw [negOr_neg hneg]
          clear ht'
          go_wp2
          go_ret
          have ht' := ht.out
          refine ⟨?_, HB1⟩
          rw [negOr_neg (by omega)]; rfl
        · rw [negOr_pos (by omega)]
          clear ht'
          go_wp2
          have ht' := ht.out
          refine ⟨⟨k + 1, by omega, by go_num, ?_, by omega, HB1⟩, by simp [intOf]; omega⟩
          rw [ht']; push_cast; go_num
      · have hkk : k = xs.length := by omega
        subst hkk
        clear hx h
        rw [List.take_length] at hp
        go_wp2
        go_ret
        refine ⟨?_, hbel⟩
        rw [negOr_pos (by omega), List.take_length, show left - ((xs.length + totW wF xs : Nat) : Int) = left - xs.length - totW wF xs by omega]; rfl
theorem szun_any (A : Option Addr) (c : Nat) (xs : List LF) (left : Int) (w : World) (lo : Nat) (h : RdF w lo A xs) (hx : ∀ p ∈ xs, fitF p) (hn : xs.length ≤ maxLen) (h0 : 0 ≤ left) (h1 : left ≤ 1048576) :
    Calls Try.prog 5 #[.agg #[.slice A xs.length c], .int .i64 left] w fun e w' => e = .returned (.int .i64 (negOr (left - (xs.length + totW wF xs : Nat)))) ∧ Below w.heap.size w w' := by
  have H := Lib.hid h; have HX := Lib.hid hx
  clear h hx
  by_cases hneg : left - (xs.length + totW wF xs : Nat) < 0
  all_goals
    have HN := hneg
    first | rw [negOr_neg HN] | rw [negOr_pos (by omega)]
    clear hneg
    go_enter Try.func5, Try.ntmps5
    go_wp2_with fail
    refine (szfs_any _ _ xs _ _ lo (H.out.alloc _) HX.out hn (by omega) (by omega)).mono ?_
    rintro e w1 ⟨rfl, hb1⟩
    have HB1 := below_then hb1
    clear hb1
    first | rw [negOr_neg HN] | rw [negOr_pos (by omega)]
    go_wp2
    go_ret
    exact ⟨rfl, HB1⟩
end Go.Proofs.Ytcpjplkbmflglaa
