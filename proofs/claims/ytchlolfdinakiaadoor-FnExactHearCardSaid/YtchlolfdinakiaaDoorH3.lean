/- The reader of the reference: a text. -/
import Derived.Test.YtchlolfdinakiaaDoorH2
import Derived.Laws.IdiomStrings
import Derived.IntWalk
namespace Go.Proofs.YtchlolfdinakiaaDoor
open Go.RowKit
attribute [local go_sem] run_store_float

/-- What a reader of a text answers, and where it then stands. -/
def TextRd (l : List UInt8) (p : Nat) (bad : Bool) (s : ByteArray) (p' : Nat) (bad' : Bool) : Prop :=
  s.size ≤ l.length ∧ p ≤ p' ∧ p' ≤ l.length ∧ (bad = true → bad' = true) ∧ (bad' = false → p + s.size < p') ∧ ∀ (t : ByteArray) rest, bad = false → l.drop p = textB t ++ rest → s = t ∧ p' = p + (textB t).length ∧ bad' = false
theorem textB_num {l : List UInt8} {p : Nat} {t : ByteArray} {rest : List UInt8} (hl : l.length ≤ 1000000) (h : l.drop p = textB t ++ rest) : i64 (t.size : Int) ∧ l.drop p = numB (t.size : Int) ++ (t.data.toList ++ rest) ∧ (textB t).length = (numB (t.size : Int)).length + t.size ∧ p + (textB t).length ≤ l.length := by
  have e2 : t.data.toList.length = t.size := Array.length_toList
  have e3 : (textB t).length = (numB (t.size : Int)).length + t.size := by unfold textB; rw [List.length_append]; omega
  have e1 := congrArg List.length h
  have e4 : 0 < (numB (t.size : Int)).length := by unfold numB; simp
  rw [List.length_append, List.length_drop] at e1
  refine ⟨⟨by omega, by omega⟩, ?_, e3, by omega⟩
  rw [h]; unfold textB; rw [List.append_assoc]
theorem textRd_bad {l : List UInt8} {p p1 : Nat} {bad bad1 : Bool} {n : Int} (hl : l.length ≤ 1000000) (h : NumRd l p bad n p1 bad1) (hx : bad1 = true ∨ n < 0 ∨ (l.length : Int) - p1 < n) : TextRd l p bad ⟨#[]⟩ p1 true := by
  obtain ⟨h1, h2, h3, h4, h5, h6⟩ := h
  refine ⟨Nat.zero_le _, h2, h3, fun _ => rfl, (fun h => by cases h), fun t rest hb ht => ?_⟩
  obtain ⟨a, b, c, g⟩ := textB_num hl ht
  obtain ⟨d, e, f⟩ := h6 _ _ a b
  rcases hx with hx | hx | hx
  · rw [hb, hx] at f; cases f
  · omega
  · omega
theorem textRd_good {l : List UInt8} {p p1 m : Nat} {bad : Bool} (hl : l.length ≤ 1000000) (h : NumRd l p bad (m : Int) p1 false) (hx : p1 + m ≤ l.length) : TextRd l p bad ⟨((l.drop p1).take m).toArray⟩ (p1 + m) false := by
  obtain ⟨h1, h2, h3, h4, h5, h6⟩ := h
  have hs : (⟨((l.drop p1).take m).toArray⟩ : ByteArray).size = m := by
    show ((l.drop p1).take m).toArray.size = m
    rw [List.size_toArray, List.length_take, List.length_drop]; omega
  have h5' := h5 rfl
  refine ⟨by omega, by omega, hx, (fun h => absurd (h4 h) (by simp)), fun _ => by omega, fun t rest hb ht => ?_⟩
  obtain ⟨a, b, c, g⟩ := textB_num hl ht
  obtain ⟨d, e, f⟩ := h6 _ _ a b
  have hm : m = t.size := by omega
  refine ⟨?_, by omega, rfl⟩
  have e1 : l.drop p1 = t.data.toList ++ rest := by
    rw [e, ← List.drop_drop, b]
    rw [List.drop_left]
  have e2 : t.data.toList.length = t.size := Array.length_toList
  rw [e1, hm, ← e2, List.take_left]
def RtP (A : Option Addr) (c : Nat) (l : List UInt8) (p : Nat) (bad : Bool) (rb : Nat) (w : World) (e : Ending) (w' : World) : Prop :=
  ∃ (s : ByteArray) (p' : Nat) (bad' : Bool), e = .returned (.string s) ∧ TextRd l p bad s p' bad' ∧ Blk w' rb 68 #[.slice A l.length c, .int .i64 (p' : Int), .bool bad'] ∧ But (fun x => x = rb) w w'
/-- A window of a row of bytes, as a string. -/
theorem conv_win {w : World} {lo b off : Nat} {l : List UInt8} (hb : RdL encB 1 w lo (some ⟨b, off, none⟩) l) (p1 m cc : Nat) (hm : p1 + m ≤ l.length) (h0 : 0 < m) : ∀ n, (convert 35 9 (.slice (some ⟨b, off + p1, none⟩) m cc)).run Tryd.prog (w.drewN n) = .ok (.string ⟨((l.drop p1).take m).toArray⟩) (w.drewN n) := fun n => by
  have hlen : ((l.drop p1).take m).length = m := by rw [List.length_take, List.length_drop]; omega
  have := run_convert_bytes_back (P := Tryd.prog) (w.drewN n) 35 9 5 ⟨b, off + p1, none⟩ cc ((l.drop p1).take m) Tryd.underlying35 Tryd.underlying5 Tryd.underlying9 (fun j hj => by
    obtain ⟨b', off', e, -, -, hc⟩ := rdB_at hb (k := p1 + j) (by omega)
    cases e
    have e : (⟨b, off + p1, none⟩ : Addr).add j = ⟨b, off + (p1 + j), none⟩ := by
      cases j with
      | zero => simp [Addr.add]
      | succ j => simp [Addr.add, Nat.add_assoc]
    rw [e, dN_cell, hc]
    simp)
  rw [hlen] at this
  exact this
theorem conv_zero (w : World) (p : Option Addr) (cc : Nat) : ∀ n, (convert 35 9 (.slice p 0 cc)).run Tryd.prog (w.drewN n) = .ok (.string ⟨#[]⟩) (w.drewN n) := fun n => by
  rw [run_convert_bytes_string (w.drewN n) 35 9 5 p 0 cc Tryd.underlying35 Tryd.underlying5 Tryd.underlying9]
  cases p <;> simp [Conv.bytesToString, loadCells]
  all_goals rfl

set_option maxRecDepth 100000 in
set_option maxHeartbeats 800000 in
theorem rtxt_any (A : Option Addr) (c : Nat) (l : List UInt8) (p : Nat) (bad : Bool) (rb : Nat) (w : World) (lo : Nat) (hb : RdL encB 1 w lo A l) (hblk : Blk w rb 68 #[.slice A l.length c, .int .i64 (p : Int), .bool bad]) (hne : ∀ b o, A = some ⟨b, o, none⟩ → b ≠ rb)
    (hl : l.length ≤ 1000000) (hp : p ≤ l.length) (hcap : l.length ≤ c) (hcm : c ≤ maxLen) : Calls Tryd.prog 42 #[.pointer (some ⟨rb, 0, none⟩)] w (RtP A c l p bad rb w) := by
  unfold maxLen at hcm
  go_enter Tryd.func42, Tryd.ntmps42
  go_wp2_with fail
  refine (rnum_any A c l p bad rb _ lo hb hblk hne hl hp).mono ?_
  rintro e w1 ⟨n, p1, bad1, rfl, hrd, hblk1, hbut1⟩
  obtain ⟨x0, x1, x2⟩ := box3 hblk1
  have fz1 := hblk1.frozen 1
  have fz2 := hblk1.frozen 2
  have hp1 := hrd.2.2.1
  have HR := Lib.hid hrd
  have HK := Lib.hid hblk1
  have HU := Lib.hid hbut1
  have HB := Lib.hid (hbut1.rd hb (fun g o _ e => hne g o e))
  clear hb hblk hne hrd hblk1 hbut1
  cases bad1 with
  | true =>
    go_wp2
    go_quiet (fail)
    go_wp2
    go_ret
    refine ⟨⟨#[]⟩, p1, true, rfl, textRd_bad hl HR.out (.inl rfl), ?_, (HU.out.drewN _).set rfl _ _⟩
    have := Blk.set_ (HK.out) 2 (.bool true)
    simp at this
    exact this
  | false =>
    by_cases hn : n < 0
    · have t1 : decide (n < 0) = true := by simp; omega
      go_wp2
      go_quiet (fail)
      go_wp2
      go_ret
      refine ⟨⟨#[]⟩, p1, true, rfl, textRd_bad hl HR.out (.inr (.inl hn)), ?_, (HU.out.drewN _).set rfl _ _⟩
      have := Blk.set_ (HK.out) 2 (.bool true)
      simp at this
      exact this
    · obtain ⟨m, rfl⟩ : ∃ m : Nat, n = m := ⟨n.toNat, by omega⟩
      have wl : IntKind.i64.wrap ((l.length : Int) - (p1 : Int)) = (l.length : Int) - (p1 : Int) := IntWalk.i64_in _ (by omega)
      have WL := Lib.hid wl
      clear wl
      by_cases hbig : (l.length : Int) - p1 < m
      · have t1 : decide ((l.length : Int) - (p1 : Int) < (m : Int)) = true := by simp; omega
        have wl := WL.out
        go_wp2
        go_quiet (fail)
        go_wp2
        go_ret
        refine ⟨⟨#[]⟩, p1, true, rfl, textRd_bad hl HR.out (.inr (.inr hbig)), ?_, (HU.out.drewN _).set rfl _ _⟩
        have := Blk.set_ (HK.out) 2 (.bool true)
        simp at this
        exact this
      · have t1 : decide ((l.length : Int) - (p1 : Int) < (m : Int)) = false := by simp; omega
        have h5 := HR.out.2.2.2.2.1 rfl
        obtain ⟨b, off, rfl, -, -, -⟩ := HB.out (by omega)
        have hfit : p1 + m ≤ l.length := by omega
        have s0 : (0 : Int) ≤ (p1 : Int) := by omega
        have s1 : (p1 : Int) ≤ (p1 : Int) + (m : Int) := by omega
        have s2 : (p1 : Int) + (m : Int) ≤ (c : Int) := by omega
        have s3 : (p1 : Int) + (m : Int) ≤ 9223372036854775807 := by omega
        by_cases hm0 : 0 < m
        · have hcv := conv_win HB.out p1 m (c - p1) hfit hm0
          have s4 : ¬ c = p1 := by omega
          have wm : IntKind.i64.wrap ((p1 : Int) + (m : Int)) = (p1 : Int) + (m : Int) := IntWalk.i64_in _ (by omega)
          have wl := WL.out
          go_wp2
          go_quiet (fail)
          go_wp2
          go_quiet (fail)
          clear wm wl hcv
          go_wp2
          go_ret
          refine ⟨_, p1 + m, false, rfl, textRd_good hl HR.out hfit, ?_, (HU.out.drewN _).set rfl _ _⟩
          have := Blk.set_ (HK.out) 1 (.int .i64 ((p1 : Int) + (m : Int)))
          simp at this
          exact this
        · obtain rfl : m = 0 := by omega
          have wl := WL.out
          have hR0 := Lib.hid (textRd_good hl HR.out hfit)
          clear s1 s2 s3 hm0 hbig hn hfit h5 t1
          have t1 : decide ((l.length : Int) - (p1 : Int) < 0) = false := by simp; omega
          have s2 : (p1 : Int) ≤ (c : Int) := by omega
          by_cases hcp : c = p1
          · subst hcp
            have hcv := conv_zero w1 (some ⟨b, off, none⟩) 0
            go_wp2
            go_quiet (fail)
            go_wp2
            go_quiet (fail)
            clear wl hcv
            go_wp2
            go_ret
            refine ⟨_, c, false, rfl, hR0.out, ?_, (HU.out.drewN _).set rfl _ _⟩
            have := Blk.set_ (HK.out) 1 (.int .i64 (c : Int))
            simp at this
            exact this
          · have hcv := conv_zero w1 (some ⟨b, off + p1, none⟩) (c - p1)
            go_wp2
            go_quiet (fail)
            go_wp2
            go_quiet (fail)
            clear wl hcv
            go_wp2
            go_ret
            refine ⟨_, p1, false, rfl, hR0.out, ?_, (HU.out.drewN _).set rfl _ _⟩
            have := Blk.set_ (HK.out) 1 (.int .i64 (p1 : Int))
            simp at this
            exact this
end Go.Proofs.YtchlolfdinakiaaDoor
