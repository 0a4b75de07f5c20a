/- The reader of the reference: a number. -/
import Derived.Test.YtchlolfdinakiaaDoorH1
import Derived.Test.YtchlolfdinakiaaDoorE9
import Derived.BigQuiet
namespace Go.Proofs.YtchlolfdinakiaaDoor
open Go.RowKit
attribute [local go_sem] run_store_float
theorem box3 {w : World} {g : Nat} {t : TypeId} {a b c : Value} (hb : Blk w g t #[a, b, c]) : w.cell? ⟨g, 0, none⟩ = some a ∧ w.cell? ⟨g, 1, none⟩ = some b ∧ w.cell? ⟨g, 2, none⟩ = some c :=
  ⟨hb.cell 0, hb.cell 1, hb.cell 2⟩
theorem But.drewN {P : Nat → Prop} {a w : World} (h : But P a w) (n : Nat) : But P a (w.drewN n) := ⟨h.os, h.tape, h.output, h.size, h.block⟩

/-- The number that k digits from p on came to, in int's width. -/
def NumI (s : Int) (l : List UInt8) (p k : Nat) (N : Int) : Prop := i64 N ∧ (∀ i, i < k → ∃ c, l[p + i]? = some c ∧ isDig c) ∧
  ∀ u : Nat, u ≤ 9223372036854775808 → (s = 1 → u ≤ 9223372036854775807) → (l.drop p).take k = (Lib.decDigits u).take k → N = foldD s 0 ((l.drop p).take k)
theorem numI_zero {s : Int} {l : List UInt8} {p : Nat} : NumI s l p 0 0 := ⟨⟨by decide, by decide⟩, fun i hi => absurd hi (by omega), fun u _ _ _ => rfl⟩
theorem wrap64_range (x : Int) : -9223372036854775808 ≤ wrap64 x ∧ wrap64 x ≤ 9223372036854775807 := by unfold wrap64; omega
theorem wrap64_id {x : Int} (h : -9223372036854775808 ≤ x ∧ x ≤ 9223372036854775807) : wrap64 x = x := by unfold wrap64; omega
theorem numI_step {s : Int} (hs : s = 1 ∨ s = -1) {l : List UInt8} {p k d : Nat} {N : Int} (h : NumI s l p k N) {c : UInt8} (hc : l[p + k]? = some c) (hd : d = c.toNat) (h48 : 48 ≤ d) (h57 : d ≤ 57) :
    NumI s l p (k + 1) (wrap64 (wrap64 (10 * N) + s * ((d : Int) - 48))) := by
  obtain ⟨h1, h2, h3⟩ := h
  refine ⟨wrap64_range _, fun i hi => ?_, fun u hu hu1 hp => ?_⟩
  · by_cases e : i = k
    · subst e; exact ⟨c, hc, by omega, by omega⟩
    · exact h2 i (by omega)
  · have hck : (l.drop p)[k]? = some c := by rw [List.getElem?_drop]; exact hc
    have hp0 : (l.drop p).take k = (Lib.decDigits u).take k := by
      have := congrArg (List.take k) hp
      rwa [List.take_take, List.take_take, Nat.min_eq_left (by omega)] at this
    have e0 := h3 u hu hu1 hp0
    have e1 := foldD_take s (l.drop p) k c hck
    have q0 := foldD_part u k
    have q1 := foldD_part u (k + 1)
    rw [← hp0] at q0
    rw [← hp] at q1
    rw [e1, ← hd, ← e0]
    rcases hs with rfl | rfl
    · have hu2 := hu1 rfl
      rw [e1, ← hd] at q1
      rw [wrap64_id (x := 10 * N) (by omega), wrap64_id (by omega)]
    · have f0 := foldD_neg ((l.drop p).take k) 0
      have f1 := foldD_neg ((l.drop p).take (k + 1)) 0
      simp only [Int.neg_zero] at f0 f1
      rw [f0] at e0
      rw [e1, ← hd, f0] at f1
      rw [wrap64_id (x := 10 * N) (by omega), wrap64_id (by omega)]
/-- The sign that stands at p: where the digits begin. -/
def Sgn (l : List UInt8) (p : Nat) (s : Int) (p0 : Nat) : Prop := (s = -1 ∧ p0 = p + 1 ∧ l[p]? = some 45) ∨ (s = 1 ∧ p0 = p ∧ l[p]? ≠ some 45)
theorem read_end {l : List UInt8} {p p0 k q : Nat} {s N : Int} (hsg : Sgn l p s p0) (h : NumI s l p0 k N) (hq : q = p0 + k) (h19 : k ≤ 19) (hend : k = 19 ∨ ∀ c, l[q]? = some c → ¬ isDig c) (m : Int) (rest : List UInt8) (hm : i64 m) (hl : l.drop p = numB m ++ rest) :
    0 < k ∧ l[q]? = some 32 ∧ N = m ∧ q + 1 = p + (numB m).length := by
  obtain ⟨s', u, hu, hmu, hsp⟩ := numB_split m hm
  have hd0 := dd_pos u
  have first : l[p]? = (numB m)[0]? := by
    have e : (l.drop p)[0]? = l[p]? := by rw [List.getElem?_drop, Nat.add_zero]
    rw [← e, hl, List.getElem?_append_left]
    rcases hsp with ⟨_, e2⟩ | ⟨_, _, e2⟩ <;> rw [e2] <;> simp
  have key : s = s' ∧ l.drop p0 = Lib.decDigits u ++ 32 :: rest ∧ p0 + (Lib.decDigits u).length + 1 = p + (numB m).length ∧ (s = 1 → u ≤ 9223372036854775807) := by
    rcases hsp with ⟨e1, e2⟩ | ⟨e1, e3, e2⟩
    · rw [e2] at first hl
      rcases hsg with ⟨a, b, c⟩ | ⟨a, b, c⟩
      · subst b
        refine ⟨by omega, ?_, by rw [e2]; simp; omega, by omega⟩
        rw [← List.drop_drop, hl]
        simp
      · exact absurd first c
    · rw [e2] at first hl
      have hne : l[p]? ≠ some 45 := by
        rw [first, List.getElem?_append_left hd0, List.getElem?_eq_getElem hd0]
        intro e
        injection e with e
        have := dd_dig u _ (List.getElem_mem hd0)
        rw [e] at this
        exact absurd this (by decide)
      rcases hsg with ⟨a, b, c⟩ | ⟨a, b, c⟩
      · exact absurd c hne
      · subst b
        refine ⟨by omega, ?_, by rw [e2]; simp; omega, fun _ => e3⟩
        rw [hl]; simp
  obtain ⟨rfl, k1, k2, k3⟩ := key
  subst hq
  obtain ⟨j1, j2, j3⟩ := digs_all k1 h.2.1 hend h19 hu
  have e := h.2.2 u hu k3 (by rw [j3, j1, List.take_length])
  rw [j3, foldD_dd] at e
  exact ⟨by omega, j2, by omega, by omega⟩

/-- What a reader of a number answers, and where it then stands. -/
def NumRd (l : List UInt8) (p : Nat) (bad : Bool) (n : Int) (p' : Nat) (bad' : Bool) : Prop :=
  i64 n ∧ p ≤ p' ∧ p' ≤ l.length ∧ (bad = true → bad' = true) ∧ (bad' = false → p < p') ∧ ∀ m rest, i64 m → l.drop p = numB m ++ rest → n = m ∧ p' = p + (numB m).length ∧ bad' = bad
theorem numRd_bad {l : List UInt8} {p p0 k q : Nat} {s N : Int} {bad : Bool} (hsg : Sgn l p s p0) (h : NumI s l p0 k N) (hq : q = p0 + k) (hql : q ≤ l.length) (h19 : k ≤ 19) (hend : k = 19 ∨ ∀ c, l[q]? = some c → ¬ isDig c) (hb : k = 0 ∨ l[q]? ≠ some 32) : NumRd l p bad 0 q true := by
  refine ⟨⟨by decide, by decide⟩, ?_, hql, fun _ => rfl, (fun h => by cases h), fun m rest hm hl => ?_⟩
  · rcases hsg with ⟨_, b, _⟩ | ⟨_, b, _⟩ <;> omega
  · obtain ⟨a, b, _⟩ := read_end hsg h hq h19 hend m rest hm hl
    rcases hb with hb | hb
    · omega
    · exact absurd b hb
theorem numRd_good {l : List UInt8} {p p0 k q : Nat} {s N : Int} {bad : Bool} (hsg : Sgn l p s p0) (h : NumI s l p0 k N) (hq : q = p0 + k) (hql : q < l.length) (h19 : k ≤ 19) (hend : k = 19 ∨ ∀ c, l[q]? = some c → ¬ isDig c) : NumRd l p bad N (q + 1) bad := by
  have hpp : p ≤ q := by rcases hsg with ⟨_, b, _⟩ | ⟨_, b, _⟩ <;> omega
  refine ⟨h.1, by omega, by omega, id, fun _ => by omega, fun m rest hm hl => ?_⟩
  obtain ⟨a, b, c, d⟩ := read_end hsg h hq h19 hend m rest hm hl
  exact ⟨c, d, rfl⟩
theorem getD_at {l : List UInt8} {q : Nat} (h : q < l.length) : l[q]? = some (l.getD q 0) := by
  rw [List.getD_eq_getElem?_getD, List.getElem?_eq_getElem h]; rfl
theorem nodig_lt {l : List UInt8} {q d : Nat} (h : q < l.length) (hd : d = (l.getD q 0).toNat) (hx : d < 48 ∨ 57 < d) : ∀ c, l[q]? = some c → ¬ isDig c := fun c hc hdc => by
  rw [getD_at h] at hc
  cases hc
  unfold isDig at hdc
  omega
theorem ne32 {l : List UInt8} {q d : Nat} (h : q < l.length) (hd : d = (l.getD q 0).toNat) (hx : d ≠ 32) : l[q]? ≠ some 32 := fun e => by
  rw [getD_at h] at e
  injection e with e
  rw [e] at hd
  exact hx hd

def RnP (A : Option Addr) (c : Nat) (l : List UInt8) (p : Nat) (bad : Bool) (rb : Nat) (w : World) (e : Ending) (w' : World) : Prop :=
  ∃ (n : Int) (p' : Nat) (bad' : Bool), e = .returned (.int .i64 n) ∧ NumRd l p bad n p' bad' ∧ Blk w' rb 68 #[.slice A l.length c, .int .i64 (p' : Int), .bool bad'] ∧ But (fun x => x = rb) w w'
set_option maxRecDepth 100000 in
set_option maxHeartbeats 1600000 in
theorem rnum_neg (A : Option Addr) (c : Nat) (l : List UInt8) (p : Nat) (bad : Bool) (rb : Nat) (w : World) (lo : Nat) (hb : RdL encB 1 w lo A l) (hblk : Blk w rb 68 #[.slice A l.length c, .int .i64 (p : Int), .bool bad]) (hne : ∀ b o, A = some ⟨b, o, none⟩ → b ≠ rb)
    (hl : l.length ≤ 1000000) (hlt : p < l.length) (hc45 : l[p] = 45) : Calls Tryd.prog 41 #[.pointer (some ⟨rb, 0, none⟩)] w (RnP A c l p bad rb w) := by
  have hsg : Sgn l p (-1) (p + 1) := .inl ⟨rfl, rfl, by rw [List.getElem?_eq_getElem hlt, hc45]⟩
  obtain ⟨x0, x1, x2⟩ := box3 hblk
  obtain ⟨b, off, rfl, hlo, hbl, hcell⟩ := rdB_at hb hlt
  rw [hc45] at hcell
  have k2 : (p : Int) < l.length := by omega
  have f1 := hblk.frozen 1
  have k1 : (0 : Int) ≤ p := by omega
  have HB := Lib.hid hb
  have HK := Lib.hid hblk
  have HN := Lib.hid hne
  have HSG := Lib.hid hsg
  clear hb hblk hne hsg hc45
  go_enter Tryd.func41, Tryd.ntmps41
  go_wp2
  go_quiet (fail)
  go_wp2
  have HBK := Lib.hid (Blk.set_ (HK.out) 1 (.int .i64 ((p : Int) + 1)))
  go_loopw [4, 5] (fun n d wr => ∃ (k q : Nat) (N : Int), k ≤ 19 ∧ q ≤ l.length ∧ d = .int .i64 (k : Int) ∧ n = .int .i64 N ∧ Hid (q = (p + 1) + k ∧ NumI (-1) l (p + 1) k N) ∧ Blk wr rb 68 #[.slice (some ⟨b, off, none⟩) l.length c, .int .i64 (q : Int), .bool bad] ∧ But (fun x => x = rb) w wr) (fun _ d _ => 19 - (intOf d).toNat)
  case atStart => exact ⟨0, (p + 1), 0, by omega, by omega, rfl, rfl, Lib.hid ⟨rfl, numI_zero⟩, (by have := HBK.out; simp at this; exact this), ((But.refl (fun x => x = rb) _).drewN _).set rfl _ _⟩
  case round =>
    obtain ⟨k, q, N, hk, hpk, rfl, rfl, HI, hblk, hbut⟩ := hrel
    obtain ⟨z0, z1, z2⟩ := box3 hblk
    have fz1 := hblk.frozen 1
    have fz2 := hblk.frozen 2
    clear x0 x1 x2 f1 hcell k2
    by_cases g1 : q < l.length
    · obtain ⟨b', off', e', -, hbl', hcell'⟩ := rdB_at (hbut.rd HB.out (fun g o _ e => HN.out g o e)) g1
      cases e'
      rw [show l[q] = l.getD q 0 from (List.getD_eq_getElem?_getD.trans (by rw [List.getElem?_eq_getElem g1]; rfl)).symm] at hcell'
      obtain ⟨d, hd⟩ : ∃ d : Nat, d = (l.getD q 0).toNat := ⟨_, rfl⟩
      rw [← hd] at hcell'
      have HD := Lib.hid hd
      clear hd
      have q1 : (0 : Int) ≤ (q : Int) := by omega
      have q2 : (q : Int) < l.length := by omega

      have HK2 := Lib.hid hblk
      have HU2 := Lib.hid hbut
      clear hblk hbut
      by_cases hg : 48 ≤ d ∧ d ≤ 57
      · obtain ⟨g2, g3⟩ := hg
        have q3 : (48 : Int) ≤ (d : Int) := by omega
        have q4 : (d : Int) ≤ 57 := by omega
        by_cases g4 : k < 19
        · go_wp2
          go_quiet (fail)
          go_wp2
          go_quiet (fail)
          go_wp2
          refine ⟨⟨k + 1, q + 1, _, by omega, by omega, by go_num, rfl, Lib.hid ⟨by have := HI.out.1; omega, ?_⟩, ?_, (HU2.out.drewN _).set rfl _ _⟩, by simp [intOf]; omega⟩
          · have e := numI_step (.inr rfl) HI.out.2 (c := l.getD q 0) (d := d) (by rw [← HI.out.1]; exact getD_at g1) HD.out (by omega) (by omega)
            rw [Int.neg_one_mul] at e
            exact e
          · have := Blk.set_ (HK2.out) 1 (.int .i64 ((q : Int) + 1))
            simp at this
            exact this
        · obtain rfl : k = 19 := by omega
          have t2 : ((d : Int) == 32) = false := by simp; omega
          have t2b : ((d : Int) != 32) = true := by simp; omega
          go_wp2
          go_quiet (fail)
          go_wp2
          go_quiet (fail)
          go_wp2
          go_ret
          refine ⟨0, q, true, rfl, numRd_bad HSG.out HI.out.2 HI.out.1 hpk hk (.inl rfl) (.inr (ne32 g1 HD.out (by omega))), ?_, (HU2.out.drewN _).set rfl _ _⟩
          have := Blk.set_ (HK2.out) 2 (.bool true)
          simp at this
          exact this
      · by_cases hlow : d < 48
        · have t5 : decide ((48 : Int) ≤ (d : Int)) = false := by simp; omega
          have t5b : decide (48 ≤ d) = false := by simp; omega
          by_cases hk0 : k = 0
          · subst hk0
            go_wp2
            go_quiet (fail)
            go_wp2
            go_quiet (fail)
            go_wp2
            go_ret
            refine ⟨0, q, true, rfl, numRd_bad HSG.out HI.out.2 HI.out.1 hpk hk (.inr (nodig_lt g1 HD.out (.inl hlow))) (.inl rfl), ?_, (HU2.out.drewN _).set rfl _ _⟩
            have := Blk.set_ (HK2.out) 2 (.bool true)
            simp at this
            exact this
          · have t4 : ((k : Int) == 0) = false := by simp; omega
            by_cases h32 : d = 32
            · subst h32
              go_wp2
              go_quiet (fail)
              go_wp2
              go_quiet (fail)
              go_wp2
              go_ret
              refine ⟨N, q + 1, bad, rfl, numRd_good HSG.out HI.out.2 HI.out.1 g1 hk (.inr (nodig_lt g1 HD.out (.inl hlow))), ?_, (HU2.out.drewN _).set rfl _ _⟩
              have := Blk.set_ (HK2.out) 1 (.int .i64 ((q : Int) + 1))
              simp at this
              exact this
            · have t2 : ((d : Int) == 32) = false := by simp; omega
              have t2b : ((d : Int) != 32) = true := by simp; omega
              go_wp2
              go_quiet (fail)
              go_wp2
              go_quiet (fail)
              go_wp2
              go_ret
              refine ⟨0, q, true, rfl, numRd_bad HSG.out HI.out.2 HI.out.1 hpk hk (.inr (nodig_lt g1 HD.out (.inl hlow))) (.inr (ne32 g1 HD.out h32)), ?_, (HU2.out.drewN _).set rfl _ _⟩
              have := Blk.set_ (HK2.out) 2 (.bool true)
              simp at this
              exact this
        · have t5 : (48 : Int) ≤ (d : Int) := by omega
          have t6 : decide ((d : Int) ≤ 57) = false := by simp; omega
          have t6b : decide (d ≤ 57) = false := by simp; omega
          have t2 : ((d : Int) == 32) = false := by simp; omega
          have t2b : ((d : Int) != 32) = true := by simp; omega
          by_cases hk0 : k = 0
          · subst hk0
            go_wp2
            go_quiet (fail)
            go_wp2
            go_quiet (fail)
            go_wp2
            go_ret
            refine ⟨0, q, true, rfl, numRd_bad HSG.out HI.out.2 HI.out.1 hpk hk (.inr (nodig_lt g1 HD.out (.inr (by omega)))) (.inl rfl), ?_, (HU2.out.drewN _).set rfl _ _⟩
            have := Blk.set_ (HK2.out) 2 (.bool true)
            simp at this
            exact this
          · have t4 : ((k : Int) == 0) = false := by simp; omega
            go_wp2
            go_quiet (fail)
            go_wp2
            go_quiet (fail)
            go_wp2
            go_ret
            refine ⟨0, q, true, rfl, numRd_bad HSG.out HI.out.2 HI.out.1 hpk hk (.inr (nodig_lt g1 HD.out (.inr (by omega)))) (.inr (ne32 g1 HD.out (by omega))), ?_, (HU2.out.drewN _).set rfl _ _⟩
            have := Blk.set_ (HK2.out) 2 (.bool true)
            simp at this
            exact this
    · have t7 : decide ((q : Int) < l.length) = false := by simp; omega
      have t7b : decide (q < l.length) = false := by simp; omega
      have t8 : (l.length : Int) ≤ (q : Int) := by omega
      have HK2 := Lib.hid hblk
      have HU2 := Lib.hid hbut
      clear hblk hbut
      by_cases hk0 : k = 0
      · subst hk0
        go_wp2
        go_quiet (fail)
        go_wp2
        go_quiet (fail)
        go_wp2
        go_ret
        refine ⟨0, q, true, rfl, numRd_bad HSG.out HI.out.2 HI.out.1 hpk hk (.inr (fun c hc => by rw [List.getElem?_eq_none (by omega)] at hc; cases hc)) (.inl rfl), ?_, (HU2.out.drewN _).set rfl _ _⟩
        have := Blk.set_ (HK2.out) 2 (.bool true)
        simp at this
        exact this
      · have t4 : ((k : Int) == 0) = false := by simp; omega
        go_wp2
        go_quiet (fail)
        go_wp2
        go_quiet (fail)
        go_wp2
        go_ret
        refine ⟨0, q, true, rfl, numRd_bad HSG.out HI.out.2 HI.out.1 hpk hk (.inr (fun c hc => by rw [List.getElem?_eq_none (by omega)] at hc; cases hc)) (.inr (by rw [List.getElem?_eq_none (by omega)]; simp)), ?_, (HU2.out.drewN _).set rfl _ _⟩
        have := Blk.set_ (HK2.out) 2 (.bool true)
        simp at this
        exact this
set_option maxRecDepth 100000 in
set_option maxHeartbeats 1600000 in
theorem rnum_pos (A : Option Addr) (c : Nat) (l : List UInt8) (p : Nat) (bad : Bool) (rb : Nat) (w : World) (lo : Nat) (hb : RdL encB 1 w lo A l) (hblk : Blk w rb 68 #[.slice A l.length c, .int .i64 (p : Int), .bool bad]) (hne : ∀ b o, A = some ⟨b, o, none⟩ → b ≠ rb)
    (hl : l.length ≤ 1000000) (hlt : p < l.length) (hc45 : l[p] ≠ 45) : Calls Tryd.prog 41 #[.pointer (some ⟨rb, 0, none⟩)] w (RnP A c l p bad rb w) := by
  have hsg : Sgn l p 1 p := .inr ⟨rfl, rfl, by rw [List.getElem?_eq_getElem hlt]; simpa using hc45⟩
  obtain ⟨x0, x1, x2⟩ := box3 hblk
  obtain ⟨b, off, rfl, hlo, hbl, hcell⟩ := rdB_at hb hlt
  obtain ⟨d0, hd0⟩ : ∃ d0 : Nat, d0 = l[p].toNat := ⟨_, rfl⟩
  have hd45 : d0 ≠ 45 := fun e => hc45 (UInt8.toNat_inj.1 (by rw [← hd0, e]; rfl))
  rw [← hd0] at hcell
  have t1 : ((d0 : Int) == 45) = false := by simp; omega
  clear hd0
  have k2 : (p : Int) < l.length := by omega
  have f1 := hblk.frozen 1
  have k1 : (0 : Int) ≤ p := by omega
  have HB := Lib.hid hb
  have HK := Lib.hid hblk
  have HN := Lib.hid hne
  have HSG := Lib.hid hsg
  clear hb hblk hne hsg hc45
  go_enter Tryd.func41, Tryd.ntmps41
  go_wp2
  go_quiet (fail)
  go_wp2
  go_loopw [4, 5] (fun n d wr => ∃ (k q : Nat) (N : Int), k ≤ 19 ∧ q ≤ l.length ∧ d = .int .i64 (k : Int) ∧ n = .int .i64 N ∧ Hid (q = p + k ∧ NumI 1 l p k N) ∧ Blk wr rb 68 #[.slice (some ⟨b, off, none⟩) l.length c, .int .i64 (q : Int), .bool bad] ∧ But (fun x => x = rb) w wr) (fun _ d _ => 19 - (intOf d).toNat)
  case atStart => exact ⟨0, p, 0, by omega, by omega, rfl, rfl, Lib.hid ⟨rfl, numI_zero⟩, HK.out, (But.refl (fun x => x = rb) _).drewN _⟩
  case round =>
    obtain ⟨k, q, N, hk, hpk, rfl, rfl, HI, hblk, hbut⟩ := hrel
    obtain ⟨z0, z1, z2⟩ := box3 hblk
    have fz1 := hblk.frozen 1
    have fz2 := hblk.frozen 2
    clear x0 x1 x2 f1 hcell t1 k2
    by_cases g1 : q < l.length
    · obtain ⟨b', off', e', -, hbl', hcell'⟩ := rdB_at (hbut.rd HB.out (fun g o _ e => HN.out g o e)) g1
      cases e'
      rw [show l[q] = l.getD q 0 from (List.getD_eq_getElem?_getD.trans (by rw [List.getElem?_eq_getElem g1]; rfl)).symm] at hcell'
      obtain ⟨d, hd⟩ : ∃ d : Nat, d = (l.getD q 0).toNat := ⟨_, rfl⟩
      rw [← hd] at hcell'
      have HD := Lib.hid hd
      clear hd
      have q1 : (0 : Int) ≤ (q : Int) := by omega
      have q2 : (q : Int) < l.length := by omega

      have HK2 := Lib.hid hblk
      have HU2 := Lib.hid hbut
      clear hblk hbut
      by_cases hg : 48 ≤ d ∧ d ≤ 57
      · obtain ⟨g2, g3⟩ := hg
        have q3 : (48 : Int) ≤ (d : Int) := by omega
        have q4 : (d : Int) ≤ 57 := by omega
        by_cases g4 : k < 19
        · go_wp2
          go_quiet (fail)
          go_wp2
          go_quiet (fail)
          go_wp2
          refine ⟨⟨k + 1, q + 1, _, by omega, by omega, by go_num, rfl, Lib.hid ⟨by have := HI.out.1; omega, ?_⟩, ?_, (HU2.out.drewN _).set rfl _ _⟩, by simp [intOf]; omega⟩
          · have e := numI_step (.inl rfl) HI.out.2 (c := l.getD q 0) (d := d) (by rw [← HI.out.1]; exact getD_at g1) HD.out (by omega) (by omega)
            rw [Int.one_mul] at e
            exact e
          · have := Blk.set_ (HK2.out) 1 (.int .i64 ((q : Int) + 1))
            simp at this
            exact this
        · obtain rfl : k = 19 := by omega
          have t2 : ((d : Int) == 32) = false := by simp; omega
          have t2b : ((d : Int) != 32) = true := by simp; omega
          go_wp2
          go_quiet (fail)
          go_wp2
          go_quiet (fail)
          go_wp2
          go_ret
          refine ⟨0, q, true, rfl, numRd_bad HSG.out HI.out.2 HI.out.1 hpk hk (.inl rfl) (.inr (ne32 g1 HD.out (by omega))), ?_, (HU2.out.drewN _).set rfl _ _⟩
          have := Blk.set_ (HK2.out) 2 (.bool true)
          simp at this
          exact this
      · by_cases hlow : d < 48
        · have t5 : decide ((48 : Int) ≤ (d : Int)) = false := by simp; omega
          have t5b : decide (48 ≤ d) = false := by simp; omega
          by_cases hk0 : k = 0
          · subst hk0
            go_wp2
            go_quiet (fail)
            go_wp2
            go_quiet (fail)
            go_wp2
            go_ret
            refine ⟨0, q, true, rfl, numRd_bad HSG.out HI.out.2 HI.out.1 hpk hk (.inr (nodig_lt g1 HD.out (.inl hlow))) (.inl rfl), ?_, (HU2.out.drewN _).set rfl _ _⟩
            have := Blk.set_ (HK2.out) 2 (.bool true)
            simp at this
            exact this
          · have t4 : ((k : Int) == 0) = false := by simp; omega
            by_cases h32 : d = 32
            · subst h32
              go_wp2
              go_quiet (fail)
              go_wp2
              go_quiet (fail)
              go_wp2
              go_ret
              refine ⟨N, q + 1, bad, rfl, numRd_good HSG.out HI.out.2 HI.out.1 g1 hk (.inr (nodig_lt g1 HD.out (.inl hlow))), ?_, (HU2.out.drewN _).set rfl _ _⟩
              have := Blk.set_ (HK2.out) 1 (.int .i64 ((q : Int) + 1))
              simp at this
              exact this
            · have t2 : ((d : Int) == 32) = false := by simp; omega
              have t2b : ((d : Int) != 32) = true := by simp; omega
              go_wp2
              go_quiet (fail)
              go_wp2
              go_quiet (fail)
              go_wp2
              go_ret
              refine ⟨0, q, true, rfl, numRd_bad HSG.out HI.out.2 HI.out.1 hpk hk (.inr (nodig_lt g1 HD.out (.inl hlow))) (.inr (ne32 g1 HD.out h32)), ?_, (HU2.out.drewN _).set rfl _ _⟩
              have := Blk.set_ (HK2.out) 2 (.bool true)
              simp at this
              exact this
        · have t5 : (48 : Int) ≤ (d : Int) := by omega
          have t6 : decide ((d : Int) ≤ 57) = false := by simp; omega
          have t6b : decide (d ≤ 57) = false := by simp; omega
          have t2 : ((d : Int) == 32) = false := by simp; omega
          have t2b : ((d : Int) != 32) = true := by simp; omega
          by_cases hk0 : k = 0
          · subst hk0
            go_wp2
            go_quiet (fail)
            go_wp2
            go_quiet (fail)
            go_wp2
            go_ret
            refine ⟨0, q, true, rfl, numRd_bad HSG.out HI.out.2 HI.out.1 hpk hk (.inr (nodig_lt g1 HD.out (.inr (by omega)))) (.inl rfl), ?_, (HU2.out.drewN _).set rfl _ _⟩
            have := Blk.set_ (HK2.out) 2 (.bool true)
            simp at this
            exact this
          · have t4 : ((k : Int) == 0) = false := by simp; omega
            go_wp2
            go_quiet (fail)
            go_wp2
            go_quiet (fail)
            go_wp2
            go_ret
            refine ⟨0, q, true, rfl, numRd_bad HSG.out HI.out.2 HI.out.1 hpk hk (.inr (nodig_lt g1 HD.out (.inr (by omega)))) (.inr (ne32 g1 HD.out (by omega))), ?_, (HU2.out.drewN _).set rfl _ _⟩
            have := Blk.set_ (HK2.out) 2 (.bool true)
            simp at this
            exact this
    · have t7 : decide ((q : Int) < l.length) = false := by simp; omega
      have t7b : decide (q < l.length) = false := by simp; omega
      have t8 : (l.length : Int) ≤ (q : Int) := by omega
      have HK2 := Lib.hid hblk
      have HU2 := Lib.hid hbut
      clear hblk hbut
      by_cases hk0 : k = 0
      · subst hk0
        go_wp2
        go_quiet (fail)
        go_wp2
        go_quiet (fail)
        go_wp2
        go_ret
        refine ⟨0, q, true, rfl, numRd_bad HSG.out HI.out.2 HI.out.1 hpk hk (.inr (fun c hc => by rw [List.getElem?_eq_none (by omega)] at hc; cases hc)) (.inl rfl), ?_, (HU2.out.drewN _).set rfl _ _⟩
        have := Blk.set_ (HK2.out) 2 (.bool true)
        simp at this
        exact this
      · have t4 : ((k : Int) == 0) = false := by simp; omega
        go_wp2
        go_quiet (fail)
        go_wp2
        go_quiet (fail)
        go_wp2
        go_ret
        refine ⟨0, q, true, rfl, numRd_bad HSG.out HI.out.2 HI.out.1 hpk hk (.inr (fun c hc => by rw [List.getElem?_eq_none (by omega)] at hc; cases hc)) (.inr (by rw [List.getElem?_eq_none (by omega)]; simp)), ?_, (HU2.out.drewN _).set rfl _ _⟩
        have := Blk.set_ (HK2.out) 2 (.bool true)
        simp at this
        exact this
set_option maxRecDepth 100000 in
set_option maxHeartbeats 1600000 in
theorem rnum_end (A : Option Addr) (c : Nat) (l : List UInt8) (p : Nat) (bad : Bool) (rb : Nat) (w : World) (lo : Nat) (hb : RdL encB 1 w lo A l) (hblk : Blk w rb 68 #[.slice A l.length c, .int .i64 (p : Int), .bool bad]) (hne : ∀ b o, A = some ⟨b, o, none⟩ → b ≠ rb)
    (hl : l.length ≤ 1000000) (hlt : p = l.length) : Calls Tryd.prog 41 #[.pointer (some ⟨rb, 0, none⟩)] w (RnP A c l p bad rb w) := by
  have hsg : Sgn l p 1 p := .inr ⟨rfl, rfl, by rw [List.getElem?_eq_none (by omega)]; simp⟩
  obtain ⟨x0, x1, x2⟩ := box3 hblk
  have k2 : decide ((p : Int) < l.length) = false := by simp; omega
  have k3 : decide (p < l.length) = false := by simp; omega
  have f1 := hblk.frozen 1
  have k1 : (0 : Int) ≤ p := by omega
  have HB := Lib.hid hb
  have HK := Lib.hid hblk
  have HN := Lib.hid hne
  have HSG := Lib.hid hsg
  clear hb hblk hne hsg
  have HLT := Lib.hid hlt
  clear hlt
  go_enter Tryd.func41, Tryd.ntmps41
  go_wp2
  go_quiet (fail)
  go_wp2
  go_loopw [4, 5] (fun n d wr => ∃ (k q : Nat) (N : Int), k ≤ 19 ∧ q ≤ l.length ∧ d = .int .i64 (k : Int) ∧ n = .int .i64 N ∧ Hid (q = p + k ∧ NumI 1 l p k N) ∧ Blk wr rb 68 #[.slice A l.length c, .int .i64 (q : Int), .bool bad] ∧ But (fun x => x = rb) w wr) (fun _ d _ => 19 - (intOf d).toNat)
  case atStart => exact ⟨0, p, 0, by omega, by have := HLT.out; omega, rfl, rfl, Lib.hid ⟨rfl, numI_zero⟩, HK.out, (But.refl (fun x => x = rb) _).drewN _⟩
  case round =>
    obtain ⟨k, q, N, hk, hpk, rfl, rfl, HI, hblk, hbut⟩ := hrel
    obtain ⟨z0, z1, z2⟩ := box3 hblk
    have fz1 := hblk.frozen 1
    have fz2 := hblk.frozen 2
    clear x0 x1 x2 f1 k2
    by_cases g1 : q < l.length
    · exact absurd g1 (by have := HI.out.1; have := HLT.out; omega)
    · have t7 : decide ((q : Int) < l.length) = false := by simp; omega
      have t7b : decide (q < l.length) = false := by simp; omega
      have t8 : (l.length : Int) ≤ (q : Int) := by omega
      have HK2 := Lib.hid hblk
      have HU2 := Lib.hid hbut
      clear hblk hbut
      by_cases hk0 : k = 0
      · subst hk0
        go_wp2
        go_quiet (fail)
        go_wp2
        go_quiet (fail)
        go_wp2
        go_ret
        refine ⟨0, q, true, rfl, numRd_bad HSG.out HI.out.2 HI.out.1 hpk hk (.inr (fun c hc => by rw [List.getElem?_eq_none (by omega)] at hc; cases hc)) (.inl rfl), ?_, (HU2.out.drewN _).set rfl _ _⟩
        have := Blk.set_ (HK2.out) 2 (.bool true)
        simp at this
        exact this
      · have t4 : ((k : Int) == 0) = false := by simp; omega
        go_wp2
        go_quiet (fail)
        go_wp2
        go_quiet (fail)
        go_wp2
        go_ret
        refine ⟨0, q, true, rfl, numRd_bad HSG.out HI.out.2 HI.out.1 hpk hk (.inr (fun c hc => by rw [List.getElem?_eq_none (by omega)] at hc; cases hc)) (.inr (by rw [List.getElem?_eq_none (by omega)]; simp)), ?_, (HU2.out.drewN _).set rfl _ _⟩
        have := Blk.set_ (HK2.out) 2 (.bool true)
        simp at this
        exact this
theorem rnum_any (A : Option Addr) (c : Nat) (l : List UInt8) (p : Nat) (bad : Bool) (rb : Nat) (w : World) (lo : Nat) (hb : RdL encB 1 w lo A l) (hblk : Blk w rb 68 #[.slice A l.length c, .int .i64 (p : Int), .bool bad]) (hne : ∀ b o, A = some ⟨b, o, none⟩ → b ≠ rb)
    (hl : l.length ≤ 1000000) (hp : p ≤ l.length) : Calls Tryd.prog 41 #[.pointer (some ⟨rb, 0, none⟩)] w (RnP A c l p bad rb w) := by
  by_cases h1 : p < l.length
  · by_cases h2 : l[p] = 45
    · exact rnum_neg A c l p bad rb w lo hb hblk hne hl h1 h2
    · exact rnum_pos A c l p bad rb w lo hb hblk hne hl h1 h2
  · exact rnum_end A c l p bad rb w lo hb hblk hne hl (by omega)
end Go.Proofs.YtchlolfdinakiaaDoor
