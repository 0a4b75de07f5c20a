/- Profile of the reference, whole; what the two sides' answers have in common. -/
import Derived.Test.YtchlolfdinakiaaQp
import Derived.Deep.Onto
namespace Go.Proofs.Ytchlolfdinakiaa.Q
open Go.RowKit
attribute [local go_sem] run_store_float
def stepP (acc : List Ct) (x : Rc) : List Ct := if x.kind = 1 then hitGo x.fn x.line false acc else acc
/-- The reference's profile. -/
def prof (rs : List Rc) : List Ct := rs.foldl stepP []
theorem prof_step (rs : List Rc) (k : Nat) (x : Rc) (h : rs[k]? = some x) : prof (rs.take (k + 1)) = stepP (prof (rs.take k)) x := by
  unfold prof
  rw [List.take_add_one, h]
  simp
theorem hit_len (fn line : Int) : ∀ (put : Bool) (l : List Ct), (hitGo fn line put l).length ≤ l.length + 1
  | put, [] => by cases put <;> simp [hitGo]
  | put, c :: r => by
    have h1 := hit_len fn line true r
    have h2 := hit_len fn line put r
    by_cases hp : put = true
    · subst hp
      rw [hitGo]
      split
      · simp at *
      · split <;> simp <;> omega
    · have hp : put = false := by simpa using hp
      subst hp
      have h3 : (hitGo fn line true r).length ≤ r.length := hit_len_put fn line r
      rw [hitGo]
      split
      · simp; omega
      · split <;> simp <;> omega
where
  hit_len_put (fn line : Int) : ∀ (l : List Ct), (hitGo fn line true l).length ≤ l.length
    | [] => by simp [hitGo]
    | c :: r => by
      have h1 := hit_len_put fn line r
      rw [hitGo, if_neg (by simp)]
      split <;> simp <;> omega
theorem hit_hits (fn line : Int) (N : Int) (hN : 0 ≤ N) : ∀ (put : Bool) (l : List Ct), (∀ x ∈ l, 1 ≤ x.hits ∧ x.hits ≤ N) → ∀ x ∈ hitGo fn line put l, 1 ≤ x.hits ∧ x.hits ≤ N + 1
  | put, [], _, x, hx => by
    cases put
    · simp [hitGo] at hx; subst hx; simp; omega
    · simp [hitGo] at hx
  | put, c :: r, h, x, hx => by
    have hc := h c (by simp)
    have hr : ∀ x ∈ r, 1 ≤ x.hits ∧ x.hits ≤ N := fun x hx => h x (by simp [hx])
    have i1 := hit_hits fn line N hN true r hr x
    have i2 := hit_hits fn line N hN put r hr x
    rw [hitGo] at hx
    split at hx
    · simp only [List.mem_cons] at hx
      rcases hx with rfl | rfl | hx
      · simp; omega
      · omega
      · exact i1 hx
    · split at hx
      · simp only [List.mem_cons] at hx
        rcases hx with rfl | hx
        · simp; omega
        · exact i1 hx
      · simp only [List.mem_cons] at hx
        rcases hx with rfl | hx
        · omega
        · exact i2 hx
theorem prof_bd (rs : List Rc) : ∀ k, (prof (rs.take k)).length ≤ k ∧ ∀ x ∈ prof (rs.take k), 1 ≤ x.hits ∧ x.hits ≤ k
  | 0 => by simp [prof]
  | k + 1 => by
    obtain ⟨h1, h2⟩ := prof_bd rs k
    cases hx : rs[k]? with
    | none =>
      have : rs.take (k + 1) = rs.take k := by
        have := List.getElem?_eq_none_iff.1 hx
        rw [List.take_of_length_le (by omega), List.take_of_length_le (by omega)]
      rw [this]
      exact ⟨by omega, fun x hx => by have := h2 x hx; omega⟩
    | some x =>
      rw [prof_step rs k x hx]
      unfold stepP
      split
      · refine ⟨by have := hit_len x.fn x.line false (prof (rs.take k)); omega, fun y hy => ?_⟩
        have := hit_hits x.fn x.line k (by omega) false _ h2 y hy
        omega
      · exact ⟨by omega, fun x hx => by have := h2 x hx; omega⟩

set_option maxRecDepth 100000 in
theorem sprof_any (A A' : Option Addr) (c c' : Nat) (r : Rp) (w : World) (lo : Nat) (h : RdL encR 5 w lo A r.recs) (hn : r.recs.length ≤ 1048576) :
    Calls Try.prog 37 #[.agg #[.int .i64 r.code, .slice A r.recs.length c, .slice A' r.vals.length c', .string r.err, .string r.trace, .int .i64 r.ticks, .int .i64 r.made]] w fun e w' => ∃ v, e = .returned v ∧ OwC w' w.heap.size v (prof r.recs) ∧ Below w.heap.size w w' := by
  have hw0 := below_new w (.cells #[.int .i64 r.code, .slice A r.recs.length c, .slice A' r.vals.length c', .string r.err, .string r.trace, .int .i64 r.ticks, .int .i64 r.made] 72)
  go_enter Try.func37, Try.ntmps37
  go_wp2
  go_loopw [3, 9] (fun o i wr => ∃ (k : Nat) (v : Value), k ≤ r.recs.length ∧ i = .int .i64 k ∧ v = o ∧ OwC wr w.heap.size v (prof (r.recs.take k)) ∧ Below w.heap.size w wr) (fun _ i _ => r.recs.length - (intOf i).toNat)
  case atStart => exact ⟨0, _, Nat.zero_le _, rfl, rfl, World.ownsRow_nil _ _ _ _, hw0⟩
  case round =>
    obtain ⟨k, o, hk, rfl, rfl, hrow, hbel⟩ := hrel
    clear hw0
    by_cases hlt : k < r.recs.length
    · obtain ⟨x, hpk⟩ : ∃ x, r.recs[k]? = some x := ⟨_, List.getElem?_eq_getElem hlt⟩
      obtain ⟨b, off, e0, hlo, hb, c0, c1, c2, c3, c4⟩ := rdR_at (h.below hbel) hpk
      have hst := prof_step _ _ _ hpk
      obtain ⟨hb1, hb2⟩ := prof_bd r.recs k
      have k1 : (0 : Int) ≤ k := by omega
      have k2 : (k : Int) < r.recs.length := by omega
      have hwr := hbel.size
      subst e0
      clear h hpk
      by_cases hkd : x.kind = 1
      · have HST := Lib.hid hst
        have HK := Lib.hid hkd
        rw [hkd] at c0
        have hrow1 : (wr.alloc (.cells #[.int .i64 1, .int .i64 x.task, .int .i64 x.fn, .int .i64 x.line, .string x.text] 99)).ownsRow w.heap.size 106 3 o (prof (r.recs.take k)).length ((prof (r.recs.take k)).flatMap encC) := World.ownsRow.alloc hrow _
        have HL := Lib.hid (hbel.alloc hbel.size (.cells #[.int .i64 1, .int .i64 x.task, .int .i64 x.fn, .int .i64 x.line, .string x.text] 99))
        obtain ⟨A1, c1', rfl, hrd, -⟩ := ow_rd (enc := encC) (fun _ => rfl) hrow1
        have HB2 := Lib.hid hb2
        clear hrow hbel hst hkd hrow1 hb2
        go_wp2_with fail
        refine (l5hit_any _ _ (prof (r.recs.take k)) x.fn x.line _ _ hrd (by omega) (fun y hy => by have := HB2.out y hy; omega)).mono ?_
        rintro e w2 ⟨v2, rfl, ho2, hb2⟩
        have HO := Lib.hid (World.ownsRow.mono ho2 (by simp; omega : w.heap.size ≤ _))
        have HL2 := Lib.hid (HL.out.trans (hb2.mono (HL.out.size)))
        clear ho2 hb2 hrd
        go_wp2
        refine ⟨⟨k + 1, _, by omega, by go_num, rfl, ?_, HL2.out⟩, by simp [intOf]; omega⟩
        rw [HST.out]
        unfold stepP
        rw [if_pos HK.out]
        exact HO.out
      · have HST := Lib.hid hst
        have HK := Lib.hid hkd
        have HO : Hid (OwC (wr.alloc (.cells #[.int .i64 x.kind, .int .i64 x.task, .int .i64 x.fn, .int .i64 x.line, .string x.text] 99)) w.heap.size o (prof (r.recs.take k))) := Lib.hid (World.ownsRow.alloc hrow _)
        have HL := Lib.hid (hbel.alloc hbel.size (.cells #[.int .i64 x.kind, .int .i64 x.task, .int .i64 x.fn, .int .i64 x.line, .string x.text] 99))
        clear hrow hbel hst hb2
        go_wp2
        refine ⟨⟨k + 1, _, by omega, by go_num, rfl, ?_, HL.out⟩, by simp [intOf]; omega⟩
        rw [HST.out]
        unfold stepP
        rw [if_neg HK.out]
        exact HO.out
    · have hkk : k = r.recs.length := by omega
      subst hkk
      clear h
      go_wp2
      go_ret
      refine ⟨_, rfl, ?_, hbel⟩
      rw [List.take_length] at hrow
      exact hrow
end Go.Proofs.Ytchlolfdinakiaa.Q
