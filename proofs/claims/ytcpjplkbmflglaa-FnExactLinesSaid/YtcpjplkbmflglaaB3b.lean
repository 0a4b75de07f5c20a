/- The reference's look at a block and at a set; at a statement. -/
import Derived.Test.YtcpjplkbmflglaaB3
namespace Go.Proofs.Ytcpjplkbmflglaa
open Go.RowKit
attribute [local go_sem] run_store_float
set_option linter.unusedVariables false
set_option maxRecDepth 100000 in
set_option maxHeartbeats 2000000 in
theorem sst1_any (A : Option Addr) (c : Nat) (ls : List LN) (l : LN) (w : World) (lo : Nat) (a : Nat) (h : RdN w lo A ls) (hn : ls.length ≤ maxLen) (hf : ∀ l ∈ ls, fitN l) (ha : a < ls.length) (hl : ls[a]? = some l) (hk : l.nd.kind = 1) :
    Calls Try.prog 60 #[.slice A ls.length c, .int .i64 a] w fun e w' => e = .returned (.bool (ok1 (ls.map LN.nd) a l.nd)) ∧ Below w.heap.size w w' := by
  obtain ⟨hf1, hf2', hf3⟩ := hf l (List.mem_of_getElem? hl)
  have hn' := hn
  unfold maxLen at hn' hf1 hf2' hf3
  have HF := Lib.hid hf
  have H := Lib.hid h
  obtain ⟨b, off, rfl, hlo, hb, c0, c1, c2, c3, c4, c5, c6, c7, hok⟩ := rdN_at h hl
  clear h hf hl hok
  rw [hk] at c0
  have HK := Lib.hid hk
  clear hk
  by_cases h0 : l.nd.kids.length = 0
  · have H0 := Lib.hid h0
    have hkd : l.nd.kids = [] := List.eq_nil_of_length_eq_zero h0
    rw [h0] at c7
    clear h0
    go_enter Try.func60, Try.ntmps60
    go_wp2
    go_loop [37] (fun v => v = .int .i64 0) (fun _ => 0)
    case atStart => rfl
    case round =>
      subst hrel
      go_wp2_with fail
      refine (bareN_any _ _ _ _ _ _ _ _ _ _ _ _ _ _ _ _ _ _ (by first | omega | simp) w (below_new _ _)).mono ?_
      rintro e w2 ⟨rfl, hb2, HB2⟩
      go_wp2
      go_ret
      exact ⟨by unfold ok1 bareB; rw [H0.out]; rfl, HB2⟩
  · have hpos : 0 < l.nd.kids.length := by omega
    clear h0
    go_enter Try.func60, Try.ntmps60
    go_wp2_with (first
      | (go_at_call 73; refine (kidz_any _ _ ls _ lo a _ (H.out.alloc _) hn HF.out ha (by omega) (by omega)).mono ?_; rintro e w1 ⟨rfl, rfl⟩)
      | (go_at_call 96; refine (expr_any _ _).mono ?_; rintro e w1 ⟨rfl, rfl⟩)
      | (go_at_call 30; refine (stat_any _ _).mono ?_; rintro e w1 ⟨rfl, rfl⟩)
      | (go_at_call 76; refine (tgt_any _ _).mono ?_; rintro e w1 ⟨rfl, rfl⟩)
      | (go_at_call 77; refine (many_any _ _).mono ?_; rintro e w1 ⟨rfl, rfl⟩)
      | (go_at_call 75; refine (exprsz_any _ _ ls _ lo a _ _ (H.out.alloc _) hn HF.out ha (by omega) (by omega) (by omega)).mono ?_; rintro e w1 ⟨rfl, rfl⟩)
      | (go_at_call 74; refine (bareN_any _ _ _ _ _ _ _ _ _ _ _ _ _ _ _ _ _ _ (by first | omega | simp) w (by (repeat (first | with_reducible assumption | with_reducible exact Below.refl _ _ | with_reducible refine Below.drew ?_ | with_reducible refine bl_drewN _ ?_ | ((with_reducible refine bl_alloc ?_ _ ?_); · (first | omega | (simp; done) | (simp; omega))) | ((with_reducible refine bl_set ?_ _ ?_); · (first | omega | (simp; done) | (simp; omega))))))).mono ?_; rintro e w2 ⟨rfl, hb2, HB2⟩; obtain ⟨hc2, hf2⟩ := bcell hb2; have hz2 : w.heap.size < w2.heap.size := (by have := hb2.size; simp at this; omega)))
    all_goals
      go_loop [37] (fun v => ∃ p : Nat, p ≤ l.nd.kids.length ∧ v = .int .i64 p ∧ kidsAll isStat (ls.map LN.nd) a 0 l.nd.kids.length = kidsAll isStat (ls.map LN.nd) a p (l.nd.kids.length - p)) (fun v => l.nd.kids.length - (intOf v).toNat)
      case atStart => exact ⟨0, Nat.zero_le _, rfl, rfl⟩
      case round =>
        obtain ⟨p, hp2, rfl, hB⟩ := hrel
        have HB := Lib.hid hB
        clear hB
        by_cases hlt : p < l.nd.kids.length
        · obtain ⟨m, hm⟩ : ∃ m, l.nd.kids.length - p = m + 1 := ⟨l.nd.kids.length - p - 1, by omega⟩
          have hx : kidsAll isStat (ls.map LN.nd) a p (l.nd.kids.length - p) = (isStat (kidK (ls.map LN.nd) a p) && kidsAll isStat (ls.map LN.nd) a (p + 1) m) := by rw [hm]; rfl
          have HX := Lib.hid hx
          have HM := Lib.hid hm
          clear hx hm
          cases hE : isStat (kidK (ls.map LN.nd) a p)
          · have HE := Lib.hid hE
            go_wp2_with (first
      | (go_at_call 73; refine (kidz_any _ _ ls _ lo a _ (H.out.alloc _) hn HF.out ha (by omega) (by omega)).mono ?_; rintro e w1 ⟨rfl, rfl⟩)
      | (go_at_call 96; refine (expr_any _ _).mono ?_; rintro e w1 ⟨rfl, rfl⟩)
      | (go_at_call 30; refine (stat_any _ _).mono ?_; rintro e w1 ⟨rfl, rfl⟩)
      | (go_at_call 76; refine (tgt_any _ _).mono ?_; rintro e w1 ⟨rfl, rfl⟩)
      | (go_at_call 77; refine (many_any _ _).mono ?_; rintro e w1 ⟨rfl, rfl⟩)
      | (go_at_call 75; refine (exprsz_any _ _ ls _ lo a _ _ (H.out.alloc _) hn HF.out ha (by omega) (by omega) (by omega)).mono ?_; rintro e w1 ⟨rfl, rfl⟩)
      | (go_at_call 74; refine (bareN_any _ _ _ _ _ _ _ _ _ _ _ _ _ _ _ _ _ _ (by first | omega | simp) w (by (repeat (first | with_reducible assumption | with_reducible exact Below.refl _ _ | with_reducible refine Below.drew ?_ | with_reducible refine bl_drewN _ ?_ | ((with_reducible refine bl_alloc ?_ _ ?_); · (first | omega | (simp; done) | (simp; omega))) | ((with_reducible refine bl_set ?_ _ ?_); · (first | omega | (simp; done) | (simp; omega))))))).mono ?_; rintro e w2 ⟨rfl, hb2, HB2⟩; obtain ⟨hc2, hf2⟩ := bcell hb2; have hz2 : w.heap.size < w2.heap.size := (by have := hb2.size; simp at this; omega)))
            go_ret
            exact ⟨by unfold ok1; rw [HB.out, HX.out, HE.out]; rfl, below_new _ _⟩
          · have HE := Lib.hid hE
            go_wp2_with (first
      | (go_at_call 73; refine (kidz_any _ _ ls _ lo a _ (H.out.alloc _) hn HF.out ha (by omega) (by omega)).mono ?_; rintro e w1 ⟨rfl, rfl⟩)
      | (go_at_call 96; refine (expr_any _ _).mono ?_; rintro e w1 ⟨rfl, rfl⟩)
      | (go_at_call 30; refine (stat_any _ _).mono ?_; rintro e w1 ⟨rfl, rfl⟩)
      | (go_at_call 76; refine (tgt_any _ _).mono ?_; rintro e w1 ⟨rfl, rfl⟩)
      | (go_at_call 77; refine (many_any _ _).mono ?_; rintro e w1 ⟨rfl, rfl⟩)
      | (go_at_call 75; refine (exprsz_any _ _ ls _ lo a _ _ (H.out.alloc _) hn HF.out ha (by omega) (by omega) (by omega)).mono ?_; rintro e w1 ⟨rfl, rfl⟩)
      | (go_at_call 74; refine (bareN_any _ _ _ _ _ _ _ _ _ _ _ _ _ _ _ _ _ _ (by first | omega | simp) w (by (repeat (first | with_reducible assumption | with_reducible exact Below.refl _ _ | with_reducible refine Below.drew ?_ | with_reducible refine bl_drewN _ ?_ | ((with_reducible refine bl_alloc ?_ _ ?_); · (first | omega | (simp; done) | (simp; omega))) | ((with_reducible refine bl_set ?_ _ ?_); · (first | omega | (simp; done) | (simp; omega))))))).mono ?_; rintro e w2 ⟨rfl, hb2, HB2⟩; obtain ⟨hc2, hf2⟩ := bcell hb2; have hz2 : w.heap.size < w2.heap.size := (by have := hb2.size; simp at this; omega)))
            go_round
            case rel => exact ⟨p + 1, by omega, by go_num, by rw [HB.out, HX.out, HE.out, show l.nd.kids.length - (p + 1) = m by have := HM.out; omega]; rfl⟩
            case measure => simp [intOf]; omega
        · have hjj : p = l.nd.kids.length := by omega
          subst hjj
          go_wp2_with (first
      | (go_at_call 73; refine (kidz_any _ _ ls _ lo a _ (H.out.alloc _) hn HF.out ha (by omega) (by omega)).mono ?_; rintro e w1 ⟨rfl, rfl⟩)
      | (go_at_call 96; refine (expr_any _ _).mono ?_; rintro e w1 ⟨rfl, rfl⟩)
      | (go_at_call 30; refine (stat_any _ _).mono ?_; rintro e w1 ⟨rfl, rfl⟩)
      | (go_at_call 76; refine (tgt_any _ _).mono ?_; rintro e w1 ⟨rfl, rfl⟩)
      | (go_at_call 77; refine (many_any _ _).mono ?_; rintro e w1 ⟨rfl, rfl⟩)
      | (go_at_call 75; refine (exprsz_any _ _ ls _ lo a _ _ (H.out.alloc _) hn HF.out ha (by omega) (by omega) (by omega)).mono ?_; rintro e w1 ⟨rfl, rfl⟩)
      | (go_at_call 74; refine (bareN_any _ _ _ _ _ _ _ _ _ _ _ _ _ _ _ _ _ _ (by first | omega | simp) w (by (repeat (first | with_reducible assumption | with_reducible exact Below.refl _ _ | with_reducible refine Below.drew ?_ | with_reducible refine bl_drewN _ ?_ | ((with_reducible refine bl_alloc ?_ _ ?_); · (first | omega | (simp; done) | (simp; omega))) | ((with_reducible refine bl_set ?_ _ ?_); · (first | omega | (simp; done) | (simp; omega))))))).mono ?_; rintro e w2 ⟨rfl, hb2, HB2⟩; obtain ⟨hc2, hf2⟩ := bcell hb2; have hz2 : w.heap.size < w2.heap.size := (by have := hb2.size; simp at this; omega)))
          go_ret
          exact ⟨by unfold ok1 bareB; rw [HB.out, Nat.sub_self]; rfl, HB2⟩
set_option maxRecDepth 100000 in
set_option maxHeartbeats 2000000 in
theorem sst3_any (A : Option Addr) (c : Nat) (ls : List LN) (l : LN) (w : World) (lo : Nat) (a : Nat) (h : RdN w lo A ls) (hn : ls.length ≤ maxLen) (hf : ∀ l ∈ ls, fitN l) (ha : a < ls.length) (hl : ls[a]? = some l) (hk : l.nd.kind = 3) :
    Calls Try.prog 60 #[.slice A ls.length c, .int .i64 a] w fun e w' => e = .returned (.bool (ok3 (ls.map LN.nd) a l.nd)) ∧ Below w.heap.size w w' := by
  obtain ⟨hf1, hf2', hf3⟩ := hf l (List.mem_of_getElem? hl)
  have hn' := hn
  unfold maxLen at hn' hf1 hf2' hf3
  have HF := Lib.hid hf
  have H := Lib.hid h
  obtain ⟨b, off, rfl, hlo, hb, c0, c1, c2, c3, c4, c5, c6, c7, hok⟩ := rdN_at h hl
  clear h hf hl hok
  rw [hk] at c0
  have HK := Lib.hid hk
  clear hk
  by_cases h1 : 1 ≤ l.nd.num ∧ l.nd.num < l.nd.kids.length
  · obtain ⟨m, hm⟩ : ∃ m : Nat, l.nd.num = m := ⟨l.nd.num.toNat, by omega⟩
    have hok3 : ok3 (ls.map LN.nd) a l.nd = (kidsAll isTgt (ls.map LN.nd) a 0 m && (bareC l.nd.op m l.nd.flt l.nd.str l.nd.refs.length false true false false 0 && kidsAll isExpr (ls.map LN.nd) a m (l.nd.kids.length - m))) := by
      unfold ok3 bareB
      rw [decide_eq_true h1, hm]
      rfl
    rw [hok3]
    rw [hm] at c3 h1
    have hm1 : 1 ≤ m := by omega
    have hm2 : m < l.nd.kids.length := by omega
    have hpos : 0 < l.nd.kids.length := by omega
    have hm3 : (m : Int) < l.nd.kids.length := by omega
    have hd1 : decide (l.nd.kids.length ≤ m) = false := by simpa using hm2
    have hd2 : decide ((m : Int) < 1) = false := by simp; omega
    clear h1 hok3 hm
    go_enter Try.func60, Try.ntmps60
    go_wp2_with (first
      | (go_at_call 73; refine (kidz_any _ _ ls _ lo a _ (H.out.alloc _) hn HF.out ha (by omega) (by omega)).mono ?_; rintro e w1 ⟨rfl, rfl⟩)
      | (go_at_call 96; refine (expr_any _ _).mono ?_; rintro e w1 ⟨rfl, rfl⟩)
      | (go_at_call 30; refine (stat_any _ _).mono ?_; rintro e w1 ⟨rfl, rfl⟩)
      | (go_at_call 76; refine (tgt_any _ _).mono ?_; rintro e w1 ⟨rfl, rfl⟩)
      | (go_at_call 77; refine (many_any _ _).mono ?_; rintro e w1 ⟨rfl, rfl⟩)
      | (go_at_call 75; refine (exprsz_any _ _ ls _ lo a _ _ (H.out.alloc _) hn HF.out ha (by omega) (by omega) (by omega)).mono ?_; rintro e w1 ⟨rfl, rfl⟩)
      | (go_at_call 74; refine (bareN_any _ _ _ _ _ _ _ _ _ _ _ _ _ _ _ _ _ _ (by first | omega | simp) w (by (repeat (first | with_reducible assumption | with_reducible exact Below.refl _ _ | with_reducible refine Below.drew ?_ | with_reducible refine bl_drewN _ ?_ | ((with_reducible refine bl_alloc ?_ _ ?_); · (first | omega | (simp; done) | (simp; omega))) | ((with_reducible refine bl_set ?_ _ ?_); · (first | omega | (simp; done) | (simp; omega))))))).mono ?_; rintro e w2 ⟨rfl, hb2, HB2⟩; obtain ⟨hc2, hf2⟩ := bcell hb2; have hz2 : w.heap.size < w2.heap.size := (by have := hb2.size; simp at this; omega)))
    all_goals
      go_loop [9] (fun v => ∃ p : Nat, p ≤ m ∧ v = .int .i64 p ∧ kidsAll isTgt (ls.map LN.nd) a 0 m = kidsAll isTgt (ls.map LN.nd) a p (m - p)) (fun v => m - (intOf v).toNat)
      case atStart => exact ⟨0, Nat.zero_le _, rfl, rfl⟩
      case round =>
        obtain ⟨p, hp2, rfl, hB⟩ := hrel
        have HB := Lib.hid hB
        clear hB
        by_cases hlt : p < m
        · obtain ⟨q, hm⟩ : ∃ q, m - p = q + 1 := ⟨m - p - 1, by omega⟩
          have hx : kidsAll isTgt (ls.map LN.nd) a p (m - p) = (isTgt (kidK (ls.map LN.nd) a p) && kidsAll isTgt (ls.map LN.nd) a (p + 1) q) := by rw [hm]; rfl
          have HX := Lib.hid hx
          have HM := Lib.hid hm
          clear hx hm
          cases hE : isTgt (kidK (ls.map LN.nd) a p)
          · have HE := Lib.hid hE
            go_wp2_with (first
      | (go_at_call 73; refine (kidz_any _ _ ls _ lo a _ (H.out.alloc _) hn HF.out ha (by omega) (by omega)).mono ?_; rintro e w1 ⟨rfl, rfl⟩)
      | (go_at_call 96; refine (expr_any _ _).mono ?_; rintro e w1 ⟨rfl, rfl⟩)
      | (go_at_call 30; refine (stat_any _ _).mono ?_; rintro e w1 ⟨rfl, rfl⟩)
      | (go_at_call 76; refine (tgt_any _ _).mono ?_; rintro e w1 ⟨rfl, rfl⟩)
      | (go_at_call 77; refine (many_any _ _).mono ?_; rintro e w1 ⟨rfl, rfl⟩)
      | (go_at_call 75; refine (exprsz_any _ _ ls _ lo a _ _ (H.out.alloc _) hn HF.out ha (by omega) (by omega) (by omega)).mono ?_; rintro e w1 ⟨rfl, rfl⟩)
      | (go_at_call 74; refine (bareN_any _ _ _ _ _ _ _ _ _ _ _ _ _ _ _ _ _ _ (by first | omega | simp) w (by (repeat (first | with_reducible assumption | with_reducible exact Below.refl _ _ | with_reducible refine Below.drew ?_ | with_reducible refine bl_drewN _ ?_ | ((with_reducible refine bl_alloc ?_ _ ?_); · (first | omega | (simp; done) | (simp; omega))) | ((with_reducible refine bl_set ?_ _ ?_); · (first | omega | (simp; done) | (simp; omega))))))).mono ?_; rintro e w2 ⟨rfl, hb2, HB2⟩; obtain ⟨hc2, hf2⟩ := bcell hb2; have hz2 : w.heap.size < w2.heap.size := (by have := hb2.size; simp at this; omega)))
            go_ret
            exact ⟨by rw [HB.out, HX.out, HE.out]; rfl, below_new _ _⟩
          · have HE := Lib.hid hE
            go_wp2_with (first
      | (go_at_call 73; refine (kidz_any _ _ ls _ lo a _ (H.out.alloc _) hn HF.out ha (by omega) (by omega)).mono ?_; rintro e w1 ⟨rfl, rfl⟩)
      | (go_at_call 96; refine (expr_any _ _).mono ?_; rintro e w1 ⟨rfl, rfl⟩)
      | (go_at_call 30; refine (stat_any _ _).mono ?_; rintro e w1 ⟨rfl, rfl⟩)
      | (go_at_call 76; refine (tgt_any _ _).mono ?_; rintro e w1 ⟨rfl, rfl⟩)
      | (go_at_call 77; refine (many_any _ _).mono ?_; rintro e w1 ⟨rfl, rfl⟩)
      | (go_at_call 75; refine (exprsz_any _ _ ls _ lo a _ _ (H.out.alloc _) hn HF.out ha (by omega) (by omega) (by omega)).mono ?_; rintro e w1 ⟨rfl, rfl⟩)
      | (go_at_call 74; refine (bareN_any _ _ _ _ _ _ _ _ _ _ _ _ _ _ _ _ _ _ (by first | omega | simp) w (by (repeat (first | with_reducible assumption | with_reducible exact Below.refl _ _ | with_reducible refine Below.drew ?_ | with_reducible refine bl_drewN _ ?_ | ((with_reducible refine bl_alloc ?_ _ ?_); · (first | omega | (simp; done) | (simp; omega))) | ((with_reducible refine bl_set ?_ _ ?_); · (first | omega | (simp; done) | (simp; omega))))))).mono ?_; rintro e w2 ⟨rfl, hb2, HB2⟩; obtain ⟨hc2, hf2⟩ := bcell hb2; have hz2 : w.heap.size < w2.heap.size := (by have := hb2.size; simp at this; omega)))
            go_round
            case rel => exact ⟨p + 1, by omega, by go_num, by rw [HB.out, HX.out, HE.out, show m - (p + 1) = q by have := HM.out; omega]; rfl⟩
            case measure => simp [intOf]; omega
        · have hjj : p = m := by omega
          subst hjj
          have HT : Hid (kidsAll isTgt (ls.map LN.nd) a 0 p = true) := by
            have := HB.out
            rw [Nat.sub_self] at this
            exact this
          clear HB
          go_wp2_with (first
      | (go_at_call 73; refine (kidz_any _ _ ls _ lo a _ (by first | exact H.out.below HB2 | exact H.out.alloc _) hn HF.out ha (by omega) (by omega)).mono ?_; rintro e w1 ⟨rfl, rfl⟩)
      | (go_at_call 96; refine (expr_any _ _).mono ?_; rintro e w1 ⟨rfl, rfl⟩)
      | (go_at_call 30; refine (stat_any _ _).mono ?_; rintro e w1 ⟨rfl, rfl⟩)
      | (go_at_call 76; refine (tgt_any _ _).mono ?_; rintro e w1 ⟨rfl, rfl⟩)
      | (go_at_call 77; refine (many_any _ _).mono ?_; rintro e w1 ⟨rfl, rfl⟩)
      | (go_at_call 75; refine (exprsz_any _ _ ls _ lo a _ _ (by first | exact H.out.below HB2 | exact H.out.alloc _) hn HF.out ha (by omega) (by omega) (by omega)).mono ?_; rintro e w1 ⟨rfl, rfl⟩)
      | (go_at_call 74; refine (bareN_any _ _ _ _ _ _ _ _ _ _ _ _ _ _ _ _ _ _ (by first | omega | simp) w (by (repeat (first | with_reducible assumption | with_reducible exact Below.refl _ _ | with_reducible refine Below.drew ?_ | with_reducible refine bl_drewN _ ?_ | ((with_reducible refine bl_alloc ?_ _ ?_); · (first | omega | (simp; done) | (simp; omega))) | ((with_reducible refine bl_set ?_ _ ?_); · (first | omega | (simp; done) | (simp; omega))))))).mono ?_; rintro e w2 ⟨rfl, hb2, HB2⟩; obtain ⟨hc2, hf2⟩ := bcell hb2; have hz2 : w.heap.size < w2.heap.size := (by have := hb2.size; simp at this; omega)))
          all_goals go_ret
          all_goals refine ⟨?_, HB2⟩
          all_goals (clear hc2 hf2 hb2 HB2)
          all_goals (rw [HT.out]; simp_all)
  · have hok3 : ok3 (ls.map LN.nd) a l.nd = false := by
      unfold ok3
      rw [decide_eq_false h1]
      rfl
    rw [hok3]
    by_cases h2 : l.nd.num < 1
    · clear h1 hok3
      go_enter Try.func60, Try.ntmps60
      go_wp2_with (first
      | (go_at_call 73; refine (kidz_any _ _ ls _ lo a _ (H.out.alloc _) hn HF.out ha (by omega) (by omega)).mono ?_; rintro e w1 ⟨rfl, rfl⟩)
      | (go_at_call 96; refine (expr_any _ _).mono ?_; rintro e w1 ⟨rfl, rfl⟩)
      | (go_at_call 30; refine (stat_any _ _).mono ?_; rintro e w1 ⟨rfl, rfl⟩)
      | (go_at_call 76; refine (tgt_any _ _).mono ?_; rintro e w1 ⟨rfl, rfl⟩)
      | (go_at_call 77; refine (many_any _ _).mono ?_; rintro e w1 ⟨rfl, rfl⟩)
      | (go_at_call 75; refine (exprsz_any _ _ ls _ lo a _ _ (H.out.alloc _) hn HF.out ha (by omega) (by omega) (by omega)).mono ?_; rintro e w1 ⟨rfl, rfl⟩)
      | (go_at_call 74; refine (bareN_any _ _ _ _ _ _ _ _ _ _ _ _ _ _ _ _ _ _ (by first | omega | simp) w (by (repeat (first | with_reducible assumption | with_reducible exact Below.refl _ _ | with_reducible refine Below.drew ?_ | with_reducible refine bl_drewN _ ?_ | ((with_reducible refine bl_alloc ?_ _ ?_); · (first | omega | (simp; done) | (simp; omega))) | ((with_reducible refine bl_set ?_ _ ?_); · (first | omega | (simp; done) | (simp; omega))))))).mono ?_; rintro e w2 ⟨rfl, hb2, HB2⟩; obtain ⟨hc2, hf2⟩ := bcell hb2; have hz2 : w.heap.size < w2.heap.size := (by have := hb2.size; simp at this; omega)))
      all_goals go_ret
      all_goals exact ⟨rfl, below_new _ _⟩
    · have h3 : (l.nd.kids.length : Int) ≤ l.nd.num := by omega
      clear h1 hok3
      go_enter Try.func60, Try.ntmps60
      go_wp2_with (first
      | (go_at_call 73; refine (kidz_any _ _ ls _ lo a _ (H.out.alloc _) hn HF.out ha (by omega) (by omega)).mono ?_; rintro e w1 ⟨rfl, rfl⟩)
      | (go_at_call 96; refine (expr_any _ _).mono ?_; rintro e w1 ⟨rfl, rfl⟩)
      | (go_at_call 30; refine (stat_any _ _).mono ?_; rintro e w1 ⟨rfl, rfl⟩)
      | (go_at_call 76; refine (tgt_any _ _).mono ?_; rintro e w1 ⟨rfl, rfl⟩)
      | (go_at_call 77; refine (many_any _ _).mono ?_; rintro e w1 ⟨rfl, rfl⟩)
      | (go_at_call 75; refine (exprsz_any _ _ ls _ lo a _ _ (H.out.alloc _) hn HF.out ha (by omega) (by omega) (by omega)).mono ?_; rintro e w1 ⟨rfl, rfl⟩)
      | (go_at_call 74; refine (bareN_any _ _ _ _ _ _ _ _ _ _ _ _ _ _ _ _ _ _ (by first | omega | simp) w (by (repeat (first | with_reducible assumption | with_reducible exact Below.refl _ _ | with_reducible refine Below.drew ?_ | with_reducible refine bl_drewN _ ?_ | ((with_reducible refine bl_alloc ?_ _ ?_); · (first | omega | (simp; done) | (simp; omega))) | ((with_reducible refine bl_set ?_ _ ?_); · (first | omega | (simp; done) | (simp; omega))))))).mono ?_; rintro e w2 ⟨rfl, hb2, HB2⟩; obtain ⟨hc2, hf2⟩ := bcell hb2; have hz2 : w.heap.size < w2.heap.size := (by have := hb2.size; simp at this; omega)))
      all_goals go_ret
      all_goals exact ⟨rfl, below_new _ _⟩
theorem sst_any (A : Option Addr) (c : Nat) (ls : List LN) (l : LN) (w : World) (lo : Nat) (a : Nat) (h : RdN w lo A ls) (hn : ls.length ≤ maxLen) (hf : ∀ l ∈ ls, fitN l) (ha : a < ls.length) (hl : ls[a]? = some l) (hk : isStat l.nd.kind = true) :
    Calls Try.prog 60 #[.slice A ls.length c, .int .i64 a] w fun e w' => e = .returned (.bool (okB (ls.map LN.nd) a l.nd)) ∧ Below w.heap.size w w' := by
  have hk' : 1 ≤ l.nd.kind ∧ l.nd.kind ≤ 14 := of_decide_eq_true hk
  rcases (show l.nd.kind = 1 ∨ l.nd.kind = 2 ∨ l.nd.kind = 3 ∨ l.nd.kind = 4 ∨ l.nd.kind = 5 ∨ l.nd.kind = 6 ∨ l.nd.kind = 7 ∨ l.nd.kind = 8 ∨ l.nd.kind = 9 ∨ l.nd.kind = 10 ∨ l.nd.kind = 11 ∨ l.nd.kind = 12 ∨ l.nd.kind = 13 ∨ l.nd.kind = 14 by omega) with e | e | e | e | e | e | e | e | e | e | e | e | e | e
  · rw [okB_1 _ _ _ e]; exact sst1_any A c ls l w lo a h hn hf ha hl e
  · rw [okB_2 _ _ _ e]; exact sst2_any A c ls l w lo a h hn hf ha hl e
  · rw [okB_3 _ _ _ e]; exact sst3_any A c ls l w lo a h hn hf ha hl e
  · rw [okB_4 _ _ _ e]; exact sst4_any A c ls l w lo a h hn hf ha hl e
  · rw [okB_5 _ _ _ e]; exact sst5_any A c ls l w lo a h hn hf ha hl e
  · rw [okB_6 _ _ _ e]; exact sst6_any A c ls l w lo a h hn hf ha hl e
  · rw [okB_7 _ _ _ e]; exact sst7_any A c ls l w lo a h hn hf ha hl e
  · rw [okB_8 _ _ _ e]; exact sst8_any A c ls l w lo a h hn hf ha hl e
  · rw [okB_9 _ _ _ e]; exact sst9_any A c ls l w lo a h hn hf ha hl e
  · rw [okB_10 _ _ _ e]; exact sst10_any A c ls l w lo a h hn hf ha hl e
  · rw [okB_11 _ _ _ e]; exact sst11_any A c ls l w lo a h hn hf ha hl e
  · rw [okB_12 _ _ _ e]; exact sst12_any A c ls l w lo a h hn hf ha hl e
  · rw [okB_13 _ _ _ e]; exact sst13_any A c ls l w lo a h hn hf ha hl e
  · rw [okB_14 _ _ _ e]; exact sst14_any A c ls l w lo a h hn hf ha hl e
end Go.Proofs.Ytcpjplkbmflglaa
