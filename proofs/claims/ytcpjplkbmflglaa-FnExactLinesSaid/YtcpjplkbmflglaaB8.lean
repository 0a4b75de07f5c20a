/- The reference's look at a function's head. -/
import Derived.Test.YtcpjplkbmflglaaB7
namespace Go.Proofs.Ytcpjplkbmflglaa
open Go.RowKit
attribute [local go_sem] run_store_float
set_option linter.unusedVariables false
def nameB (s : ByteArray) (least : Int) : Bool := decide (least ≤ s.size ∧ s.size ≤ 40)
theorem name_any (s : ByteArray) (least : Int) (w : World) (hs : s.size ≤ maxLen) : Calls Try.prog 59 #[.string s, .int .i64 least] w fun e w' => e = .returned (.bool (nameB s least)) ∧ w = w' := by
  unfold maxLen at hs
  go_enter Try.func59, Try.ntmps59
  go_wp2
  all_goals go_ret
  all_goals exact ⟨by simp_all [nameB] <;> omega, rfl⟩
theorem fault_any (a b c : Int) (w : World) : Calls Try.prog 36 #[.int .i64 a, .int .i64 b, .int .i64 c] w fun e w' => e = .returned (.agg #[.int .i64 a, .int .i64 b, .int .i64 c]) ∧ Below w.heap.size w w' := by
  go_enter Try.func36, Try.ntmps36
  go_wp2
  refine bodyPost_ret (by simp [results, Try.results36, go_sem, *]; rfl) rfl ?_
  exact ⟨rfl, (by (repeat (first | with_reducible assumption | with_reducible exact Below.refl _ _ | with_reducible refine Below.drew ?_ | with_reducible refine bl_drewN _ ?_ | ((with_reducible refine bl_alloc ?_ _ ?_); · (first | omega | (simp; done) | (simp; omega))) | ((with_reducible refine bl_set ?_ _ ?_); · (first | omega | (simp; done) | (simp; omega))))))⟩
def headC (nl vl ul : Nat) (params line : Int) (nm : Nat) (vars : List ByteArray) (i : Nat) : Bool :=
  decide (0 < nl) && (decide (vl ≤ 200) && (decide (ul ≤ 200) && (decide (0 ≤ params ∧ params ≤ vl) && (decide (0 ≤ line ∧ line ≤ 100000) && (decide (nm ≤ 40) && ((decide (0 < i) || decide (params = 0 ∧ ul = 0)) && vars.all fun v => decide (1 ≤ v.size ∧ v.size ≤ 40)))))))
def headB (x : Fd) (i : Nat) : Bool := headC x.nodes.length x.vars.length x.ups.length x.params x.line x.name.size x.vars i
set_option maxRecDepth 100000 in
set_option maxHeartbeats 4000000 in
theorem head_any (A : Option Addr) (c : Nat) (fs : List LF) (f : LF) (w : World) (lo : Nat) (a : Nat) (h : RdF w lo A fs) (hn : fs.length ≤ maxLen) (hf : fitF f) (ha : fs[a]? = some f) :
    Calls Try.prog 37 #[.agg #[.slice A fs.length c], .int .i64 a] w fun e w' => e = .returned (.bool (headB f.fd a)) ∧ Below w.heap.size w w' := by
  obtain ⟨f1, ⟨f2, f3⟩, f4, f5, f6⟩ := hf
  have F3 := Lib.hid f3
  clear f3 f6
  have hlt := (List.getElem?_eq_some_iff.1 ha).1
  unfold maxLen at hn f1 f2 f4 f5
  obtain ⟨b, off, rfl, hlo, hb, c0, c1, c2, c3, c4, c5, c6, hok⟩ := rdF_at h ha
  have HO := Lib.hid hok.1
  clear h ha hok
  obtain ⟨name, line, params, rest, vars, va, vc, ups, ua, uc, ns, na, nc⟩ := f
  dsimp only at c0 c1 c2 c3 c4 c5 c6 f1 f2 F3 f4 f5 HO
  have hE : headB (LF.fd ⟨name, line, params, rest, vars, va, vc, ups, ua, uc, ns, na, nc⟩) a = headC ns.length vars.length ups.length params line name.size vars a := by
    unfold headB LF.fd
    rw [List.length_map]
  rw [hE]
  clear hE
  have hal : (a : Int) < fs.length := by omega
  by_cases z1 : ns.length = 0
  · clear hal
    have HV : Hid (headC ns.length vars.length ups.length params line name.size vars a = false) := by
      unfold headC
      rw [decide_eq_false (show ¬ 0 < ns.length by omega)]; exact Lib.hid rfl
    rw [z1] at c6
    clear z1
    have hal : (a : Int) < fs.length := by omega
    go_enter Try.func37, Try.ntmps37
    go_wp2_with (go_at_call 59; refine (name_any _ _ _ (by unfold maxLen; omega)).mono ?_; rintro e w1 ⟨rfl, rfl⟩)
    all_goals go_ret
    all_goals exact ⟨by rw [HV.out]; rfl, (by (repeat (first | with_reducible assumption | with_reducible exact Below.refl _ _ | with_reducible refine Below.drew ?_ | with_reducible refine bl_drewN _ ?_ | ((with_reducible refine bl_alloc ?_ _ ?_); · (first | omega | (simp; done) | (simp; omega))) | ((with_reducible refine bl_set ?_ _ ?_); · (first | omega | (simp; done) | (simp; omega))))))⟩
  by_cases z2 : 200 < vars.length
  · clear hal
    have HV : Hid (headC ns.length vars.length ups.length params line name.size vars a = false) := by
      unfold headC
      rw [decide_eq_false (show ¬ vars.length ≤ 200 by omega)]; exact Lib.hid (by simp)
    have hal : (a : Int) < fs.length := by omega
    go_enter Try.func37, Try.ntmps37
    go_wp2_with (go_at_call 59; refine (name_any _ _ _ (by unfold maxLen; omega)).mono ?_; rintro e w1 ⟨rfl, rfl⟩)
    all_goals go_ret
    all_goals exact ⟨by rw [HV.out]; rfl, (by (repeat (first | with_reducible assumption | with_reducible exact Below.refl _ _ | with_reducible refine Below.drew ?_ | with_reducible refine bl_drewN _ ?_ | ((with_reducible refine bl_alloc ?_ _ ?_); · (first | omega | (simp; done) | (simp; omega))) | ((with_reducible refine bl_set ?_ _ ?_); · (first | omega | (simp; done) | (simp; omega))))))⟩
  by_cases z3 : 200 < ups.length
  · clear hal
    have HV : Hid (headC ns.length vars.length ups.length params line name.size vars a = false) := by
      unfold headC
      rw [decide_eq_false (show ¬ ups.length ≤ 200 by omega)]; exact Lib.hid (by simp)
    have hal : (a : Int) < fs.length := by omega
    go_enter Try.func37, Try.ntmps37
    go_wp2_with (go_at_call 59; refine (name_any _ _ _ (by unfold maxLen; omega)).mono ?_; rintro e w1 ⟨rfl, rfl⟩)
    all_goals go_ret
    all_goals exact ⟨by rw [HV.out]; rfl, (by (repeat (first | with_reducible assumption | with_reducible exact Below.refl _ _ | with_reducible refine Below.drew ?_ | with_reducible refine bl_drewN _ ?_ | ((with_reducible refine bl_alloc ?_ _ ?_); · (first | omega | (simp; done) | (simp; omega))) | ((with_reducible refine bl_set ?_ _ ?_); · (first | omega | (simp; done) | (simp; omega))))))⟩
  by_cases z4 : params < 0
  · clear hal
    have HV : Hid (headC ns.length vars.length ups.length params line name.size vars a = false) := by
      unfold headC
      rw [decide_eq_false (show ¬ (0 ≤ params ∧ params ≤ vars.length) by omega)]; exact Lib.hid (by simp)
    have hal : (a : Int) < fs.length := by omega
    go_enter Try.func37, Try.ntmps37
    go_wp2_with (go_at_call 59; refine (name_any _ _ _ (by unfold maxLen; omega)).mono ?_; rintro e w1 ⟨rfl, rfl⟩)
    all_goals go_ret
    all_goals exact ⟨by rw [HV.out]; rfl, (by (repeat (first | with_reducible assumption | with_reducible exact Below.refl _ _ | with_reducible refine Below.drew ?_ | with_reducible refine bl_drewN _ ?_ | ((with_reducible refine bl_alloc ?_ _ ?_); · (first | omega | (simp; done) | (simp; omega))) | ((with_reducible refine bl_set ?_ _ ?_); · (first | omega | (simp; done) | (simp; omega))))))⟩
  by_cases z5 : (vars.length : Int) < params
  · clear hal
    have HV : Hid (headC ns.length vars.length ups.length params line name.size vars a = false) := by
      unfold headC
      rw [decide_eq_false (show ¬ (0 ≤ params ∧ params ≤ vars.length) by omega)]; exact Lib.hid (by simp)
    have hal : (a : Int) < fs.length := by omega
    go_enter Try.func37, Try.ntmps37
    go_wp2_with (go_at_call 59; refine (name_any _ _ _ (by unfold maxLen; omega)).mono ?_; rintro e w1 ⟨rfl, rfl⟩)
    all_goals go_ret
    all_goals exact ⟨by rw [HV.out]; rfl, (by (repeat (first | with_reducible assumption | with_reducible exact Below.refl _ _ | with_reducible refine Below.drew ?_ | with_reducible refine bl_drewN _ ?_ | ((with_reducible refine bl_alloc ?_ _ ?_); · (first | omega | (simp; done) | (simp; omega))) | ((with_reducible refine bl_set ?_ _ ?_); · (first | omega | (simp; done) | (simp; omega))))))⟩
  by_cases z6 : line < 0
  · clear hal
    have HV : Hid (headC ns.length vars.length ups.length params line name.size vars a = false) := by
      unfold headC
      rw [decide_eq_false (show ¬ (0 ≤ line ∧ line ≤ 100000) by omega)]; exact Lib.hid (by simp)
    have hal : (a : Int) < fs.length := by omega
    go_enter Try.func37, Try.ntmps37
    go_wp2_with (go_at_call 59; refine (name_any _ _ _ (by unfold maxLen; omega)).mono ?_; rintro e w1 ⟨rfl, rfl⟩)
    all_goals go_ret
    all_goals exact ⟨by rw [HV.out]; rfl, (by (repeat (first | with_reducible assumption | with_reducible exact Below.refl _ _ | with_reducible refine Below.drew ?_ | with_reducible refine bl_drewN _ ?_ | ((with_reducible refine bl_alloc ?_ _ ?_); · (first | omega | (simp; done) | (simp; omega))) | ((with_reducible refine bl_set ?_ _ ?_); · (first | omega | (simp; done) | (simp; omega))))))⟩
  by_cases z7 : 100000 < line
  · clear hal
    have HV : Hid (headC ns.length vars.length ups.length params line name.size vars a = false) := by
      unfold headC
      rw [decide_eq_false (show ¬ (0 ≤ line ∧ line ≤ 100000) by omega)]; exact Lib.hid (by simp)
    have hal : (a : Int) < fs.length := by omega
    go_enter Try.func37, Try.ntmps37
    go_wp2_with (go_at_call 59; refine (name_any _ _ _ (by unfold maxLen; omega)).mono ?_; rintro e w1 ⟨rfl, rfl⟩)
    all_goals go_ret
    all_goals exact ⟨by rw [HV.out]; rfl, (by (repeat (first | with_reducible assumption | with_reducible exact Below.refl _ _ | with_reducible refine Below.drew ?_ | with_reducible refine bl_drewN _ ?_ | ((with_reducible refine bl_alloc ?_ _ ?_); · (first | omega | (simp; done) | (simp; omega))) | ((with_reducible refine bl_set ?_ _ ?_); · (first | omega | (simp; done) | (simp; omega))))))⟩
  by_cases z8 : 40 < name.size
  · clear hal
    have HV : Hid (headC ns.length vars.length ups.length params line name.size vars a = false) := by
      unfold headC
      rw [decide_eq_false (show ¬ name.size ≤ 40 by omega)]; exact Lib.hid (by simp)
    have hnb : nameB name 0 = false := by unfold nameB; exact decide_eq_false (by omega)
    have hal : (a : Int) < fs.length := by omega
    go_enter Try.func37, Try.ntmps37
    go_wp2_with (go_at_call 59; refine (name_any _ _ _ (by unfold maxLen; omega)).mono ?_; rintro e w1 ⟨rfl, rfl⟩)
    all_goals go_ret
    all_goals exact ⟨by rw [HV.out]; rfl, (by (repeat (first | with_reducible assumption | with_reducible exact Below.refl _ _ | with_reducible refine Below.drew ?_ | with_reducible refine bl_drewN _ ?_ | ((with_reducible refine bl_alloc ?_ _ ?_); · (first | omega | (simp; done) | (simp; omega))) | ((with_reducible refine bl_set ?_ _ ?_); · (first | omega | (simp; done) | (simp; omega))))))⟩
  have hz1 : 0 < ns.length := by omega
  have hzb : ((ns.length : Int) == 0) = false := beq_eq_false_iff_ne.2 (by omega)
  have hnb : nameB name 0 = true := by unfold nameB; exact decide_eq_true (by omega)
  by_cases z9 : a = 0 ∧ 0 < params
  · obtain ⟨z9a, z9b⟩ := z9
    have HV : Hid (headC ns.length vars.length ups.length params line name.size vars a = false) := by
      unfold headC
      rw [decide_eq_false (show ¬ 0 < a by omega), decide_eq_false (show ¬ (params = 0 ∧ ups.length = 0) by omega)]; exact Lib.hid (by simp)
    have ha0 : ((a : Int) == 0) = true := by simp [z9a]
    clear z9a
    go_enter Try.func37, Try.ntmps37
    go_wp2_with (go_at_call 59; refine (name_any _ _ _ (by unfold maxLen; omega)).mono ?_; rintro e w1 ⟨rfl, rfl⟩)
    all_goals go_ret
    all_goals exact ⟨by rw [HV.out]; rfl, (by (repeat (first | with_reducible assumption | with_reducible exact Below.refl _ _ | with_reducible refine Below.drew ?_ | with_reducible refine bl_drewN _ ?_ | ((with_reducible refine bl_alloc ?_ _ ?_); · (first | omega | (simp; done) | (simp; omega))) | ((with_reducible refine bl_set ?_ _ ?_); · (first | omega | (simp; done) | (simp; omega))))))⟩
  by_cases z10 : a = 0 ∧ 0 < ups.length
  · obtain ⟨z9a, z9b⟩ := z10
    have HV : Hid (headC ns.length vars.length ups.length params line name.size vars a = false) := by
      unfold headC
      rw [decide_eq_false (show ¬ 0 < a by omega), decide_eq_false (show ¬ (params = 0 ∧ ups.length = 0) by omega)]; exact Lib.hid (by simp)
    have ha0 : ((a : Int) == 0) = true := by simp [z9a]
    have hp0 : params ≤ 0 := by omega
    clear z9a z9
    go_enter Try.func37, Try.ntmps37
    go_wp2_with (go_at_call 59; refine (name_any _ _ _ (by unfold maxLen; omega)).mono ?_; rintro e w1 ⟨rfl, rfl⟩)
    all_goals go_ret
    all_goals exact ⟨by rw [HV.out]; rfl, (by (repeat (first | with_reducible assumption | with_reducible exact Below.refl _ _ | with_reducible refine Below.drew ?_ | with_reducible refine bl_drewN _ ?_ | ((with_reducible refine bl_alloc ?_ _ ?_); · (first | omega | (simp; done) | (simp; omega))) | ((with_reducible refine bl_set ?_ _ ?_); · (first | omega | (simp; done) | (simp; omega))))))⟩
  have HV : Hid (headC ns.length vars.length ups.length params line name.size vars a = vars.all fun v => decide (1 ≤ v.size ∧ v.size ≤ 40)) := by
    unfold headC
    rw [decide_eq_true hz1, decide_eq_true (show vars.length ≤ 200 by omega), decide_eq_true (show ups.length ≤ 200 by omega), decide_eq_true (show 0 ≤ params ∧ params ≤ vars.length by omega), decide_eq_true (show 0 ≤ line ∧ line ≤ 100000 by omega), decide_eq_true (show name.size ≤ 40 by omega)]
    by_cases h0 : 0 < a
    · rw [decide_eq_true h0]; exact Lib.hid (by simp)
    · rw [decide_eq_true (show params = 0 ∧ ups.length = 0 by omega)]; exact Lib.hid (by simp)
  have HA0 : Hid (((a : Int) == 0) = false ∨ ((a : Int) == 0) = true ∧ params ≤ 0 ∧ ups.length ≤ 0) := by
    by_cases h0 : a = 0
    · exact Lib.hid (.inr ⟨by simp [h0], by omega, by omega⟩)
    · exact Lib.hid (.inl (by simp; omega))
  clear z1 z9 z10
  rcases HA0.out with ha0 | ⟨ha0, hp0, hu0⟩
  rotate_left
  have hpb : decide (0 < params) = false := decide_eq_false (by omega)
  have hub : decide (0 < ups.length) = false := decide_eq_false (by omega)
  have hub2 : decide ((0 : Int) < ups.length) = false := decide_eq_false (by omega)
  all_goals
    go_enter Try.func37, Try.ntmps37
    go_wp2_with (go_at_call 59; refine (name_any _ _ _ (by unfold maxLen; omega)).mono ?_; rintro e w1 ⟨rfl, rfl⟩)
    go_loop [74] (fun v => ∃ p : Nat, p ≤ vars.length ∧ v = .int .i64 p ∧ headC ns.length vars.length ups.length params line name.size vars a = (vars.drop p).all fun v => decide (1 ≤ v.size ∧ v.size ≤ 40)) (fun v => vars.length - (intOf v).toNat)
    case atStart => exact ⟨0, Nat.zero_le _, rfl, HV.out⟩
    case round =>
      obtain ⟨p, hp, rfl, hB⟩ := hrel
      by_cases hlt : p < vars.length
      · obtain ⟨s, hs⟩ : ∃ s, vars[p]? = some s := ⟨_, List.getElem?_eq_getElem hlt⟩
        have hss := F3.out s (List.mem_of_getElem? hs)
        unfold maxLen at hss
        have hd : Hid (headC ns.length vars.length ups.length params line name.size vars a = (nameB s 1 && (vars.drop (p + 1)).all fun v => decide (1 ≤ v.size ∧ v.size ≤ 40))) := by
          obtain ⟨e1, e2⟩ := List.getElem?_eq_some_iff.1 hs
          rw [hB, List.drop_eq_getElem_cons e1, e2, List.all_cons]
          unfold nameB
          exact Lib.hid (by congr 2; exact propext ⟨fun h => ⟨by omega, h.2⟩, fun h => ⟨by omega, h.2⟩⟩)
        obtain ⟨b2, off2, rfl, hlo2, hb2, cs⟩ := rdS_at' HO.out hs
        clear hs hB
        cases hnm : nameB s 1
        · have HNM := Lib.hid hnm
          go_wp2_with (go_at_call 59; refine (name_any _ _ _ (by unfold maxLen; omega)).mono ?_; rintro e w1 ⟨rfl, rfl⟩)
          go_ret
          exact ⟨by rw [hd.out, HNM.out]; rfl, below_new2 _ _ _⟩
        · have HNM := Lib.hid hnm
          go_wp2_with (go_at_call 59; refine (name_any _ _ _ (by unfold maxLen; omega)).mono ?_; rintro e w1 ⟨rfl, rfl⟩)
          go_round
          case rel => exact ⟨p + 1, by omega, by go_num, by rw [hd.out, HNM.out]; rfl⟩
          case measure => simp [intOf]; omega
      · have hpp : p = vars.length := by omega
        subst hpp
        have HB := Lib.hid hB
        clear hB
        go_wp2
        go_ret
        exact ⟨by rw [HB.out, List.drop_length]; rfl, below_new2 _ _ _⟩
end Go.Proofs.Ytcpjplkbmflglaa
