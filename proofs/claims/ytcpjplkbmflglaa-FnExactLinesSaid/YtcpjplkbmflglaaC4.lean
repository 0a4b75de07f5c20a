/- fnOk says what the reference says of a function's head. -/
import Derived.Test.YtcpjplkbmflglaaB14
namespace Go.Proofs.Ytcpjplkbmflglaa
open Go.RowKit
attribute [local go_sem] run_store_float
set_option linter.unusedVariables false
set_option maxRecDepth 100000 in
set_option maxHeartbeats 4000000 in
theorem ihead_any (A : Option Addr) (c : Nat) (fs : List LF) (f : LF) (w : World) (lo : Nat) (a : Nat) (h : RdF w lo A fs) (hn : fs.length ≤ maxLen) (hf : fitF f) (ha : fs[a]? = some f) :
    Calls Try.prog 22 #[.agg #[.slice A fs.length c], .int .i64 a] w fun e w' => e = .returned (.bool (headB f.fd a)) ∧ Below w.heap.size w w' := by
  obtain ⟨f1, ⟨f2, f3⟩, f4, f5, f6⟩ := hf
  have F3 := Lib.hid f3
  clear f3 f6
  have hlt := (List.getElem?_eq_some_iff.1 ha).1
  unfold maxLen at hn f1 f2 f4 f5
  obtain ⟨b, off, rfl, hlo, hb, c0, c1, c2, c3, c4, c5, c6, hok⟩ := rdF_at h ha
  have HO := Lib.hid hok.1
  clear h ha hok
  obtain ⟨name, line, params, rest, vars, va, vc, ups, ua, uc, ns, na, nc⟩ := f
  dsimp only at c0 c1 c2 c3 c4 c5 c6 f1 f2 F3 f4 f5 HO
  have hE : headB (LF.fd ⟨name, line, params, rest, vars, va, vc, ups, ua, uc, ns, na, nc⟩) a = headC ns.length vars.length ups.length params line name.size vars a := by
    unfold headB LF.fd
    rw [List.length_map]
  rw [hE]
  clear hE
  have hal : (a : Int) < fs.length := by omega
  by_cases z1 : ns.length = 0
  · have HV : Hid (headC ns.length vars.length ups.length params line name.size vars a = false) := by
      unfold headC
      rw [decide_eq_false (show ¬ 0 < ns.length by omega)]; exact Lib.hid rfl
    rw [z1] at c6
    clear z1
    go_enter Try.func22, Try.ntmps22
    go_wp2
    all_goals go_ret
    all_goals exact ⟨by rw [HV.out]; rfl, (by (repeat (first | with_reducible assumption | with_reducible exact Below.refl _ _ | with_reducible refine Below.drew ?_ | with_reducible refine bl_drewN _ ?_ | ((with_reducible refine bl_alloc ?_ _ ?_); · (first | omega | (simp; done) | (simp; omega))) | ((with_reducible refine bl_set ?_ _ ?_); · (first | omega | (simp; done) | (simp; omega))))))⟩
  by_cases z2 : 200 < vars.length
  · have HV : Hid (headC ns.length vars.length ups.length params line name.size vars a = false) := by
      unfold headC
      rw [decide_eq_false (show ¬ vars.length ≤ 200 by omega)]; exact Lib.hid (by simp)
    have hzb : ((ns.length : Int) == 0) = false := beq_eq_false_iff_ne.2 (by omega)
    go_enter Try.func22, Try.ntmps22
    go_wp2
    all_goals go_ret
    all_goals exact ⟨by rw [HV.out]; rfl, (by (repeat (first | with_reducible assumption | with_reducible exact Below.refl _ _ | with_reducible refine Below.drew ?_ | with_reducible refine bl_drewN _ ?_ | ((with_reducible refine bl_alloc ?_ _ ?_); · (first | omega | (simp; done) | (simp; omega))) | ((with_reducible refine bl_set ?_ _ ?_); · (first | omega | (simp; done) | (simp; omega))))))⟩
  by_cases z3 : 200 < ups.length
  · have HV : Hid (headC ns.length vars.length ups.length params line name.size vars a = false) := by
      unfold headC
      rw [decide_eq_false (show ¬ ups.length ≤ 200 by omega)]; exact Lib.hid (by simp)
    have hzb : ((ns.length : Int) == 0) = false := beq_eq_false_iff_ne.2 (by omega)
    go_enter Try.func22, Try.ntmps22
    go_wp2
    all_goals go_ret
    all_goals exact ⟨by rw [HV.out]; rfl, (by (repeat (first | with_reducible assumption | with_reducible exact Below.refl _ _ | with_reducible refine Below.drew ?_ | with_reducible refine bl_drewN _ ?_ | ((with_reducible refine bl_alloc ?_ _ ?_); · (first | omega | (simp; done) | (simp; omega))) | ((with_reducible refine bl_set ?_ _ ?_); · (first | omega | (simp; done) | (simp; omega))))))⟩
  by_cases z4 : params < 0
  · have HV : Hid (headC ns.length vars.length ups.length params line name.size vars a = false) := by
      unfold headC
      rw [decide_eq_false (show ¬ (0 ≤ params ∧ params ≤ vars.length) by omega)]; exact Lib.hid (by simp)
    have hzb : ((ns.length : Int) == 0) = false := beq_eq_false_iff_ne.2 (by omega)
    go_enter Try.func22, Try.ntmps22
    go_wp2
    all_goals go_ret
    all_goals exact ⟨by rw [HV.out]; rfl, (by (repeat (first | with_reducible assumption | with_reducible exact Below.refl _ _ | with_reducible refine Below.drew ?_ | with_reducible refine bl_drewN _ ?_ | ((with_reducible refine bl_alloc ?_ _ ?_); · (first | omega | (simp; done) | (simp; omega))) | ((with_reducible refine bl_set ?_ _ ?_); · (first | omega | (simp; done) | (simp; omega))))))⟩
  by_cases z5 : (vars.length : Int) < params
  · have HV : Hid (headC ns.length vars.length ups.length params line name.size vars a = false) := by
      unfold headC
      rw [decide_eq_false (show ¬ (0 ≤ params ∧ params ≤ vars.length) by omega)]; exact Lib.hid (by simp)
    have hzb : ((ns.length : Int) == 0) = false := beq_eq_false_iff_ne.2 (by omega)
    go_enter Try.func22, Try.ntmps22
    go_wp2
    all_goals go_ret
    all_goals exact ⟨by rw [HV.out]; rfl, (by (repeat (first | with_reducible assumption | with_reducible exact Below.refl _ _ | with_reducible refine Below.drew ?_ | with_reducible refine bl_drewN _ ?_ | ((with_reducible refine bl_alloc ?_ _ ?_); · (first | omega | (simp; done) | (simp; omega))) | ((with_reducible refine bl_set ?_ _ ?_); · (first | omega | (simp; done) | (simp; omega))))))⟩
  by_cases z6 : line < 0
  · have HV : Hid (headC ns.length vars.length ups.length params line name.size vars a = false) := by
      unfold headC
      rw [decide_eq_false (show ¬ (0 ≤ line ∧ line ≤ 100000) by omega)]; exact Lib.hid (by simp)
    have hzb : ((ns.length : Int) == 0) = false := beq_eq_false_iff_ne.2 (by omega)
    go_enter Try.func22, Try.ntmps22
    go_wp2
    all_goals go_ret
    all_goals exact ⟨by rw [HV.out]; rfl, (by (repeat (first | with_reducible assumption | with_reducible exact Below.refl _ _ | with_reducible refine Below.drew ?_ | with_reducible refine bl_drewN _ ?_ | ((with_reducible refine bl_alloc ?_ _ ?_); · (first | omega | (simp; done) | (simp; omega))) | ((with_reducible refine bl_set ?_ _ ?_); · (first | omega | (simp; done) | (simp; omega))))))⟩
  by_cases z7 : 100000 < line
  · have HV : Hid (headC ns.length vars.length ups.length params line name.size vars a = false) := by
      unfold headC
      rw [decide_eq_false (show ¬ (0 ≤ line ∧ line ≤ 100000) by omega)]; exact Lib.hid (by simp)
    have hzb : ((ns.length : Int) == 0) = false := beq_eq_false_iff_ne.2 (by omega)
    go_enter Try.func22, Try.ntmps22
    go_wp2
    all_goals go_ret
    all_goals exact ⟨by rw [HV.out]; rfl, (by (repeat (first | with_reducible assumption | with_reducible exact Below.refl _ _ | with_reducible refine Below.drew ?_ | with_reducible refine bl_drewN _ ?_ | ((with_reducible refine bl_alloc ?_ _ ?_); · (first | omega | (simp; done) | (simp; omega))) | ((with_reducible refine bl_set ?_ _ ?_); · (first | omega | (simp; done) | (simp; omega))))))⟩
  by_cases z8 : 40 < name.size
  · have HV : Hid (headC ns.length vars.length ups.length params line name.size vars a = false) := by
      unfold headC
      rw [decide_eq_false (show ¬ name.size ≤ 40 by omega)]; exact Lib.hid (by simp)
    have hzb : ((ns.length : Int) == 0) = false := beq_eq_false_iff_ne.2 (by omega)
    go_enter Try.func22, Try.ntmps22
    go_wp2
    all_goals go_ret
    all_goals exact ⟨by rw [HV.out]; rfl, (by (repeat (first | with_reducible assumption | with_reducible exact Below.refl _ _ | with_reducible refine Below.drew ?_ | with_reducible refine bl_drewN _ ?_ | ((with_reducible refine bl_alloc ?_ _ ?_); · (first | omega | (simp; done) | (simp; omega))) | ((with_reducible refine bl_set ?_ _ ?_); · (first | omega | (simp; done) | (simp; omega))))))⟩
  have hz1 : 0 < ns.length := by omega
  have hzb : ((ns.length : Int) == 0) = false := beq_eq_false_iff_ne.2 (by omega)
  have HV : Hid (headC ns.length vars.length ups.length params line name.size vars a = ((decide (0 < a) || decide (params = 0 ∧ ups.length = 0)) && vars.all fun v => decide (1 ≤ v.size ∧ v.size ≤ 40))) := by
    unfold headC
    rw [decide_eq_true hz1, decide_eq_true (show vars.length ≤ 200 by omega), decide_eq_true (show ups.length ≤ 200 by omega), decide_eq_true (show 0 ≤ params ∧ params ≤ vars.length by omega), decide_eq_true (show 0 ≤ line ∧ line ≤ 100000 by omega), decide_eq_true (show name.size ≤ 40 by omega)]
    exact Lib.hid rfl
  have hp0 : 0 ≤ params := by omega
  have hp1 : params ≤ vars.length := by omega
  have hl0 : 0 ≤ line := by omega
  have hl1 : line ≤ 100000 := by omega
  have hm1 : name.size ≤ 40 := by omega
  have hv1 : vars.length ≤ 200 := by omega
  have hu1 : ups.length ≤ 200 := by omega
  clear z1 z2 z3 z4 z5 z6 z7 z8
  go_enter Try.func22, Try.ntmps22
  go_wp2
  go_loop [61] (fun v => ∃ p : Nat, p ≤ vars.length ∧ v = .int .i64 p ∧ (vars.all fun v => decide (1 ≤ v.size ∧ v.size ≤ 40)) = (vars.drop p).all fun v => decide (1 ≤ v.size ∧ v.size ≤ 40)) (fun v => vars.length - (intOf v).toNat)
  case atStart => exact ⟨0, Nat.zero_le _, rfl, rfl⟩
  case round =>
    obtain ⟨p, hp, rfl, hB⟩ := hrel
    have HB := Lib.hid hB
    clear hB
    by_cases hlt : p < vars.length
    · obtain ⟨s, hs⟩ : ∃ s, vars[p]? = some s := ⟨_, List.getElem?_eq_getElem hlt⟩
      have hss := F3.out s (List.mem_of_getElem? hs)
      unfold maxLen at hss
      have hd : Hid ((vars.drop p).all (fun v => decide (1 ≤ v.size ∧ v.size ≤ 40)) = (decide (1 ≤ s.size ∧ s.size ≤ 40) && (vars.drop (p + 1)).all fun v => decide (1 ≤ v.size ∧ v.size ≤ 40))) := by
        obtain ⟨e1, e2⟩ := List.getElem?_eq_some_iff.1 hs
        rw [List.drop_eq_getElem_cons e1, e2, List.all_cons]; exact Lib.hid rfl
      obtain ⟨b2, off2, rfl, hlo2, hb2, cs⟩ := rdS_at' HO.out hs
      clear hs
      by_cases hg : 1 ≤ s.size ∧ s.size ≤ 40
      · have HG := Lib.hid hg
        obtain ⟨g1, g2⟩ := hg
        have g1b : decide ((s.size : Int) < 1) = false := decide_eq_false (by omega)
        have g2b : decide ((40 : Int) < s.size) = false := decide_eq_false (by omega)
        go_wp2
        go_round
        case rel => exact ⟨p + 1, by omega, by go_num, by rw [HB.out, hd.out, decide_eq_true HG.out, Bool.true_and]⟩
        case measure => simp [intOf]; omega
      · have HQ : Hid (headC ns.length vars.length ups.length params line name.size vars a = false) := by
          rw [HV.out, HB.out, hd.out, decide_eq_false hg, Bool.false_and, Bool.and_false]; exact Lib.hid rfl
        by_cases g1 : s.size < 1
        · clear hg
          go_wp2
          all_goals go_ret
          all_goals exact ⟨by rw [HQ.out]; rfl, (by (repeat (first | with_reducible assumption | with_reducible exact Below.refl _ _ | with_reducible refine Below.drew ?_ | with_reducible refine bl_drewN _ ?_ | ((with_reducible refine bl_alloc ?_ _ ?_); · (first | omega | (simp; done) | (simp; omega))) | ((with_reducible refine bl_set ?_ _ ?_); · (first | omega | (simp; done) | (simp; omega))))))⟩
        · have g2 : 40 < s.size := by omega
          have g3 : 1 ≤ s.size := by omega
          clear hg
          go_wp2
          all_goals go_ret
          all_goals exact ⟨by rw [HQ.out]; rfl, (by (repeat (first | with_reducible assumption | with_reducible exact Below.refl _ _ | with_reducible refine Below.drew ?_ | with_reducible refine bl_drewN _ ?_ | ((with_reducible refine bl_alloc ?_ _ ?_); · (first | omega | (simp; done) | (simp; omega))) | ((with_reducible refine bl_set ?_ _ ?_); · (first | omega | (simp; done) | (simp; omega))))))⟩
    · have hpp : p = vars.length := by omega
      have HQ : Hid (headC ns.length vars.length ups.length params line name.size vars a = (decide (0 < a) || decide (params = 0 ∧ ups.length = 0))) := by
        rw [HV.out, HB.out, hpp, List.drop_length, List.all_nil, Bool.and_true]; exact Lib.hid rfl
      subst hpp
      by_cases ha0 : 0 < a
      · have HR : Hid (headC ns.length vars.length ups.length params line name.size vars a = true) := by rw [HQ.out, decide_eq_true ha0]; exact Lib.hid rfl
        go_wp2
        all_goals go_ret
        all_goals exact ⟨by rw [HR.out]; rfl, (by (repeat (first | with_reducible assumption | with_reducible exact Below.refl _ _ | with_reducible refine Below.drew ?_ | with_reducible refine bl_drewN _ ?_ | ((with_reducible refine bl_alloc ?_ _ ?_); · (first | omega | (simp; done) | (simp; omega))) | ((with_reducible refine bl_set ?_ _ ?_); · (first | omega | (simp; done) | (simp; omega))))))⟩
      · have hab : decide (0 < a) = false := decide_eq_false ha0
        have hab2 : decide ((0 : Int) < a) = false := decide_eq_false (by omega)
        by_cases hpz : params = 0
        · have hpb : (params == 0) = true := by simp [hpz]
          by_cases huz : ups.length = 0
          · have hub : ((ups.length : Int) == 0) = true := by simp [huz]
            have HR : Hid (headC ns.length vars.length ups.length params line name.size vars a = true) := by rw [HQ.out, decide_eq_true (show params = 0 ∧ ups.length = 0 from ⟨hpz, huz⟩), Bool.or_true]; exact Lib.hid rfl
            clear hpz huz
            go_wp2
            all_goals go_ret
            all_goals exact ⟨by rw [HR.out]; rfl, (by (repeat (first | with_reducible assumption | with_reducible exact Below.refl _ _ | with_reducible refine Below.drew ?_ | with_reducible refine bl_drewN _ ?_ | ((with_reducible refine bl_alloc ?_ _ ?_); · (first | omega | (simp; done) | (simp; omega))) | ((with_reducible refine bl_set ?_ _ ?_); · (first | omega | (simp; done) | (simp; omega))))))⟩
          · have hub : ((ups.length : Int) == 0) = false := beq_eq_false_iff_ne.2 (by omega)
            have HR : Hid (headC ns.length vars.length ups.length params line name.size vars a = false) := by rw [HQ.out, hab, decide_eq_false (fun h => huz h.2)]; exact Lib.hid rfl
            clear hpz huz
            go_wp2
            all_goals go_ret
            all_goals exact ⟨by rw [HR.out]; rfl, (by (repeat (first | with_reducible assumption | with_reducible exact Below.refl _ _ | with_reducible refine Below.drew ?_ | with_reducible refine bl_drewN _ ?_ | ((with_reducible refine bl_alloc ?_ _ ?_); · (first | omega | (simp; done) | (simp; omega))) | ((with_reducible refine bl_set ?_ _ ?_); · (first | omega | (simp; done) | (simp; omega))))))⟩
        · have hpb : (params == 0) = false := beq_eq_false_iff_ne.2 hpz
          have HR : Hid (headC ns.length vars.length ups.length params line name.size vars a = false) := by rw [HQ.out, hab, decide_eq_false (fun h => hpz h.1)]; exact Lib.hid rfl
          clear hpz
          go_wp2
          all_goals go_ret
          all_goals exact ⟨by rw [HR.out]; rfl, (by (repeat (first | with_reducible assumption | with_reducible exact Below.refl _ _ | with_reducible refine Below.drew ?_ | with_reducible refine bl_drewN _ ?_ | ((with_reducible refine bl_alloc ?_ _ ?_); · (first | omega | (simp; done) | (simp; omega))) | ((with_reducible refine bl_set ?_ _ ?_); · (first | omega | (simp; done) | (simp; omega))))))⟩
end Go.Proofs.Ytcpjplkbmflglaa
