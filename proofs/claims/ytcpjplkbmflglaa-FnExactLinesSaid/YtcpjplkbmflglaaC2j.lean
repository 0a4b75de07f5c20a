/- nodeOk at a node. -/
import Derived.Test.YtcpjplkbmflglaaC1
namespace Go.Proofs.Ytcpjplkbmflglaa
open Go.RowKit
attribute [local go_sem] run_store_float
set_option linter.unusedVariables false
set_option maxRecDepth 100000 in
set_option maxHeartbeats 6000000 in
theorem nok35_any (f : LF) (l : LN) (w : World) (lo : Nat) (a : Nat) (h : OkF w lo f) (hn : f.ns.length ≤ 1048576) (hf : ∀ l ∈ f.ns, fitN l) (hl : f.ns[a]? = some l) (hk : l.nd.kind = 35) (hkl : l.nd.kids.length ≤ 200) (hin : kidsIn l.nd a) (hli : l.nd.line = 0) :
    Calls Try.prog 23 #[.agg #[.string f.name, .int .i64 f.line, .int .i64 f.params, .bool f.rest, .slice f.va f.vars.length f.vc, .slice f.ua f.ups.length f.uc, .slice f.na f.ns.length f.nc], .int .i64 a] w fun e w' => e = .returned (.bool (ok35 (f.ns.map LN.nd) a l.nd)) ∧ Below w.heap.size w w' := by
  obtain ⟨name, line, params, rest, vars, va, vc, ups, ua, uc2, ns, na, nc⟩ := f
  dsimp only at hf
  obtain ⟨hf1, hf2, hf3⟩ := hf l (List.mem_of_getElem? hl)
  have hns := h.2.2
  dsimp only at hns hn hl ⊢
  obtain ⟨b, off, rfl, hlo, hb, c0, c1, c2, c3, c4, c5, c6, c7, hok⟩ := rdN_at hns hl
  have ha := (List.getElem?_eq_some_iff.1 hl).1
  have HND := Lib.hid (nd_at hl)
  have HNS := Lib.hid hns
  have HOK := Lib.hid hok
  have hal : (a : Int) < ns.length := by omega
  unfold maxLen at hf1 hf2 hf3
  obtain ⟨nd, ra, rc, ka, kc⟩ := l
  dsimp only at *
  have hbA : b < w.heap.size + 1 := by omega
  have HKL := Lib.hid hkl
  have HIN := Lib.hid hin
  rw [hk] at c0
  have HK := Lib.hid hk
  have hs1 : isStat 35 = false := by decide
  have he1 : isExpr 35 = true := by decide
  have hl1 : (nd.line != 0) = false := by simp [hli]
  obtain ⟨rn, hrn⟩ : ∃ rn, rn = nd.refs.length := ⟨_, rfl⟩
  rw [← hrn] at c6 hf2
  have HRN := Lib.hid hrn
  clear h hf hl hok hin hk hns hrn hli
  go_enter Try.func23, Try.ntmps23
  go_wp2_with (first
      | (go_at_call 32; refine (istat_any _ _).mono ?_; rintro e w1 ⟨rfl, rfl⟩)
      | (go_at_call 44; refine (iexpr_any _ _).mono ?_; rintro e w1 ⟨rfl, rfl⟩))
  go_loop [69] (fun v => ∃ p : Nat, p ≤ nd.kids.length ∧ v = .int .i64 p) (fun v => nd.kids.length - (intOf v).toNat)
  case atStart => exact ⟨0, Nat.zero_le _, rfl⟩
  case round =>
    obtain ⟨p, hp, rfl⟩ := hrel
    by_cases hlt : p < nd.kids.length
    · obtain ⟨k, hkk⟩ : ∃ k, nd.kids[p]? = some k := ⟨_, List.getElem?_eq_getElem hlt⟩
      obtain ⟨q0, q1⟩ := HIN.out k (List.mem_of_getElem? hkk)
      obtain ⟨b2, off2, rfl, hlo2, hb2, ck⟩ := rdI_at HOK.out.2 hkk
      clear hkk
      go_wp2
      go_round
      case rel => exact ⟨p + 1, by omega, by go_num⟩
      case measure => simp [intOf]; omega
    · have hpp : p = nd.kids.length := by omega
      subst hpp
      have hNe := Lib.hid (⟨by simp [go_sem], by simp [go_sem], by simp [go_sem], by simp [go_sem], (((HNS.out.alloc _).alloc _).alloc _).alloc _, (((HOK.out.2.alloc _).alloc _).alloc _).alloc _⟩ : Ne ns nd a b off nc ka kc w.heap.size (w.heap.size + 1) (w.heap.size + 1 + 1) (w.heap.size + 1 + 1 + 1) lo ((((w.alloc (.cells #[.string name, .int .i64 line, .int .i64 params, .bool rest, .slice va vars.length vc, .slice ua ups.length uc2, .slice (some ⟨b, off, none⟩) ns.length nc] 47)).alloc (.cells #[.int .i64 35, .int .i64 nd.line, .int .i64 nd.op, .int .i64 nd.num, .float .f64 nd.flt, .string nd.str, .slice ra rn rc, .slice ka nd.kids.length kc] 52)).alloc (.cells #[.func (.func 45) #[] #[.pointer (some ⟨w.heap.size, 0, none⟩), .pointer (some ⟨w.heap.size + 1, 0, none⟩)]] 79)).alloc (.cells #[.int .i64 nd.kids.length] 3)))
      clear c0 c1 c2 c3 c4 c5 c6 c7 hs1 he1
      by_cases ho0 : nd.op = 0
      · have hob : (nd.op == 0) = true := by simp [ho0]
        have HO := Lib.hid ho0
        clear ho0
        go_wp2_with (first
                  | (go_at_call 45; refine (k45_any ns nd a b off nc ka kc w.heap.size (w.heap.size + 1) (w.heap.size + 1 + 1) (w.heap.size + 1 + 1 + 1) lo _ _ (by repeat (first | with_reducible exact hNe.out | with_reducible refine Ne.drewN ?_ _)) hn HKL.out HIN.out ha HND.out (by omega) (by omega)).mono ?_; rintro e w1 ⟨rfl, n1, rfl⟩)
                  | (go_at_call 46; refine (k46_any _ (by first | exact .inl rfl | exact .inr rfl) ns nd a b off nc ka kc w.heap.size (w.heap.size + 1) (w.heap.size + 1 + 1) (w.heap.size + 1 + 1 + 1) lo _ _ (by repeat (first | with_reducible exact hNe.out | with_reducible refine Ne.drewN ?_ _)) hn HKL.out HIN.out ha HND.out (by omega) (by omega)).mono ?_; rintro e w1 ⟨rfl, n1, rfl⟩)
                  | (go_at_call 47; refine (k47_any ns nd a b off nc ka kc w.heap.size (w.heap.size + 1) (w.heap.size + 1 + 1) (w.heap.size + 1 + 1 + 1) lo _ _ _ (by repeat (first | with_reducible exact hNe.out | with_reducible refine Ne.drewN ?_ _)) hn HKL.out HIN.out ha HND.out (by omega) (by omega)).mono ?_; rintro e w1 ⟨rfl, n1, rfl⟩)
                  | (go_at_call 48; refine (isnan_any _ _).mono ?_; rintro e w1 ⟨rfl, rfl⟩)
                  | (go_at_call 44; refine (iexpr_any _ _).mono ?_; rintro e w1 ⟨rfl, rfl⟩))
        all_goals go_ret
        all_goals refine ⟨?_, (by (repeat (first | with_reducible assumption | with_reducible exact Below.refl _ _ | with_reducible refine Below.drew ?_ | with_reducible refine bl_drewN _ ?_ | ((with_reducible refine bl_alloc ?_ _ ?_); · (first | omega | (simp; done) | (simp; omega))) | ((with_reducible refine bl_set ?_ _ ?_); · (first | omega | (simp; done) | (simp; omega))))))⟩
        all_goals (unfold ok35 bareB bareC fz)
        all_goals (try simp only [← HRN.out])
        all_goals (simp only [HO.out])
        all_goals (first | (have hkl : nd.kids.length % 2 = 0 := by omega) | skip)
        all_goals (first | (have hk2 : 2 ≤ nd.kids.length := by omega) | skip)
        all_goals (try simp_all [pOf])
        all_goals (try (intros; first | omega | (exfalso; omega)))
      have hob : (nd.op == 0) = false := beq_eq_false_iff_ne.2 ho0
      by_cases ho1 : nd.op = 1
      · have hob1 : (nd.op == 1) = true := by simp [ho1]
        have HO := Lib.hid ho1
        clear ho0 ho1
        go_wp2_with (first
                  | (go_at_call 45; refine (k45_any ns nd a b off nc ka kc w.heap.size (w.heap.size + 1) (w.heap.size + 1 + 1) (w.heap.size + 1 + 1 + 1) lo _ _ (by repeat (first | with_reducible exact hNe.out | with_reducible refine Ne.drewN ?_ _)) hn HKL.out HIN.out ha HND.out (by omega) (by omega)).mono ?_; rintro e w1 ⟨rfl, n1, rfl⟩)
                  | (go_at_call 46; refine (k46_any _ (by first | exact .inl rfl | exact .inr rfl) ns nd a b off nc ka kc w.heap.size (w.heap.size + 1) (w.heap.size + 1 + 1) (w.heap.size + 1 + 1 + 1) lo _ _ (by repeat (first | with_reducible exact hNe.out | with_reducible refine Ne.drewN ?_ _)) hn HKL.out HIN.out ha HND.out (by omega) (by omega)).mono ?_; rintro e w1 ⟨rfl, n1, rfl⟩)
                  | (go_at_call 47; refine (k47_any ns nd a b off nc ka kc w.heap.size (w.heap.size + 1) (w.heap.size + 1 + 1) (w.heap.size + 1 + 1 + 1) lo _ _ _ (by repeat (first | with_reducible exact hNe.out | with_reducible refine Ne.drewN ?_ _)) hn HKL.out HIN.out ha HND.out (by omega) (by omega)).mono ?_; rintro e w1 ⟨rfl, n1, rfl⟩)
                  | (go_at_call 48; refine (isnan_any _ _).mono ?_; rintro e w1 ⟨rfl, rfl⟩)
                  | (go_at_call 44; refine (iexpr_any _ _).mono ?_; rintro e w1 ⟨rfl, rfl⟩))
        all_goals go_ret
        all_goals refine ⟨?_, (by (repeat (first | with_reducible assumption | with_reducible exact Below.refl _ _ | with_reducible refine Below.drew ?_ | with_reducible refine bl_drewN _ ?_ | ((with_reducible refine bl_alloc ?_ _ ?_); · (first | omega | (simp; done) | (simp; omega))) | ((with_reducible refine bl_set ?_ _ ?_); · (first | omega | (simp; done) | (simp; omega))))))⟩
        all_goals (unfold ok35 bareB bareC fz)
        all_goals (try simp only [← HRN.out])
        all_goals (simp only [HO.out])
        all_goals (first | (have hkl : nd.kids.length % 2 = 0 := by omega) | skip)
        all_goals (first | (have hk2 : 2 ≤ nd.kids.length := by omega) | skip)
        all_goals (try simp_all [pOf, isMany])
        all_goals (try (intros; first | omega | (exfalso; omega)))
      · have hob1 : (nd.op == 1) = false := beq_eq_false_iff_ne.2 ho1
        clear ho0 ho1
        go_wp2_with (first
                  | (go_at_call 45; refine (k45_any ns nd a b off nc ka kc w.heap.size (w.heap.size + 1) (w.heap.size + 1 + 1) (w.heap.size + 1 + 1 + 1) lo _ _ (by repeat (first | with_reducible exact hNe.out | with_reducible refine Ne.drewN ?_ _)) hn HKL.out HIN.out ha HND.out (by omega) (by omega)).mono ?_; rintro e w1 ⟨rfl, n1, rfl⟩)
                  | (go_at_call 46; refine (k46_any _ (by first | exact .inl rfl | exact .inr rfl) ns nd a b off nc ka kc w.heap.size (w.heap.size + 1) (w.heap.size + 1 + 1) (w.heap.size + 1 + 1 + 1) lo _ _ (by repeat (first | with_reducible exact hNe.out | with_reducible refine Ne.drewN ?_ _)) hn HKL.out HIN.out ha HND.out (by omega) (by omega)).mono ?_; rintro e w1 ⟨rfl, n1, rfl⟩)
                  | (go_at_call 47; refine (k47_any ns nd a b off nc ka kc w.heap.size (w.heap.size + 1) (w.heap.size + 1 + 1) (w.heap.size + 1 + 1 + 1) lo _ _ _ (by repeat (first | with_reducible exact hNe.out | with_reducible refine Ne.drewN ?_ _)) hn HKL.out HIN.out ha HND.out (by omega) (by omega)).mono ?_; rintro e w1 ⟨rfl, n1, rfl⟩)
                  | (go_at_call 48; refine (isnan_any _ _).mono ?_; rintro e w1 ⟨rfl, rfl⟩)
                  | (go_at_call 44; refine (iexpr_any _ _).mono ?_; rintro e w1 ⟨rfl, rfl⟩))
        all_goals go_ret
        all_goals refine ⟨?_, (by (repeat (first | with_reducible assumption | with_reducible exact Below.refl _ _ | with_reducible refine Below.drew ?_ | with_reducible refine bl_drewN _ ?_ | ((with_reducible refine bl_alloc ?_ _ ?_); · (first | omega | (simp; done) | (simp; omega))) | ((with_reducible refine bl_set ?_ _ ?_); · (first | omega | (simp; done) | (simp; omega))))))⟩
        all_goals (unfold ok35 bareB bareC fz)
        all_goals (try simp only [← HRN.out])
        all_goals (first | (have hkl : nd.kids.length % 2 = 0 := by omega) | skip)
        all_goals (try simp_all [pOf])
        all_goals (try (intros; first | omega | (exfalso; omega)))
end Go.Proofs.Ytcpjplkbmflglaa
