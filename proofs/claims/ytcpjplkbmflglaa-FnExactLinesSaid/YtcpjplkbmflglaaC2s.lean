/- nodeOk at a set; at a node whose head is bad. -/
import Derived.Test.YtcpjplkbmflglaaC1
namespace Go.Proofs.Ytcpjplkbmflglaa
open Go.RowKit
attribute [local go_sem] run_store_float
set_option linter.unusedVariables false
set_option maxRecDepth 100000 in
set_option maxHeartbeats 6000000 in
theorem nok3_any (f : LF) (l : LN) (w : World) (lo : Nat) (a : Nat) (h : OkF w lo f) (hn : f.ns.length ≤ 1048576) (hf : ∀ l ∈ f.ns, fitN l) (hl : f.ns[a]? = some l) (hk : l.nd.kind = 3) (hkl : l.nd.kids.length ≤ 200) (hin : kidsIn l.nd a) (hli : 1 ≤ l.nd.line ∧ l.nd.line ≤ 100000) :
    Calls Try.prog 23 #[.agg #[.string f.name, .int .i64 f.line, .int .i64 f.params, .bool f.rest, .slice f.va f.vars.length f.vc, .slice f.ua f.ups.length f.uc, .slice f.na f.ns.length f.nc], .int .i64 a] w fun e w' => e = .returned (.bool (ok3 (f.ns.map LN.nd) a l.nd)) ∧ Below w.heap.size w w' := by
  obtain ⟨name, line, params, rest, vars, va, vc, ups, ua, uc2, ns, na, nc⟩ := f
  dsimp only at hf
  obtain ⟨hf1, hf2, hf3⟩ := hf l (List.mem_of_getElem? hl)
  have hns := h.2.2
  dsimp only at hns hn hl ⊢
  obtain ⟨b, off, rfl, hlo, hb, c0, c1, c2, c3, c4, c5, c6, c7, hok⟩ := rdN_at hns hl
  have ha := (List.getElem?_eq_some_iff.1 hl).1
  have HND := Lib.hid (nd_at hl)
  have HNS := Lib.hid hns
  have HOK := Lib.hid hok
  have hal : (a : Int) < ns.length := by omega
  unfold maxLen at hf1 hf2 hf3
  obtain ⟨nd, ra, rc, ka, kc⟩ := l
  dsimp only at *
  have hbA : b < w.heap.size + 1 := by omega
  have HKL := Lib.hid hkl
  have HIN := Lib.hid hin
  rw [hk] at c0
  have HK := Lib.hid hk
  have hs1 : isStat 3 = true := by decide
  have he1 : isExpr 3 = false := by decide
  obtain ⟨hl1, hl2⟩ := hli
  obtain ⟨rn, hrn⟩ : ∃ rn, rn = nd.refs.length := ⟨_, rfl⟩
  rw [← hrn] at c6 hf2
  have HRN := Lib.hid hrn
  clear h hf hl hok hin hk hns hrn
  by_cases h1 : 1 ≤ nd.num ∧ nd.num < nd.kids.length
  · obtain ⟨m, hm⟩ : ∃ m : Nat, nd.num = m := ⟨nd.num.toNat, by omega⟩
    have HQ : Hid (ok3 (ns.map LN.nd) a nd = (kidsAll isTgt (ns.map LN.nd) a 0 m && (bareC nd.op m nd.flt nd.str rn false true false false 0 && kidsAll isExpr (ns.map LN.nd) a m (nd.kids.length - m)))) := by
      unfold ok3 bareB
      rw [decide_eq_true h1, hm, HRN.out]
      exact Lib.hid rfl
    rw [hm] at c3 h1
    have hm1 : 1 ≤ m := by omega
    have hm2 : m < nd.kids.length := by omega
    have hm3 : (m : Int) < nd.kids.length := by omega
    have hd1 : decide (nd.kids.length ≤ m) = false := by simpa using hm2
    have hd2 : decide ((m : Int) < 1) = false := by simp; omega
    have hd3 : decide ((nd.kids.length : Int) ≤ m) = false := decide_eq_false (by omega)
    clear h1 hm
    go_enter Try.func23, Try.ntmps23
    go_wp2_with (first
          | (go_at_call 32; refine (istat_any _ _).mono ?_; rintro e w1 ⟨rfl, rfl⟩)
          | (go_at_call 44; refine (iexpr_any _ _).mono ?_; rintro e w1 ⟨rfl, rfl⟩))
    go_loop [69] (fun v => ∃ p : Nat, p ≤ nd.kids.length ∧ v = .int .i64 p) (fun v => nd.kids.length - (intOf v).toNat)
    case atStart => exact ⟨0, Nat.zero_le _, rfl⟩
    case round =>
      obtain ⟨p, hp, rfl⟩ := hrel
      by_cases hlt : p < nd.kids.length
      · obtain ⟨k, hkk⟩ : ∃ k, nd.kids[p]? = some k := ⟨_, List.getElem?_eq_getElem hlt⟩
        obtain ⟨q0, q1⟩ := HIN.out k (List.mem_of_getElem? hkk)
        obtain ⟨b2, off2, rfl, hlo2, hb2, ck⟩ := rdI_at HOK.out.2 hkk
        clear hkk
        go_wp2
        go_round
        case rel => exact ⟨p + 1, by omega, by go_num⟩
        case measure => simp [intOf]; omega
      · have hpp : p = nd.kids.length := by omega
        subst hpp
        have hNe := Lib.hid (⟨by simp [go_sem], by simp [go_sem], by simp [go_sem], by simp [go_sem], (((HNS.out.alloc _).alloc _).alloc _).alloc _, (((HOK.out.2.alloc _).alloc _).alloc _).alloc _⟩ : Ne ns nd a b off nc ka kc w.heap.size (w.heap.size + 1) (w.heap.size + 1 + 1) (w.heap.size + 1 + 1 + 1) lo ((((w.alloc (.cells #[.string name, .int .i64 line, .int .i64 params, .bool rest, .slice va vars.length vc, .slice ua ups.length uc2, .slice (some ⟨b, off, none⟩) ns.length nc] 47)).alloc (.cells #[.int .i64 3, .int .i64 nd.line, .int .i64 nd.op, .int .i64 (m : Int), .float .f64 nd.flt, .string nd.str, .slice ra rn rc, .slice ka nd.kids.length kc] 52)).alloc (.cells #[.func (.func 45) #[] #[.pointer (some ⟨w.heap.size, 0, none⟩), .pointer (some ⟨w.heap.size + 1, 0, none⟩)]] 79)).alloc (.cells #[.int .i64 nd.kids.length] 3)))
        clear c0 c1 c2 c3 c4 c5 c6 c7 hs1 he1
        go_wp2_with fail
        go_loopw [114] (fun v wx => ∃ p : Nat, p ≤ m ∧ v = .int .i64 p ∧ kidsAll isTgt (ns.map LN.nd) a 0 m = kidsAll isTgt (ns.map LN.nd) a p (m - p) ∧ ∃ n0, wx = (((((w.alloc (.cells #[.string name, .int .i64 line, .int .i64 params, .bool rest, .slice va vars.length vc, .slice ua ups.length uc2, .slice (some ⟨b, off, none⟩) ns.length nc] 47)).alloc (.cells #[.int .i64 3, .int .i64 nd.line, .int .i64 nd.op, .int .i64 (m : Int), .float .f64 nd.flt, .string nd.str, .slice ra rn rc, .slice ka nd.kids.length kc] 52)).alloc (.cells #[.func (.func 45) #[] #[.pointer (some ⟨w.heap.size, 0, none⟩), .pointer (some ⟨w.heap.size + 1, 0, none⟩)]] 79)).alloc (.cells #[.int .i64 nd.kids.length] 3))).drewN n0) (fun v _ => m - (intOf v).toNat)
        case atStart => exact ⟨0, Nat.zero_le _, rfl, rfl, 0, rfl⟩
        case round =>
          obtain ⟨p, hp, rfl, hB, n0, rfl⟩ := hrel
          have HB := Lib.hid hB
          clear hB
          by_cases hlt : p < m
          · obtain ⟨q, hq⟩ : ∃ q, m - p = q + 1 := ⟨m - p - 1, by omega⟩
            have HX : Hid (kidsAll isTgt (ns.map LN.nd) a p (m - p) = (isTgt (kidK (ns.map LN.nd) a p) && kidsAll isTgt (ns.map LN.nd) a (p + 1) q)) := by rw [hq]; exact Lib.hid rfl
            have HM := Lib.hid hq
            clear hq
            go_wp2_with (first
          | (go_at_call 45; refine (k45_any ns nd a b off nc ka kc w.heap.size (w.heap.size + 1) (w.heap.size + 1 + 1) (w.heap.size + 1 + 1 + 1) lo _ _ (by repeat (first | with_reducible exact hNe.out | with_reducible refine Ne.drewN ?_ _)) hn HKL.out HIN.out ha HND.out (by omega) (by omega)).mono ?_; rintro e w1 ⟨rfl, n1, rfl⟩)
          | (go_at_call 46; refine (k46_any _ (by first | exact .inl rfl | exact .inr rfl) ns nd a b off nc ka kc w.heap.size (w.heap.size + 1) (w.heap.size + 1 + 1) (w.heap.size + 1 + 1 + 1) lo _ _ (by repeat (first | with_reducible exact hNe.out | with_reducible refine Ne.drewN ?_ _)) hn HKL.out HIN.out ha HND.out (by omega) (by omega)).mono ?_; rintro e w1 ⟨rfl, n1, rfl⟩)
          | (go_at_call 47; refine (k47_any ns nd a b off nc ka kc w.heap.size (w.heap.size + 1) (w.heap.size + 1 + 1) (w.heap.size + 1 + 1 + 1) lo _ _ _ (by repeat (first | with_reducible exact hNe.out | with_reducible refine Ne.drewN ?_ _)) hn HKL.out HIN.out ha HND.out (by omega) (by omega)).mono ?_; rintro e w1 ⟨rfl, n1, rfl⟩)
          | (go_at_call 48; refine (isnan_any _ _).mono ?_; rintro e w1 ⟨rfl, rfl⟩)
          | (go_at_call 44; refine (iexpr_any _ _).mono ?_; rintro e w1 ⟨rfl, rfl⟩))
            all_goals (first
              | (go_ret
                 refine ⟨?_, (by (repeat (first | with_reducible assumption | with_reducible exact Below.refl _ _ | with_reducible refine Below.drew ?_ | with_reducible refine bl_drewN _ ?_ | ((with_reducible refine bl_alloc ?_ _ ?_); · (first | omega | (simp; done) | (simp; omega))) | ((with_reducible refine bl_set ?_ _ ?_); · (first | omega | (simp; done) | (simp; omega))))))⟩
                 have hE : isTgt (kidK (ns.map LN.nd) a p) = false := by simp_all [isTgt]
                 rw [HQ.out, HB.out, HX.out, hE]; rfl)
              | (have hE : isTgt (kidK (ns.map LN.nd) a p) = true := by simp_all [isTgt]
                 exact ⟨⟨p + 1, by omega, by go_num, by rw [HB.out, HX.out, hE, show m - (p + 1) = q by have := HM.out; omega]; rfl, _, rfl⟩, by simp [intOf]; omega⟩))
          · have hjj : p = m := by omega
            subst hjj
            have HT : Hid (kidsAll isTgt (ns.map LN.nd) a 0 p = true) := by
              rw [HB.out, Nat.sub_self]; exact Lib.hid rfl
            clear HB
            go_wp2_with (first
          | (go_at_call 45; refine (k45_any ns nd a b off nc ka kc w.heap.size (w.heap.size + 1) (w.heap.size + 1 + 1) (w.heap.size + 1 + 1 + 1) lo _ _ (by repeat (first | with_reducible exact hNe.out | with_reducible refine Ne.drewN ?_ _)) hn HKL.out HIN.out ha HND.out (by omega) (by omega)).mono ?_; rintro e w1 ⟨rfl, n1, rfl⟩)
          | (go_at_call 46; refine (k46_any _ (by first | exact .inl rfl | exact .inr rfl) ns nd a b off nc ka kc w.heap.size (w.heap.size + 1) (w.heap.size + 1 + 1) (w.heap.size + 1 + 1 + 1) lo _ _ (by repeat (first | with_reducible exact hNe.out | with_reducible refine Ne.drewN ?_ _)) hn HKL.out HIN.out ha HND.out (by omega) (by omega)).mono ?_; rintro e w1 ⟨rfl, n1, rfl⟩)
          | (go_at_call 47; refine (k47_any ns nd a b off nc ka kc w.heap.size (w.heap.size + 1) (w.heap.size + 1 + 1) (w.heap.size + 1 + 1 + 1) lo _ _ _ (by repeat (first | with_reducible exact hNe.out | with_reducible refine Ne.drewN ?_ _)) hn HKL.out HIN.out ha HND.out (by omega) (by omega)).mono ?_; rintro e w1 ⟨rfl, n1, rfl⟩)
          | (go_at_call 48; refine (isnan_any _ _).mono ?_; rintro e w1 ⟨rfl, rfl⟩)
          | (go_at_call 44; refine (iexpr_any _ _).mono ?_; rintro e w1 ⟨rfl, rfl⟩))
            all_goals go_ret
            all_goals refine ⟨?_, (by (repeat (first | with_reducible assumption | with_reducible exact Below.refl _ _ | with_reducible refine Below.drew ?_ | with_reducible refine bl_drewN _ ?_ | ((with_reducible refine bl_alloc ?_ _ ?_); · (first | omega | (simp; done) | (simp; omega))) | ((with_reducible refine bl_set ?_ _ ?_); · (first | omega | (simp; done) | (simp; omega))))))⟩
            all_goals (rw [HQ.out, HT.out])
            all_goals (unfold bareC fz)
            all_goals (try simp_all [pOf])
            all_goals (try (intros; first | omega | (exfalso; omega)))
  · have HQ : Hid (ok3 (ns.map LN.nd) a nd = false) := by
      unfold ok3
      rw [decide_eq_false h1]; exact Lib.hid rfl
    by_cases h2 : nd.num < 1
    · clear h1
      go_enter Try.func23, Try.ntmps23
      go_wp2_with (first
            | (go_at_call 32; refine (istat_any _ _).mono ?_; rintro e w1 ⟨rfl, rfl⟩)
            | (go_at_call 44; refine (iexpr_any _ _).mono ?_; rintro e w1 ⟨rfl, rfl⟩))
      go_loop [69] (fun v => ∃ p : Nat, p ≤ nd.kids.length ∧ v = .int .i64 p) (fun v => nd.kids.length - (intOf v).toNat)
      case atStart => exact ⟨0, Nat.zero_le _, rfl⟩
      case round =>
        obtain ⟨p, hp, rfl⟩ := hrel
        by_cases hlt : p < nd.kids.length
        · obtain ⟨k, hkk⟩ : ∃ k, nd.kids[p]? = some k := ⟨_, List.getElem?_eq_getElem hlt⟩
          obtain ⟨q0, q1⟩ := HIN.out k (List.mem_of_getElem? hkk)
          obtain ⟨b2, off2, rfl, hlo2, hb2, ck⟩ := rdI_at HOK.out.2 hkk
          clear hkk
          go_wp2
          go_round
          case rel => exact ⟨p + 1, by omega, by go_num⟩
          case measure => simp [intOf]; omega
        · have hpp : p = nd.kids.length := by omega
          subst hpp
          clear c0 c1 c2 c3 c4 c5 c6 c7 hs1 he1
          go_wp2
          go_ret
          exact ⟨by rw [HQ.out]; rfl, (by (repeat (first | with_reducible assumption | with_reducible exact Below.refl _ _ | with_reducible refine Below.drew ?_ | with_reducible refine bl_drewN _ ?_ | ((with_reducible refine bl_alloc ?_ _ ?_); · (first | omega | (simp; done) | (simp; omega))) | ((with_reducible refine bl_set ?_ _ ?_); · (first | omega | (simp; done) | (simp; omega))))))⟩
    · have h3 : (nd.kids.length : Int) ≤ nd.num := by omega
      clear h1
      go_enter Try.func23, Try.ntmps23
      go_wp2_with (first
            | (go_at_call 32; refine (istat_any _ _).mono ?_; rintro e w1 ⟨rfl, rfl⟩)
            | (go_at_call 44; refine (iexpr_any _ _).mono ?_; rintro e w1 ⟨rfl, rfl⟩))
      go_loop [69] (fun v => ∃ p : Nat, p ≤ nd.kids.length ∧ v = .int .i64 p) (fun v => nd.kids.length - (intOf v).toNat)
      case atStart => exact ⟨0, Nat.zero_le _, rfl⟩
      case round =>
        obtain ⟨p, hp, rfl⟩ := hrel
        by_cases hlt : p < nd.kids.length
        · obtain ⟨k, hkk⟩ : ∃ k, nd.kids[p]? = some k := ⟨_, List.getElem?_eq_getElem hlt⟩
          obtain ⟨q0, q1⟩ := HIN.out k (List.mem_of_getElem? hkk)
          obtain ⟨b2, off2, rfl, hlo2, hb2, ck⟩ := rdI_at HOK.out.2 hkk
          clear hkk
          go_wp2
          go_round
          case rel => exact ⟨p + 1, by omega, by go_num⟩
          case measure => simp [intOf]; omega
        · have hpp : p = nd.kids.length := by omega
          subst hpp
          clear c0 c1 c2 c3 c4 c5 c6 c7 hs1 he1
          go_wp2
          go_ret
          exact ⟨by rw [HQ.out]; rfl, (by (repeat (first | with_reducible assumption | with_reducible exact Below.refl _ _ | with_reducible refine Below.drew ?_ | with_reducible refine bl_drewN _ ?_ | ((with_reducible refine bl_alloc ?_ _ ?_); · (first | omega | (simp; done) | (simp; omega))) | ((with_reducible refine bl_set ?_ _ ?_); · (first | omega | (simp; done) | (simp; omega))))))⟩
set_option maxRecDepth 100000 in
set_option maxHeartbeats 6000000 in
theorem nokodd_any (f : LF) (l : LN) (w : World) (lo : Nat) (a : Nat) (h : OkF w lo f) (hn : f.ns.length ≤ 1048576) (hf : ∀ l ∈ f.ns, fitN l) (hl : f.ns[a]? = some l) (hk : isStat l.nd.kind = false) (hk2 : isExpr l.nd.kind = false) :
    Calls Try.prog 23 #[.agg #[.string f.name, .int .i64 f.line, .int .i64 f.params, .bool f.rest, .slice f.va f.vars.length f.vc, .slice f.ua f.ups.length f.uc, .slice f.na f.ns.length f.nc], .int .i64 a] w fun e w' => e = .returned (.bool (false)) ∧ Below w.heap.size w w' := by
  obtain ⟨name, line, params, rest, vars, va, vc, ups, ua, uc2, ns, na, nc⟩ := f
  dsimp only at hf
  obtain ⟨hf1, hf2, hf3⟩ := hf l (List.mem_of_getElem? hl)
  have hns := h.2.2
  dsimp only at hns hn hl ⊢
  obtain ⟨b, off, rfl, hlo, hb, c0, c1, c2, c3, c4, c5, c6, c7, hok⟩ := rdN_at hns hl
  have ha := (List.getElem?_eq_some_iff.1 hl).1
  have HND := Lib.hid (nd_at hl)
  have HNS := Lib.hid hns
  have HOK := Lib.hid hok
  have hal : (a : Int) < ns.length := by omega
  unfold maxLen at hf1 hf2 hf3
  obtain ⟨nd, ra, rc, ka, kc⟩ := l
  dsimp only at *
  have hbA : b < w.heap.size + 1 := by omega
  clear h hf hl hok hns
  go_enter Try.func23, Try.ntmps23
  go_wp2_with (first
      | (go_at_call 32; refine (istat_any _ _).mono ?_; rintro e w1 ⟨rfl, rfl⟩)
      | (go_at_call 44; refine (iexpr_any _ _).mono ?_; rintro e w1 ⟨rfl, rfl⟩))
  all_goals go_ret
  all_goals exact ⟨rfl, (by (repeat (first | with_reducible assumption | with_reducible exact Below.refl _ _ | with_reducible refine Below.drew ?_ | with_reducible refine bl_drewN _ ?_ | ((with_reducible refine bl_alloc ?_ _ ?_); · (first | omega | (simp; done) | (simp; omega))) | ((with_reducible refine bl_set ?_ _ ?_); · (first | omega | (simp; done) | (simp; omega))))))⟩
set_option maxRecDepth 100000 in
set_option maxHeartbeats 6000000 in
theorem nokmany_any (f : LF) (l : LN) (w : World) (lo : Nat) (a : Nat) (h : OkF w lo f) (hn : f.ns.length ≤ 1048576) (hf : ∀ l ∈ f.ns, fitN l) (hl : f.ns[a]? = some l) (hkl : 200 < l.nd.kids.length) :
    Calls Try.prog 23 #[.agg #[.string f.name, .int .i64 f.line, .int .i64 f.params, .bool f.rest, .slice f.va f.vars.length f.vc, .slice f.ua f.ups.length f.uc, .slice f.na f.ns.length f.nc], .int .i64 a] w fun e w' => e = .returned (.bool (false)) ∧ Below w.heap.size w w' := by
  obtain ⟨name, line, params, rest, vars, va, vc, ups, ua, uc2, ns, na, nc⟩ := f
  dsimp only at hf
  obtain ⟨hf1, hf2, hf3⟩ := hf l (List.mem_of_getElem? hl)
  have hns := h.2.2
  dsimp only at hns hn hl ⊢
  obtain ⟨b, off, rfl, hlo, hb, c0, c1, c2, c3, c4, c5, c6, c7, hok⟩ := rdN_at hns hl
  have ha := (List.getElem?_eq_some_iff.1 hl).1
  have HND := Lib.hid (nd_at hl)
  have HNS := Lib.hid hns
  have HOK := Lib.hid hok
  have hal : (a : Int) < ns.length := by omega
  unfold maxLen at hf1 hf2 hf3
  obtain ⟨nd, ra, rc, ka, kc⟩ := l
  dsimp only at *
  have hbA : b < w.heap.size + 1 := by omega
  clear h hf hl hok hns
  go_enter Try.func23, Try.ntmps23
  go_wp2_with (first
      | (go_at_call 32; refine (istat_any _ _).mono ?_; rintro e w1 ⟨rfl, rfl⟩)
      | (go_at_call 44; refine (iexpr_any _ _).mono ?_; rintro e w1 ⟨rfl, rfl⟩))
  all_goals go_ret
  all_goals exact ⟨rfl, (by (repeat (first | with_reducible assumption | with_reducible exact Below.refl _ _ | with_reducible refine Below.drew ?_ | with_reducible refine bl_drewN _ ?_ | ((with_reducible refine bl_alloc ?_ _ ?_); · (first | omega | (simp; done) | (simp; omega))) | ((with_reducible refine bl_set ?_ _ ?_); · (first | omega | (simp; done) | (simp; omega))))))⟩
set_option maxRecDepth 100000 in
set_option maxHeartbeats 6000000 in
theorem nokline_any (f : LF) (l : LN) (w : World) (lo : Nat) (a : Nat) (h : OkF w lo f) (hn : f.ns.length ≤ 1048576) (hf : ∀ l ∈ f.ns, fitN l) (hl : f.ns[a]? = some l) (hkl : l.nd.kids.length ≤ 200) (hli : (isStat l.nd.kind = true ∧ isExpr l.nd.kind = false ∧ (l.nd.line < 1 ∨ 1 ≤ l.nd.line ∧ 100000 < l.nd.line)) ∨ (isStat l.nd.kind = false ∧ isExpr l.nd.kind = true ∧ (l.nd.line != 0) = true)) :
    Calls Try.prog 23 #[.agg #[.string f.name, .int .i64 f.line, .int .i64 f.params, .bool f.rest, .slice f.va f.vars.length f.vc, .slice f.ua f.ups.length f.uc, .slice f.na f.ns.length f.nc], .int .i64 a] w fun e w' => e = .returned (.bool (false)) ∧ Below w.heap.size w w' := by
  obtain ⟨name, line, params, rest, vars, va, vc, ups, ua, uc2, ns, na, nc⟩ := f
  dsimp only at hf
  obtain ⟨hf1, hf2, hf3⟩ := hf l (List.mem_of_getElem? hl)
  have hns := h.2.2
  dsimp only at hns hn hl ⊢
  obtain ⟨b, off, rfl, hlo, hb, c0, c1, c2, c3, c4, c5, c6, c7, hok⟩ := rdN_at hns hl
  have ha := (List.getElem?_eq_some_iff.1 hl).1
  have HND := Lib.hid (nd_at hl)
  have HNS := Lib.hid hns
  have HOK := Lib.hid hok
  have hal : (a : Int) < ns.length := by omega
  unfold maxLen at hf1 hf2 hf3
  obtain ⟨nd, ra, rc, ka, kc⟩ := l
  dsimp only at *
  have hbA : b < w.heap.size + 1 := by omega
  clear h hf hl hok hns
  rcases hli with ⟨hs, he, hl1 | ⟨hl1, hl2⟩⟩ | ⟨hs, he, hl1⟩
  all_goals
    go_enter Try.func23, Try.ntmps23
    go_wp2_with (first
      | (go_at_call 32; refine (istat_any _ _).mono ?_; rintro e w1 ⟨rfl, rfl⟩)
      | (go_at_call 44; refine (iexpr_any _ _).mono ?_; rintro e w1 ⟨rfl, rfl⟩))
    all_goals go_ret
    all_goals exact ⟨rfl, (by (repeat (first | with_reducible assumption | with_reducible exact Below.refl _ _ | with_reducible refine Below.drew ?_ | with_reducible refine bl_drewN _ ?_ | ((with_reducible refine bl_alloc ?_ _ ?_); · (first | omega | (simp; done) | (simp; omega))) | ((with_reducible refine bl_set ?_ _ ?_); · (first | omega | (simp; done) | (simp; omega))))))⟩
set_option maxRecDepth 100000 in
set_option maxHeartbeats 6000000 in
theorem nokout_any (f : LF) (l : LN) (w : World) (lo : Nat) (a : Nat) (h : OkF w lo f) (hn : f.ns.length ≤ 1048576) (hf : ∀ l ∈ f.ns, fitN l) (hl : f.ns[a]? = some l) (hkl : l.nd.kids.length ≤ 200) (hin : ¬ kidsIn l.nd a) (hli : (isStat l.nd.kind = true ∧ isExpr l.nd.kind = false ∧ 1 ≤ l.nd.line ∧ l.nd.line ≤ 100000) ∨ (isStat l.nd.kind = false ∧ isExpr l.nd.kind = true ∧ (l.nd.line != 0) = false)) :
    Calls Try.prog 23 #[.agg #[.string f.name, .int .i64 f.line, .int .i64 f.params, .bool f.rest, .slice f.va f.vars.length f.vc, .slice f.ua f.ups.length f.uc, .slice f.na f.ns.length f.nc], .int .i64 a] w fun e w' => e = .returned (.bool (false)) ∧ Below w.heap.size w w' := by
  obtain ⟨name, line, params, rest, vars, va, vc, ups, ua, uc2, ns, na, nc⟩ := f
  dsimp only at hf
  obtain ⟨hf1, hf2, hf3⟩ := hf l (List.mem_of_getElem? hl)
  have hns := h.2.2
  dsimp only at hns hn hl ⊢
  obtain ⟨b, off, rfl, hlo, hb, c0, c1, c2, c3, c4, c5, c6, c7, hok⟩ := rdN_at hns hl
  have ha := (List.getElem?_eq_some_iff.1 hl).1
  have HND := Lib.hid (nd_at hl)
  have HNS := Lib.hid hns
  have HOK := Lib.hid hok
  have hal : (a : Int) < ns.length := by omega
  unfold maxLen at hf1 hf2 hf3
  obtain ⟨nd, ra, rc, ka, kc⟩ := l
  dsimp only at *
  have hbA : b < w.heap.size + 1 := by omega
  have HIN := Lib.hid hin
  clear h hf hl hok hns hin
  rcases hli with ⟨hs, he, hl1, hl2⟩ | ⟨hs, he, hl1⟩
  all_goals
    go_enter Try.func23, Try.ntmps23
    go_wp2_with (first
      | (go_at_call 32; refine (istat_any _ _).mono ?_; rintro e w1 ⟨rfl, rfl⟩)
      | (go_at_call 44; refine (iexpr_any _ _).mono ?_; rintro e w1 ⟨rfl, rfl⟩))
    go_loop [69] (fun v => ∃ p : Nat, p ≤ nd.kids.length ∧ v = .int .i64 p ∧ ∀ k ∈ nd.kids.take p, 0 ≤ k ∧ k < a) (fun v => nd.kids.length - (intOf v).toNat)
    case atStart => exact ⟨0, Nat.zero_le _, rfl, by simp⟩
    case round =>
      obtain ⟨p, hp, rfl, hA⟩ := hrel
      have HA := Lib.hid hA
      clear hA
      by_cases hlt : p < nd.kids.length
      · obtain ⟨k, hkk⟩ : ∃ k, nd.kids[p]? = some k := ⟨_, List.getElem?_eq_getElem hlt⟩
        obtain ⟨b2, off2, rfl, hlo2, hb2, ck⟩ := rdI_at HOK.out.2 hkk
        have HKK := Lib.hid hkk
        clear hkk
        by_cases hneg : k < 0
        · go_wp2
          go_ret
          exact ⟨rfl, (by (repeat (first | with_reducible assumption | with_reducible exact Below.refl _ _ | with_reducible refine Below.drew ?_ | with_reducible refine bl_drewN _ ?_ | ((with_reducible refine bl_alloc ?_ _ ?_); · (first | omega | (simp; done) | (simp; omega))) | ((with_reducible refine bl_set ?_ _ ?_); · (first | omega | (simp; done) | (simp; omega))))))⟩
        by_cases hge : (a : Int) ≤ k
        · go_wp2
          go_ret
          exact ⟨rfl, (by (repeat (first | with_reducible assumption | with_reducible exact Below.refl _ _ | with_reducible refine Below.drew ?_ | with_reducible refine bl_drewN _ ?_ | ((with_reducible refine bl_alloc ?_ _ ?_); · (first | omega | (simp; done) | (simp; omega))) | ((with_reducible refine bl_set ?_ _ ?_); · (first | omega | (simp; done) | (simp; omega))))))⟩
        go_wp2
        go_round
        case rel => exact ⟨p + 1, by omega, by go_num, fun k' hk' => by
          rw [List.take_add_one, HKK.out] at hk'
          rcases List.mem_append.1 hk' with hk' | hk'
          · exact HA.out k' hk'
          · simp at hk'; subst hk'; omega⟩
        case measure => simp [intOf]; omega
      · exfalso
        apply HIN.out
        have := HA.out
        rw [List.take_of_length_le (by omega)] at this
        exact this
end Go.Proofs.Ytcpjplkbmflglaa
