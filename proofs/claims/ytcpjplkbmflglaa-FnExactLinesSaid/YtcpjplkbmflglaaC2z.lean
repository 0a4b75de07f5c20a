/- nodeOk says what the reference says of a node. -/
import Derived.Test.YtcpjplkbmflglaaC2a
import Derived.Test.YtcpjplkbmflglaaC2b
import Derived.Test.YtcpjplkbmflglaaC2c
import Derived.Test.YtcpjplkbmflglaaC2d
import Derived.Test.YtcpjplkbmflglaaC2e
import Derived.Test.YtcpjplkbmflglaaC2f
import Derived.Test.YtcpjplkbmflglaaC2g
import Derived.Test.YtcpjplkbmflglaaC2h
import Derived.Test.YtcpjplkbmflglaaC2i
import Derived.Test.YtcpjplkbmflglaaC2j
import Derived.Test.YtcpjplkbmflglaaC2s
namespace Go.Proofs.Ytcpjplkbmflglaa
open Go.RowKit
attribute [local go_sem] run_store_float
set_option linter.unusedVariables false
theorem nok_any (f : LF) (l : LN) (w : World) (lo : Nat) (a : Nat) (h : OkF w lo f) (hn : f.ns.length ≤ 1048576) (hf : ∀ l ∈ f.ns, fitN l) (hl : f.ns[a]? = some l) :
    Calls Try.prog 23 #[.agg #[.string f.name, .int .i64 f.line, .int .i64 f.params, .bool f.rest, .slice f.va f.vars.length f.vc, .slice f.ua f.ups.length f.uc, .slice f.na f.ns.length f.nc], .int .i64 a] w fun e w' => e = .returned (.bool (shapeB (f.ns.map LN.nd) a l.nd)) ∧ Below w.heap.size w w' := by
  by_cases hm : 200 < l.nd.kids.length
  · rw [shapeB_many hm]
    exact nokmany_any f l w lo a h hn hf hl hm
  have hk : l.nd.kids.length ≤ 200 := by omega
  cases hs : isStat l.nd.kind
  · cases he : isExpr l.nd.kind
    · have hv : shapeB (f.ns.map LN.nd) a l.nd = false := by
        unfold shapeB
        rw [okB_odd _ _ _ hs he]
        simp
      rw [hv]
      exact nokodd_any f l w lo a h hn hf hl hs he
    · by_cases hli : l.nd.line = 0
      · by_cases hin : kidsIn l.nd a
        · rw [shapeB_in hk hin, hs, if_neg (by simp), decide_eq_true hli, Bool.true_and]
          have hk' : 20 ≤ l.nd.kind ∧ l.nd.kind ≤ 38 := of_decide_eq_true he
          rcases (show l.nd.kind = 20 ∨ l.nd.kind = 21 ∨ l.nd.kind = 22 ∨ l.nd.kind = 23 ∨ l.nd.kind = 24 ∨ l.nd.kind = 25 ∨ l.nd.kind = 26 ∨ l.nd.kind = 27 ∨ l.nd.kind = 28 ∨ l.nd.kind = 29 ∨ l.nd.kind = 30 ∨ l.nd.kind = 31 ∨ l.nd.kind = 32 ∨ l.nd.kind = 33 ∨ l.nd.kind = 34 ∨ l.nd.kind = 35 ∨ l.nd.kind = 36 ∨ l.nd.kind = 37 ∨ l.nd.kind = 38 by omega) with e | e | e | e | e | e | e | e | e | e | e | e | e | e | e | e | e | e | e
          · rw [okB_20 _ _ _ e]; exact nok20_any f l w lo a h hn hf hl e hk hin hli
          · rw [okB_21 _ _ _ e]; exact nok21_any f l w lo a h hn hf hl e hk hin hli
          · rw [okB_22 _ _ _ e]; exact nok22_any f l w lo a h hn hf hl e hk hin hli
          · rw [okB_23 _ _ _ e]; exact nok23_any f l w lo a h hn hf hl e hk hin hli
          · rw [okB_24 _ _ _ e]; exact nok24_any f l w lo a h hn hf hl e hk hin hli
          · rw [okB_25 _ _ _ e]; exact nok25_any f l w lo a h hn hf hl e hk hin hli
          · rw [okB_26 _ _ _ e]; exact nok26_any f l w lo a h hn hf hl e hk hin hli
          · rw [okB_27 _ _ _ e]; exact nok27_any f l w lo a h hn hf hl e hk hin hli
          · rw [okB_28 _ _ _ e]; exact nok28_any f l w lo a h hn hf hl e hk hin hli
          · rw [okB_29 _ _ _ e]; exact nok29_any f l w lo a h hn hf hl e hk hin hli
          · rw [okB_30 _ _ _ e]; exact nok30_any f l w lo a h hn hf hl e hk hin hli
          · rw [okB_31 _ _ _ e]; exact nok31_any f l w lo a h hn hf hl e hk hin hli
          · rw [okB_32 _ _ _ e]; exact nok32_any f l w lo a h hn hf hl e hk hin hli
          · rw [okB_33 _ _ _ e]; exact nok33_any f l w lo a h hn hf hl e hk hin hli
          · rw [okB_34 _ _ _ e]; exact nok34_any f l w lo a h hn hf hl e hk hin hli
          · rw [okB_35 _ _ _ e]; exact nok35_any f l w lo a h hn hf hl e hk hin hli
          · rw [okB_36 _ _ _ e]; exact nok36_any f l w lo a h hn hf hl e hk hin hli
          · rw [okB_37 _ _ _ e]; exact nok37_any f l w lo a h hn hf hl e hk hin hli
          · rw [okB_38 _ _ _ e]; exact nok38_any f l w lo a h hn hf hl e hk hin hli
        · rw [shapeB_out hin]
          exact nokout_any f l w lo a h hn hf hl hk hin (.inr ⟨hs, he, by simp [hli]⟩)
      · have hv : shapeB (f.ns.map LN.nd) a l.nd = false := by
          unfold shapeB
          rw [hs, if_neg (by simp), decide_eq_false hli]
          simp
        rw [hv]
        exact nokline_any f l w lo a h hn hf hl hk (.inr ⟨hs, he, by simp [hli]⟩)
  · have he : isExpr l.nd.kind = false := by
      have := of_decide_eq_true hs
      exact decide_eq_false (by omega)
    by_cases hli : 1 ≤ l.nd.line ∧ l.nd.line ≤ 100000
    · by_cases hin : kidsIn l.nd a
      · rw [shapeB_in hk hin, hs, if_pos rfl, decide_eq_true hli, Bool.true_and]
        have hk' : 1 ≤ l.nd.kind ∧ l.nd.kind ≤ 14 := of_decide_eq_true hs
        rcases (show l.nd.kind = 1 ∨ l.nd.kind = 2 ∨ l.nd.kind = 3 ∨ l.nd.kind = 4 ∨ l.nd.kind = 5 ∨ l.nd.kind = 6 ∨ l.nd.kind = 7 ∨ l.nd.kind = 8 ∨ l.nd.kind = 9 ∨ l.nd.kind = 10 ∨ l.nd.kind = 11 ∨ l.nd.kind = 12 ∨ l.nd.kind = 13 ∨ l.nd.kind = 14 by omega) with e | e | e | e | e | e | e | e | e | e | e | e | e | e
        · rw [okB_1 _ _ _ e]; exact nok1_any f l w lo a h hn hf hl e hk hin hli
        · rw [okB_2 _ _ _ e]; exact nok2_any f l w lo a h hn hf hl e hk hin hli
        · rw [okB_3 _ _ _ e]; exact nok3_any f l w lo a h hn hf hl e hk hin hli
        · rw [okB_4 _ _ _ e]; exact nok4_any f l w lo a h hn hf hl e hk hin hli
        · rw [okB_5 _ _ _ e]; exact nok5_any f l w lo a h hn hf hl e hk hin hli
        · rw [okB_6 _ _ _ e]; exact nok6_any f l w lo a h hn hf hl e hk hin hli
        · rw [okB_7 _ _ _ e]; exact nok7_any f l w lo a h hn hf hl e hk hin hli
        · rw [okB_8 _ _ _ e]; exact nok8_any f l w lo a h hn hf hl e hk hin hli
        · rw [okB_9 _ _ _ e]; exact nok9_any f l w lo a h hn hf hl e hk hin hli
        · rw [okB_10 _ _ _ e]; exact nok10_any f l w lo a h hn hf hl e hk hin hli
        · rw [okB_11 _ _ _ e]; exact nok11_any f l w lo a h hn hf hl e hk hin hli
        · rw [okB_12 _ _ _ e]; exact nok12_any f l w lo a h hn hf hl e hk hin hli
        · rw [okB_13 _ _ _ e]; exact nok13_any f l w lo a h hn hf hl e hk hin hli
        · rw [okB_14 _ _ _ e]; exact nok14_any f l w lo a h hn hf hl e hk hin hli
      · rw [shapeB_out hin]
        exact nokout_any f l w lo a h hn hf hl hk hin (.inl ⟨hs, he, hli⟩)
    · have hv : shapeB (f.ns.map LN.nd) a l.nd = false := by
        unfold shapeB
        rw [hs, if_pos rfl, decide_eq_false hli]
        simp
      rw [hv]
      exact nokline_any f l w lo a h hn hf hl hk (.inl ⟨hs, he, by omega⟩)
end Go.Proofs.Ytcpjplkbmflglaa
