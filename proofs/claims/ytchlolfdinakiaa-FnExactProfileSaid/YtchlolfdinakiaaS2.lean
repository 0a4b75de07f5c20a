/- InputOk: both sides come to the same plain function. -/
import Derived.Test.YtchlolfdinakiaaS1
import Derived.Deep.QuietTactic
import Derived.BigQuiet
import Derived.Deep.LoopGhost
namespace Go.Proofs.Ytchlolfdinakiaa
open Go.RowKit

def fits (s : ByteArray) : Bool := decide ((s.size : Int) ≤ 4000)
def okTail (tk dp cl : Int) : Bool := decide (0 ≤ tk) && decide (tk ≤ 5000) && decide (1 ≤ dp) && decide (dp ≤ 60) && decide (0 ≤ cl) && decide (cl ≤ 20000)
def inOk (xa xl : List ByteArray) (tk dp cl : Int) : Bool := decide (xa.length ≤ 200) && decide (xl.length ≤ 200) && xa.all fits && xl.all fits && okTail tk dp cl

theorem all_take {xs : List ByteArray} {k : Nat} (h : (xs.take k).all fits = true) (hk : k < xs.length) (hf : (xs[k].size : Int) ≤ 4000) : (xs.take (k + 1)).all fits = true := by
  rw [List.take_succ_eq_append_getElem hk, List.all_append, h]
  simp [fits, hf]
theorem all_bad {xs : List ByteArray} {k : Nat} (hk : k < xs.length) (hf : ¬ (xs[k].size : Int) ≤ 4000) : xs.all fits = false := by
  rw [List.all_eq_false]
  exact ⟨xs[k], List.getElem_mem hk, by simpa [fits] using hf⟩
theorem inOk_bad1 {xa xl : List ByteArray} {tk dp cl : Int} (h : xa.all fits = false) : inOk xa xl tk dp cl = false := by simp [inOk, h]
theorem inOk_bad2 {xa xl : List ByteArray} {tk dp cl : Int} (h : xl.all fits = false) : inOk xa xl tk dp cl = false := by simp [inOk, h]
theorem inOk_tail {xa xl : List ByteArray} {tk dp cl : Int} (h1 : xa.length ≤ 200) (h2 : xl.length ≤ 200) (h3 : xa.all fits = true) (h4 : xl.all fits = true) : inOk xa xl tk dp cl = okTail tk dp cl := by simp [inOk, h1, h2, h3, h4]
theorem ret_bool {a b : Bool} (h : a = b) : Ending.returned (.bool a) = Ending.returned (.bool b) := by rw [h]


theorem sinok_any (A A' : Option Addr) (c c' : Nat) (xa xl : List ByteArray) (tk dp cl : Int) (w : World) (lo lo' : Nat) (h : RdL encS 1 w lo A xa) (h' : RdL encS 1 w lo' A' xl) (hn : xa.length ≤ maxLen) (hn' : xl.length ≤ maxLen) :
    Calls Try.prog 19 #[.agg #[.slice A xa.length c, .slice A' xl.length c', .int .i64 tk, .int .i64 dp, .int .i64 cl]] w fun e w' => e = .returned (.bool (inOk xa xl tk dp cl)) ∧ Below w.heap.size w w' := by
  unfold maxLen at hn hn'
  have g := h.alloc (.cells #[.slice A xa.length c, .slice A' xl.length c', .int .i64 tk, .int .i64 dp, .int .i64 cl] 36)
  have g' := h'.alloc (.cells #[.slice A xa.length c, .slice A' xl.length c', .int .i64 tk, .int .i64 dp, .int .i64 cl] 36)
  by_cases h1 : xa.length ≤ 200
  · by_cases h2 : xl.length ≤ 200
    · go_enter Try.func19, Try.ntmps19
      go_wp2
      go_loop [20] (fun i => ∃ k : Nat, k ≤ xa.length ∧ i = .int .i64 k ∧ (xa.take k).all fits = true) (fun i => xa.length - (intOf i).toNat)
      case atStart => exact ⟨0, Nat.zero_le _, rfl, by simp⟩
      case round =>
        obtain ⟨k, hk, rfl, hall⟩ := hrel
        by_cases hlt : k < xa.length
        · obtain ⟨b, off, rfl, hlo, hb, hc⟩ := rdS_at g hlt
          have HA := Lib.hid hall; clear hall h h' g g'
          by_cases hf : (xa[k].size : Int) ≤ 4000
          · go_wp2
            exact ⟨⟨k + 1, by omega, by go_num, all_take HA.out hlt hf⟩, by simp [intOf]; omega⟩
          · go_wp2
            go_ret
            exact ⟨ret_bool (inOk_bad1 (all_bad hlt (by omega))).symm, below_new _ _⟩
        · have hkk : k = xa.length := by omega
          subst hkk
          rw [List.take_length] at hall
          have HA1 := Lib.hid hall; clear hall
          go_wp2
          go_loop [31] (fun i => ∃ k : Nat, k ≤ xl.length ∧ i = .int .i64 k ∧ (xl.take k).all fits = true) (fun i => xl.length - (intOf i).toNat)
          case atStart => exact ⟨0, Nat.zero_le _, rfl, by simp⟩
          case round =>
            obtain ⟨k, hk, rfl, hall⟩ := hrel
            by_cases hlt : k < xl.length
            · obtain ⟨b, off, rfl, hlo, hb, hc⟩ := rdS_at g' hlt
              have HA := Lib.hid hall; clear hall h h' g g'
              by_cases hf : (xl[k].size : Int) ≤ 4000
              · go_wp2
                exact ⟨⟨k + 1, by omega, by go_num, all_take HA.out hlt hf⟩, by simp [intOf]; omega⟩
              · go_wp2
                go_ret
                exact ⟨ret_bool (inOk_bad2 (all_bad hlt (by omega))).symm, below_new _ _⟩
            · have hkk : k = xl.length := by omega
              subst hkk
              rw [List.take_length] at hall
              have HA2 := Lib.hid hall; clear hall h h' g g'
              go_wp2
              all_goals go_ret
              all_goals refine ⟨ret_bool ?_, below_new _ _⟩
              all_goals rw [inOk_tail h1 h2 HA1.out HA2.out]
              all_goals (simp_all [okTail] <;> omega)

    · go_enter Try.func19, Try.ntmps19
      go_wp2
      go_ret
      exact ⟨by simp [inOk, h2], below_new _ _⟩
  · go_enter Try.func19, Try.ntmps19
    go_wp2
    go_ret
    exact ⟨by simp [inOk, h1], below_new _ _⟩

theorem iinok_any (A A' : Option Addr) (c c' : Nat) (xa xl : List ByteArray) (tk dp cl : Int) (w : World) (lo lo' : Nat) (h : RdL encS 1 w lo A xa) (h' : RdL encS 1 w lo' A' xl) (hn : xa.length ≤ maxLen) (hn' : xl.length ≤ maxLen) :
    Calls Try.prog 21 #[.agg #[.slice A xa.length c, .slice A' xl.length c', .int .i64 tk, .int .i64 dp, .int .i64 cl]] w fun e w' => e = .returned (.bool (inOk xa xl tk dp cl)) ∧ Below w.heap.size w w' := by
  unfold maxLen at hn hn'
  have g := (h.alloc (.cells #[.slice A xa.length c, .slice A' xl.length c', .int .i64 tk, .int .i64 dp, .int .i64 cl] 36)).alloc (.cells #[.slice A xa.length c, .slice A' xl.length c'] 31)
  have g' := (h'.alloc (.cells #[.slice A xa.length c, .slice A' xl.length c', .int .i64 tk, .int .i64 dp, .int .i64 cl] 36)).alloc (.cells #[.slice A xa.length c, .slice A' xl.length c'] 31)
  by_cases h1 : xa.length ≤ 200
  · by_cases h2 : xl.length ≤ 200
    · go_enter Try.func21, Try.ntmps21
      go_wp2
      go_loop [23] (fun i => ∃ k : Nat, k ≤ 2 ∧ i = .int .i64 k ∧ Hid ((1 ≤ k → xa.all fits = true) ∧ (2 ≤ k → xl.all fits = true))) (fun i => 2 - (intOf i).toNat)
      case atStart => exact ⟨0, Nat.zero_le _, rfl, fun h => absurd h (by omega), fun h => absurd h (by omega)⟩
      case round =>
      obtain ⟨k, hk, rfl, H⟩ := hrel
      obtain rfl | rfl | rfl : k = 0 ∨ k = 1 ∨ k = 2 := by omega
      · go_wp2
        go_loop [29] (fun i => ∃ k : Nat, k ≤ xa.length ∧ i = .int .i64 k ∧ (xa.take k).all fits = true) (fun i => xa.length - (intOf i).toNat)
        case atStart => exact ⟨0, Nat.zero_le _, rfl, by simp⟩
        case round =>
          obtain ⟨k, hk, rfl, hall⟩ := hrel
          by_cases hlt : k < xa.length
          · obtain ⟨b, off, rfl, hlo, hb, hc⟩ := rdS_at g hlt
            have HA := Lib.hid hall; clear hall h h' g g'
            by_cases hf : (xa[k].size : Int) ≤ 4000
            · go_wp2
              exact ⟨⟨k + 1, by omega, by go_num, all_take HA.out hlt hf⟩, by simp [intOf]; omega⟩
            · go_wp2
              go_ret
              exact ⟨ret_bool (inOk_bad1 (all_bad hlt (by omega))).symm, below_new2 _ _ _⟩
          · have hkk : k = xa.length := by omega
            subst hkk
            rw [List.take_length] at hall
            have HA := Lib.hid hall; clear hall h h' g g'
            go_wp2
            exact ⟨⟨0 + 1, by omega, by go_num, ⟨fun _ => HA.out, fun h => absurd h (by omega)⟩⟩, by simp [intOf]⟩
      · go_wp2
        go_loop [29] (fun i => ∃ k : Nat, k ≤ xl.length ∧ i = .int .i64 k ∧ (xl.take k).all fits = true) (fun i => xl.length - (intOf i).toNat)
        case atStart => exact ⟨0, Nat.zero_le _, rfl, by simp⟩
        case round =>
          obtain ⟨k, hk, rfl, hall⟩ := hrel
          by_cases hlt : k < xl.length
          · obtain ⟨b, off, rfl, hlo, hb, hc⟩ := rdS_at g' hlt
            have HA := Lib.hid hall; clear hall h h' g g'
            by_cases hf : (xl[k].size : Int) ≤ 4000
            · go_wp2
              exact ⟨⟨k + 1, by omega, by go_num, all_take HA.out hlt hf⟩, by simp [intOf]; omega⟩
            · go_wp2
              go_ret
              exact ⟨ret_bool (inOk_bad2 (all_bad hlt (by omega))).symm, below_new2 _ _ _⟩
          · have hkk : k = xl.length := by omega
            subst hkk
            rw [List.take_length] at hall
            have HA := Lib.hid hall; clear hall h h' g g'
            go_wp2
            exact ⟨⟨1 + 1, by omega, by go_num, ⟨fun _ => H.out.1 (by omega), fun _ => HA.out⟩⟩, by simp [intOf]⟩
      · clear h h' g g'
        go_wp2
        all_goals go_ret
        all_goals refine ⟨ret_bool ?_, below_new2 _ _ _⟩
        all_goals rw [inOk_tail h1 h2 (H.out.1 (by omega)) (H.out.2 (by omega))]
        all_goals (simp_all [okTail] <;> omega)
    · go_enter Try.func21, Try.ntmps21
      go_wp2
      go_ret
      exact ⟨by simp [inOk, h2], below_new _ _⟩
  · go_enter Try.func21, Try.ntmps21
    go_wp2
    go_ret
    exact ⟨by simp [inOk, h1], below_new _ _⟩
end Go.Proofs.Ytchlolfdinakiaa
