/- The text of a mark. -/
import Derived.Test.YtchlolfdinakiaaDoorE7
namespace Go.Proofs.YtchlolfdinakiaaDoor
open Go.RowKit
attribute [local go_sem] run_store_float

def mtx (q : Nat) : ByteArray := ⟨(109 :: Lib.decDigits q).toArray⟩
set_option maxRecDepth 100000 in
theorem mtx_any (N : Nat) (h0 : 0 < N) (hN : N ≤ 1000000000000) (w : World) : Calls Tryd.prog 64 #[.int .i64 (N : Int)] w fun e w' => e = .returned (.string (mtx N)) ∧ Below w.heap.size w w' := by
  have g2 : ¬ ((N : Int) ≤ 0) := by omega
  have hLN : (Lib.decDigits N).length ≤ 21 := by
    have h1 := Lib.itoa_length_le (N : Int) (by omega) (by omega)
    rwa [Lib.itoa_nonneg] at h1
  go_enter Tryd.func64, Tryd.ntmps64
  go_wp2
  go_loopw [0, 3] (fun i o wr => ∃ (m : Nat) (acc : List UInt8), m ≤ 1000000000000 ∧ i = .int .i64 (m : Int) ∧ o = .string ⟨acc.toArray⟩ ∧ Hid ((0 < m ∧ Lib.decDigits N = Lib.decDigits m ++ acc) ∨ (m = 0 ∧ Lib.decDigits N = acc)) ∧ Below w.heap.size w wr) (fun i _ _ => (intOf i).toNat)
  case atStart => exact ⟨N, [], hN, rfl, rfl, Lib.hid (.inl ⟨h0, by simp⟩), Below.refl _ _⟩
  case round =>
    obtain ⟨m, acc, hm, rfl, rfl, hd, hb⟩ := hrel
    have hcv := conv1 wr m
    have hL : acc.length ≤ 21 := by
      rcases hd.out with ⟨_, h⟩ | ⟨_, h⟩
      · rw [h, List.length_append] at hLN; omega
      · rw [← h]; exact hLN
    by_cases hm0 : 0 < m
    · go_wp2
      have hdd : Lib.decDigits N = Lib.decDigits m ++ acc := by
        rcases hd.out with ⟨_, h⟩ | ⟨h, _⟩
        · exact h
        · omega
      refine ⟨⟨m / 10, UInt8.ofNat (48 + m % 10) :: acc, by omega, rfl, by rw [dig_cons], Lib.hid ?_, hb.alloc hb.size _⟩, by simp [intOf]; omega⟩
      rw [hdd, Lib.decDigits]
      by_cases h10 : m < 10
      · right
        refine ⟨by omega, ?_⟩
        rw [dif_pos h10, Nat.mod_eq_of_lt h10]; rfl
      · left
        refine ⟨by omega, ?_⟩
        rw [dif_neg h10]; simp
    · have hdd : Lib.decDigits N = acc := by
        rcases hd.out with ⟨h, _⟩ | ⟨_, h⟩
        · omega
        · exact h
      have HD := Lib.hid hdd
      clear hdd
      go_wp2
      go_ret
      refine ⟨?_, hb⟩
      unfold mtx
      rw [HD.out]
      exact congrArg (fun x => Ending.returned (.string x)) (bcat [109] acc)
end Go.Proofs.YtchlolfdinakiaaDoor
