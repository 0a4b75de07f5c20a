/- The decimal numeral of the reference. -/
import Derived.Test.YtchlolfdinakiaaDoorD1
import Derived.Test.YtchlolfdinakiaaDoorX0
import Derived.Laws.IdiomStrings
import Derived.Lib.ItoaLen
import Derived.Lib.ItoaMem
namespace Go.Proofs.YtchlolfdinakiaaDoor
open Go.RowKit

theorem conv1 (w : World) (m : Nat) : (convert 35 9 (.slice (some ⟨w.heap.size, 0, none⟩) 1 1)).run Tryd.prog (w.alloc (.cells #[.int .u8 (48 + (m : Int) % 10)] 5)) = .ok (.string ⟨#[UInt8.ofNat (48 + m % 10)]⟩) (w.alloc (.cells #[.int .u8 (48 + (m : Int) % 10)] 5)) := by
  have := run_convert_bytes_back (P := Tryd.prog) (w.alloc (.cells #[.int .u8 (48 + (m : Int) % 10)] 5)) 35 9 5 ⟨w.heap.size, 0, none⟩ 1 [UInt8.ofNat (48 + m % 10)] Tryd.underlying35 Tryd.underlying5 Tryd.underlying9 (fun j hj => by
    obtain rfl : j = 0 := by simpa using hj
    have : (UInt8.ofNat (48 + m % 10)).toNat = 48 + m % 10 := by simp; omega
    simp [Addr.add, go_sem]
    omega)
  exact this
theorem bcat (a b : List UInt8) : (⟨a.toArray⟩ : ByteArray) ++ ⟨b.toArray⟩ = ⟨(a ++ b).toArray⟩ := by
  apply ByteArray.ext
  simp
theorem dig_cons (m : Nat) (acc : List UInt8) : (⟨#[48 + UInt8.ofNat (m % 10)]⟩ : ByteArray) ++ ⟨acc.toArray⟩ = ⟨(UInt8.ofNat (48 + m % 10) :: acc).toArray⟩ := by
  have := bcat [48 + UInt8.ofNat (m % 10)] acc
  rw [UInt8.ofNat_add]
  exact this
set_option maxRecDepth 100000 in
theorem dec_pos (N : Nat) (hN : N < 9223372036854775808) (w : World) : Calls Tryd.prog 24 #[.int .i64 (N : Int)] w fun e w' => e = .returned (.string ⟨(Lib.decDigits N).toArray⟩) ∧ Below w.heap.size w w' := by
  have g1 : ((N : Int) = -9223372036854775808) = False := eq_false (by omega)
  have g2 : ((N : Int) < 0) = False := eq_false (by omega)
  go_enter Tryd.func24, Tryd.ntmps24
  go_wp2
  go_loopw [0, 3] (fun i o wr => ∃ (m : Nat) (acc : List UInt8), m < 9223372036854775808 ∧ i = .int .i64 (m : Int) ∧ o = .string ⟨acc.toArray⟩ ∧ Hid (Lib.decDigits N = Lib.decDigits m ++ acc) ∧ Below w.heap.size w wr) (fun i _ _ => (intOf i).toNat + 1)
  case atStart => exact ⟨N, [], hN, rfl, rfl, Lib.hid (by simp), Below.refl _ _⟩
  case round =>
    obtain ⟨m, acc, hm, rfl, rfl, hd, hb⟩ := hrel
    have h2 : ¬ ((m : Int) = -9223372036854775808) := by omega
    have hcv := conv1 wr m
    have hL : acc.length ≤ 21 := by
      have h1 := Lib.itoa_length_le (N : Int) (by omega) (by omega)
      rw [Lib.itoa_nonneg, hd.out, List.length_append] at h1
      omega
    by_cases h10 : m < 10
    · have h3 : m / 10 = 0 := by omega
      go_wp2
      have e1 : Lib.decDigits N = UInt8.ofNat (48 + m % 10) :: acc := by
        rw [hd.out, Lib.decDigits, dif_pos h10, Nat.mod_eq_of_lt h10]; rfl
      refine bodyPost_ret (v := .string (⟨#[48 + UInt8.ofNat (m % 10)]⟩ ++ ⟨acc.toArray⟩)) (by simp [results, Tryd.results24, go_sem]) rfl ⟨?_, hb.alloc hb.size _⟩
      rw [e1, dig_cons]
    · have h3 : ¬ m / 10 = 0 := by omega
      go_wp2
      refine ⟨⟨m / 10, UInt8.ofNat (48 + m % 10) :: acc, by omega, rfl, by rw [dig_cons], Lib.hid ?_, hb.alloc hb.size _⟩, by simp [intOf]; omega⟩
      rw [hd.out, Lib.decDigits, dif_neg h10]
      simp
theorem dec_any (n : Int) (h0 : -9223372036854775808 ≤ n) (h1 : n ≤ 9223372036854775807) (w : World) : Calls Tryd.prog 24 #[.int .i64 n] w fun e w' => e = .returned (.string ⟨(Lib.itoa n).toArray⟩) ∧ Below w.heap.size w w' := by
  by_cases hp : 0 ≤ n
  · obtain ⟨N, rfl⟩ := Int.eq_ofNat_of_zero_le hp
    rw [Lib.itoa_nonneg]
    exact dec_pos N (by omega) w
  · by_cases hm : n = -9223372036854775808
    · subst hm
      have e1 : (⟨(Lib.itoa (-9223372036854775808)).toArray⟩ : ByteArray) = ⟨#[45, 57, 50, 50, 51, 51, 55, 50, 48, 51, 54, 56, 53, 52, 55, 55, 53, 56, 48, 56]⟩ := by decide +kernel
      rw [e1]
      go_enter Tryd.func24, Tryd.ntmps24
      go_wp2
      go_ret
      exact ⟨rfl, Below.refl _ _⟩
    · obtain ⟨N, rfl⟩ : ∃ N : Nat, n = -(N : Int) := ⟨n.natAbs, by omega⟩
      have g1 : ¬ (-(N : Int) = -9223372036854775808) := hm
      have g2 : (-(N : Int) < 0) := by omega
      have hL : (Lib.decDigits N).length ≤ 21 := by
        have h1 := Lib.itoa_length_le (N : Int) (by omega) (by omega)
        rwa [Lib.itoa_nonneg] at h1
      rw [Lib.itoa_neg N (by omega)]
      go_enter Tryd.func24, Tryd.ntmps24
      go_wp2_with (go_at_call 24; refine (dec_pos N (by omega) _).mono ?_; rintro e w1 ⟨rfl, hb1⟩)
      go_ret
      refine ⟨?_, hb1⟩
      show Ending.returned (.string ((⟨[45].toArray⟩ : ByteArray) ++ ⟨(Lib.decDigits N).toArray⟩)) = _
      rw [bcat]; rfl
end Go.Proofs.YtchlolfdinakiaaDoor
