/- Words on a report; the text of a mark. -/
import Derived.Test.YtchlolfdinakiaaQr
import Derived.Laws.IdiomStrings
import Derived.Lib.ItoaLen
import Derived.Lib.ItoaMem
namespace Go.Proofs.Ytchlolfdinakiaa.Q
open Go.RowKit
attribute [local go_sem] run_store_float
structure Rp where
  code : Int
  recs : List Rc
  vals : List ByteArray
  err : ByteArray
  trace : ByteArray
  ticks : Int
  made : Int
def i64 (n : Int) : Prop := -9223372036854775808 ≤ n ∧ n ≤ 9223372036854775807
theorem box7 {w : World} {g : Nat} {t : TypeId} {a b c d e f h : Value} (hb : Blk w g t #[a, b, c, d, e, f, h]) : w.cell? ⟨g, 0, none⟩ = some a ∧ w.cell? ⟨g, 1, none⟩ = some b ∧ w.cell? ⟨g, 2, none⟩ = some c ∧ w.cell? ⟨g, 3, none⟩ = some d ∧ w.cell? ⟨g, 4, none⟩ = some e ∧ w.cell? ⟨g, 5, none⟩ = some f ∧ w.cell? ⟨g, 6, none⟩ = some h :=
  ⟨hb.cell 0, hb.cell 1, hb.cell 2, hb.cell 3, hb.cell 4, hb.cell 5, hb.cell 6⟩
theorem box5 {w : World} {g : Nat} {t : TypeId} {a b c d e : Value} (hb : Blk w g t #[a, b, c, d, e]) : w.cell? ⟨g, 0, none⟩ = some a ∧ w.cell? ⟨g, 1, none⟩ = some b ∧ w.cell? ⟨g, 2, none⟩ = some c ∧ w.cell? ⟨g, 3, none⟩ = some d ∧ w.cell? ⟨g, 4, none⟩ = some e :=
  ⟨hb.cell 0, hb.cell 1, hb.cell 2, hb.cell 3, hb.cell 4⟩
theorem conv1 (w : World) (m : Nat) : (convert 157 9 (.slice (some ⟨w.heap.size, 0, none⟩) 1 1)).run Try.prog (w.alloc (.cells #[.int .u8 (48 + (m : Int) % 10)] 5)) = .ok (.string ⟨#[UInt8.ofNat (48 + m % 10)]⟩) (w.alloc (.cells #[.int .u8 (48 + (m : Int) % 10)] 5)) := by
  have := run_convert_bytes_back (P := Try.prog) (w.alloc (.cells #[.int .u8 (48 + (m : Int) % 10)] 5)) 157 9 5 ⟨w.heap.size, 0, none⟩ 1 [UInt8.ofNat (48 + m % 10)] Try.underlying157 Try.underlying5 Try.underlying9 (fun j hj => by
    obtain rfl : j = 0 := by simpa using hj
    have : (UInt8.ofNat (48 + m % 10)).toNat = 48 + m % 10 := by simp; omega
    simp [Addr.add, go_sem]
    omega)
  exact this
theorem bcat (a b : List UInt8) : (⟨a.toArray⟩ : ByteArray) ++ ⟨b.toArray⟩ = ⟨(a ++ b).toArray⟩ := by
  apply ByteArray.ext
  simp
theorem dig_cons (m : Nat) (acc : List UInt8) : (⟨#[48 + UInt8.ofNat (m % 10)]⟩ : ByteArray) ++ ⟨acc.toArray⟩ = ⟨(UInt8.ofNat (48 + m % 10) :: acc).toArray⟩ := by
  have := bcat [48 + UInt8.ofNat (m % 10)] acc
  rw [UInt8.ofNat_add]
  exact this
def mtx (q : Nat) : ByteArray := ⟨(109 :: Lib.decDigits q).toArray⟩
set_option maxRecDepth 100000 in
theorem mtx_any (N : Nat) (h0 : 0 < N) (hN : N ≤ 1000000000000) (w : World) : Calls Try.prog 97 #[.int .i64 (N : Int)] w fun e w' => e = .returned (.string (mtx N)) ∧ Below w.heap.size w w' := by
  have g2 : ¬ ((N : Int) ≤ 0) := by omega
  have hLN : (Lib.decDigits N).length ≤ 21 := by
    have h1 := Lib.itoa_length_le (N : Int) (by omega) (by omega)
    rwa [Lib.itoa_nonneg] at h1
  go_enter Try.func97, Try.ntmps97
  go_wp2
  go_loopw [0, 3] (fun i o wr => ∃ (m : Nat) (acc : List UInt8), m ≤ 1000000000000 ∧ i = .int .i64 (m : Int) ∧ o = .string ⟨acc.toArray⟩ ∧ Hid ((0 < m ∧ Lib.decDigits N = Lib.decDigits m ++ acc) ∨ (m = 0 ∧ Lib.decDigits N = acc)) ∧ Below w.heap.size w wr) (fun i _ _ => (intOf i).toNat)
  case atStart => exact ⟨N, [], hN, rfl, rfl, Lib.hid (.inl ⟨h0, by simp⟩), Below.refl _ _⟩
  case round =>
    obtain ⟨m, acc, hm, rfl, rfl, hd, hb⟩ := hrel
    have hcv := conv1 wr m
    have hL : acc.length ≤ 21 := by
      rcases hd.out with ⟨_, h⟩ | ⟨_, h⟩
      · rw [h, List.length_append] at hLN; omega
      · rw [← h]; exact hLN
    by_cases hm0 : 0 < m
    · go_wp2
      have hdd : Lib.decDigits N = Lib.decDigits m ++ acc := by
        rcases hd.out with ⟨_, h⟩ | ⟨h, _⟩
        · exact h
        · omega
      refine ⟨⟨m / 10, UInt8.ofNat (48 + m % 10) :: acc, by omega, rfl, by rw [dig_cons], Lib.hid ?_, hb.alloc hb.size _⟩, by simp [intOf]; omega⟩
      rw [hdd, Lib.decDigits]
      by_cases h10 : m < 10
      · right
        refine ⟨by omega, ?_⟩
        rw [dif_pos h10, Nat.mod_eq_of_lt h10]; rfl
      · left
        refine ⟨by omega, ?_⟩
        rw [dif_neg h10]; simp
    · have hdd : Lib.decDigits N = acc := by
        rcases hd.out with ⟨h, _⟩ | ⟨_, h⟩
        · omega
        · exact h
      have HD := Lib.hid hdd
      clear hdd
      go_wp2
      go_ret
      refine ⟨?_, hb⟩
      unfold mtx
      rw [HD.out]
      exact congrArg (fun x => Ending.returned (.string x)) (bcat [109] acc)
end Go.Proofs.Ytchlolfdinakiaa.Q
