/- Plain law: numerals as they are told and heard. No program in sight. -/
import Derived.Test.YtchlolfdinakiaaDoorE4
import Derived.Lib.AtoiAllCases
import Derived.Lib.ItoaLen
namespace Go.Proofs.YtchlolfdinakiaaDoor
open Go.RowKit

def isDig (c : UInt8) : Prop := 48 ≤ c.toNat ∧ c.toNat ≤ 57
instance (c : UInt8) : Decidable (isDig c) := by unfold isDig; infer_instance
theorem ofNat_dig (d : Nat) (h : d < 10) : (UInt8.ofNat (48 + d)).toNat = 48 + d := by
  rw [UInt8.toNat_ofNat']; omega
theorem dd_dig (u : Nat) : ∀ c ∈ Lib.decDigits u, isDig c := by
  induction u using Nat.strongRecOn with
  | _ u ih =>
    intro c hc
    rw [Lib.decDigits] at hc
    split at hc
    · rename_i h
      simp only [List.mem_singleton] at hc
      subst hc
      have := ofNat_dig u h
      exact ⟨by omega, by omega⟩
    · rename_i h
      rcases List.mem_append.1 hc with hc | hc
      · exact ih (u / 10) (by omega) c hc
      · simp only [List.mem_singleton] at hc
        subst hc
        have := ofNat_dig (u % 10) (by omega)
        exact ⟨by omega, by omega⟩
theorem nDigits_le_of (k : Nat) : ∀ u, u < 10 ^ (k + 1) → Lib.nDigits u ≤ k + 1 := by
  induction k with
  | zero => intro u h; rw [Lib.nDigits_small (by simpa using h)]; omega
  | succ k ih =>
    intro u h
    by_cases h10 : u < 10
    · rw [Lib.nDigits_small h10]; omega
    · rw [Lib.nDigits_big h10]
      have := ih (u / 10) (by rw [Nat.pow_succ] at h; omega)
      omega
theorem dd_len (u : Nat) (h : u ≤ 9223372036854775808) : (Lib.decDigits u).length ≤ 19 := by
  rw [Lib.decDigits_length]
  exact nDigits_le_of 18 u (by omega)
theorem dd_pos (u : Nat) : 0 < (Lib.decDigits u).length := by
  rw [Lib.decDigits_length]; exact Lib.nDigits_pos u

/-- What digits spell, behind the sign s, no width in sight. -/
def foldD (s : Int) (n : Int) (l : List UInt8) : Int := l.foldl (fun n c => 10 * n + s * ((c.toNat : Int) - 48)) n
theorem foldD_dd (s : Int) (u : Nat) : foldD s 0 (Lib.decDigits u) = s * u := by
  induction u using Nat.strongRecOn with
  | _ u ih =>
    rw [Lib.decDigits]
    split
    · rename_i h
      have := ofNat_dig u h
      simp only [foldD, List.foldl_cons, List.foldl_nil, this]
      push_cast
      have e : (48 + (u : Int) - 48) = u := by omega
      rw [e]; omega
    · rename_i h
      have e := ih (u / 10) (by omega)
      have := ofNat_dig (u % 10) (by omega)
      unfold foldD at e ⊢
      rw [List.foldl_append, e]
      simp only [List.foldl_cons, List.foldl_nil, this]
      push_cast
      have e2 : (48 + (u : Int) % 10 - 48) = (u : Int) % 10 := by omega
      rw [e2, ← Int.mul_assoc, Int.mul_comm 10 s, Int.mul_assoc, ← Int.mul_add]
      congr 1
      omega
/-- Behind k digits of u: what they spell, and how it hangs together with the next. -/
theorem foldD_take (s : Int) (l : List UInt8) (k : Nat) (c : UInt8) (h : l[k]? = some c) : foldD s 0 (l.take (k + 1)) = 10 * foldD s 0 (l.take k) + s * ((c.toNat : Int) - 48) := by
  have hk := (List.getElem?_eq_some_iff.1 h).1
  have hc := (List.getElem?_eq_some_iff.1 h).2
  unfold foldD
  rw [List.take_succ_eq_append_getElem hk, List.foldl_append, hc]
  rfl
theorem foldD_le (l : List UInt8) (hd : ∀ c ∈ l, isDig c) : ∀ (n : Int) (_ : 0 ≤ n), n ≤ foldD 1 n l := by
  induction l with
  | nil => intro n _; exact Int.le_refl _
  | cons c r ih =>
    intro n hn
    obtain ⟨h1, h2⟩ := hd c (by simp)
    have := ih (fun x hx => hd x (by simp [hx])) (10 * n + 1 * ((c.toNat : Int) - 48)) (by omega)
    unfold foldD at this ⊢
    rw [List.foldl_cons]
    omega
theorem foldD_app (s n : Int) (a b : List UInt8) : foldD s n (a ++ b) = foldD s (foldD s n a) b := by unfold foldD; rw [List.foldl_append]
theorem foldD_neg (l : List UInt8) : ∀ n, foldD (-1) (-n) l = -foldD 1 n l := by
  induction l with
  | nil => intro n; rfl
  | cons c r ih =>
    intro n
    unfold foldD at ih ⊢
    rw [List.foldl_cons, List.foldl_cons, ← ih]
    congr 1
    omega
theorem foldD_nonneg (l : List UInt8) (hd : ∀ c ∈ l, isDig c) : 0 ≤ foldD 1 0 l := foldD_le l hd 0 (Int.le_refl _)
/-- What a part of the digits of u spells is at most u. -/
theorem foldD_part (u k : Nat) : 0 ≤ foldD 1 0 ((Lib.decDigits u).take k) ∧ foldD 1 0 ((Lib.decDigits u).take k) ≤ u := by
  have hd := dd_dig u
  have h0 := foldD_nonneg ((Lib.decDigits u).take k) (fun c hc => hd c (List.mem_of_mem_take hc))
  have h1 := foldD_le ((Lib.decDigits u).drop k) (fun c hc => hd c (List.mem_of_mem_drop hc)) _ h0
  rw [← foldD_app, List.take_append_drop, foldD_dd] at h1
  exact ⟨h0, by omega⟩

/-- A numeral stands at a place: its sign, its digits. -/
theorem numB_split (m : Int) (hm : i64 m) : ∃ (s : Int) (u : Nat), u ≤ 9223372036854775808 ∧ m = s * u ∧ ((s = -1 ∧ numB m = 45 :: (Lib.decDigits u ++ [32])) ∨ (s = 1 ∧ u ≤ 9223372036854775807 ∧ numB m = Lib.decDigits u ++ [32])) := by
  obtain ⟨h0, h1⟩ := hm
  by_cases hn : m < 0
  · obtain ⟨u, rfl⟩ : ∃ u : Nat, m = -(u : Int) := ⟨m.natAbs, by omega⟩
    refine ⟨-1, u, by omega, by omega, .inl ⟨rfl, ?_⟩⟩
    unfold numB
    rw [Lib.itoa_neg u (by omega)]; rfl
  · obtain ⟨u, rfl⟩ : ∃ u : Nat, m = u := ⟨m.toNat, by omega⟩
    refine ⟨1, u, by omega, by omega, .inr ⟨rfl, by omega, ?_⟩⟩
    unfold numB
    rw [Lib.itoa_nonneg]
/-- The digits that a reader takes: those of u, and behind them a space. -/
theorem digs_all {u k : Nat} {l rest : List UInt8} {p : Nat} (hl : l.drop p = Lib.decDigits u ++ 32 :: rest) (hk : ∀ i, i < k → ∃ c, l[p + i]? = some c ∧ isDig c)
    (hend : k = 19 ∨ ∀ c, l[p + k]? = some c → ¬ isDig c) (h19 : k ≤ 19) (hu : u ≤ 9223372036854775808) : k = (Lib.decDigits u).length ∧ l[p + k]? = some 32 ∧ (l.drop p).take k = Lib.decDigits u := by
  have hd := dd_dig u
  have hlen := dd_len u hu
  have at_ : ∀ i, l[p + i]? = (Lib.decDigits u ++ 32 :: rest)[i]? := fun i => by rw [← hl, List.getElem?_drop]
  have hle : k ≤ (Lib.decDigits u).length := by
    rcases Nat.lt_or_ge (Lib.decDigits u).length k with h | h
    · obtain ⟨c, hc, hdc⟩ := hk _ h
      rw [at_, List.getElem?_append_right (Nat.le_refl _), Nat.sub_self] at hc
      simp at hc
      subst hc
      exact absurd hdc (by decide)
    · exact h
  have hkk : k = (Lib.decDigits u).length := by
    rcases Nat.lt_or_ge k (Lib.decDigits u).length with h | h
    · rcases hend with h' | h'
      · omega
      · exfalso
        refine h' (Lib.decDigits u)[k] ?_ (hd _ (List.getElem_mem h))
        rw [at_, List.getElem?_append_left h, List.getElem?_eq_getElem h]
    · omega
  subst hkk
  refine ⟨rfl, ?_, ?_⟩
  · rw [at_, List.getElem?_append_right (Nat.le_refl _), Nat.sub_self]; rfl
  · rw [hl, List.take_left]

/-- Atoi gives a told number back. -/
theorem parse_dd (u : Nat) (hu : u < 18446744073709551616) : ∀ (k : Nat), k ≤ (Lib.decDigits u).length → ∀ a : Nat, (a : Int) = foldD 1 0 ((Lib.decDigits u).take k) → Lib.parseUint10 a ((Lib.decDigits u).drop k) = .ok u := by
  intro k hk
  obtain ⟨j, hj⟩ : ∃ j, j = (Lib.decDigits u).length - k := ⟨_, rfl⟩
  induction j generalizing k with
  | zero =>
    intro a ha
    have hkk : k = (Lib.decDigits u).length := by omega
    subst hkk
    rw [List.take_length, foldD_dd] at ha
    rw [List.drop_length]
    have : a = u := by omega
    rw [this]; rfl
  | succ j ih =>
    intro a ha
    have hlt : k < (Lib.decDigits u).length := by omega
    rw [List.drop_eq_getElem_cons hlt]
    obtain ⟨h1, h2⟩ := dd_dig u _ (List.getElem_mem hlt)
    have e := foldD_take 1 (Lib.decDigits u) k _ (List.getElem?_eq_getElem hlt)
    have hp := foldD_part u (k + 1)
    rw [← ha] at e
    unfold Lib.parseUint10
    rw [if_pos ⟨h1, h2⟩, if_neg (by omega), if_neg (by omega)]
    exact ih (k + 1) (by omega) (by omega) _ (by omega)
theorem atoi_itoa (m : Int) (hm : i64 m) : Lib.atoiAll (Lib.itoa m) = .ok m := by
  obtain ⟨h0, h1⟩ := hm
  have mag : ∀ u, u < 18446744073709551616 → Lib.parseMag (Lib.decDigits u) = .ok u := fun u hu => by
    unfold Lib.parseMag
    rw [if_neg (by have := dd_pos u; intro e; rw [e] at this; simp at this)]
    exact parse_dd u hu 0 (Nat.zero_le _) 0 rfl
  by_cases hn : m < 0
  · obtain ⟨u, rfl⟩ : ∃ u : Nat, m = -(u : Int) := ⟨m.natAbs, by omega⟩
    rw [Lib.itoa_neg u (by omega), Lib.atoiAll_minus, mag u (by omega)]
    exact if_neg (by omega)
  · obtain ⟨u, rfl⟩ : ∃ u : Nat, m = u := ⟨m.toNat, by omega⟩
    rw [Lib.itoa_nonneg]
    have hd := dd_dig u
    have hm := mag u (by omega)
    have hp := dd_pos u
    match hL : Lib.decDigits u, hp with
    | c :: r, _ =>
      rw [hL] at hd hm
      obtain ⟨a, b⟩ := hd c (by simp)
      rw [Lib.atoiAll_plain c r (by omega) (by omega), hm]
      exact if_neg (by omega)
end Go.Proofs.YtchlolfdinakiaaDoor
