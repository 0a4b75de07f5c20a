/- Key as one contract, both sides alike. -/
import Derived.Test.YtchlolfdinakiaaV5
namespace Go.Proofs.Ytchlolfdinakiaa
open Go.RowKit


theorem skey_all (k n r : Int) (f : Nat) (s : ByteArray) (w : World) :
    Calls Try.prog 26 #[.agg #[.int .i64 k, .int .i64 n, .float .f64 f, .string s, .int .i64 r]] w fun e w' => e = .returned (.agg #[.int .i64 (keyOf (Flt.sfloor f) k n f s r).c, .int .i64 (keyOf (Flt.sfloor f) k n f s r).k, .int .i64 (keyOf (Flt.sfloor f) k n f s r).n, .float .f64 (keyOf (Flt.sfloor f) k n f s r).f, .string (keyOf (Flt.sfloor f) k n f s r).s, .int .i64 (keyOf (Flt.sfloor f) k n f s r).r]) ∧ Below w.heap.size w w' := by
  cases hv : vOk k n f s r
  · have e1 : keyOf (Flt.sfloor f) k n f s r = errVd 1 := by simp [keyOf, hv]
    rw [e1]
    exact skey_bad k n r f s hv w
  · by_cases h0 : k = 0
    · subst h0
      have e1 : keyOf (Flt.sfloor f) 0 n f s r = errVd 5 := by simp [keyOf, hv]
      rw [e1]
      exact skey_nil n r f s hv w
    · by_cases h3 : k = 3
      · subst h3
        cases hf : okf f
        · have e1 : keyOf (Flt.sfloor f) 3 n f s r = errVd 5 := by simp [keyOf, hv, hf]
          rw [e1]
          exact skey_nan n r f s hv hf w
        · have own : keyInt (Flt.sfloor f) f = false → keyOf (Flt.sfloor f) 3 n f s r = ⟨0, 3, n, f, s, r⟩ := fun h => by simp [keyOf, hv, hf, h]
          cases h1 : (FloatKind.f64.format.order f (Flt.sfloor f) == some .eq)
          · rw [own (by unfold keyInt; rw [h1]; rfl)]
            exact skey_part n r f s hv hf h1 w
          · cases h2 : (FloatKind.f64.format.order f 14114281232179134464 == some .gt || FloatKind.f64.format.order f 14114281232179134464 == some .eq)
            · rw [own (by unfold keyInt; rw [h1, h2]; rfl)]
              exact skey_low n r f s hv hf h1 h2 w
            · cases h3 : (FloatKind.f64.format.order f 4890909195324358656 == some .lt)
              · rw [own (by unfold keyInt; rw [h1, h2, h3]; rfl)]
                exact skey_high n r f s hv hf h1 h2 h3 w
              · have e1 : keyOf (Flt.sfloor f) 3 n f s r = intVd (fint f) := by
                  have : keyInt (Flt.sfloor f) f = true := by unfold keyInt; rw [h1, h2, h3]; rfl
                  simp [keyOf, hv, hf, this]
                rw [e1]
                exact skey_whole n r f s hv hf h1 h2 h3 w
      · have e1 : keyOf (Flt.sfloor f) k n f s r = ⟨0, k, n, f, s, r⟩ := by simp [keyOf, hv, h0, h3]
        rw [e1]
        exact skey_other k n r f s hv (by simpa using h0) (by simpa using h3) w

theorem ikey_all (k n r : Int) (f : Nat) (s : ByteArray) (w : World) :
    Calls Try.prog 27 #[.agg #[.int .i64 k, .int .i64 n, .float .f64 f, .string s, .int .i64 r]] w fun e w' => e = .returned (.agg #[.int .i64 (keyOf (Flt.ifloor f) k n f s r).c, .int .i64 (keyOf (Flt.ifloor f) k n f s r).k, .int .i64 (keyOf (Flt.ifloor f) k n f s r).n, .float .f64 (keyOf (Flt.ifloor f) k n f s r).f, .string (keyOf (Flt.ifloor f) k n f s r).s, .int .i64 (keyOf (Flt.ifloor f) k n f s r).r]) ∧ Below w.heap.size w w' := by
  cases hv : vOk k n f s r
  · have e1 : keyOf (Flt.ifloor f) k n f s r = errVd 1 := by simp [keyOf, hv]
    rw [e1]
    exact ikey_bad k n r f s hv w
  · by_cases h0 : k = 0
    · subst h0
      have e1 : keyOf (Flt.ifloor f) 0 n f s r = errVd 5 := by simp [keyOf, hv]
      rw [e1]
      exact ikey_nil n r f s hv w
    · by_cases h3 : k = 3
      · subst h3
        cases hf : okf f
        · have e1 : keyOf (Flt.ifloor f) 3 n f s r = errVd 5 := by simp [keyOf, hv, hf]
          rw [e1]
          exact ikey_nan n r f s hv hf w
        · have own : keyInt (Flt.ifloor f) f = false → keyOf (Flt.ifloor f) 3 n f s r = ⟨0, 3, n, f, s, r⟩ := fun h => by simp [keyOf, hv, hf, h]
          cases h1 : (FloatKind.f64.format.order f (Flt.ifloor f) == some .eq)
          · rw [own (by unfold keyInt; rw [h1]; rfl)]
            exact ikey_part n r f s hv hf h1 w
          · cases h2 : (FloatKind.f64.format.order f 14114281232179134464 == some .gt || FloatKind.f64.format.order f 14114281232179134464 == some .eq)
            · rw [own (by unfold keyInt; rw [h1, h2]; rfl)]
              exact ikey_low n r f s hv hf h1 h2 w
            · cases h3 : (FloatKind.f64.format.order f 4890909195324358656 == some .lt)
              · rw [own (by unfold keyInt; rw [h1, h2, h3]; rfl)]
                exact ikey_high n r f s hv hf h1 h2 h3 w
              · have e1 : keyOf (Flt.ifloor f) 3 n f s r = intVd (fint f) := by
                  have : keyInt (Flt.ifloor f) f = true := by unfold keyInt; rw [h1, h2, h3]; rfl
                  simp [keyOf, hv, hf, this]
                rw [e1]
                exact ikey_whole n r f s hv hf h1 h2 h3 w
      · have e1 : keyOf (Flt.ifloor f) k n f s r = ⟨0, k, n, f, s, r⟩ := by simp [keyOf, hv, h0, h3]
        rw [e1]
        exact ikey_other k n r f s hv (by simpa using h0) (by simpa using h3) w

/-- What a value is as a key. -/
def key (k n : Int) (f : Nat) (s : ByteArray) (r : Int) : Vd := keyOf (Flt.sfloor f) k n f s r
theorem skey_any (k n r : Int) (f : Nat) (s : ByteArray) (w : World) :
    Calls Try.prog 26 #[.agg #[.int .i64 k, .int .i64 n, .float .f64 f, .string s, .int .i64 r]] w fun e w' => e = .returned (.agg #[.int .i64 (key k n f s r).c, .int .i64 (key k n f s r).k, .int .i64 (key k n f s r).n, .float .f64 (key k n f s r).f, .string (key k n f s r).s, .int .i64 (key k n f s r).r]) ∧ Below w.heap.size w w' := skey_all k n r f s w
theorem ikey_any (k n r : Int) (f : Nat) (s : ByteArray) (w : World) :
    Calls Try.prog 27 #[.agg #[.int .i64 k, .int .i64 n, .float .f64 f, .string s, .int .i64 r]] w fun e w' => e = .returned (.agg #[.int .i64 (key k n f s r).c, .int .i64 (key k n f s r).k, .int .i64 (key k n f s r).n, .float .f64 (key k n f s r).f, .string (key k n f s r).s, .int .i64 (key k n f s r).r]) ∧ Below w.heap.size w w' := by
  unfold key
  rw [← keyOf_agree]
  exact ikey_all k n r f s w
end Go.Proofs.Ytchlolfdinakiaa
