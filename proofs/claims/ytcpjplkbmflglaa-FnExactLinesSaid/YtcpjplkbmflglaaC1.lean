/- The closures of nodeOk. -/
import Derived.Test.YtcpjplkbmflglaaB14
import Derived.Laws.EntriesVeiled
namespace Go.Proofs.Ytcpjplkbmflglaa
open Go.RowKit
attribute [local go_sem] run_store_float
set_option linter.unusedVariables false
structure Ne (ns : List LN) (nd : Nd) (a b off nc : Nat) (ka : Option Addr) (kc pf pn pk pc lo : Nat) (W : World) : Prop where
  f6 : W.cell? ⟨pf, 6, none⟩ = some (.slice (some ⟨b, off, none⟩) ns.length nc)
  n7 : W.cell? ⟨pn, 7, none⟩ = some (.slice ka nd.kids.length kc)
  k0 : W.cell? ⟨pk, 0, none⟩ = some (.func (.func 45) #[] #[(.pointer (some ⟨pf, 0, none⟩)), (.pointer (some ⟨pn, 0, none⟩))])
  c0 : W.cell? ⟨pc, 0, none⟩ = some (.int .i64 nd.kids.length)
  rn : RdN W lo (some ⟨b, off, none⟩) ns
  rk : RdL encI 1 W lo ka nd.kids
theorem Ne.drewN {ns : List LN} {nd : Nd} {a b off nc : Nat} {ka : Option Addr} {kc pf pn pk pc lo : Nat} {W : World} (h : Ne ns nd a b off nc ka kc pf pn pk pc lo W) (n : Nat) : Ne ns nd a b off nc ka kc pf pn pk pc lo (W.drewN n) := ⟨h.f6, h.n7, h.k0, h.c0, h.rn, h.rk⟩
def Drw (W : World) (v : Value) (e : Ending) (w' : World) : Prop := e = .returned v ∧ ∃ n, w' = W.drewN n
theorem k45_any (ns : List LN) (nd : Nd) (a b off nc : Nat) (ka : Option Addr) (kc pf pn pk pc lo : Nat) (W : World) (z : Int) (h : Ne ns nd a b off nc ka kc pf pn pk pc lo W) (hn : ns.length ≤ 1048576) (hk : nd.kids.length ≤ 200) (hin : kidsIn nd a) (ha : a < ns.length) (hnd : (ns.map LN.nd)[a]? = some nd) (h0 : 0 ≤ z) (h1 : z < nd.kids.length) :
    Calls Try.prog 45 #[.int .i64 z, (.pointer (some ⟨pf, 0, none⟩)), (.pointer (some ⟨pn, 0, none⟩))] W fun e w' => e = .returned (.int .i64 (kidK (ns.map LN.nd) a z.toNat)) ∧ ∃ n, w' = W.drewN n := by
  obtain ⟨i, rfl⟩ : ∃ i : Nat, z = i := ⟨z.toNat, by omega⟩
  rw [Int.toNat_natCast]
  obtain ⟨k, hkk⟩ : ∃ k, nd.kids[i]? = some k := ⟨_, List.getElem?_eq_getElem (by omega)⟩
  obtain ⟨q0, q1⟩ := hin k (List.mem_of_getElem? hkk)
  obtain ⟨q, rfl⟩ : ∃ q : Nat, k = q := ⟨k.toNat, by omega⟩
  obtain ⟨l, hl⟩ : ∃ l, ns[q]? = some l := ⟨_, List.getElem?_eq_getElem (by omega)⟩
  have hv := kidK_in hnd hkk ⟨q0, q1⟩ (by rw [Int.toNat_natCast]; exact nd_at hl)
  rw [hv]
  obtain ⟨f6, n7, k0, c0, rn, rk⟩ := h
  obtain ⟨b', off', e', -, -, d0, -⟩ := rdN_at rn hl
  cases e'
  obtain ⟨b2, off2, rfl, -, -, ck⟩ := rdI_at rk hkk
  have k1 : (q : Int) < ns.length := by omega
  have k2 : q < ns.length := by omega
  have k3 : i < nd.kids.length := by omega
  clear hv hin hnd hl rn rk hkk k0 c0
  go_enter Try.func45, Try.ntmps45
  go_wp2
  go_quiet (fail)
  go_wp2
  go_ret
  exact ⟨rfl, _, rfl⟩
theorem k47_any (ns : List LN) (nd : Nd) (a b off nc : Nat) (ka : Option Addr) (kc pf pn pk pc lo : Nat) (W : World) (z k : Int) (h : Ne ns nd a b off nc ka kc pf pn pk pc lo W) (hn : ns.length ≤ 1048576) (hk : nd.kids.length ≤ 200) (hin : kidsIn nd a) (ha : a < ns.length) (hnd : (ns.map LN.nd)[a]? = some nd) (h0 : 0 ≤ z) (h1 : z < nd.kids.length) :
    Calls Try.prog 47 #[.int .i64 z, .int .i64 k, (.pointer (some ⟨pk, 0, none⟩))] W fun e w' => e = .returned (.bool (kidK (ns.map LN.nd) a z.toNat == k)) ∧ ∃ n, w' = W.drewN n := by
  have H := Lib.hid h
  have k0 := h.k0
  clear h
  go_enter Try.func47, Try.ntmps47
  go_wp2_with fail
  refine (k45_any ns nd a b off nc ka kc pf pn pk pc lo _ z H.out hn hk hin ha hnd h0 h1).mono ?_
  rintro e w1 ⟨rfl, n1, rfl⟩
  go_wp2
  go_ret
  exact ⟨rfl, _, rfl⟩
def pOf (F : Nat) : Int → Bool := if F = 32 then isStat else isExpr
theorem k46_32 (ns : List LN) (nd : Nd) (a b off nc : Nat) (ka : Option Addr) (kc pf pn pk pc lo : Nat) (W : World) (z : Int) (h : Ne ns nd a b off nc ka kc pf pn pk pc lo W) (hn : ns.length ≤ 1048576) (hk : nd.kids.length ≤ 200) (hin : kidsIn nd a) (ha : a < ns.length) (hnd : (ns.map LN.nd)[a]? = some nd) (h0 : 0 ≤ z) (h1 : z ≤ nd.kids.length) :
    Calls Try.prog 46 #[.int .i64 z, .func (.func 32) #[] #[], (.pointer (some ⟨pc, 0, none⟩)), (.pointer (some ⟨pk, 0, none⟩))] W fun e w' => e = .returned (.bool (kidsAll isStat (ns.map LN.nd) a z.toNat (nd.kids.length - z.toNat))) ∧ ∃ n, w' = W.drewN n := by
  obtain ⟨i, rfl⟩ : ∃ i : Nat, z = i := ⟨z.toNat, by omega⟩
  rw [Int.toNat_natCast]
  have H := Lib.hid h
  have k0 := h.k0
  have c0 := h.c0
  have HN := Lib.hid hnd; have HI := Lib.hid hin
  clear h hnd hin
  go_enter Try.func46, Try.ntmps46
  go_wp2
  go_loopw [7] (fun v wr => ∃ p : Nat, i ≤ p ∧ p ≤ nd.kids.length ∧ v = .int .i64 p ∧ kidsAll isStat (ns.map LN.nd) a i (nd.kids.length - i) = kidsAll isStat (ns.map LN.nd) a p (nd.kids.length - p) ∧ ∃ n, wr = W.drewN n) (fun v _ => nd.kids.length - (intOf v).toNat)
  case atStart => exact ⟨i, Nat.le_refl _, by omega, rfl, rfl, 0, rfl⟩
  case round =>
    obtain ⟨p, hp1, hp2, rfl, hB, n0, rfl⟩ := hrel
    have HB := Lib.hid hB
    clear hB
    by_cases hlt : p < nd.kids.length
    · obtain ⟨m, hm⟩ : ∃ m, nd.kids.length - p = m + 1 := ⟨nd.kids.length - p - 1, by omega⟩
      have HM := Lib.hid hm
      have hx : kidsAll isStat (ns.map LN.nd) a p (nd.kids.length - p) = (isStat (kidK (ns.map LN.nd) a p) && kidsAll isStat (ns.map LN.nd) a (p + 1) m) := by rw [hm]; rfl
      have HX := Lib.hid hx
      clear hm hx
      cases hE : isStat (kidK (ns.map LN.nd) a p)
      · have HE := Lib.hid hE
        go_wp2_with fail
        refine (k45_any ns nd a b off nc ka kc pf pn pk pc lo _ p (H.out.drewN _) hn hk HI.out ha HN.out (by omega) (by omega)).mono ?_
        rintro e w1 ⟨rfl, n1, rfl⟩
        rw [Int.toNat_natCast]
        go_wp2_with fail
        refine (istat_any _ _).mono ?_
        rintro e w1 ⟨rfl, rfl⟩
        go_wp2
        go_ret
        exact ⟨by rw [HB.out, HX.out, HE.out]; rfl, n0 + n1, rfl⟩
      · have HE := Lib.hid hE
        go_wp2_with fail
        refine (k45_any ns nd a b off nc ka kc pf pn pk pc lo _ p (H.out.drewN _) hn hk HI.out ha HN.out (by omega) (by omega)).mono ?_
        rintro e w1 ⟨rfl, n1, rfl⟩
        rw [Int.toNat_natCast]
        go_wp2_with fail
        refine (istat_any _ _).mono ?_
        rintro e w1 ⟨rfl, rfl⟩
        go_wp2
        exact ⟨⟨p + 1, by omega, by omega, by go_num, by rw [HB.out, HX.out, HE.out, show nd.kids.length - (p + 1) = m by have := HM.out; omega]; rfl, n0 + n1, rfl⟩, by simp [intOf]; omega⟩
    · have hpp : p = nd.kids.length := by omega
      subst hpp
      go_wp2
      go_ret
      exact ⟨by rw [HB.out, Nat.sub_self]; rfl, n0, rfl⟩
theorem k46_44 (ns : List LN) (nd : Nd) (a b off nc : Nat) (ka : Option Addr) (kc pf pn pk pc lo : Nat) (W : World) (z : Int) (h : Ne ns nd a b off nc ka kc pf pn pk pc lo W) (hn : ns.length ≤ 1048576) (hk : nd.kids.length ≤ 200) (hin : kidsIn nd a) (ha : a < ns.length) (hnd : (ns.map LN.nd)[a]? = some nd) (h0 : 0 ≤ z) (h1 : z ≤ nd.kids.length) :
    Calls Try.prog 46 #[.int .i64 z, .func (.func 44) #[] #[], (.pointer (some ⟨pc, 0, none⟩)), (.pointer (some ⟨pk, 0, none⟩))] W fun e w' => e = .returned (.bool (kidsAll isExpr (ns.map LN.nd) a z.toNat (nd.kids.length - z.toNat))) ∧ ∃ n, w' = W.drewN n := by
  obtain ⟨i, rfl⟩ : ∃ i : Nat, z = i := ⟨z.toNat, by omega⟩
  rw [Int.toNat_natCast]
  have H := Lib.hid h
  have k0 := h.k0
  have c0 := h.c0
  have HN := Lib.hid hnd; have HI := Lib.hid hin
  clear h hnd hin
  go_enter Try.func46, Try.ntmps46
  go_wp2
  go_loopw [7] (fun v wr => ∃ p : Nat, i ≤ p ∧ p ≤ nd.kids.length ∧ v = .int .i64 p ∧ kidsAll isExpr (ns.map LN.nd) a i (nd.kids.length - i) = kidsAll isExpr (ns.map LN.nd) a p (nd.kids.length - p) ∧ ∃ n, wr = W.drewN n) (fun v _ => nd.kids.length - (intOf v).toNat)
  case atStart => exact ⟨i, Nat.le_refl _, by omega, rfl, rfl, 0, rfl⟩
  case round =>
    obtain ⟨p, hp1, hp2, rfl, hB, n0, rfl⟩ := hrel
    have HB := Lib.hid hB
    clear hB
    by_cases hlt : p < nd.kids.length
    · obtain ⟨m, hm⟩ : ∃ m, nd.kids.length - p = m + 1 := ⟨nd.kids.length - p - 1, by omega⟩
      have HM := Lib.hid hm
      have hx : kidsAll isExpr (ns.map LN.nd) a p (nd.kids.length - p) = (isExpr (kidK (ns.map LN.nd) a p) && kidsAll isExpr (ns.map LN.nd) a (p + 1) m) := by rw [hm]; rfl
      have HX := Lib.hid hx
      clear hm hx
      cases hE : isExpr (kidK (ns.map LN.nd) a p)
      · have HE := Lib.hid hE
        go_wp2_with fail
        refine (k45_any ns nd a b off nc ka kc pf pn pk pc lo _ p (H.out.drewN _) hn hk HI.out ha HN.out (by omega) (by omega)).mono ?_
        rintro e w1 ⟨rfl, n1, rfl⟩
        rw [Int.toNat_natCast]
        go_wp2_with fail
        refine (iexpr_any _ _).mono ?_
        rintro e w1 ⟨rfl, rfl⟩
        go_wp2
        go_ret
        exact ⟨by rw [HB.out, HX.out, HE.out]; rfl, n0 + n1, rfl⟩
      · have HE := Lib.hid hE
        go_wp2_with fail
        refine (k45_any ns nd a b off nc ka kc pf pn pk pc lo _ p (H.out.drewN _) hn hk HI.out ha HN.out (by omega) (by omega)).mono ?_
        rintro e w1 ⟨rfl, n1, rfl⟩
        rw [Int.toNat_natCast]
        go_wp2_with fail
        refine (iexpr_any _ _).mono ?_
        rintro e w1 ⟨rfl, rfl⟩
        go_wp2
        exact ⟨⟨p + 1, by omega, by omega, by go_num, by rw [HB.out, HX.out, HE.out, show nd.kids.length - (p + 1) = m by have := HM.out; omega]; rfl, n0 + n1, rfl⟩, by simp [intOf]; omega⟩
    · have hpp : p = nd.kids.length := by omega
      subst hpp
      go_wp2
      go_ret
      exact ⟨by rw [HB.out, Nat.sub_self]; rfl, n0, rfl⟩
theorem k46_any (F : Nat) (hF : F = 32 ∨ F = 44) (ns : List LN) (nd : Nd) (a b off nc : Nat) (ka : Option Addr) (kc pf pn pk pc lo : Nat) (W : World) (z : Int) (h : Ne ns nd a b off nc ka kc pf pn pk pc lo W) (hn : ns.length ≤ 1048576) (hk : nd.kids.length ≤ 200) (hin : kidsIn nd a) (ha : a < ns.length) (hnd : (ns.map LN.nd)[a]? = some nd) (h0 : 0 ≤ z) (h1 : z ≤ nd.kids.length) :
    Calls Try.prog 46 #[.int .i64 z, .func (.func F) #[] #[], (.pointer (some ⟨pc, 0, none⟩)), (.pointer (some ⟨pk, 0, none⟩))] W fun e w' => e = .returned (.bool (kidsAll (pOf F) (ns.map LN.nd) a z.toNat (nd.kids.length - z.toNat))) ∧ ∃ n, w' = W.drewN n := by
  rcases hF with rfl | rfl
  · exact k46_32 ns nd a b off nc ka kc pf pn pk pc lo W z h hn hk hin ha hnd h0 h1
  · exact k46_44 ns nd a b off nc ka kc pf pn pk pc lo W z h hn hk hin ha hnd h0 h1
end Go.Proofs.Ytcpjplkbmflglaa
