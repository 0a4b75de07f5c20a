/- Shapes of nodes: the plain words; the small functions of both sides. -/
import Derived.Test.YtcpjplkbmflglaaU3
namespace Go.Proofs.Ytcpjplkbmflglaa
open Go.RowKit
attribute [local go_sem] run_store_float
set_option linter.unusedVariables false
def fz (f : Nat) : Bool := FloatKind.f64.format.order f 0 == some .eq
def isStat (k : Int) : Bool := decide (1 ≤ k ∧ k ≤ 14)
def isExpr (k : Int) : Bool := decide (20 ≤ k ∧ k ≤ 38)
def isTgt (k : Int) : Bool := k == 26 || k == 27 || k == 33
def isMany (k : Int) : Bool := k == 34 || k == 37
/-- The kind of kid number i of node a; 0 where it is not ahead of it. -/
def kidK (ns : List Nd) (a i : Nat) : Int :=
  match ns[a]? with
  | none => 0
  | some n => match n.kids[i]? with
    | none => 0
    | some k => if 0 ≤ k ∧ k < a then (match ns[k.toNat]? with | none => 0 | some m => m.kind) else 0
/-- The kids from number i on, n of them, are such. -/
def kidsAll (p : Int → Bool) (ns : List Nd) (a : Nat) : Nat → Nat → Bool
  | _, 0 => true
  | i, n + 1 => p (kidK ns a i) && kidsAll p ns a (i + 1) n
def bareC (vop vnum : Int) (vflt : Nat) (vstr : ByteArray) (rn : Nat) (op num flt str : Bool) (refs : Int) : Bool :=
  (op || vop == 0) && (num || vnum == 0) && (flt || fz vflt) && (str || vstr.toList.isEmpty) && ((rn : Int) == refs)
def bareB (n : Nd) (op num flt str : Bool) (refs : Int) : Bool := bareC n.op n.num n.flt n.str n.refs.length op num flt str refs
theorem kidsAll_cut (p : Int → Bool) (ns : List Nd) (a i n : Nat) (h : kidsAll p ns a i (n + 1) = true) : p (kidK ns a i) = true ∧ kidsAll p ns a (i + 1) n = true := by
  simpa [kidsAll] using h
theorem stat_any (k : Int) (w : World) : Calls Try.prog 30 #[.int .i64 k] w fun e w' => e = .returned (.bool (isStat k)) ∧ w = w' := by
  go_enter Try.func30, Try.ntmps30
  go_wp2
  all_goals go_ret
  all_goals exact ⟨by simp_all [isStat] <;> omega, rfl⟩
theorem expr_any (k : Int) (w : World) : Calls Try.prog 96 #[.int .i64 k] w fun e w' => e = .returned (.bool (isExpr k)) ∧ w = w' := by
  go_enter Try.func96, Try.ntmps96
  go_wp2
  all_goals go_ret
  all_goals exact ⟨by simp_all [isExpr] <;> omega, rfl⟩
theorem tgt_any (k : Int) (w : World) : Calls Try.prog 76 #[.int .i64 k] w fun e w' => e = .returned (.bool (isTgt k)) ∧ w = w' := by
  go_enter Try.func76, Try.ntmps76
  go_wp2
  all_goals go_ret
  all_goals exact ⟨by simp_all [isTgt] <;> omega, rfl⟩
theorem many_any (k : Int) (w : World) : Calls Try.prog 77 #[.int .i64 k] w fun e w' => e = .returned (.bool (isMany k)) ∧ w = w' := by
  go_enter Try.func77, Try.ntmps77
  go_wp2
  all_goals go_ret
  all_goals exact ⟨by simp_all [isMany] <;> omega, rfl⟩
theorem istat_any (k : Int) (w : World) : Calls Try.prog 32 #[.int .i64 k] w fun e w' => e = .returned (.bool (isStat k)) ∧ w = w' := by
  go_enter Try.func32, Try.ntmps32
  go_wp2
  all_goals go_ret
  all_goals exact ⟨by simp_all [isStat] <;> omega, rfl⟩
theorem iexpr_any (k : Int) (w : World) : Calls Try.prog 44 #[.int .i64 k] w fun e w' => e = .returned (.bool (isExpr k)) ∧ w = w' := by
  go_enter Try.func44, Try.ntmps44
  go_wp2
  all_goals go_ret
  all_goals exact ⟨by simp_all [isExpr] <;> omega, rfl⟩
set_option maxHeartbeats 4000000 in
theorem bare_any (kd ln vop vnum : Int) (vflt : Nat) (vstr : ByteArray) (ra ka : Option Addr) (rn rc kn kc : Nat) (op num flt str : Bool) (refs : Int) (w : World) (hr : rn ≤ maxLen) :
    Calls Try.prog 74 #[.agg #[.int .i64 kd, .int .i64 ln, .int .i64 vop, .int .i64 vnum, .float .f64 vflt, .string vstr, .slice ra rn rc, .slice ka kn kc], .bool op, .bool num, .bool flt, .bool str, .int .i64 refs] w fun e w' => e = .returned (.bool (bareC vop vnum vflt vstr rn op num flt str refs)) ∧ Below w.heap.size w w' := by
  unfold maxLen at hr
  cases op <;> cases num <;> cases flt <;> cases str
  all_goals
    go_enter Try.func74, Try.ntmps74
    go_wp2
    all_goals go_ret
    all_goals exact ⟨by simp_all [bareC, fz], below_new _ _⟩
theorem kidK_none {ns : List Nd} {a i : Nat} {n : Nd} (h : ns[a]? = some n) (hi : n.kids.length ≤ i) : kidK ns a i = 0 := by
  unfold kidK
  rw [h]
  simp [hi]
theorem kidK_out {ns : List Nd} {a i : Nat} {n : Nd} {k : Int} (h : ns[a]? = some n) (hi : n.kids[i]? = some k) (hk : ¬ (0 ≤ k ∧ k < a)) : kidK ns a i = 0 := by
  unfold kidK
  rw [h]
  simp only [hi]
  rw [if_neg hk]
theorem kidK_in {ns : List Nd} {a i : Nat} {n m : Nd} {k : Int} (h : ns[a]? = some n) (hi : n.kids[i]? = some k) (hk : 0 ≤ k ∧ k < a) (hm : ns[k.toNat]? = some m) : kidK ns a i = m.kind := by
  unfold kidK
  rw [h]
  simp only [hi]
  rw [if_pos hk, hm]
theorem nd_at {ls : List LN} {k : Nat} {l : LN} (h : ls[k]? = some l) : (ls.map LN.nd)[k]? = some l.nd := by simp [h]
theorem kid_any (A : Option Addr) (c : Nat) (ls : List LN) (w : World) (lo : Nat) (a : Nat) (i : Nat) (z : Int) (hz : z = (i : Int)) (h : RdN w lo A ls) (hn : ls.length ≤ maxLen) (hf : ∀ l ∈ ls, fitN l) (ha : a < ls.length) (hi : i ≤ maxLen) :
    Calls Try.prog 73 #[.slice A ls.length c, .int .i64 a, .int .i64 z] w fun e w' => e = .returned (.int .i64 (kidK (ls.map LN.nd) a i)) ∧ w = w' := by
  subst hz
  obtain ⟨l, hl⟩ : ∃ l, ls[a]? = some l := ⟨_, List.getElem?_eq_getElem ha⟩
  obtain ⟨-, -, hf3⟩ := hf l (List.mem_of_getElem? hl)
  unfold maxLen at hn hf3 hi
  have hnd := nd_at hl
  by_cases h0 : l.nd.kids.length ≤ i
  · have hv := kidK_none hnd h0
    rw [hv]
    obtain ⟨b, off, rfl, hlo, hb, c0, c1, c2, c3, c4, c5, c6, c7, hok⟩ := rdN_at h hl
    clear h hf hnd hv hl hok
    go_enter Try.func73, Try.ntmps73
    go_wp2
    go_ret
    exact ⟨rfl, rfl⟩
  · have hlt : i < l.nd.kids.length := by omega
    obtain ⟨k, hk⟩ : ∃ k, l.nd.kids[i]? = some k := ⟨_, List.getElem?_eq_getElem hlt⟩
    by_cases hr : 0 ≤ k ∧ k < a
    · obtain ⟨m, hm⟩ : ∃ m, ls[k.toNat]? = some m := ⟨_, List.getElem?_eq_getElem (by omega)⟩
      have hv := kidK_in hnd hk hr (nd_at hm)
      rw [hv]
      obtain ⟨q, rfl⟩ : ∃ q : Nat, k = q := ⟨k.toNat, by omega⟩
      rw [Int.toNat_natCast] at hm
      obtain ⟨b, off, rfl, hlo, hb, c0, c1, c2, c3, c4, c5, c6, c7, hok⟩ := rdN_at h hl
      obtain ⟨b', off', e', -, -, d0, -⟩ := rdN_at h hm
      cases e'
      obtain ⟨b2, off2, hka, hlo2, hb2, e0⟩ := rdI_at hok.2 hk
      rw [hka] at c7
      clear h hf hnd hv hl hok hm hk hka
      have k1 : (q : Int) < a := by omega
      have k2 : (q : Int) < ls.length := by omega
      have k3 : q < ls.length := by omega
      have k4 : q < a := by omega
      clear hr
      go_enter Try.func73, Try.ntmps73
      go_wp2
      go_ret
      exact ⟨rfl, rfl⟩
    · have hv := kidK_out hnd hk hr
      rw [hv]
      obtain ⟨b, off, rfl, hlo, hb, c0, c1, c2, c3, c4, c5, c6, c7, hok⟩ := rdN_at h hl
      obtain ⟨b2, off2, hka, hlo2, hb2, e0⟩ := rdI_at hok.2 hk
      rw [hka] at c7
      clear h hf hnd hv hl hok hk hka
      by_cases hneg : k < 0
      · clear hr
        go_enter Try.func73, Try.ntmps73
        go_wp2
        go_ret
        exact ⟨rfl, rfl⟩
      · have hge : (a : Int) ≤ k := by omega
        clear hr
        go_enter Try.func73, Try.ntmps73
        go_wp2
        go_ret
        exact ⟨rfl, rfl⟩
theorem exprs_any (A : Option Addr) (c : Nat) (ls : List LN) (w : World) (lo : Nat) (a : Nat) (i q : Nat) (z y : Int) (hz : z = (i : Int)) (hy : y = (q : Int)) (h : RdN w lo A ls) (hn : ls.length ≤ maxLen) (hf : ∀ l ∈ ls, fitN l) (ha : a < ls.length) (hiq : i ≤ q) (hi : q ≤ maxLen) :
    Calls Try.prog 75 #[.slice A ls.length c, .int .i64 a, .int .i64 z, .int .i64 y] w fun e w' => e = .returned (.bool (kidsAll isExpr (ls.map LN.nd) a i (q - i))) ∧ w = w' := by
  subst hz; subst hy
  unfold maxLen at hi
  have H := Lib.hid h; have HF := Lib.hid hf
  clear h hf
  go_enter Try.func75, Try.ntmps75
  go_wp2
  go_loop [9] (fun v => ∃ p : Nat, i ≤ p ∧ p ≤ q ∧ v = .int .i64 p ∧ kidsAll isExpr (ls.map LN.nd) a i (q - i) = kidsAll isExpr (ls.map LN.nd) a p (q - p)) (fun v => q - (intOf v).toNat)
  case atStart => exact ⟨i, Nat.le_refl _, hiq, rfl, rfl⟩
  case round =>
    obtain ⟨p, hp1, hp2, rfl, hB⟩ := hrel
    have HB := Lib.hid hB
    clear hB
    by_cases hlt : p < q
    · obtain ⟨m, hm⟩ : ∃ m, q - p = m + 1 := ⟨q - p - 1, by omega⟩
      have hx : kidsAll isExpr (ls.map LN.nd) a p (q - p) = (isExpr (kidK (ls.map LN.nd) a p) && kidsAll isExpr (ls.map LN.nd) a (p + 1) m) := by rw [hm]; rfl
      have HX := Lib.hid hx
      have HM := Lib.hid hm
      clear hx hm
      cases hE : isExpr (kidK (ls.map LN.nd) a p)
      · have HE := Lib.hid hE
        go_wp2_with fail
        refine (kid_any _ _ ls _ lo a p _ rfl H.out hn HF.out ha (by unfold maxLen; omega)).mono ?_
        rintro e w1 ⟨rfl, rfl⟩
        go_wp2_with fail
        refine (expr_any _ _).mono ?_
        rintro e w1 ⟨rfl, rfl⟩
        go_wp2
        go_ret
        exact ⟨by rw [HB.out, HX.out, HE.out]; rfl, rfl⟩
      · have HE := Lib.hid hE
        go_wp2_with fail
        refine (kid_any _ _ ls _ lo a p _ rfl H.out hn HF.out ha (by unfold maxLen; omega)).mono ?_
        rintro e w1 ⟨rfl, rfl⟩
        go_wp2_with fail
        refine (expr_any _ _).mono ?_
        rintro e w1 ⟨rfl, rfl⟩
        go_wp2
        go_round
        case rel => exact ⟨p + 1, by omega, by omega, by go_num, by rw [HB.out, HX.out, HE.out, show q - (p + 1) = m by have := HM.out; omega]; rfl⟩
        case measure => simp [intOf]; omega
    · have hjj : p = q := by omega
      subst hjj
      go_wp2
      go_ret
      exact ⟨by rw [HB.out, Nat.sub_self]; rfl, rfl⟩
end Go.Proofs.Ytcpjplkbmflglaa
