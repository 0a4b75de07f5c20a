/- Comparisons. -/
import Derived.Test.YtcpjplkbmflglaaU3
namespace Go.Proofs.Ytcpjplkbmflglaa
open Go.RowKit
attribute [local go_sem] run_store_float
theorem samef_any (f : Nat) (w : World) : Calls Try.prog 98 #[.float .f64 f, .float .f64 f] w fun e w' => e = .returned (.bool true) ∧ w = w' := by
  rcases Flt.order_self f with ⟨_, h⟩ | h
  · have h1 : (FloatKind.f64.format.order f f != some Ordering.eq) = true := by
      show (Flt.F.order f f != _) = true
      rw [h]; rfl
    clear h
    go_enter Try.func98, Try.ntmps98
    go_wp2
    go_ret
    exact ⟨rfl, rfl⟩
  · have h1 : (FloatKind.f64.format.order f f != some Ordering.eq) = false := by
      show (Flt.F.order f f != _) = false
      rw [h]; rfl
    have h2 : (FloatKind.f64.format.order f f == some Ordering.eq) = true := by
      show (Flt.F.order f f == _) = true
      rw [h]; rfl
    by_cases hz : FloatKind.f64.format.order f 0 = some .eq
    · have h3 : (FloatKind.f64.format.order f 0 == some Ordering.eq) = true := by rw [hz]; rfl
      obtain ⟨r, hr⟩ := Flt.inv_zero hz
      have h4 := fun (W : World) => run_float_arith (P := Try.prog) W .quo 50 .f64 4607182418800017408 f r hr
      clear hz hr h
      go_enter Try.func98, Try.ntmps98
      go_wp2
      go_ret
      exact ⟨by simp, rfl⟩
    · have h3 : (FloatKind.f64.format.order f 0 == some Ordering.eq) = false := by simpa using hz
      clear hz h
      go_enter Try.func98, Try.ntmps98
      go_wp2
      go_ret
      exact ⟨rfl, rfl⟩

theorem eqs_any (A A' : Option Addr) (c c' : Nat) (xs : List ByteArray) (w : World) (lo lo' : Nat) (h : RdL encS 1 w lo A xs) (h' : RdL encS 1 w lo' A' xs) (hn : xs.length ≤ maxLen) :
    Calls Try.prog 67 #[.slice A xs.length c, .slice A' xs.length c'] w fun e w' => e = .returned (.bool true) ∧ Below w.heap.size w w' := by
  unfold maxLen at hn
  go_enter Try.func67, Try.ntmps67
  go_wp2
  go_loopw [5] (fun i wr => ∃ k : Nat, k ≤ xs.length ∧ i = .int .i64 k ∧ Below w.heap.size w wr) (fun i _ => xs.length - (intOf i).toNat)
  case atStart => exact ⟨0, Nat.zero_le _, rfl, Below.refl _ _⟩
  case round =>
    obtain ⟨k, hk, rfl, hbel⟩ := hrel
    by_cases hlt : k < xs.length
    · obtain ⟨p, hpk⟩ : ∃ p, xs[k]? = some p := ⟨_, List.getElem?_eq_getElem hlt⟩
      obtain ⟨b, off, rfl, hlo, hb, c0⟩ := rdS_at' (h.below hbel) hpk
      obtain ⟨b', off', rfl, hlo', hb', d0⟩ := rdS_at' (h'.below hbel) hpk
      clear h h' hpk
      have k1 : (0 : Int) ≤ k := by omega
      have k2 : (k : Int) < xs.length := by omega
      go_wp2
      go_quiet (fail)
      go_wp2
      exact ⟨⟨k + 1, by omega, by go_num, bl_drewN _ hbel⟩, by simp [intOf]; omega⟩
    · have hkk : k = xs.length := by omega
      subst hkk
      clear h h'
      go_wp2
      go_ret
      exact ⟨rfl, hbel⟩
theorem OkN.drw {w : World} {lo : Nat} {l : LN} (h : OkN w lo l) : OkN w.drew lo l := h
theorem OkF.drw {w : World} {lo : Nat} {f : LF} (h : OkF w lo f) : OkF w.drew lo f := h
theorem eqi_any (A A' : Option Addr) (c c' : Nat) (xs : List Int) (w : World) (lo lo' : Nat) (h : RdL encI 1 w lo A xs) (h' : RdL encI 1 w lo' A' xs) (hn : xs.length ≤ maxLen) :
    Calls Try.prog 13 #[.slice A xs.length c, .slice A' xs.length c'] w fun e w' => e = .returned (.bool true) ∧ Below w.heap.size w w' := by
  unfold maxLen at hn
  go_enter Try.func13, Try.ntmps13
  go_wp2
  go_loopw [5] (fun i wr => ∃ k : Nat, k ≤ xs.length ∧ i = .int .i64 k ∧ Below w.heap.size w wr) (fun i _ => xs.length - (intOf i).toNat)
  case atStart => exact ⟨0, Nat.zero_le _, rfl, Below.refl _ _⟩
  case round =>
    obtain ⟨k, hk, rfl, hbel⟩ := hrel
    by_cases hlt : k < xs.length
    · obtain ⟨p, hpk⟩ : ∃ p, xs[k]? = some p := ⟨_, List.getElem?_eq_getElem hlt⟩
      obtain ⟨b, off, rfl, hlo, hb, c0⟩ := rdI_at (h.below hbel) hpk
      obtain ⟨b', off', rfl, hlo', hb', d0⟩ := rdI_at (h'.below hbel) hpk
      clear h h' hpk
      have k1 : (0 : Int) ≤ k := by omega
      have k2 : (k : Int) < xs.length := by omega
      go_wp2
      go_quiet (fail)
      go_wp2
      exact ⟨⟨k + 1, by omega, by go_num, bl_drewN _ hbel⟩, by simp [intOf]; omega⟩
    · have hkk : k = xs.length := by omega
      subst hkk
      clear h h'
      go_wp2
      go_ret
      exact ⟨rfl, hbel⟩
theorem equ_any (p : Up) (w : World) : Calls Try.prog 82 #[.agg #[.bool p.loc, .int .i64 p.ix], .agg #[.bool p.loc, .int .i64 p.ix]] w fun e w' => e = .returned (.bool true) ∧ Below w.heap.size w w' := by
  rcases p with ⟨b, n⟩
  cases b
  all_goals
    go_enter Try.func82, Try.ntmps82
    go_wp2
    go_ret
    exact ⟨rfl, below_new2 _ _ _⟩
theorem equs_any (A A' : Option Addr) (c c' : Nat) (xs : List Up) (w : World) (lo lo' : Nat) (h : RdL encU 2 w lo A xs) (h' : RdL encU 2 w lo' A' xs) (hn : xs.length ≤ maxLen) :
    Calls Try.prog 68 #[.slice A xs.length c, .slice A' xs.length c'] w fun e w' => e = .returned (.bool true) ∧ Below w.heap.size w w' := by
  unfold maxLen at hn
  go_enter Try.func68, Try.ntmps68
  go_wp2
  go_loopw [5] (fun i wr => ∃ k : Nat, k ≤ xs.length ∧ i = .int .i64 k ∧ Below w.heap.size w wr) (fun i _ => xs.length - (intOf i).toNat)
  case atStart => exact ⟨0, Nat.zero_le _, rfl, Below.refl _ _⟩
  case round =>
    obtain ⟨k, hk, rfl, hbel⟩ := hrel
    by_cases hlt : k < xs.length
    · obtain ⟨p, hpk⟩ : ∃ p, xs[k]? = some p := ⟨_, List.getElem?_eq_getElem hlt⟩
      obtain ⟨b, off, rfl, hlo, hb, c0, c1⟩ := rdU_at (h.below hbel) hpk
      obtain ⟨b', off', rfl, hlo', hb', d0, d1⟩ := rdU_at (h'.below hbel) hpk
      clear h h' hpk
      have k1 : (0 : Int) ≤ k := by omega
      have k2 : (k : Int) < xs.length := by omega
      go_wp2
      go_region_held3 (fun w' => w'.cell? ⟨b, off + k * 2, none⟩ = some (.bool p.loc) ∧ w'.cell? ⟨b, off + k * 2 + 1, none⟩ = some (.int .i64 p.ix) ∧ w'.cell? ⟨b', off' + k * 2, none⟩ = some (.bool p.loc) ∧ w'.cell? ⟨b', off' + k * 2 + 1, none⟩ = some (.int .i64 p.ix)) (simp [go_sem, *]) ((go_at_call 82; refine (equ_any p _).mono ?_; rintro e w1 ⟨rfl, hb1⟩; replace hb1 := bl_undrew hb1; obtain ⟨hc1, hf1⟩ := bcell hb1; have HB1 : Below w.heap.size w w1 := hbel.trans (hb1.mono hbel.size)))
      go_wp2
      exact ⟨⟨k + 1, by omega, by go_num, HB1⟩, by simp [intOf]; omega⟩
    · have hkk : k = xs.length := by omega
      subst hkk
      clear h h'
      go_wp2
      go_ret
      exact ⟨rfl, hbel⟩
theorem eqn_any (l : LN) (ra' ka' : Option Addr) (rc' kc' : Nat) (w : World) (lo lo' : Nat) (h : OkN w lo l) (h' : OkN w lo' ⟨l.nd, ra', rc', ka', kc'⟩) (hf : fitN l) :
    Calls Try.prog 83 #[.agg #[.int .i64 l.nd.kind, .int .i64 l.nd.line, .int .i64 l.nd.op, .int .i64 l.nd.num, .float .f64 l.nd.flt, .string l.nd.str, .slice l.ra l.nd.refs.length l.rc, .slice l.ka l.nd.kids.length l.kc], .agg #[.int .i64 l.nd.kind, .int .i64 l.nd.line, .int .i64 l.nd.op, .int .i64 l.nd.num, .float .f64 l.nd.flt, .string l.nd.str, .slice ra' l.nd.refs.length rc', .slice ka' l.nd.kids.length kc']] w fun e w' => e = .returned (.bool true) ∧ Below w.heap.size w w' := by
  obtain ⟨h1, h2⟩ := h
  obtain ⟨h3, h4⟩ := h'
  obtain ⟨-, f2, f3⟩ := hf
  dsimp only at h3 h4
  go_enter Try.func83, Try.ntmps83
  go_wp2_with fail
  refine (samef_any _ _).mono ?_
  rintro e w1 ⟨rfl, rfl⟩
  go_wp2_with fail
  refine (eqi_any _ _ _ _ l.nd.refs _ lo lo' (h1.below (by (repeat (first | with_reducible assumption | with_reducible exact Below.refl _ _ | with_reducible refine Below.drew ?_ | with_reducible refine bl_drewN _ ?_ | ((with_reducible refine bl_alloc ?_ _ ?_); · (first | omega | (simp; done) | (simp; omega))) | ((with_reducible refine bl_set ?_ _ ?_); · (first | omega | (simp; done) | (simp; omega))))))) (h3.below (by (repeat (first | with_reducible assumption | with_reducible exact Below.refl _ _ | with_reducible refine Below.drew ?_ | with_reducible refine bl_drewN _ ?_ | ((with_reducible refine bl_alloc ?_ _ ?_); · (first | omega | (simp; done) | (simp; omega))) | ((with_reducible refine bl_set ?_ _ ?_); · (first | omega | (simp; done) | (simp; omega))))))) f2).mono ?_
  rintro e w2 ⟨rfl, hb2⟩
  obtain ⟨hc2, hf2⟩ := bcell hb2
  have hq2 := hb2.size
  try simp only [dN_size, dN_cell, dN_frozen] at hc2 hf2 hq2
  try simp only [World.size_alloc] at hq2
  try simp only [World.size_setCell] at hq2
  try simp only [World.size_alloc] at hq2
  have hz2_0 : w.heap.size < w2.heap.size := by omega
  have hz2_1 : w.heap.size + 1 < w2.heap.size := by omega
  have HB2 : Below w.heap.size w w2 := Below.trans (by (repeat (first | with_reducible assumption | with_reducible exact Below.refl _ _ | with_reducible refine Below.drew ?_ | with_reducible refine bl_drewN _ ?_ | ((with_reducible refine bl_alloc ?_ _ ?_); · (first | omega | (simp; done) | (simp; omega))) | ((with_reducible refine bl_set ?_ _ ?_); · (first | omega | (simp; done) | (simp; omega)))))) (hb2.mono (by (try simp) <;> omega))
  clear hb2
  go_wp2_with fail
  refine (eqi_any _ _ _ _ l.nd.kids _ lo lo' (h2.below (by (repeat (first | with_reducible assumption | with_reducible exact Below.refl _ _ | with_reducible refine Below.drew ?_ | with_reducible refine bl_drewN _ ?_ | ((with_reducible refine bl_alloc ?_ _ ?_); · (first | omega | (simp; done) | (simp; omega))) | ((with_reducible refine bl_set ?_ _ ?_); · (first | omega | (simp; done) | (simp; omega))))))) (h4.below (by (repeat (first | with_reducible assumption | with_reducible exact Below.refl _ _ | with_reducible refine Below.drew ?_ | with_reducible refine bl_drewN _ ?_ | ((with_reducible refine bl_alloc ?_ _ ?_); · (first | omega | (simp; done) | (simp; omega))) | ((with_reducible refine bl_set ?_ _ ?_); · (first | omega | (simp; done) | (simp; omega))))))) f3).mono ?_
  rintro e w3 ⟨rfl, hb3⟩
  obtain ⟨hc3, hf3⟩ := bcell hb3
  have hq3 := hb3.size
  try simp only [dN_size, dN_cell, dN_frozen] at hc3 hf3 hq3
  try simp only [World.size_alloc] at hq3
  try simp only [World.size_setCell] at hq3
  try simp only [World.size_alloc] at hq3
  have hz3_0 : w.heap.size < w3.heap.size := by omega
  have hz3_1 : w.heap.size + 1 < w3.heap.size := by omega
  have HB3 : Below w.heap.size w w3 := Below.trans (by (repeat (first | with_reducible assumption | with_reducible exact Below.refl _ _ | with_reducible refine Below.drew ?_ | with_reducible refine bl_drewN _ ?_ | ((with_reducible refine bl_alloc ?_ _ ?_); · (first | omega | (simp; done) | (simp; omega))) | ((with_reducible refine bl_set ?_ _ ?_); · (first | omega | (simp; done) | (simp; omega)))))) (hb3.mono (by (try simp) <;> omega))
  clear hb3
  go_wp2
  go_ret
  exact ⟨rfl, HB3⟩
set_option maxHeartbeats 1000000 in
theorem eqns_any (A A' : Option Addr) (c c' : Nat) (xs ys : List LN) (w : World) (lo lo' : Nat) (he : ys.map LN.nd = xs.map LN.nd) (h : RdN w lo A xs) (h' : RdN w lo' A' ys) (hf : ∀ x ∈ xs, fitN x) (hn : xs.length ≤ maxLen) :
    Calls Try.prog 69 #[.slice A xs.length c, .slice A' ys.length c'] w fun e w' => e = .returned (.bool true) ∧ Below w.heap.size w w' := by
  have hlen : ys.length = xs.length := by simpa using congrArg List.length he
  rw [hlen]
  unfold maxLen at hn
  have HE := Lib.hid he
  have H := Lib.hid h; have H' := Lib.hid h'; have HF := Lib.hid hf
  have HL := Lib.hid hlen
  clear he h h' hf hlen
  go_enter Try.func69, Try.ntmps69
  go_wp2
  go_loopw [5] (fun i wr => ∃ k : Nat, k ≤ xs.length ∧ i = .int .i64 k ∧ Below w.heap.size w wr) (fun i _ => xs.length - (intOf i).toNat)
  case atStart => exact ⟨0, Nat.zero_le _, rfl, Below.refl _ _⟩
  case round =>
    obtain ⟨k, hk, rfl, hbel⟩ := hrel
    by_cases hlt : k < xs.length
    · obtain ⟨l, hpk⟩ : ∃ p, xs[k]? = some p := ⟨_, List.getElem?_eq_getElem hlt⟩
      obtain ⟨l', hpk'⟩ : ∃ p, ys[k]? = some p := ⟨_, List.getElem?_eq_getElem (by have := HL.out; omega)⟩
      have hnd : l'.nd = l.nd := by
        have := congrArg (fun z => z[k]?) HE.out
        simpa [hpk, hpk'] using this
      obtain ⟨nd', ra', rc', ka', kc'⟩ := l'
      dsimp only at hnd
      subst hnd

      obtain ⟨b, off, rfl, hlo, hb, c0, c1, c2, c3, c4, c5, c6, c7, hok⟩ := rdN_at (H.out.below hbel) hpk
      obtain ⟨b', off', rfl, hlo', hb', d0, d1, d2, d3, d4, d5, d6, d7, hok'⟩ := rdN_at (H'.out.below hbel) hpk'
      have HO := Lib.hid hok; have HO' := Lib.hid hok'
      have HFK := Lib.hid (HF.out l (List.mem_of_getElem? hpk))
      clear hpk hpk' hok hok'
      dsimp only at d0 d1 d2 d3 d4 d5 d6 d7
      have k1 : (0 : Int) ≤ k := by omega
      have k2 : (k : Int) < xs.length := by omega
      go_wp2
      go_region_held3 (fun w' => w'.cell? ⟨b, off + k * 8, none⟩ = some (.int .i64 l.nd.kind) ∧ w'.cell? ⟨b, off + k * 8 + 1, none⟩ = some (.int .i64 l.nd.line) ∧ w'.cell? ⟨b, off + k * 8 + 2, none⟩ = some (.int .i64 l.nd.op) ∧ w'.cell? ⟨b, off + k * 8 + 3, none⟩ = some (.int .i64 l.nd.num) ∧ w'.cell? ⟨b, off + k * 8 + 4, none⟩ = some (.float .f64 l.nd.flt) ∧ w'.cell? ⟨b, off + k * 8 + 5, none⟩ = some (.string l.nd.str) ∧ w'.cell? ⟨b, off + k * 8 + 6, none⟩ = some (.slice l.ra l.nd.refs.length l.rc) ∧ w'.cell? ⟨b, off + k * 8 + 7, none⟩ = some (.slice l.ka l.nd.kids.length l.kc) ∧ w'.cell? ⟨b', off' + k * 8, none⟩ = some (.int .i64 l.nd.kind) ∧ w'.cell? ⟨b', off' + k * 8 + 1, none⟩ = some (.int .i64 l.nd.line) ∧ w'.cell? ⟨b', off' + k * 8 + 2, none⟩ = some (.int .i64 l.nd.op) ∧ w'.cell? ⟨b', off' + k * 8 + 3, none⟩ = some (.int .i64 l.nd.num) ∧ w'.cell? ⟨b', off' + k * 8 + 4, none⟩ = some (.float .f64 l.nd.flt) ∧ w'.cell? ⟨b', off' + k * 8 + 5, none⟩ = some (.string l.nd.str) ∧ w'.cell? ⟨b', off' + k * 8 + 6, none⟩ = some (.slice ra' l.nd.refs.length rc') ∧ w'.cell? ⟨b', off' + k * 8 + 7, none⟩ = some (.slice ka' l.nd.kids.length kc')) (simp [go_sem, *]) ((go_at_call 83; refine (eqn_any l _ _ _ _ _ lo lo' (by exact HO.out.drw) (by exact HO'.out.drw) HFK.out).mono ?_; rintro e w1 ⟨rfl, hb1⟩; replace hb1 := bl_undrew hb1; obtain ⟨hc1, hf1⟩ := bcell hb1; have HB1 : Below w.heap.size w w1 := hbel.trans (hb1.mono hbel.size)))
      go_wp2
      exact ⟨⟨k + 1, by omega, by go_num, HB1⟩, by simp [intOf]; omega⟩
    · have hkk : k = xs.length := by omega
      subst hkk
      go_wp2
      go_ret
      exact ⟨rfl, hbel⟩
set_option maxHeartbeats 1000000 in
theorem eqf_any (l : LF) (va' ua' na' : Option Addr) (vc' uc' nc' : Nat) (ns' : List LN) (w : World) (lo lo' : Nat) (he : ns'.map LN.nd = l.ns.map LN.nd) (h : OkF w lo l) (h' : OkF w lo' ⟨l.name, l.line, l.params, l.rest, l.vars, va', vc', l.ups, ua', uc', ns', na', nc'⟩) (hf : fitF l) :
    Calls Try.prog 50 #[.agg #[.string l.name, .int .i64 l.line, .int .i64 l.params, .bool l.rest, .slice l.va l.vars.length l.vc, .slice l.ua l.ups.length l.uc, .slice l.na l.ns.length l.nc], .agg #[.string l.name, .int .i64 l.line, .int .i64 l.params, .bool l.rest, .slice va' l.vars.length vc', .slice ua' l.ups.length uc', .slice na' ns'.length nc']] w fun e w' => e = .returned (.bool true) ∧ Below w.heap.size w w' := by
  obtain ⟨h1, h2, h3⟩ := h
  obtain ⟨h4, h5, h6⟩ := h'
  obtain ⟨-, ⟨f1, -⟩, f2, f3, f4⟩ := hf
  dsimp only at h4 h5 h6
  have HE := Lib.hid he
  have H3 := Lib.hid h3; have H6 := Lib.hid h6; have F4 := Lib.hid f4
  clear he h3 h6 f4
  cases hr : l.rest
  all_goals
    go_enter Try.func50, Try.ntmps50
    go_wp2_with fail
    refine (eqs_any _ _ _ _ l.vars _ lo lo' (h1.below (by (repeat (first | with_reducible assumption | with_reducible exact Below.refl _ _ | with_reducible refine Below.drew ?_ | with_reducible refine bl_drewN _ ?_ | ((with_reducible refine bl_alloc ?_ _ ?_); · (first | omega | (simp; done) | (simp; omega))) | ((with_reducible refine bl_set ?_ _ ?_); · (first | omega | (simp; done) | (simp; omega))))))) (h4.below (by (repeat (first | with_reducible assumption | with_reducible exact Below.refl _ _ | with_reducible refine Below.drew ?_ | with_reducible refine bl_drewN _ ?_ | ((with_reducible refine bl_alloc ?_ _ ?_); · (first | omega | (simp; done) | (simp; omega))) | ((with_reducible refine bl_set ?_ _ ?_); · (first | omega | (simp; done) | (simp; omega))))))) f1).mono ?_
    rintro e w1 ⟨rfl, hb1⟩
    obtain ⟨hc1, hf1⟩ := bcell hb1
    have hq1 := hb1.size
    try simp only [dN_size, dN_cell, dN_frozen] at hc1 hf1 hq1
    try simp only [World.size_alloc] at hq1
    try simp only [World.size_setCell] at hq1
    try simp only [World.size_alloc] at hq1
    have hz1_0 : w.heap.size < w1.heap.size := by omega
    have hz1_1 : w.heap.size + 1 < w1.heap.size := by omega
    have HB1 : Below w.heap.size w w1 := Below.trans (by (repeat (first | with_reducible assumption | with_reducible exact Below.refl _ _ | with_reducible refine Below.drew ?_ | with_reducible refine bl_drewN _ ?_ | ((with_reducible refine bl_alloc ?_ _ ?_); · (first | omega | (simp; done) | (simp; omega))) | ((with_reducible refine bl_set ?_ _ ?_); · (first | omega | (simp; done) | (simp; omega)))))) (hb1.mono (by (try simp) <;> omega))
    clear hb1
    go_wp2_with fail
    refine (equs_any _ _ _ _ l.ups _ lo lo' (h2.below (by (repeat (first | with_reducible assumption | with_reducible exact Below.refl _ _ | with_reducible refine Below.drew ?_ | with_reducible refine bl_drewN _ ?_ | ((with_reducible refine bl_alloc ?_ _ ?_); · (first | omega | (simp; done) | (simp; omega))) | ((with_reducible refine bl_set ?_ _ ?_); · (first | omega | (simp; done) | (simp; omega))))))) (h5.below (by (repeat (first | with_reducible assumption | with_reducible exact Below.refl _ _ | with_reducible refine Below.drew ?_ | with_reducible refine bl_drewN _ ?_ | ((with_reducible refine bl_alloc ?_ _ ?_); · (first | omega | (simp; done) | (simp; omega))) | ((with_reducible refine bl_set ?_ _ ?_); · (first | omega | (simp; done) | (simp; omega))))))) f2).mono ?_
    rintro e w2 ⟨rfl, hb2⟩
    obtain ⟨hc2, hf2⟩ := bcell hb2
    have hq2 := hb2.size
    try simp only [dN_size, dN_cell, dN_frozen] at hc2 hf2 hq2
    try simp only [World.size_alloc] at hq2
    try simp only [World.size_setCell] at hq2
    try simp only [World.size_alloc] at hq2
    have hz2_0 : w.heap.size < w2.heap.size := by omega
    have hz2_1 : w.heap.size + 1 < w2.heap.size := by omega
    have HB2 : Below w.heap.size w w2 := Below.trans (by (repeat (first | with_reducible assumption | with_reducible exact Below.refl _ _ | with_reducible refine Below.drew ?_ | with_reducible refine bl_drewN _ ?_ | ((with_reducible refine bl_alloc ?_ _ ?_); · (first | omega | (simp; done) | (simp; omega))) | ((with_reducible refine bl_set ?_ _ ?_); · (first | omega | (simp; done) | (simp; omega)))))) (hb2.mono (by (try simp) <;> omega))
    clear hb2
    go_wp2_with fail
    refine (eqns_any _ _ _ _ l.ns ns' _ lo lo' HE.out (H3.out.below (by (repeat (first | with_reducible assumption | with_reducible exact Below.refl _ _ | with_reducible refine Below.drew ?_ | with_reducible refine bl_drewN _ ?_ | ((with_reducible refine bl_alloc ?_ _ ?_); · (first | omega | (simp; done) | (simp; omega))) | ((with_reducible refine bl_set ?_ _ ?_); · (first | omega | (simp; done) | (simp; omega))))))) (H6.out.below (by (repeat (first | with_reducible assumption | with_reducible exact Below.refl _ _ | with_reducible refine Below.drew ?_ | with_reducible refine bl_drewN _ ?_ | ((with_reducible refine bl_alloc ?_ _ ?_); · (first | omega | (simp; done) | (simp; omega))) | ((with_reducible refine bl_set ?_ _ ?_); · (first | omega | (simp; done) | (simp; omega))))))) F4.out f3).mono ?_
    rintro e w3 ⟨rfl, hb3⟩
    obtain ⟨hc3, hf3⟩ := bcell hb3
    have hq3 := hb3.size
    try simp only [dN_size, dN_cell, dN_frozen] at hc3 hf3 hq3
    try simp only [World.size_alloc] at hq3
    try simp only [World.size_setCell] at hq3
    try simp only [World.size_alloc] at hq3
    have hz3_0 : w.heap.size < w3.heap.size := by omega
    have hz3_1 : w.heap.size + 1 < w3.heap.size := by omega
    have HB3 : Below w.heap.size w w3 := Below.trans (by (repeat (first | with_reducible assumption | with_reducible exact Below.refl _ _ | with_reducible refine Below.drew ?_ | with_reducible refine bl_drewN _ ?_ | ((with_reducible refine bl_alloc ?_ _ ?_); · (first | omega | (simp; done) | (simp; omega))) | ((with_reducible refine bl_set ?_ _ ?_); · (first | omega | (simp; done) | (simp; omega)))))) (hb3.mono (by (try simp) <;> omega))
    clear hb3
    go_wp2
    go_ret
    exact ⟨rfl, HB3⟩
set_option maxHeartbeats 1000000 in
theorem eqfs_any (A A' : Option Addr) (c c' : Nat) (xs ys : List LF) (w : World) (lo lo' : Nat) (he : ys.map LF.fd = xs.map LF.fd) (h : RdF w lo A xs) (h' : RdF w lo' A' ys) (hf : ∀ x ∈ xs, fitF x) (hn : xs.length ≤ maxLen) :
    Calls Try.prog 29 #[.slice A xs.length c, .slice A' ys.length c'] w fun e w' => e = .returned (.bool true) ∧ Below w.heap.size w w' := by
  have hlen : ys.length = xs.length := by simpa using congrArg List.length he
  rw [hlen]
  unfold maxLen at hn
  have HE := Lib.hid he
  have H := Lib.hid h; have H' := Lib.hid h'; have HF := Lib.hid hf
  have HL := Lib.hid hlen
  clear he h h' hf hlen
  go_enter Try.func29, Try.ntmps29
  go_wp2
  go_loopw [5] (fun i wr => ∃ k : Nat, k ≤ xs.length ∧ i = .int .i64 k ∧ Below w.heap.size w wr) (fun i _ => xs.length - (intOf i).toNat)
  case atStart => exact ⟨0, Nat.zero_le _, rfl, Below.refl _ _⟩
  case round =>
    obtain ⟨k, hk, rfl, hbel⟩ := hrel
    by_cases hlt : k < xs.length
    · obtain ⟨l, hpk⟩ : ∃ p, xs[k]? = some p := ⟨_, List.getElem?_eq_getElem hlt⟩
      obtain ⟨l', hpk'⟩ : ∃ p, ys[k]? = some p := ⟨_, List.getElem?_eq_getElem (by have := HL.out; omega)⟩
      have hnd : l'.fd = l.fd := by
        have := congrArg (fun z => z[k]?) HE.out
        simpa [hpk, hpk'] using this
      obtain ⟨nm', li', pa', re', vs', va', vc', us', ua', uc', ns', na', nc'⟩ := l'
      simp only [LF.fd, Fd.mk.injEq] at hnd
      obtain ⟨rfl, rfl, rfl, rfl, rfl, rfl, hns⟩ := hnd
      have HNS := Lib.hid hns
      clear hns

      obtain ⟨b, off, rfl, hlo, hb, c0, c1, c2, c3, c4, c5, c6, hok⟩ := rdF_at (H.out.below hbel) hpk
      obtain ⟨b', off', rfl, hlo', hb', d0, d1, d2, d3, d4, d5, d6, hok'⟩ := rdF_at (H'.out.below hbel) hpk'
      have HO := Lib.hid hok; have HO' := Lib.hid hok'
      have HFK := Lib.hid (HF.out l (List.mem_of_getElem? hpk))
      clear hpk hpk' hok hok'
      dsimp only at d0 d1 d2 d3 d4 d5 d6
      have k1 : (0 : Int) ≤ k := by omega
      have k2 : (k : Int) < xs.length := by omega
      go_wp2
      go_region_held3 (fun w' => w'.cell? ⟨b, off + k * 7, none⟩ = some (.string l.name) ∧ w'.cell? ⟨b, off + k * 7 + 1, none⟩ = some (.int .i64 l.line) ∧ w'.cell? ⟨b, off + k * 7 + 2, none⟩ = some (.int .i64 l.params) ∧ w'.cell? ⟨b, off + k * 7 + 3, none⟩ = some (.bool l.rest) ∧ w'.cell? ⟨b, off + k * 7 + 4, none⟩ = some (.slice l.va l.vars.length l.vc) ∧ w'.cell? ⟨b, off + k * 7 + 5, none⟩ = some (.slice l.ua l.ups.length l.uc) ∧ w'.cell? ⟨b, off + k * 7 + 6, none⟩ = some (.slice l.na l.ns.length l.nc) ∧ w'.cell? ⟨b', off' + k * 7, none⟩ = some (.string l.name) ∧ w'.cell? ⟨b', off' + k * 7 + 1, none⟩ = some (.int .i64 l.line) ∧ w'.cell? ⟨b', off' + k * 7 + 2, none⟩ = some (.int .i64 l.params) ∧ w'.cell? ⟨b', off' + k * 7 + 3, none⟩ = some (.bool l.rest) ∧ w'.cell? ⟨b', off' + k * 7 + 4, none⟩ = some (.slice va' l.vars.length vc') ∧ w'.cell? ⟨b', off' + k * 7 + 5, none⟩ = some (.slice ua' l.ups.length uc') ∧ w'.cell? ⟨b', off' + k * 7 + 6, none⟩ = some (.slice na' ns'.length nc')) (simp [go_sem, *]) ((go_at_call 50; refine (eqf_any l _ _ _ _ _ _ _ _ lo lo' HNS.out (by exact HO.out.drw) (by exact HO'.out.drw) HFK.out).mono ?_; rintro e w1 ⟨rfl, hb1⟩; replace hb1 := bl_undrew hb1; obtain ⟨hc1, hf1⟩ := bcell hb1; have HB1 : Below w.heap.size w w1 := hbel.trans (hb1.mono hbel.size)))
      go_wp2
      exact ⟨⟨k + 1, by omega, by go_num, HB1⟩, by simp [intOf]; omega⟩
    · have hkk : k = xs.length := by omega
      subst hkk
      go_wp2
      go_ret
      exact ⟨rfl, hbel⟩
theorem equn_any (A A' : Option Addr) (c c' : Nat) (xs ys : List LF) (w : World) (lo lo' : Nat) (he : ys.map LF.fd = xs.map LF.fd) (h : RdF w lo A xs) (h' : RdF w lo' A' ys) (hf : ∀ x ∈ xs, fitF x) (hn : xs.length ≤ maxLen) :
    Calls Try.prog 10 #[.agg #[.slice A xs.length c], .agg #[.slice A' ys.length c']] w fun e w' => e = .returned (.bool true) ∧ Below w.heap.size w w' := by
  have HE := Lib.hid he
  have H := Lib.hid h; have H' := Lib.hid h'; have HF := Lib.hid hf
  clear he h h' hf
  go_enter Try.func10, Try.ntmps10
  go_wp2_with fail
  refine (eqfs_any _ _ _ _ xs ys _ lo lo' HE.out (H.out.below (by (repeat (first | with_reducible assumption | with_reducible exact Below.refl _ _ | with_reducible refine Below.drew ?_ | with_reducible refine bl_drewN _ ?_ | ((with_reducible refine bl_alloc ?_ _ ?_); · (first | omega | (simp; done) | (simp; omega))) | ((with_reducible refine bl_set ?_ _ ?_); · (first | omega | (simp; done) | (simp; omega))))))) (H'.out.below (by (repeat (first | with_reducible assumption | with_reducible exact Below.refl _ _ | with_reducible refine Below.drew ?_ | with_reducible refine bl_drewN _ ?_ | ((with_reducible refine bl_alloc ?_ _ ?_); · (first | omega | (simp; done) | (simp; omega))) | ((with_reducible refine bl_set ?_ _ ?_); · (first | omega | (simp; done) | (simp; omega))))))) HF.out hn).mono ?_
  rintro e w1 ⟨rfl, hb1⟩
  obtain ⟨hc1, hf1⟩ := bcell hb1
  have hq1 := hb1.size
  try simp only [dN_size, dN_cell, dN_frozen] at hc1 hf1 hq1
  try simp only [World.size_alloc] at hq1
  try simp only [World.size_setCell] at hq1
  try simp only [World.size_alloc] at hq1
  have hz1_0 : w.heap.size < w1.heap.size := by omega
  have hz1_1 : w.heap.size + 1 < w1.heap.size := by omega
  have HB1 : Below w.heap.size w w1 := Below.trans (by (repeat (first | with_reducible assumption | with_reducible exact Below.refl _ _ | with_reducible refine Below.drew ?_ | with_reducible refine bl_drewN _ ?_ | ((with_reducible refine bl_alloc ?_ _ ?_); · (first | omega | (simp; done) | (simp; omega))) | ((with_reducible refine bl_set ?_ _ ?_); · (first | omega | (simp; done) | (simp; omega)))))) (hb1.mono (by (try simp) <;> omega))
  clear hb1
  go_wp2
  go_ret
  exact ⟨rfl, HB1⟩
theorem eqft_any (a b c : Int) (w : World) : Calls Try.prog 9 #[.agg #[.int .i64 a, .int .i64 b, .int .i64 c], .agg #[.int .i64 a, .int .i64 b, .int .i64 c]] w fun e w' => e = .returned (.bool true) ∧ Below w.heap.size w w' := by
  go_enter Try.func9, Try.ntmps9
  go_wp2
  go_ret
  exact ⟨rfl, below_new2 _ _ _⟩
end Go.Proofs.Ytcpjplkbmflglaa
