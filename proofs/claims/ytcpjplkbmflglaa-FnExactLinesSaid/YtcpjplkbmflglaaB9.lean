/- The reference's look at what a node names. -/
import Derived.Test.YtcpjplkbmflglaaB7
namespace Go.Proofs.Ytcpjplkbmflglaa
open Go.RowKit
attribute [local go_sem] run_store_float
set_option linter.unusedVariables false
def refsGo (ns : List Nd) (par : List Int) (params : Int) (nv : Nat) (kind : Int) (a : Nat) : List Int → List Bool → Bool × List Bool
  | [], seen => (true, seen)
  | v :: r, seen => if v < 0 ∨ (nv : Int) ≤ v then (false, seen) else if kind = 26 then (visB ns par params a v, seen) else if seen[v.toNat]? = some true then (false, seen) else refsGo ns par params nv kind a r (seen.set v.toNat true)
def ref0 (n : Nd) : Int := (n.refs[0]?).getD 0
def refsB (ns : List Nd) (par : List Int) (params : Int) (nv nu nf : Nat) (a : Nat) (n : Nd) (seen : List Bool) : Bool × List Bool :=
  if n.kind = 27 then (decide (0 ≤ ref0 n ∧ ref0 n < nu), seen)
  else if n.kind = 36 then (decide (0 ≤ ref0 n ∧ ref0 n < nf), seen)
  else refsGo ns par params nv n.kind a n.refs seen
theorem refsGo_len (ns : List Nd) (par : List Int) (params : Int) (nv : Nat) (kind : Int) (a : Nat) : ∀ (r : List Int) (seen : List Bool), (refsGo ns par params nv kind a r seen).2.length = seen.length := by
  intro r
  induction r with
  | nil => intro seen; rfl
  | cons v r ih =>
    intro seen
    unfold refsGo
    split
    · rfl
    · split
      · rfl
      · split
        · rfl
        · rw [ih]; simp
theorem refsB_len (ns : List Nd) (par : List Int) (params : Int) (nv nu nf a : Nat) (n : Nd) (seen : List Bool) : (refsB ns par params nv nu nf a n seen).2.length = seen.length := by
  unfold refsB
  split
  · rfl
  · split
    · rfl
    · exact refsGo_len _ _ _ _ _ _ _ _
/-- The boxes of l3refs. -/
structure Rs (w : World) (f : LF) (nd : Nd) (ra ka : Option Addr) (rc kc : Nat) (U : Value) (gp gs n c : Nat) (D : Value) (seen : List Bool) (W : World) : Prop where
  ub : Blk W w.heap.size 31 #[U]
  fb : Blk W (w.heap.size + 1) 47 #[.string f.name, .int .i64 f.line, .int .i64 f.params, .bool f.rest, .slice f.va f.vars.length f.vc, .slice f.ua f.ups.length f.uc, .slice f.na n f.nc]
  tb : Blk W (w.heap.size + 2) 73 #[.slice (some ⟨gp, 0, none⟩) n c, D]
  nb : Blk W (w.heap.size + 3) 52 #[.int .i64 nd.kind, .int .i64 nd.line, .int .i64 nd.op, .int .i64 nd.num, .float .f64 nd.flt, .string nd.str, .slice ra nd.refs.length rc, .slice ka nd.kids.length kc]
  bs : BB W gs seen
  gl : gs < w.heap.size
  but : But (· = gs) w W
theorem Rs.set_ {w : World} {f : LF} {nd : Nd} {ra ka : Option Addr} {rc kc : Nat} {U : Value} {gp gs n c : Nat} {D : Value} {seen : List Bool} {W : World} (h : Rs w f nd ra ka rc kc U gp gs n c D seen W) (k : Nat) (b : Bool) : Rs w f nd ra ka rc kc U gp gs n c D (seen.set k b) (W.setCell ⟨gs, k, none⟩ (.bool b)) :=
  ⟨h.ub.far (by have := h.gl; simp; omega) _, h.fb.far (by have := h.gl; simp; omega) _, h.tb.far (by have := h.gl; simp; omega) _, h.nb.far (by have := h.gl; simp; omega) _, h.bs.set_ k b, h.gl, h.but.set rfl _ _⟩
theorem Rs.drewN {w : World} {f : LF} {nd : Nd} {ra ka : Option Addr} {rc kc : Nat} {U : Value} {gp gs n c : Nat} {D : Value} {seen : List Bool} {W : World} (h : Rs w f nd ra ka rc kc U gp gs n c D seen W) (m : Nat) : Rs w f nd ra ka rc kc U gp gs n c D seen (W.drewN m) :=
  ⟨h.ub, h.fb, h.tb, h.nb, h.bs, h.gl, ⟨h.but.os, h.but.tape, h.but.output, h.but.size, h.but.block⟩⟩
def RefS (w : World) (gs : Nat) (r : Bool × List Bool) (e : Ending) (w' : World) : Prop := e = .returned (.bool r.1) ∧ BB w' gs r.2 ∧ But (· = gs) w w'
theorem but_below {w w' : World} {gs : Nat} (h : Below w.heap.size w w') : But (· = gs) w w' := But.of_below h
set_option maxRecDepth 100000 in
set_option maxHeartbeats 8000000 in
theorem refs_any (f : LF) (par : List Int) (gp c gs sc nf uc : Nat) (UA : Option Addr) (D : Value) (seen : List Bool) (l : LN) (w0 w : World) (lo : Nat) (a : Nat) (hb0 : Below w0.heap.size w0 w) (hns : RdN w0 lo f.na f.ns) (hn : f.ns.length ≤ 1048576) (hf : ∀ l ∈ f.ns, fitN l) (hl : f.ns[a]? = some l) (hp : BI w gp par) (hlp : par.length = f.ns.length) (hup : UpL f.ns.length par) (hia : InAll (f.ns.map LN.nd))
    (hs : BB w gs seen) (hsl : seen.length = f.vars.length) (hvn : f.vars.length ≤ 200) (hun : f.ups.length ≤ 200) (hnf : nf ≤ 1048576) (hgs : w0.heap.size ≤ gs) (hgp : gp ≠ gs) (hr : (l.nd.kind = 27 ∨ l.nd.kind = 36) → 0 < l.nd.refs.length) :
    Calls Try.prog 40 #[.agg #[.slice UA nf uc], .agg #[.string f.name, .int .i64 f.line, .int .i64 f.params, .bool f.rest, .slice f.va f.vars.length f.vc, .slice f.ua f.ups.length f.uc, .slice f.na f.ns.length f.nc], .agg #[.slice (some ⟨gp, 0, none⟩) f.ns.length c, D], .int .i64 a, .slice (some ⟨gs, 0, none⟩) seen.length sc] w (RefS w gs (refsB (f.ns.map LN.nd) par f.params f.vars.length f.ups.length nf a l.nd seen)) := by
  have HNS := Lib.hid hns; have HF := Lib.hid hf; have HP := Lib.hid hp; have HUP := Lib.hid hup; have HIA := Lib.hid hia; have HLP := Lib.hid hlp; have HB0 := Lib.hid hb0; have HL := Lib.hid hl; have HSL := Lib.hid hsl
  have ha := (List.getElem?_eq_some_iff.1 hl).1
  obtain ⟨n, hN⟩ : ∃ n, n = f.ns.length := ⟨_, rfl⟩
  have HN := Lib.hid hN
  obtain ⟨b, off, hna, hlo, hb, c0, c1, c2, c3, c4, c5, c6, c7, hok⟩ := rdN_at (hns.below hb0) hl
  obtain ⟨-, f2, -⟩ := hf l (List.mem_of_getElem? hl)
  have HOK := Lib.hid (hns.2 l (List.mem_of_getElem? hl)).1
  have hsn : seen.length ≤ 200 := by omega
  have han : a < n := by omega
  have hnn : n ≤ 1048576 := by omega
  have hgl := hs.lt
  have HS := Lib.hid hs
  have hfna : f.na = some ⟨b, off, none⟩ := hna
  obtain ⟨name, line, params, rest, vars, va, vc, ups, ua, uc2, ns, na, nc⟩ := f
  obtain ⟨nd, ra, rc, ka, kc⟩ := l
  dsimp only at *
  subst hfna
  unfold maxLen at f2
  rw [← HN.out]
  have HR := Lib.hid hr
  have hbA : b < w.heap.size + 1 := by omega
  have hbB : b < w.heap.size + 1 + 1 := by omega
  have hbC : b < w.heap.size + 1 + 1 + 1 := by omega
  have ham : (a : Int) < n := by omega
  clear hns hf hp hup hia hlp hb0 hl hs hsl hN hn ha hok hr hna
  by_cases hk1 : nd.kind = 27
  · obtain ⟨r0, hr0⟩ : ∃ r, nd.refs[0]? = some r := ⟨_, List.getElem?_eq_getElem (HR.out (.inl hk1))⟩
    have hpos := HR.out (.inl hk1)
    have HB : Hid (refsB (ns.map LN.nd) par params vars.length ups.length nf a nd seen = (decide (0 ≤ r0 ∧ r0 < ups.length), seen)) := by
      unfold refsB
      rw [if_pos hk1, show ref0 nd = r0 by unfold ref0; rw [hr0]; rfl]; exact Lib.hid rfl
    obtain ⟨b2, off2, rfl, hlo2, hb2, cr⟩ := rdI_at (HOK.out.below HB0.out) hr0
    rw [Nat.add_zero] at cr
    have hbD : b2 < w.heap.size + 1 := by omega
    have hbE : b2 < w.heap.size + 1 + 1 := by omega
    have hbF : b2 < w.heap.size + 1 + 1 + 1 := by omega
    have hbG : b2 < w.heap.size + 1 + 1 + 1 + 1 := by omega
    rw [hk1] at c0
    clear hk1 hr0
    by_cases h1 : 0 ≤ r0
    · by_cases h2 : r0 < ups.length
      · have HD : Hid (decide (0 ≤ r0 ∧ r0 < (ups.length : Int)) = true) := Lib.hid (decide_eq_true ⟨h1, h2⟩)
        have h1b : decide (0 ≤ r0) = true := decide_eq_true h1
        have h2b : decide (r0 < (ups.length : Int)) = true := decide_eq_true h2
        go_enter Try.func40, Try.ntmps40
        go_wp2
        go_quiet (fail)
        go_wp2
        go_ret
        exact ⟨by rw [HB.out, HD.out]; rfl, by rw [HB.out]; exact HS.out.below (by (repeat (first | with_reducible assumption | with_reducible exact Below.refl _ _ | with_reducible refine Below.drew ?_ | with_reducible refine bl_drewN _ ?_ | ((with_reducible refine bl_alloc ?_ _ ?_); · (first | omega | (simp; done) | (simp; omega))) | ((with_reducible refine bl_set ?_ _ ?_); · (first | omega | (simp; done) | (simp; omega)))))), But.of_below (by (repeat (first | with_reducible assumption | with_reducible exact Below.refl _ _ | with_reducible refine Below.drew ?_ | with_reducible refine bl_drewN _ ?_ | ((with_reducible refine bl_alloc ?_ _ ?_); · (first | omega | (simp; done) | (simp; omega))) | ((with_reducible refine bl_set ?_ _ ?_); · (first | omega | (simp; done) | (simp; omega))))))⟩
      · have HD : Hid (decide (0 ≤ r0 ∧ r0 < (ups.length : Int)) = false) := Lib.hid (decide_eq_false (fun h => h2 h.2))
        have h1b : decide (0 ≤ r0) = true := decide_eq_true h1
        have h2b : decide (r0 < (ups.length : Int)) = false := decide_eq_false h2
        go_enter Try.func40, Try.ntmps40
        go_wp2
        go_quiet (fail)
        go_wp2
        go_ret
        exact ⟨by rw [HB.out, HD.out]; rfl, by rw [HB.out]; exact HS.out.below (by (repeat (first | with_reducible assumption | with_reducible exact Below.refl _ _ | with_reducible refine Below.drew ?_ | with_reducible refine bl_drewN _ ?_ | ((with_reducible refine bl_alloc ?_ _ ?_); · (first | omega | (simp; done) | (simp; omega))) | ((with_reducible refine bl_set ?_ _ ?_); · (first | omega | (simp; done) | (simp; omega)))))), But.of_below (by (repeat (first | with_reducible assumption | with_reducible exact Below.refl _ _ | with_reducible refine Below.drew ?_ | with_reducible refine bl_drewN _ ?_ | ((with_reducible refine bl_alloc ?_ _ ?_); · (first | omega | (simp; done) | (simp; omega))) | ((with_reducible refine bl_set ?_ _ ?_); · (first | omega | (simp; done) | (simp; omega))))))⟩
    · have HD : Hid (decide (0 ≤ r0 ∧ r0 < (ups.length : Int)) = false) := Lib.hid (decide_eq_false (fun h => h1 h.1))
      have h1b : decide (0 ≤ r0) = false := decide_eq_false h1
      go_enter Try.func40, Try.ntmps40
      go_wp2
      go_quiet (fail)
      go_wp2
      go_ret
      exact ⟨by rw [HB.out, HD.out]; rfl, by rw [HB.out]; exact HS.out.below (by (repeat (first | with_reducible assumption | with_reducible exact Below.refl _ _ | with_reducible refine Below.drew ?_ | with_reducible refine bl_drewN _ ?_ | ((with_reducible refine bl_alloc ?_ _ ?_); · (first | omega | (simp; done) | (simp; omega))) | ((with_reducible refine bl_set ?_ _ ?_); · (first | omega | (simp; done) | (simp; omega)))))), But.of_below (by (repeat (first | with_reducible assumption | with_reducible exact Below.refl _ _ | with_reducible refine Below.drew ?_ | with_reducible refine bl_drewN _ ?_ | ((with_reducible refine bl_alloc ?_ _ ?_); · (first | omega | (simp; done) | (simp; omega))) | ((with_reducible refine bl_set ?_ _ ?_); · (first | omega | (simp; done) | (simp; omega))))))⟩
  by_cases hk2 : nd.kind = 36
  · obtain ⟨r0, hr0⟩ : ∃ r, nd.refs[0]? = some r := ⟨_, List.getElem?_eq_getElem (HR.out (.inr hk2))⟩
    have hpos := HR.out (.inr hk2)
    have HB : Hid (refsB (ns.map LN.nd) par params vars.length ups.length nf a nd seen = (decide (0 ≤ r0 ∧ r0 < nf), seen)) := by
      unfold refsB
      rw [if_neg hk1, if_pos hk2, show ref0 nd = r0 by unfold ref0; rw [hr0]; rfl]; exact Lib.hid rfl
    obtain ⟨b2, off2, rfl, hlo2, hb2, cr⟩ := rdI_at (HOK.out.below HB0.out) hr0
    rw [Nat.add_zero] at cr
    have hbD : b2 < w.heap.size + 1 := by omega
    have hbE : b2 < w.heap.size + 1 + 1 := by omega
    have hbF : b2 < w.heap.size + 1 + 1 + 1 := by omega
    have hbG : b2 < w.heap.size + 1 + 1 + 1 + 1 := by omega
    rw [hk2] at c0
    clear hk1 hk2 hr0
    by_cases h1 : 0 ≤ r0
    · by_cases h2 : r0 < nf
      · have HD : Hid (decide (0 ≤ r0 ∧ r0 < (nf : Int)) = true) := Lib.hid (decide_eq_true ⟨h1, h2⟩)
        have h1b : decide (0 ≤ r0) = true := decide_eq_true h1
        have h2b : decide (r0 < (nf : Int)) = true := decide_eq_true h2
        go_enter Try.func40, Try.ntmps40
        go_wp2
        go_quiet (fail)
        go_wp2
        go_ret
        exact ⟨by rw [HB.out, HD.out]; rfl, by rw [HB.out]; exact HS.out.below (by (repeat (first | with_reducible assumption | with_reducible exact Below.refl _ _ | with_reducible refine Below.drew ?_ | with_reducible refine bl_drewN _ ?_ | ((with_reducible refine bl_alloc ?_ _ ?_); · (first | omega | (simp; done) | (simp; omega))) | ((with_reducible refine bl_set ?_ _ ?_); · (first | omega | (simp; done) | (simp; omega)))))), But.of_below (by (repeat (first | with_reducible assumption | with_reducible exact Below.refl _ _ | with_reducible refine Below.drew ?_ | with_reducible refine bl_drewN _ ?_ | ((with_reducible refine bl_alloc ?_ _ ?_); · (first | omega | (simp; done) | (simp; omega))) | ((with_reducible refine bl_set ?_ _ ?_); · (first | omega | (simp; done) | (simp; omega))))))⟩
      · have HD : Hid (decide (0 ≤ r0 ∧ r0 < (nf : Int)) = false) := Lib.hid (decide_eq_false (fun h => h2 h.2))
        have h1b : decide (0 ≤ r0) = true := decide_eq_true h1
        have h2b : decide (r0 < (nf : Int)) = false := decide_eq_false h2
        go_enter Try.func40, Try.ntmps40
        go_wp2
        go_quiet (fail)
        go_wp2
        go_ret
        exact ⟨by rw [HB.out, HD.out]; rfl, by rw [HB.out]; exact HS.out.below (by (repeat (first | with_reducible assumption | with_reducible exact Below.refl _ _ | with_reducible refine Below.drew ?_ | with_reducible refine bl_drewN _ ?_ | ((with_reducible refine bl_alloc ?_ _ ?_); · (first | omega | (simp; done) | (simp; omega))) | ((with_reducible refine bl_set ?_ _ ?_); · (first | omega | (simp; done) | (simp; omega)))))), But.of_below (by (repeat (first | with_reducible assumption | with_reducible exact Below.refl _ _ | with_reducible refine Below.drew ?_ | with_reducible refine bl_drewN _ ?_ | ((with_reducible refine bl_alloc ?_ _ ?_); · (first | omega | (simp; done) | (simp; omega))) | ((with_reducible refine bl_set ?_ _ ?_); · (first | omega | (simp; done) | (simp; omega))))))⟩
    · have HD : Hid (decide (0 ≤ r0 ∧ r0 < (nf : Int)) = false) := Lib.hid (decide_eq_false (fun h => h1 h.1))
      have h1b : decide (0 ≤ r0) = false := decide_eq_false h1
      go_enter Try.func40, Try.ntmps40
      go_wp2
      go_quiet (fail)
      go_wp2
      go_ret
      exact ⟨by rw [HB.out, HD.out]; rfl, by rw [HB.out]; exact HS.out.below (by (repeat (first | with_reducible assumption | with_reducible exact Below.refl _ _ | with_reducible refine Below.drew ?_ | with_reducible refine bl_drewN _ ?_ | ((with_reducible refine bl_alloc ?_ _ ?_); · (first | omega | (simp; done) | (simp; omega))) | ((with_reducible refine bl_set ?_ _ ?_); · (first | omega | (simp; done) | (simp; omega)))))), But.of_below (by (repeat (first | with_reducible assumption | with_reducible exact Below.refl _ _ | with_reducible refine Below.drew ?_ | with_reducible refine bl_drewN _ ?_ | ((with_reducible refine bl_alloc ?_ _ ?_); · (first | omega | (simp; done) | (simp; omega))) | ((with_reducible refine bl_set ?_ _ ?_); · (first | omega | (simp; done) | (simp; omega))))))⟩
  have HB : Hid (refsB (ns.map LN.nd) par params vars.length ups.length nf a nd seen = refsGo (ns.map LN.nd) par params vars.length nd.kind a nd.refs seen) := by
    unfold refsB
    rw [if_neg hk1, if_neg hk2]; exact Lib.hid rfl
  have hb1 : (nd.kind == 27) = false := beq_eq_false_iff_ne.2 hk1
  have hb2 : (nd.kind == 36) = false := beq_eq_false_iff_ne.2 hk2
  clear hk1 hk2
  go_enter Try.func40, Try.ntmps40
  go_wp2
  go_loopw [58] (fun v wr => ∃ (p : Nat) (sn : List Bool), p ≤ nd.refs.length ∧ v = .int .i64 p ∧ sn.length = seen.length ∧ refsB (ns.map LN.nd) par params vars.length ups.length nf a nd seen = refsGo (ns.map LN.nd) par params vars.length nd.kind a (nd.refs.drop p) sn ∧ Rs w ⟨name, line, params, rest, vars, va, vc, ups, ua, uc2, ns, some ⟨b, off, none⟩, nc⟩ nd ra ka rc kc (.slice UA nf uc) gp gs n c D sn wr) (fun v _ => nd.refs.length - (intOf v).toNat)
  case atStart => exact ⟨0, seen, Nat.zero_le _, rfl, rfl, HB.out, ⟨((Blk.new _ _ _).alloc _ |>.alloc _ |>.alloc _), (Blk.new_at (by simp) |>.alloc _ |>.alloc _), (Blk.new_at (by simp) |>.alloc _), Blk.new_at (by simp), HS.out.below (by (repeat (first | with_reducible assumption | with_reducible exact Below.refl _ _ | with_reducible refine Below.drew ?_ | with_reducible refine bl_drewN _ ?_ | ((with_reducible refine bl_alloc ?_ _ ?_); · (first | omega | (simp; done) | (simp; omega))) | ((with_reducible refine bl_set ?_ _ ?_); · (first | omega | (simp; done) | (simp; omega)))))), hgl, But.of_below (by (repeat (first | with_reducible assumption | with_reducible exact Below.refl _ _ | with_reducible refine Below.drew ?_ | with_reducible refine bl_drewN _ ?_ | ((with_reducible refine bl_alloc ?_ _ ?_); · (first | omega | (simp; done) | (simp; omega))) | ((with_reducible refine bl_set ?_ _ ?_); · (first | omega | (simp; done) | (simp; omega))))))⟩⟩
  case round =>
    clear c0 c1 c2 c3 c4 c5 c6 c7 hb1 hb2
    obtain ⟨p, sn, hp, rfl, hsnl, hB, hR⟩ := hrel
    have HBX := Lib.hid hB
    have HRX := Lib.hid hR
    have hbel : Below w0.heap.size w0 wr := HB0.out.trans (hR.but.below (fun k hk => by rw [hk]; exact hgs) HB0.out.size)
    have HBL := Lib.hid hbel
    have ub0 := hR.ub.cell 0
    obtain ⟨a0, a1, a2, a3, a4, a5, a6⟩ := box7 hR.fb
    obtain ⟨d0, d1⟩ := box2 hR.tb
    obtain ⟨c0, c1, c2, c3, c4, c5, c6, c7⟩ := box8 hR.nb
    have hsz1 := hR.nb.lt
    have HSN := Lib.hid hsnl
    by_cases hlt : p < nd.refs.length
    · obtain ⟨v, hv⟩ : ∃ v, nd.refs[p]? = some v := ⟨_, List.getElem?_eq_getElem hlt⟩
      have HD : Hid (nd.refs.drop p = v :: nd.refs.drop (p + 1)) := by
        obtain ⟨e1, e2⟩ := List.getElem?_eq_some_iff.1 hv
        rw [List.drop_eq_getElem_cons e1, e2]; exact Lib.hid rfl
      obtain ⟨b2, off2, rfl, hlo2, hb2, cr⟩ := rdI_at (HOK.out.below hbel) hv
      clear hB hR hv hbel hsnl
      by_cases h1 : v < 0
      · have HQ : Hid (refsB (ns.map LN.nd) par params vars.length ups.length nf a nd seen = (false, sn)) := by
          rw [HBX.out, HD.out, refsGo, if_pos (.inl h1)]; exact Lib.hid rfl
        go_wp2
        go_ret
        exact ⟨by rw [HQ.out]; rfl, by rw [HQ.out]; exact HRX.out.bs, HRX.out.but⟩
      by_cases h2 : (vars.length : Int) ≤ v
      · have HQ : Hid (refsB (ns.map LN.nd) par params vars.length ups.length nf a nd seen = (false, sn)) := by
          rw [HBX.out, HD.out, refsGo, if_pos (.inr h2)]; exact Lib.hid rfl
        go_wp2
        go_ret
        exact ⟨by rw [HQ.out]; rfl, by rw [HQ.out]; exact HRX.out.bs, HRX.out.but⟩
      obtain ⟨q, rfl⟩ : ∃ q : Nat, v = q := ⟨v.toNat, by omega⟩
      have hq : q < vars.length := by omega
      have hqs : q < seen.length := by have := HSL.out; omega
      have hqi : (q : Int) < seen.length := by omega
      have HC0 : Hid (¬ ((q : Int) < 0 ∨ (vars.length : Int) ≤ q)) := Lib.hid (by omega)
      by_cases hk : nd.kind = 26
      · have HQ : Hid (refsB (ns.map LN.nd) par params vars.length ups.length nf a nd seen = (visB (ns.map LN.nd) par params a q, sn)) := by
          rw [HBX.out, HD.out, refsGo, if_neg HC0.out, if_pos hk]; exact Lib.hid rfl
        rw [hk] at c0
        clear hk
        have hvis := vis_any ⟨name, line, params, rest, vars, va, vc, ups, ua, uc2, ns, some ⟨b, off, none⟩, nc⟩ par gp c D q wr lo a (HNS.out.below HBL.out) (by dsimp only; have := HN.out; omega) HF.out (by dsimp only; have := HN.out; omega) (HP.out.but HRX.out.but hgp) HLP.out HUP.out HIA.out
        dsimp only at hvis
        rw [← HN.out] at hvis
        go_wp2_with fail
        refine hvis.mono ?_
        rintro e w3 ⟨rfl, hb3⟩
        clear hvis
        go_wp2
        go_ret
        exact ⟨by rw [HQ.out]; rfl, by rw [HQ.out]; exact HRX.out.bs.below hb3, HRX.out.but.trans (But.of_below hb3)⟩
      · have hkb : (nd.kind == 26) = false := beq_eq_false_iff_ne.2 hk
        obtain ⟨bv, hbv⟩ : ∃ b, sn[q]? = some b := ⟨_, List.getElem?_eq_getElem (by have := HSN.out; omega)⟩
        have cb := HRX.out.bs.cell hbv
        have fz := HRX.out.bs.fz q
        have hgsw : gs < wr.heap.size := HRX.out.bs.lt
        have HK := Lib.hid hk
        have HBV := Lib.hid hbv
        clear hk hbv
        cases bv
        · have HQ : Hid (refsB (ns.map LN.nd) par params vars.length ups.length nf a nd seen = refsGo (ns.map LN.nd) par params vars.length nd.kind a (nd.refs.drop (p + 1)) (sn.set q true)) := by
            rw [HBX.out, HD.out, refsGo, if_neg HC0.out, if_neg HK.out, if_neg (by rw [Int.toNat_natCast, HBV.out]; simp), Int.toNat_natCast]; exact Lib.hid rfl
          go_wp2
          exact ⟨⟨p + 1, sn.set q true, by omega, by go_num, by rw [List.length_set]; exact HSN.out, HQ.out, HRX.out.set_ q true⟩, by simp [intOf]; omega⟩
        · have HQ : Hid (refsB (ns.map LN.nd) par params vars.length ups.length nf a nd seen = (false, sn)) := by
            rw [HBX.out, HD.out, refsGo, if_neg HC0.out, if_neg HK.out, if_pos (by rw [Int.toNat_natCast]; exact HBV.out)]; exact Lib.hid rfl
          go_wp2
          go_ret
          exact ⟨by rw [HQ.out]; rfl, by rw [HQ.out]; exact HRX.out.bs, HRX.out.but⟩
    · have HQ : Hid (refsB (ns.map LN.nd) par params vars.length ups.length nf a nd seen = (true, sn)) := by
        rw [hB, List.drop_of_length_le (by omega), refsGo]; exact Lib.hid rfl
      clear hB hR hbel hsnl
      go_wp2
      go_ret
      exact ⟨by rw [HQ.out]; rfl, by rw [HQ.out]; exact HRX.out.bs, HRX.out.but⟩
end Go.Proofs.Ytcpjplkbmflglaa
