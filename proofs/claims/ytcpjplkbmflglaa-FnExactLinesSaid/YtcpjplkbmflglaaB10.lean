/- The reference's look at what a new function closes over. -/
import Derived.Test.YtcpjplkbmflglaaB9
namespace Go.Proofs.Ytcpjplkbmflglaa
open Go.RowKit
attribute [local go_sem] run_store_float
set_option linter.unusedVariables false
def upB (ns : List Nd) (par : List Int) (params : Int) (nv nu a : Nat) (p : Up) : Bool :=
  if p.loc then decide (0 ≤ p.ix ∧ p.ix < (nv : Int)) && visB ns par params a p.ix else decide (0 ≤ p.ix ∧ p.ix < (nu : Int))
def upsB (ns : List Nd) (par : List Int) (params : Int) (nv nu a : Nat) (us : List Up) : Bool := us.all (upB ns par params nv nu a)
theorem RdN.drw {w : World} {lo : Nat} {A : Option Addr} {ls : List LN} (h : RdN w lo A ls) : RdN w.drew lo A ls := h
structure Us (w : World) (U : Value) (gp n c : Nat) (D : Value) (W : World) : Prop where
  ub : Blk W w.heap.size 31 #[U]
  tb : Blk W (w.heap.size + 1) 73 #[.slice (some ⟨gp, 0, none⟩) n c, D]
  bel : Below w.heap.size w W
theorem Us.below {w W W' : World} {U : Value} {gp n c : Nat} {D : Value} (h : Us w U gp n c D W) (hb : Below W.heap.size W W') : Us w U gp n c D W' := ⟨h.ub.below hb h.ub.lt, h.tb.below hb h.tb.lt, h.bel.trans (hb.mono h.bel.size)⟩
theorem Us.alloc {w W : World} {U : Value} {gp n c : Nat} {D : Value} (h : Us w U gp n c D W) (o : Obj) : Us w U gp n c D (W.alloc o) := h.below (below_new W o)
theorem Us.drewN {w W : World} {U : Value} {gp n c : Nat} {D : Value} (h : Us w U gp n c D W) (m : Nat) : Us w U gp n c D (W.drewN m) := ⟨h.ub, h.tb, bl_drewN m h.bel⟩
theorem Us.drew {w W : World} {U : Value} {gp n c : Nat} {D : Value} (h : Us w U gp n c D W) : Us w U gp n c D W.drew := ⟨h.ub, h.tb, h.bel.drew⟩
set_option maxRecDepth 100000 in
set_option maxHeartbeats 8000000 in
theorem ups_any (fs : List LF) (A : Option Addr) (uc : Nat) (f g : LF) (par : List Int) (gp c : Nat) (D : Value) (w : World) (lo : Nat) (i j a : Nat) (h : RdF w lo A fs) (hfn : fs.length ≤ 1048576) (hi : fs[i]? = some f) (hj : fs[j]? = some g) (hn : f.ns.length ≤ 1048576) (hf : ∀ l ∈ f.ns, fitN l) (ha : a < f.ns.length) (hp : BI w gp par) (hlp : par.length = f.ns.length) (hup : UpL f.ns.length par) (hia : InAll (f.ns.map LN.nd))
    (hvn : f.vars.length ≤ 200) (hun : f.ups.length ≤ 200) (hgn : g.ups.length ≤ 200) :
    Calls Try.prog 42 #[.agg #[.slice A fs.length uc], .int .i64 i, .agg #[.slice (some ⟨gp, 0, none⟩) f.ns.length c, D], .int .i64 a, .int .i64 j] w fun e w' => e = .returned (.bool (upsB (f.ns.map LN.nd) par f.params f.vars.length f.ups.length a g.ups)) ∧ Below w.heap.size w w' := by
  have H := Lib.hid h; have HF := Lib.hid hf; have HP := Lib.hid hp; have HUP := Lib.hid hup; have HIA := Lib.hid hia; have HLP := Lib.hid hlp; have HI := Lib.hid hi; have HA := Lib.hid ha
  have hil := (List.getElem?_eq_some_iff.1 hi).1
  have hjl := (List.getElem?_eq_some_iff.1 hj).1
  obtain ⟨b, off, rfl, hlo, hb, -, -, -, -, -, e5, -, hokg⟩ := rdF_at h hj
  have HOK := Lib.hid hokg.2.1
  have HNF := Lib.hid (h.2 f (List.mem_of_getElem? hi)).2.2
  obtain ⟨gname, gline, gparams, grest, gvars, gva, gvc, gups, gua, guc, gns, gna, gnc⟩ := g
  dsimp only at e5 HOK hgn
  have hii : (i : Int) < fs.length := by omega
  have hji : (j : Int) < fs.length := by omega
  have hbA : b < w.heap.size + 1 := by omega
  clear h hf hp hup hia hlp hi hj hokg ha
  go_enter Try.func42, Try.ntmps42
  go_wp2
  go_loopw [20] (fun v wr => ∃ p : Nat, p ≤ gups.length ∧ v = .int .i64 p ∧ upsB (f.ns.map LN.nd) par f.params f.vars.length f.ups.length a gups = upsB (f.ns.map LN.nd) par f.params f.vars.length f.ups.length a (gups.drop p) ∧ Us w (.slice (some ⟨b, off, none⟩) fs.length uc) gp f.ns.length c D wr) (fun v _ => gups.length - (intOf v).toNat)
  case atStart => exact ⟨0, Nat.zero_le _, rfl, rfl, ⟨(Blk.new _ _ _).alloc _, Blk.new_at (by simp), below_new2 _ _ _⟩⟩
  case round =>
    clear e5
    obtain ⟨p, hp, rfl, hB, hS⟩ := hrel
    have HB := Lib.hid hB
    have HS := Lib.hid hS
    have ub0 := hS.ub.cell 0
    obtain ⟨d0, d1⟩ := box2 hS.tb
    have hsz := hS.bel.size
    have hsz1 := hS.tb.lt
    have hsz0 : w.heap.size < wr.heap.size := by omega
    by_cases hlt : p < gups.length
    · obtain ⟨u, hu⟩ : ∃ u, gups[p]? = some u := ⟨_, List.getElem?_eq_getElem hlt⟩
      have HD : Hid (upsB (f.ns.map LN.nd) par f.params f.vars.length f.ups.length a (gups.drop p) = (upB (f.ns.map LN.nd) par f.params f.vars.length f.ups.length a u && upsB (f.ns.map LN.nd) par f.params f.vars.length f.ups.length a (gups.drop (p + 1)))) := by
        obtain ⟨e1, e2⟩ := List.getElem?_eq_some_iff.1 hu
        rw [List.drop_eq_getElem_cons e1, e2]; exact Lib.hid rfl
      obtain ⟨b2, off2, rfl, hlo2, hb2, cu0, cu1⟩ := rdU_at (HOK.out.below hS.bel) hu
      obtain ⟨b3, off3, e3, hlo3, hb3, f0, f1, f2, f3, f4, f5, f6, hokf⟩ := rdF_at (H.out.below hS.bel) HI.out
      obtain ⟨rfl, rfl⟩ : b3 = b ∧ off3 = off := by cases e3; exact ⟨rfl, rfl⟩
      obtain ⟨loc, ix⟩ := u
      dsimp only at cu0 cu1
      clear hB hS hu e3 hokf
      cases loc
      · have HU : Hid (upB (f.ns.map LN.nd) par f.params f.vars.length f.ups.length a ⟨false, ix⟩ = decide (0 ≤ ix ∧ ix < (f.ups.length : Int))) := Lib.hid rfl
        by_cases h1 : ix < 0
        · have HQ : Hid (upsB (f.ns.map LN.nd) par f.params f.vars.length f.ups.length a gups = false) := by
            rw [HB.out, HD.out, HU.out, decide_eq_false (by omega)]; exact Lib.hid rfl
          have h1b : decide (ix < 0) = true := decide_eq_true h1
          go_wp2
          go_quiet (fail)
          go_wp2
          go_ret
          exact ⟨by rw [HQ.out]; rfl, bl_drewN _ (HS.out.bel.alloc HS.out.bel.size _)⟩
        · have h1b : decide (ix < 0) = false := decide_eq_false h1
          by_cases h2 : (f.ups.length : Int) ≤ ix
          · have HQ : Hid (upsB (f.ns.map LN.nd) par f.params f.vars.length f.ups.length a gups = false) := by
              rw [HB.out, HD.out, HU.out, decide_eq_false (by omega)]; exact Lib.hid rfl
            go_wp2
            go_quiet (fail)
            go_wp2
            go_ret
            exact ⟨by rw [HQ.out]; rfl, bl_drewN _ (HS.out.bel.alloc HS.out.bel.size _)⟩
          · have HQ : Hid (upsB (f.ns.map LN.nd) par f.params f.vars.length f.ups.length a gups = upsB (f.ns.map LN.nd) par f.params f.vars.length f.ups.length a (gups.drop (p + 1))) := by
              rw [HB.out, HD.out, HU.out, decide_eq_true (by omega)]; exact Lib.hid rfl
            have h2b : decide ((f.ups.length : Int) ≤ ix) = false := decide_eq_false h2
            go_wp2
            go_quiet (fail)
            go_wp2
            exact ⟨⟨p + 1, by omega, by go_num, HQ.out, (HS.out.alloc _).drewN _⟩, by simp [intOf]; omega⟩
      · have HU : Hid (upB (f.ns.map LN.nd) par f.params f.vars.length f.ups.length a ⟨true, ix⟩ = (decide (0 ≤ ix ∧ ix < (f.vars.length : Int)) && visB (f.ns.map LN.nd) par f.params a ix)) := Lib.hid rfl
        by_cases h1 : ix < 0
        · have HQ : Hid (upsB (f.ns.map LN.nd) par f.params f.vars.length f.ups.length a gups = false) := by
            rw [HB.out, HD.out, HU.out, decide_eq_false (by omega)]; exact Lib.hid rfl
          have h1b : decide (ix < 0) = true := decide_eq_true h1
          go_wp2
          go_quiet (fail)
          go_wp2
          go_ret
          exact ⟨by rw [HQ.out]; rfl, bl_drewN _ (HS.out.bel.alloc HS.out.bel.size _)⟩
        · have h1b : decide (ix < 0) = false := decide_eq_false h1
          by_cases h2 : (f.vars.length : Int) ≤ ix
          · have HQ : Hid (upsB (f.ns.map LN.nd) par f.params f.vars.length f.ups.length a gups = false) := by
              rw [HB.out, HD.out, HU.out, decide_eq_false (by omega)]; exact Lib.hid rfl
            go_wp2
            go_quiet (fail)
            go_wp2
            go_ret
            exact ⟨by rw [HQ.out]; rfl, bl_drewN _ (HS.out.bel.alloc HS.out.bel.size _)⟩
          · have HQ : Hid (upsB (f.ns.map LN.nd) par f.params f.vars.length f.ups.length a gups = (visB (f.ns.map LN.nd) par f.params a ix && upsB (f.ns.map LN.nd) par f.params f.vars.length f.ups.length a (gups.drop (p + 1)))) := by
              rw [HB.out, HD.out, HU.out, decide_eq_true (by omega), Bool.true_and]; exact Lib.hid rfl
            have h2b : decide ((f.vars.length : Int) ≤ ix) = false := decide_eq_false h2
            have hbx := Blk.new wr 60 #[.bool true, .int .i64 ix]
            have x0 := hbx.cell 0
            have x1 := hbx.cell 1
            have HS1 := Lib.hid (HS.out.alloc (.cells #[.bool true, .int .i64 ix] 60))
            clear hbx
            have y1 : b3 < wr.heap.size + 1 := by omega
            have y2 : w.heap.size < wr.heap.size + 1 := by omega
            have y3 : w.heap.size + 1 < wr.heap.size + 1 := by omega
            clear x0 x1
            cases hV : visB (f.ns.map LN.nd) par f.params a ix
            · have HV := Lib.hid hV
              go_wp2
              go_region_held3 (fun w' => w'.cell? ⟨w.heap.size, 0, none⟩ = some (.slice (some ⟨b3, off3, none⟩) fs.length uc) ∧ w'.cell? ⟨w.heap.size + 1, 0, none⟩ = some (.slice (some ⟨gp, 0, none⟩) f.ns.length c) ∧ w'.cell? ⟨w.heap.size + 1, 1, none⟩ = some D ∧ w'.cell? ⟨b3, off3 + i * 7, none⟩ = some (.string f.name) ∧ w'.cell? ⟨b3, off3 + i * 7 + 1, none⟩ = some (.int .i64 f.line) ∧ w'.cell? ⟨b3, off3 + i * 7 + 2, none⟩ = some (.int .i64 f.params) ∧ w'.cell? ⟨b3, off3 + i * 7 + 3, none⟩ = some (.bool f.rest) ∧ w'.cell? ⟨b3, off3 + i * 7 + 4, none⟩ = some (.slice f.va f.vars.length f.vc) ∧ w'.cell? ⟨b3, off3 + i * 7 + 5, none⟩ = some (.slice f.ua f.ups.length f.uc) ∧ w'.cell? ⟨b3, off3 + i * 7 + 6, none⟩ = some (.slice f.na f.ns.length f.nc) ∧ w'.cell? ⟨wr.heap.size, 0, none⟩ = some (.bool true) ∧ w'.cell? ⟨wr.heap.size, 1, none⟩ = some (.int .i64 ix)) (simp [go_sem, *]) ((go_at_call 62; refine (vis_any f par gp c D ix _ lo a (by exact (HNF.out.below HS1.out.bel).drw) hn HF.out HA.out (by exact (HP.out.below HS1.out.bel).drew) HLP.out HUP.out HIA.out).mono ?_; rintro e w1 ⟨rfl, hb1⟩; replace hb1 := bl_undrew hb1; obtain ⟨hc1, hf1⟩ := bcell hb1; have HS2 := HS1.out.below hb1; have hq1 := hb1.size))
              go_wp2
              go_ret
              exact ⟨by rw [HQ.out, HV.out]; rfl, HS2.bel⟩
            · have HV := Lib.hid hV
              go_wp2
              go_region_held3 (fun w' => w'.cell? ⟨w.heap.size, 0, none⟩ = some (.slice (some ⟨b3, off3, none⟩) fs.length uc) ∧ w'.cell? ⟨w.heap.size + 1, 0, none⟩ = some (.slice (some ⟨gp, 0, none⟩) f.ns.length c) ∧ w'.cell? ⟨w.heap.size + 1, 1, none⟩ = some D ∧ w'.cell? ⟨b3, off3 + i * 7, none⟩ = some (.string f.name) ∧ w'.cell? ⟨b3, off3 + i * 7 + 1, none⟩ = some (.int .i64 f.line) ∧ w'.cell? ⟨b3, off3 + i * 7 + 2, none⟩ = some (.int .i64 f.params) ∧ w'.cell? ⟨b3, off3 + i * 7 + 3, none⟩ = some (.bool f.rest) ∧ w'.cell? ⟨b3, off3 + i * 7 + 4, none⟩ = some (.slice f.va f.vars.length f.vc) ∧ w'.cell? ⟨b3, off3 + i * 7 + 5, none⟩ = some (.slice f.ua f.ups.length f.uc) ∧ w'.cell? ⟨b3, off3 + i * 7 + 6, none⟩ = some (.slice f.na f.ns.length f.nc) ∧ w'.cell? ⟨wr.heap.size, 0, none⟩ = some (.bool true) ∧ w'.cell? ⟨wr.heap.size, 1, none⟩ = some (.int .i64 ix)) (simp [go_sem, *]) ((go_at_call 62; refine (vis_any f par gp c D ix _ lo a (by exact (HNF.out.below HS1.out.bel).drw) hn HF.out HA.out (by exact (HP.out.below HS1.out.bel).drew) HLP.out HUP.out HIA.out).mono ?_; rintro e w1 ⟨rfl, hb1⟩; replace hb1 := bl_undrew hb1; obtain ⟨hc1, hf1⟩ := bcell hb1; have HS2 := HS1.out.below hb1; have hq1 := hb1.size))
              go_wp2
              exact ⟨⟨p + 1, by omega, by go_num, by rw [HQ.out, HV.out]; rfl, HS2⟩, by simp [intOf]; omega⟩
    · have HQ : Hid (upsB (f.ns.map LN.nd) par f.params f.vars.length f.ups.length a gups = true) := by
        rw [hB, List.drop_of_length_le (by omega)]; exact Lib.hid rfl
      clear hB hS
      go_wp2
      go_ret
      exact ⟨by rw [HQ.out]; rfl, HS.out.bel⟩
end Go.Proofs.Ytcpjplkbmflglaa
