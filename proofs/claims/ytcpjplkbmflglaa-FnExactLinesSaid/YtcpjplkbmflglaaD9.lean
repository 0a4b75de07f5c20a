/- CheckUnit's closure of code 7. -/
import Derived.Test.YtcpjplkbmflglaaD0
import Derived.BigRegion
import Derived.BigQuiet
import Derived.Carry
namespace Go.Proofs.Ytcpjplkbmflglaa
open Go.RowKit
attribute [local go_sem] run_store_float
set_option linter.unusedVariables false
def brk (k : Int) (loop : Bool) : Bool := (k == 9 || k == 10) && !loop
def out7 (ns : List Nd) (out : List Bool) (e : Ev) : List Bool := out.set e.1 (brk (ndAt ns e.1).kind e.2.2)
set_option maxRecDepth 100000 in
set_option maxHeartbeats 1000000 in
theorem k27_any (f : LF) (p0 p1 ga gi nv ci lo : Nat) (n : Nat) (ins : List Bool) (loop : Bool) (out : List Bool) (W : World) (h0 : Blk W p0 47 #[.string f.name, .int .i64 f.line, .int .i64 f.params, .bool f.rest, .slice f.va f.vars.length f.vc, .slice f.ua f.ups.length f.uc, .slice f.na f.ns.length f.nc]) (h1 : Blk W p1 55 #[.slice (some ⟨ga, 0, none⟩) f.ns.length f.ns.length]) (hr : RdN W lo f.na f.ns) (ho : BB W ga out) (hl : out.length = f.ns.length) (hn : n < f.ns.length) (hfn : f.ns.length ≤ 1048576) :
    Calls Try.prog 27 #[.int .i64 n, .slice (some ⟨gi, 0, none⟩) nv ci, .bool loop, .pointer (some ⟨p0, 0, none⟩), .pointer (some ⟨p1, 0, none⟩)] W fun e W' => e = .returned (.tuple #[]) ∧ BB W' ga (out7 (f.ns.map LN.nd) out (n, ins, loop)) ∧ But (· = ga) W W' := by
  obtain ⟨l, hll⟩ : ∃ l, f.ns[n]? = some l := ⟨_, List.getElem?_eq_getElem hn⟩
  obtain ⟨b, off, hna, -, hb, c0, -⟩ := rdN_at hr hll
  have f6 := h0.cell 6
  have b0 := h1.cell 0
  simp at f6 b0
  rw [hna] at f6
  have hq0 := h0.lt; have hq1 := h1.lt
  obtain ⟨d, hd⟩ : ∃ d, out[n]? = some d := ⟨_, List.getElem?_eq_getElem (by omega)⟩
  have cd := ho.cell hd
  have fz := ho.fz n
  have hni : (n : Int) < f.ns.length := by omega
  have HO := Lib.hid ho
  have HE : ∀ v : Bool, Hid (brk l.nd.kind loop = v → BB (W.setCell ⟨ga, n, none⟩ (.bool v)) ga (out7 (f.ns.map LN.nd) out (n, ins, loop)) ∧ But (· = ga) W (W.setCell ⟨ga, n, none⟩ (.bool v))) := fun v => Lib.hid (fun hv => by
    refine ⟨?_, But.set (P := fun x => x = ga) (But.refl _ _) (show ga = ga from rfl) n _⟩
    unfold out7
    simp only [nd_atD hll]
    rw [hv]
    exact ho.set_ n v)
  obtain ⟨kd, hkd⟩ : ∃ kd, kd = l.nd.kind := ⟨_, rfl⟩
  rw [← hkd] at c0 HE
  clear h0 h1 hr ho hna hd hkd hll
  by_cases k9 : kd = 9
  · have e9 : (kd == 9) = true := by rw [k9]; rfl
    have HB : Hid (brk kd loop = !loop) := Lib.hid (by unfold brk; rw [e9]; simp)
    clear k9
    cases loop <;>
    · go_enter Try.func27, Try.ntmps27
      go_wp2
      refine bodyPost_end (v := .tuple #[]) (by simp [results, Try.results27, go_sem]) rfl ?_
      exact ⟨rfl, (HE _).out HB.out⟩
  · have e9 : (kd == 9) = false := beq_eq_false_iff_ne.2 k9
    by_cases k10 : kd = 10
    · have e10 : (kd == 10) = true := by rw [k10]; rfl
      have HB : Hid (brk kd loop = !loop) := Lib.hid (by unfold brk; rw [e9, e10]; simp)
      clear k9 k10
      cases loop <;>
      · go_enter Try.func27, Try.ntmps27
        go_wp2
        refine bodyPost_end (v := .tuple #[]) (by simp [results, Try.results27, go_sem]) rfl ?_
        exact ⟨rfl, (HE _).out HB.out⟩
    · have e10 : (kd == 10) = false := beq_eq_false_iff_ne.2 k10
      have HB : Hid (brk kd loop = false) := Lib.hid (by unfold brk; rw [e9, e10]; rfl)
      clear k9 k10
      go_enter Try.func27, Try.ntmps27
      go_wp2
      refine bodyPost_end (v := .tuple #[]) (by simp [results, Try.results27, go_sem]) rfl ?_
      exact ⟨rfl, (HE _).out HB.out⟩
end Go.Proofs.Ytcpjplkbmflglaa
namespace Go.Proofs.Ytcpjplkbmflglaa
open Go.RowKit
attribute [local go_sem] run_store_float
set_option linter.unusedVariables false
/-- What is in scope at a NVar: its variable, and whether. -/
abbrev Sc1 := Option (Int × Bool)
def vis6 (ins : List Bool) (v : Int) : Bool := decide (0 ≤ v) && (decide (v < ins.length) && (ins[v.toNat]?).getD false)
def st6 (ns : List Nd) (S : List Sc1) (e : Ev) : List Sc1 :=
  let nd := ndAt ns e.1
  if nd.kind = 26 then S.set e.1 (some (ref0 nd, vis6 e.2.1 (ref0 nd))) else S
def entry (v : Int) (b : Bool) : Obj := .map #[{ key := .int .i64 v, val := .bool b, born := 0 }] 1
def cellIs (W : World) (hi : Nat) (u : Value) : Sc1 → Prop
  | none => u = .map none
  | some (v, b) => ∃ r, u = .map (some r) ∧ hi + 3 ≤ r ∧ W.heap[r]? = some (entry v b)
/-- The array of scopes. -/
def Sm (W : World) (ga hi : Nat) (S : List Sc1) : Prop := ∃ cells : List Value, Blk W ga 56 cells.toArray ∧ cells.length = S.length ∧ ∀ (n : Nat) (s : Sc1) (u : Value), S[n]? = some s → cells[n]? = some u → cellIs W hi u s
structure Only (g : Nat) (w w' : World) : Prop where
  os : w'.os = w.os
  tape : w'.tape = w.tape
  output : w'.output = w.output
  size : w'.heap.size = w.heap.size
  block : ∀ k, k ≠ g → w'.heap[k]? = w.heap[k]?
theorem Only.below {g B : Nat} {w w' : World} (h : Only g w w') (hB : B ≤ g) : Below B w w' := ⟨h.os, h.tape, h.output, Nat.le_of_eq h.size.symm, fun k hk => h.block k (by omega)⟩
theorem ins56 {w : World} {r : Nat} (hb : w.heap[r]? = some (.map #[] 0)) (x : Int) (b : Bool) :
    ∃ w', (Instr.mapUpdate 56 (.map (some r)) (.int .i64 x) (.bool b)).run Try.prog w = .ok () w' ∧ w'.heap[r]? = some (entry x b) ∧ Only r w w' := by
  have hlt : r < w.heap.size := (Array.getElem?_eq_some_iff.1 hb).1
  have hf : Instr.findNow (.int .i64) (.int .i64 x) (#[] : Array MapEntry).toList 0 = some none := rfl
  have hc : (Instr.checkKey false 10000 3 (.int .i64 x)).run Try.prog w = .ok () w := MapKept.run_checkKey (k := .int .i64 x) Try.underlying3 (by simp [MapKept.IsKey]) false 9999
  refine ⟨{ w with heap := w.heap.setIfInBounds r (entry x b) }, ?_, Array.getElem?_setIfInBounds_self_of_lt hlt, rfl, rfl, rfl, by simp, fun k hk => Array.getElem?_setIfInBounds_ne (Ne.symm hk)⟩
  simp [Instr.mapUpdate, run_underlying Try.underlying56, MapKept.run_getObj_map hb, hc, MapKept.run_findKey Try.underlying3 hf, MapKept.run_setObj_map _ hb, Result.andThen, entry]
set_option maxRecDepth 100000 in
set_option maxHeartbeats 8000000 in
theorem k25_any (f : LF) (p0 p1 ga gi nv ci lo hi : Nat) (n : Nat) (ins : List Bool) (loop : Bool) (S : List Sc1) (W : World) (h0 : Blk W p0 47 #[.string f.name, .int .i64 f.line, .int .i64 f.params, .bool f.rest, .slice f.va f.vars.length f.vc, .slice f.ua f.ups.length f.uc, .slice f.na f.ns.length f.nc]) (h1 : Blk W p1 53 #[.slice (some ⟨ga, 0, none⟩) f.ns.length f.ns.length]) (hr : RdN W lo f.na f.ns) (ho : Sm W ga hi S) (hI : BB W gi ins) (hil : ins.length = nv) (hl : S.length = f.ns.length) (hn : n < f.ns.length) (hfn : f.ns.length ≤ 1048576) (hvl : nv ≤ 1048576) (hhi : hi + 3 ≤ W.heap.size)
    (href : ∀ l, f.ns[n]? = some l → l.nd.kind = 26 → 0 < l.nd.refs.length) :
    Calls Try.prog 25 #[.int .i64 n, .slice (some ⟨gi, 0, none⟩) nv ci, .bool loop, .pointer (some ⟨p0, 0, none⟩), .pointer (some ⟨p1, 0, none⟩)] W fun e W' => e = .returned (.tuple #[]) ∧ Sm W' ga hi (st6 (f.ns.map LN.nd) S (n, ins, loop)) ∧ But (· = ga) W W' := by
  obtain ⟨l, hll⟩ : ∃ l, f.ns[n]? = some l := ⟨_, List.getElem?_eq_getElem hn⟩
  obtain ⟨b, off, hna, -, hb, c0, c1, c2, c3, c4, c5, c6, c7, hok⟩ := rdN_at hr hll
  have f6 := h0.cell 6
  have b0 := h1.cell 0
  simp at f6 b0
  rw [hna] at f6
  obtain ⟨cells, hcb, hcl, hcs⟩ := ho
  have hq0 := h0.lt; have hq1 := h1.lt; have hq3 := hcb.lt; have hq4 := hI.lt
  obtain ⟨d, hd⟩ : ∃ d, cells[n]? = some d := ⟨_, List.getElem?_eq_getElem (by omega)⟩
  have cd : W.cell? ⟨ga, n, none⟩ = some d := by rw [hcb.cell]; simpa using hd
  have fz : W.frozen? ⟨ga, n, none⟩ = false := hcb.frozen n
  have hni : (n : Int) < f.ns.length := by omega
  have HST : Hid (st6 (f.ns.map LN.nd) S (n, ins, loop) = if l.nd.kind = 26 then S.set n (some (ref0 l.nd, vis6 ins (ref0 l.nd))) else S) := Lib.hid (by
    unfold st6
    simp only [nd_atD hll])
  have HI := Lib.hid hI; have HIL := Lib.hid hil
  have HCB := Lib.hid hcb; have HCS := Lib.hid hcs
  have HREF := Lib.hid (href l hll)
  have HOKR := Lib.hid hok.1
  clear h0 h1 hr hcb hcs hI hil hna hd hll hok href
  by_cases k26 : l.nd.kind = 26
  · have e26 : (l.nd.kind == 26) = true := by rw [k26]; rfl
    have r1 := HREF.out k26
    obtain ⟨v, hrf⟩ : ∃ v, l.nd.refs[0]? = some v := ⟨_, List.getElem?_eq_getElem r1⟩
    have HR0 : Hid (ref0 l.nd = v) := Lib.hid (by unfold ref0; rw [hrf]; rfl)
    obtain ⟨b2, off2, hra, -, hb2, cr⟩ := rdI_at HOKR.out hrf
    have hrl : (0 : Int) < l.nd.refs.length := by omega
    rw [Nat.add_zero] at cr
    have HK := Lib.hid k26
    obtain ⟨NA, hNA⟩ : ∃ a, a = #[Value.int .i64 l.nd.kind, .int .i64 l.nd.line, .int .i64 l.nd.op, .int .i64 l.nd.num, .float .f64 l.nd.flt, .string l.nd.str, .slice (some ⟨b2, off2, none⟩) l.nd.refs.length l.rc, .slice l.ka l.nd.kids.length l.kc] := ⟨_, rfl⟩
    rw [hra] at c6
    have hmm := @run_makeMap Try.prog
    have hm0 : ((W.alloc (.cells NA 52)).alloc (.map #[] 0)).heap[W.heap.size + 1]? = some (.map #[] 0) := by
      have h2 : ∀ (X : World) (r : Nat), X.heap.size = r → (X.alloc (.map #[] 0)).heap[r]? = some (.map #[] 0) := fun X r h => by subst h; show (X.heap.push _)[X.heap.size]? = _; simp
      exact h2 _ _ (by simp)
    clear k26 hrf hra HREF
    obtain ⟨vb, hvb⟩ : ∃ vb, vb = vis6 ins v := ⟨_, rfl⟩
    obtain ⟨W1, hin, hm1, ho1⟩ := ins56 (w := ((W.alloc (.cells NA 52)).alloc (.map #[] 0)).drew) hm0 v vb
    have hbw : Below W.heap.size W W1 := (below_new2 W (.cells NA 52) (.map #[] 0)).drew.trans (ho1.below (by omega))
    obtain ⟨hcw, hfw⟩ := bcell hbw
    have d1 := (hcw p1 0 hq1).trans b0
    have d2 := (hcw ga n hq3).trans cd
    have d3 := (hfw ga n hq3).trans fz
    have HFIN : Hid (Sm (W1.setCell ⟨ga, n, none⟩ (.map (some (W.heap.size + 1)))) ga hi (st6 (f.ns.map LN.nd) S (n, ins, loop)) ∧ But (· = ga) W (W1.setCell ⟨ga, n, none⟩ (.map (some (W.heap.size + 1))))) := by
      have hset : But (fun k => k = ga) W1 (W1.setCell ⟨ga, n, none⟩ (.map (some (W.heap.size + 1)))) := (But.refl (fun k => k = ga) W1).set rfl n _
      have hbt : But (fun k => k = ga) W (W1.setCell ⟨ga, n, none⟩ (.map (some (W.heap.size + 1)))) := (But.of_below hbw).trans hset
      refine Lib.hid ⟨?_, hbt⟩
      rw [HST.out, if_pos HK.out, HR0.out, ← hvb]
      refine ⟨cells.set n (.map (some (W.heap.size + 1))), ?_, by rw [List.length_set, List.length_set]; exact hcl, fun k s u hs hu => ?_⟩
      · have := (HCB.out.below hbw hq3).set_ n (.map (some (W.heap.size + 1)))
        simpa using this
      · by_cases e : n = k
        · subst e
          rw [List.getElem?_set_self (by omega)] at hs hu
          injection hs with hs
          injection hu with hu
          subst hs; subst hu
          exact ⟨W.heap.size + 1, rfl, by omega, (hset.block _ (Array.getElem?_eq_some_iff.1 hm1).1 (fun e => by omega)).trans hm1⟩
        · rw [List.getElem?_set_ne e] at hs hu
          have := HCS.out k s u hs hu
          cases s with
          | none => exact this
          | some p =>
            obtain ⟨v', b'⟩ := p
            obtain ⟨r, q1, q2, q3⟩ := this
            exact ⟨r, q1, q2, (hbt.block r (Array.getElem?_eq_some_iff.1 q3).1 (fun e => by subst e; have := HCB.out; unfold Blk at this; rw [this] at q3; cases q3)).trans q3⟩
    have HIN := Lib.hid hin
    have HVB := Lib.hid hvb
    clear ho1 hm1 hm0 hbw hcw hfw hvb hin
    by_cases v1 : 0 ≤ v
    · by_cases v2 : v < nv
      · obtain ⟨y, rfl⟩ : ∃ y : Nat, v = y := ⟨v.toNat, by omega⟩
        obtain ⟨z, hz⟩ : ∃ z, ins[y]? = some z := ⟨_, List.getElem?_eq_getElem (by have := HIL.out; omega)⟩
        have hvz : vb = z := by rw [HVB.out]; unfold vis6; rw [decide_eq_true v1, Int.toNat_natCast, hz, HIL.out, decide_eq_true v2]; rfl
        have cz := HI.out.cell hz
        have hyl : y < nv := by omega
        clear hz HVB
        subst hvz
        have hin := HIN.out
        subst hNA
        go_enter Try.func25, Try.ntmps25
        go_wp2
        go_region
        go_wp2
        refine bodyPost_end (v := .tuple #[]) (by simp [results, Try.results25, go_sem]) rfl ?_
        exact ⟨rfl, HFIN.out⟩
      · have hvz : vb = false := by rw [HVB.out]; unfold vis6; rw [HIL.out, decide_eq_false v2]; simp
        clear HVB
        subst hvz
        have hin := HIN.out
        have v2b : decide (v < (nv : Int)) = false := decide_eq_false v2
        subst hNA
        go_enter Try.func25, Try.ntmps25
        go_wp2
        go_region
        go_wp2
        refine bodyPost_end (v := .tuple #[]) (by simp [results, Try.results25, go_sem]) rfl ?_
        exact ⟨rfl, HFIN.out⟩
    · have hvz : vb = false := by rw [HVB.out]; unfold vis6; rw [decide_eq_false v1]; rfl
      clear HVB
      subst hvz
      have hin := HIN.out
      have v1b : decide (0 ≤ v) = false := decide_eq_false v1
      subst hNA
      go_enter Try.func25, Try.ntmps25
      go_wp2
      go_region
      go_wp2
      refine bodyPost_end (v := .tuple #[]) (by simp [results, Try.results25, go_sem]) rfl ?_
      exact ⟨rfl, HFIN.out⟩
  · have e26 : (l.nd.kind == 26) = false := beq_eq_false_iff_ne.2 k26
    have HE : Hid (st6 (f.ns.map LN.nd) S (n, ins, loop) = S) := Lib.hid (by rw [HST.out, if_neg k26])
    clear k26
    have HX2 := Lib.hid (But.of_below (P := fun x => x = ga) (below_new W (.cells #[.int .i64 l.nd.kind, .int .i64 l.nd.line, .int .i64 l.nd.op, .int .i64 l.nd.num, .float .f64 l.nd.flt, .string l.nd.str, .slice l.ra l.nd.refs.length l.rc, .slice l.ka l.nd.kids.length l.kc] 52)))
    go_enter Try.func25, Try.ntmps25
    go_wp2
    refine bodyPost_end (v := .tuple #[]) (by simp [results, Try.results25, go_sem]) rfl ?_
    refine ⟨rfl, ?_, HX2.out⟩
    rw [HE.out]
    refine ⟨cells, HCB.out.alloc _, hcl, fun k s u hs hu => ?_⟩
    have := HCS.out k s u hs hu
    cases s with
    | none => exact this
    | some p =>
      obtain ⟨v, b⟩ := p
      obtain ⟨r, q1, q2, q3⟩ := this
      exact ⟨r, q1, q2, (HX2.out.block r (Array.getElem?_eq_some_iff.1 q3).1 (fun e => by subst e; have := HCB.out; unfold Blk at this; rw [this] at q3; cases q3)).trans q3⟩
end Go.Proofs.Ytcpjplkbmflglaa
namespace Go.Proofs.Ytcpjplkbmflglaa
open Go.RowKit
attribute [local go_sem] run_store_float
set_option linter.unusedVariables false
/-- What a new function closes over is not there. -/
def up8 (ins : List Bool) (nu : Nat) (p : Up) : Bool := if p.loc then decide (p.ix < 0) || (decide ((ins.length : Int) ≤ p.ix) || !((ins[p.ix.toNat]?).getD false)) else decide (p.ix < 0) || decide ((nu : Int) ≤ p.ix)
def st8 (fs : List Fd) (x : Fd) (bad : List Bool) (e : Ev) : List Bool :=
  let nd := ndAt x.nodes e.1
  if nd.kind = 37 then bad.set e.1 (!x.rest)
  else if nd.kind = 36 then bad.set e.1 ((bad[e.1]?).getD false || (fdAt fs (ref0 nd).toNat).ups.any (up8 e.2.1 x.ups.length))
  else bad
theorem set_get {l : List Bool} {n : Nat} {d : Bool} (h : l[n]? = some d) : l.set n d = l := List.ext_getElem? fun k => by
  by_cases e : n = k
  · subst e; rw [List.getElem?_set_self (List.getElem?_eq_some_iff.1 h).1, h]
  · rw [List.getElem?_set_ne e]
/-- The world of the loop over what is closed over. -/
structure W8 (W : World) (l : LN) (ga n : Nat) (bad : List Bool) (cur : Bool) (X : World) : Prop where
  nb : Blk X W.heap.size 52 #[.int .i64 l.nd.kind, .int .i64 l.nd.line, .int .i64 l.nd.op, .int .i64 l.nd.num, .float .f64 l.nd.flt, .string l.nd.str, .slice l.ra l.nd.refs.length l.rc, .slice l.ka l.nd.kids.length l.kc]
  ab : BB X ga (bad.set n cur)
  but : But (· = ga) W X
theorem W8.alloc {W X : World} {l : LN} {ga n : Nat} {bad : List Bool} {cur : Bool} (h : W8 W l ga n bad cur X) (o : Obj) : W8 W l ga n bad cur (X.alloc o).drew := ⟨(h.nb.alloc o), (h.ab.alloc o), (h.but.trans (But.of_below (below_new X o))).drew⟩
theorem W8.put {W X : World} {l : LN} {ga n : Nat} {bad : List Bool} {cur : Bool} (h : W8 W l ga n bad cur X) (hg : ga < W.heap.size) (v : Bool) : W8 W l ga n bad v (X.setCell ⟨ga, n, none⟩ (.bool v)) :=
  have hb : But (· = ga) X (X.setCell ⟨ga, n, none⟩ (.bool v)) := But.set (P := fun x => x = ga) (But.refl _ _) (show ga = ga from rfl) n _
  ⟨hb.blk h.nb (fun e => by omega), by have := h.ab.set_ n v; rwa [List.set_set] at this, h.but.trans hb⟩
set_option maxRecDepth 100000 in
set_option maxHeartbeats 8000000 in
theorem k28_any (A : Option Addr) (c : Nat) (fs : List LF) (f : LF) (p0 p1 p2 ga gi nv ci lo : Nat) (n : Nat) (ins : List Bool) (loop : Bool) (bad : List Bool) (W : World) (h0 : Blk W p0 47 #[.string f.name, .int .i64 f.line, .int .i64 f.params, .bool f.rest, .slice f.va f.vars.length f.vc, .slice f.ua f.ups.length f.uc, .slice f.na f.ns.length f.nc]) (h1 : Blk W p1 55 #[.slice (some ⟨ga, 0, none⟩) f.ns.length f.ns.length]) (h2 : Blk W p2 31 #[.slice A fs.length c]) (hr : RdF W lo A fs) (hm : f ∈ fs) (hlo : lo ≤ ga) (hloA : ga ≠ gi) (hfar : ∀ lo2 : Nat, lo2 ≤ W.heap.size → True) (ho : BB W ga bad) (hI : BB W gi ins) (hil : ins.length = nv) (hl : bad.length = f.ns.length) (hn : n < f.ns.length) (hfn : f.ns.length ≤ 1048576) (hfs : fs.length ≤ 1048576) (hvl : nv ≤ 1048576)
    (e0 : p0 ≠ ga) (e1 : p1 ≠ ga) (e2 : p2 ≠ ga) (B : Nat) (hB : Below B W W) (hrd : ∀ X, But (· = ga) W X → RdF X lo A fs) (hul : ∀ g ∈ fs, g.ups.length ≤ 200) (href : ∀ l, f.ns[n]? = some l → l.nd.kind = 36 → 0 < l.nd.refs.length ∧ 0 ≤ ref0 l.nd ∧ ref0 l.nd < fs.length) :
    Calls Try.prog 28 #[.int .i64 n, .slice (some ⟨gi, 0, none⟩) nv ci, .bool loop, .pointer (some ⟨p0, 0, none⟩), .pointer (some ⟨p1, 0, none⟩), .pointer (some ⟨p2, 0, none⟩)] W fun e W' => e = .returned (.tuple #[]) ∧ BB W' ga (st8 (fs.map LF.fd) f.fd bad (n, ins, loop)) ∧ But (· = ga) W W' := by
  obtain ⟨l, hll⟩ : ∃ l, f.ns[n]? = some l := ⟨_, List.getElem?_eq_getElem hn⟩
  have hrn := (hr.2 f hm).2.2
  obtain ⟨b, off, hna, -, hb, c0, c1, c2, c3, c4, c5, c6, c7, hok⟩ := rdN_at hrn hll
  have f3 := h0.cell 3
  have f5 := h0.cell 5
  have f6 := h0.cell 6
  have b0 := h1.cell 0
  have u0 := h2.cell 0
  simp at f3 f5 f6 b0 u0
  rw [hna] at f6
  have hq0 := h0.lt; have hq1 := h1.lt; have hq2 := h2.lt; have hq3 := ho.lt; have hq4 := hI.lt
  obtain ⟨d, hd⟩ : ∃ d, bad[n]? = some d := ⟨_, List.getElem?_eq_getElem (by omega)⟩
  have cd := ho.cell hd
  have fz := ho.fz n
  have hni : (n : Int) < f.ns.length := by omega
  have hdef : f.fd.nodes = f.ns.map LN.nd := rfl
  have HST : Hid (st8 (fs.map LF.fd) f.fd bad (n, ins, loop) = if l.nd.kind = 37 then bad.set n (!f.rest) else if l.nd.kind = 36 then bad.set n ((bad[n]?).getD false || (fdAt (fs.map LF.fd) (ref0 l.nd).toNat).ups.any (up8 ins f.ups.length)) else bad) := Lib.hid (by
    unfold st8
    simp only [hdef, nd_atD hll]
    rfl)
  have HO := Lib.hid ho; have HI := Lib.hid hI; have HD := Lib.hid hd; have HH0 := Lib.hid h0; have HH1 := Lib.hid h1; have HH2 := Lib.hid h2
  have HREF := Lib.hid (href l hll)
  have HRD := Lib.hid hrd; have HR := Lib.hid hr; have HOKR := Lib.hid hok.1; have HUL := Lib.hid hul; have HM := Lib.hid hm; have HIL := Lib.hid hil
  have HNA := Lib.hid hna
  clear h0 h1 h2 hr ho hI hna hd hll hrn hok href hdef hrd hul hm hB hfar hil
  by_cases k37 : l.nd.kind = 37
  · have e37 : (l.nd.kind == 37) = true := by rw [k37]; rfl
    have e36 : (l.nd.kind == 36) = false := by rw [k37]; rfl
    have HE : Hid (st8 (fs.map LF.fd) f.fd bad (n, ins, loop) = bad.set n (!f.rest)) := Lib.hid (by rw [HST.out, if_pos k37])
    clear k37
    have HB2 := Lib.hid ((HO.out.set_ n (!f.rest)).alloc (.cells #[.int .i64 l.nd.kind, .int .i64 l.nd.line, .int .i64 l.nd.op, .int .i64 l.nd.num, .float .f64 l.nd.flt, .string l.nd.str, .slice l.ra l.nd.refs.length l.rc, .slice l.ka l.nd.kids.length l.kc] 52))
    have HX2 := Lib.hid ((But.set (P := fun x => x = ga) (But.refl _ W) (show ga = ga from rfl) n (.bool (!f.rest))).trans (But.of_below (below_new _ (.cells #[.int .i64 l.nd.kind, .int .i64 l.nd.line, .int .i64 l.nd.op, .int .i64 l.nd.num, .float .f64 l.nd.flt, .string l.nd.str, .slice l.ra l.nd.refs.length l.rc, .slice l.ka l.nd.kids.length l.kc] 52))))
    go_enter Try.func28, Try.ntmps28
    go_wp2
    refine bodyPost_end (v := .tuple #[]) (by simp [results, Try.results28, go_sem]) rfl ?_
    exact ⟨rfl, by rw [HE.out]; exact HB2.out, HX2.out⟩
  · have e37 : (l.nd.kind == 37) = false := beq_eq_false_iff_ne.2 k37
    by_cases k36 : l.nd.kind = 36
    · have e36 : (l.nd.kind == 36) = true := by rw [k36]; rfl
      obtain ⟨r1, r2, r3⟩ := HREF.out k36
      obtain ⟨rf, hrf⟩ : ∃ rf, l.nd.refs[0]? = some rf := ⟨_, List.getElem?_eq_getElem r1⟩
      have hr0 : ref0 l.nd = rf := by unfold ref0; rw [hrf]; rfl
      rw [hr0] at r2 r3
      obtain ⟨g, rfl⟩ : ∃ g : Nat, rf = g := ⟨rf.toNat, by omega⟩
      obtain ⟨G, hG⟩ : ∃ G, fs[g]? = some G := ⟨_, List.getElem?_eq_getElem (by omega)⟩
      obtain ⟨b2, off2, hra, -, hb2, cr⟩ := rdI_at HOKR.out hrf
      obtain ⟨b3, off3, hA, -, hb3, -, -, -, -, -, g5, -, hokg⟩ := rdF_at HR.out hG
      have hgul := HUL.out G (List.mem_of_getElem? hG)
      have HE : Hid (st8 (fs.map LF.fd) f.fd bad (n, ins, loop) = bad.set n (d || G.ups.any (up8 ins f.ups.length))) := Lib.hid (by rw [HST.out, if_neg k37, if_pos k36, HD.out, hr0, Int.toNat_natCast, fd_at hG]; rfl)
      have HUP := Lib.hid hokg.2.1
      have HGM := Lib.hid (List.mem_of_getElem? hG)
      have hrl : (0 : Int) < l.nd.refs.length := by omega
      rw [hra] at c6
      rw [hA] at u0
      rw [Nat.add_zero] at cr
      have hgl : (g : Int) < fs.length := by omega
      have HW0 : Hid (W8 W l ga n bad d (W.alloc (.cells #[.int .i64 l.nd.kind, .int .i64 l.nd.line, .int .i64 l.nd.op, .int .i64 l.nd.num, .float .f64 l.nd.flt, .string l.nd.str, .slice l.ra l.nd.refs.length l.rc, .slice l.ka l.nd.kids.length l.kc] 52))) := Lib.hid ⟨Blk.new _ _ _, by rw [set_get HD.out]; exact HO.out.alloc _, But.of_below (below_new _ _)⟩
      have hxa : l.nd.refs.length ≠ 0 := by omega
      rw [hra] at HW0
      clear k37 k36 hrf hr0 hG hokg HREF
      go_enter Try.func28, Try.ntmps28
      go_wp2
      go_quiet (fail)
      go_wp2
      have HRA := Lib.hid hra; have HHA := Lib.hid hA
      clear c0 c1 c2 c3 c4 c5 c6 c7 cd fz cr g5 f3 u0 f6 b0 f5 hra hA
      go_loopw [39] (fun v wr => ∃ (p : Nat) (cur : Bool), p ≤ G.ups.length ∧ v = .int .i64 p ∧ cur = (d || (G.ups.take p).any (up8 ins f.ups.length)) ∧ Hid (W8 W l ga n bad cur wr)) (fun v _ => G.ups.length - (intOf v).toNat)
      case atStart => exact ⟨0, d, Nat.zero_le _, rfl, by simp, Lib.hid ⟨HW0.out.nb, HW0.out.ab, HW0.out.but.drewN _⟩⟩
      case round =>
        clear HW0
        obtain ⟨p, cur, hp, rfl, hcur, HW⟩ := hrel
        have HC := Lib.hid hcur
        clear hcur
        have hx0 := HW.out.nb.lt
        have hx2 := HW.out.but
        have hbx : BB wr ga (bad.set n cur) := HW.out.ab
        have d5 := (hx2.blk HH0.out e0).cell 5
        have a0 := (hx2.blk HH1.out e1).cell 0
        simp at d5 a0
        have hnl : n < bad.length := by omega
        have ca := hbx.cell (show (bad.set n cur)[n]? = some cur from List.getElem?_set_self hnl)
        have fa := hbx.fz n
        have hs2 := hx2.size
        have q0 : p0 < wr.heap.size := by omega
        have q1 : p1 < wr.heap.size := by omega
        have q3 : ga < wr.heap.size := by omega
        have q4 : gi < wr.heap.size := by omega
        by_cases hlt : p < G.ups.length
        · obtain ⟨u, hu⟩ : ∃ u, G.ups[p]? = some u := ⟨_, List.getElem?_eq_getElem hlt⟩
          have hupl := ((HRD.out _ hx2).2 G HGM.out).2.1
          obtain ⟨b4, off4, hua, -, hb4, cu0, cu1⟩ := rdU_at hupl hu
          have HTK : Hid ((d || (G.ups.take (p + 1)).any (up8 ins f.ups.length)) = (cur || up8 ins f.ups.length u)) := Lib.hid (by
            rw [List.take_add_one, hu, HC.out]
            simp [Bool.or_assoc])
          rw [hua]
          have hpl : ((p : Nat) : Int) < G.ups.length := by omega
          obtain ⟨loc, ix⟩ := u
          dsimp only at cu0 cu1 HTK
          have hgW : ga < W.heap.size := hq3
          clear hx2 hbx hu hupl hua
          cases loc with
          | true =>
            cases cur with
            | true =>
              have HE2 : Hid ((true || up8 ins f.ups.length ⟨true, ix⟩) = true) := Lib.hid (by simp)
              have HW2 := Lib.hid ((HW.out.put hgW true).alloc (.cells #[.bool true, .int .i64 ix] 60))
              go_wp2
              go_region
              go_wp2
              exact ⟨⟨p + 1, true, by omega, by go_num, (HTK.out.trans HE2.out).symm, HW2⟩, by simp [intOf]; omega⟩
            | false =>
              by_cases i1 : ix < 0
              · have i1b : decide (ix < 0) = true := decide_eq_true i1
                have HE2 : Hid ((false || up8 ins f.ups.length ⟨true, ix⟩) = true) := Lib.hid (by simp [up8, i1])
                have HW2 := Lib.hid ((HW.out.put hgW true).alloc (.cells #[.bool true, .int .i64 ix] 60))
                go_wp2
                go_region
                go_wp2
                exact ⟨⟨p + 1, true, by omega, by go_num, (HTK.out.trans HE2.out).symm, HW2⟩, by simp [intOf]; omega⟩
              · have i1b : decide (ix < 0) = false := decide_eq_false i1
                by_cases i2 : (nv : Int) ≤ ix
                · have i2b : decide ((nv : Int) ≤ ix) = true := decide_eq_true i2
                  have HE2 : Hid ((false || up8 ins f.ups.length ⟨true, ix⟩) = true) := Lib.hid (by simp [up8, i1, i2, HIL.out])
                  have HW2 := Lib.hid ((HW.out.put hgW true).alloc (.cells #[.bool true, .int .i64 ix] 60))
                  go_wp2
                  go_region
                  go_wp2
                  exact ⟨⟨p + 1, true, by omega, by go_num, (HTK.out.trans HE2.out).symm, HW2⟩, by simp [intOf]; omega⟩
                · have i2b : decide ((nv : Int) ≤ ix) = false := decide_eq_false i2
                  obtain ⟨y, rfl⟩ : ∃ y : Nat, ix = y := ⟨ix.toNat, by omega⟩
                  obtain ⟨z, hz⟩ : ∃ z, ins[y]? = some z := ⟨_, List.getElem?_eq_getElem (by have := HIL.out; omega)⟩
                  have cz : wr.cell? ⟨gi, y, none⟩ = some (.bool z) := (HI.out.but HW.out.but (by omega)).cell hz
                  have HZ := Lib.hid hz
                  have hyl : (y : Int) < nv := by omega
                  have hyn : decide (nv ≤ y) = false := decide_eq_false (by omega)
                  have hyn2 : y < nv := by omega
                  clear hz i2
                  cases z with
                  | true =>
                    have HE2 : Hid ((false || up8 ins f.ups.length ⟨true, (y : Int)⟩) = false) := Lib.hid (by have := HZ.out; have h4 : y < ins.length := (List.getElem?_eq_some_iff.1 this).1; simp [up8, h4]; exact (List.getElem?_eq_some_iff.1 this).2)
                    have HW2 := Lib.hid ((HW.out.put hgW false).alloc (.cells #[.bool true, .int .i64 (y : Int)] 60))
                    clear i1
                    go_wp2
                    go_region
                    go_wp2
                    exact ⟨⟨p + 1, false, by omega, by go_num, (HTK.out.trans HE2.out).symm, HW2⟩, by simp [intOf]; omega⟩
                  | false =>
                    have HE2 : Hid ((false || up8 ins f.ups.length ⟨true, (y : Int)⟩) = true) := Lib.hid (by have := HZ.out; simp [up8, this])
                    have HW2 := Lib.hid ((HW.out.put hgW true).alloc (.cells #[.bool true, .int .i64 (y : Int)] 60))
                    clear i1
                    go_wp2
                    go_region
                    go_wp2
                    exact ⟨⟨p + 1, true, by omega, by go_num, (HTK.out.trans HE2.out).symm, HW2⟩, by simp [intOf]; omega⟩
          | false =>
            cases cur with
            | true =>
              have HE2 : Hid ((true || up8 ins f.ups.length ⟨false, ix⟩) = true) := Lib.hid (by simp)
              have HW2 := Lib.hid ((HW.out.put hgW true).alloc (.cells #[.bool false, .int .i64 ix] 60))
              go_wp2
              go_region
              go_wp2
              exact ⟨⟨p + 1, true, by omega, by go_num, (HTK.out.trans HE2.out).symm, HW2⟩, by simp [intOf]; omega⟩
            | false =>
              by_cases i1 : ix < 0
              · have i1b : decide (ix < 0) = true := decide_eq_true i1
                have HE2 : Hid ((false || up8 ins f.ups.length ⟨false, ix⟩) = true) := Lib.hid (by simp [up8, i1])
                have HW2 := Lib.hid ((HW.out.put hgW true).alloc (.cells #[.bool false, .int .i64 ix] 60))
                go_wp2
                go_region
                go_wp2
                exact ⟨⟨p + 1, true, by omega, by go_num, (HTK.out.trans HE2.out).symm, HW2⟩, by simp [intOf]; omega⟩
              · have i1b : decide (ix < 0) = false := decide_eq_false i1
                by_cases i2 : (f.ups.length : Int) ≤ ix
                · have i2b : decide ((f.ups.length : Int) ≤ ix) = true := decide_eq_true i2
                  have HE2 : Hid ((false || up8 ins f.ups.length ⟨false, ix⟩) = true) := Lib.hid (by simp [up8, i1, i2])
                  have HW2 := Lib.hid ((HW.out.put hgW true).alloc (.cells #[.bool false, .int .i64 ix] 60))
                  go_wp2
                  go_region
                  go_wp2
                  exact ⟨⟨p + 1, true, by omega, by go_num, (HTK.out.trans HE2.out).symm, HW2⟩, by simp [intOf]; omega⟩
                · have i2b : decide ((f.ups.length : Int) ≤ ix) = false := decide_eq_false i2
                  have HE2 : Hid ((false || up8 ins f.ups.length ⟨false, ix⟩) = false) := Lib.hid (by simp [up8, i1, i2])
                  have HW2 := Lib.hid ((HW.out.put hgW false).alloc (.cells #[.bool false, .int .i64 ix] 60))
                  go_wp2
                  go_region
                  go_wp2
                  exact ⟨⟨p + 1, false, by omega, by go_num, (HTK.out.trans HE2.out).symm, HW2⟩, by simp [intOf]; omega⟩
        · have hpp : p = G.ups.length := by omega
          subst hpp
          have HF2 : Hid (bad.set n cur = st8 (fs.map LF.fd) f.fd bad (n, ins, loop)) := Lib.hid (by rw [HE.out, HC.out, List.take_length])
          clear hx2 hbx
          go_wp2
          refine bodyPost_end (v := .tuple #[]) (by simp [results, Try.results28, go_sem]) rfl ?_
          exact ⟨rfl, by rw [← HF2.out]; exact HW.out.ab, HW.out.but⟩
    · have e36 : (l.nd.kind == 36) = false := beq_eq_false_iff_ne.2 k36
      have HE : Hid (st8 (fs.map LF.fd) f.fd bad (n, ins, loop) = bad) := Lib.hid (by rw [HST.out, if_neg k37, if_neg k36])
      clear k37 k36
      have HX2 := Lib.hid (But.of_below (P := fun x => x = ga) (below_new W (.cells #[.int .i64 l.nd.kind, .int .i64 l.nd.line, .int .i64 l.nd.op, .int .i64 l.nd.num, .float .f64 l.nd.flt, .string l.nd.str, .slice l.ra l.nd.refs.length l.rc, .slice l.ka l.nd.kids.length l.kc] 52)))
      go_enter Try.func28, Try.ntmps28
      go_wp2
      refine bodyPost_end (v := .tuple #[]) (by simp [results, Try.results28, go_sem]) rfl ?_
      exact ⟨rfl, by rw [HE.out]; exact HO.out.alloc _, HX2.out⟩
end Go.Proofs.Ytcpjplkbmflglaa
