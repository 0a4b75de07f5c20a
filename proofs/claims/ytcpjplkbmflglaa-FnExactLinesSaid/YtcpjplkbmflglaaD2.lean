/- walk tells its trace. -/
import Derived.Test.YtcpjplkbmflglaaD0
import Derived.StillTailTactics
import Derived.Deep.LoopGhost
import Derived.Maps.AppendAt
namespace Go.Proofs.Ytcpjplkbmflglaa
open Go.RowKit
attribute [local go_sem] run_store_float
set_option linter.unusedVariables false
/-- What a walk over f leans on. -/
structure WkG (C : Nat) (caps : Array Value) (Inv : List Ev → World → Prop) (w0 : World) (lo : Nat) (f : LF) (gs gi ga nv ci : Nat) : Prop where
  base : ∀ evs W, Inv evs W → Below w0.heap.size w0 W
  rn : RdN w0 lo f.na f.ns
  sc : ∀ evs W, Inv evs W → Blk W gs 85 #[.string f.name, .int .i64 f.line, .int .i64 f.params, .bool f.rest, .slice f.va f.vars.length f.vc, .slice f.ua f.ups.length f.uc, .slice f.na f.ns.length f.nc, .slice (some ⟨gi, 0, none⟩) nv ci, .func (.func C) #[] caps]
  keep : ∀ evs W W', Inv evs W → But (· = gi) W W' → Inv evs W'
  see : ∀ evs W (n : Nat) ins loop, Inv evs W → BB W gi ins → ins.length = nv → n < f.ns.length → Calls Try.prog C (#[.int .i64 n, .slice (some ⟨gi, 0, none⟩) nv ci, .bool loop] ++ caps) W fun e W' => e = .returned (.tuple #[]) ∧ Inv (evs ++ [(n, ins, loop)]) W' ∧ But (· = ga) W W'
  soft : ∃ hi, (∀ evs W, Inv evs W → hi ≤ W.heap.size) ∧ ∀ evs W W', Inv evs W → But (Soft W gi hi) W W' → Inv evs W'
  cf : ∀ args W, (callFunc C args).run Try.prog W = .ok (.enter C args) W
  gal : ∀ evs W, Inv evs W → ga < W.heap.size
  gi0 : w0.heap.size ≤ gi
  ga0 : w0.heap.size ≤ ga
  gs0 : w0.heap.size ≤ gs
  ne1 : ga ≠ gi
  ne2 : gs ≠ gi
  ne3 : gs ≠ ga
  hn : f.ns.length ≤ 1048576
  hf : ∀ l ∈ f.ns, fitN l
  ia : InAll (f.ns.map LN.nd)
  lk : LoopKids (f.ns.map LN.nd)
  tk : ∀ (k : Nat) (n : Nd), (f.ns.map LN.nd)[k]? = some n → n.kind = 12 → n.kids.length = 2
  kc : ∀ l ∈ f.ns, l.nd.kids.length ≤ l.kc
  nvl : nv ≤ 1048576
def WalkAtG (C : Nat) (caps : Array Value) (Inv : List Ev → World → Prop) (f : LF) (gs gi ga nv fuel : Nat) : Prop := ∀ evs X (m : Nat) l ins loop, m < fuel → f.ns[m]? = some l → Inv evs X → BB X gi ins → ins.length = nv → Calls Try.prog 49 #[.pointer (some ⟨gs, 0, none⟩), .int .i64 m, .bool loop] X (WalkS Inv ga gi X (evs ++ traceN (f.ns.map LN.nd) fuel m ins loop) ins)
set_option maxRecDepth 100000 in
set_option maxHeartbeats 4000000 in
theorem wkdef_G {C : Nat} {caps : Array Value} {Inv : List Ev → World → Prop} {w0 : World} {lo : Nat} {f : LF} {gs gi ga nv ci fuel : Nat} (K : WkG C caps Inv w0 lo f gs gi ga nv ci) (ih : WalkAtG C caps Inv f gs gi ga nv fuel) (evs : List Ev) (W : World) (n : Nat) (l : LN) (ins : List Bool) (loop : Bool) (hnf : n < fuel + 1) (hl : f.ns[n]? = some l) (hI : Inv evs W) (hB : BB W gi ins) (hil : ins.length = nv) (hk1 : ¬ l.nd.kind = 1) (hk2 : ¬ (l.nd.kind = 6 ∨ l.nd.kind = 7 ∨ l.nd.kind = 8)) (hk3 : ¬ l.nd.kind = 12) :
    Calls Try.prog 49 #[.pointer (some ⟨gs, 0, none⟩), .int .i64 n, .bool loop] W (WalkS Inv ga gi W (evs ++ traceN (f.ns.map LN.nd) (fuel + 1) n ins loop) ins) := by
  have IH := Lib.hid ih
  clear ih
  have hbel := K.base _ _ hI
  have hsc := K.sc _ _ hI
  have hnl := (List.getElem?_eq_some_iff.1 hl).1
  have HL := Lib.hid hl
  have hgs := hsc.lt
  have hgi := hB.lt
  obtain ⟨b, off, hna, hlo, hb, c0, c1, c2, c3, c4, c5, c6, c7, hok⟩ := rdN_at (K.rn.below hbel) hl
  have s6 := hsc.cell 6
  have s7 := hsc.cell 7
  have s8 := hsc.cell 8
  simp at s6 s7 s8
  rw [hna] at s6
  have hni : (n : Int) < f.ns.length := by omega
  have q1 : gs < W.heap.size + 1 := by omega
  have q2 : b < W.heap.size + 1 := by omega
  have hga := K.gal _ _ hI
  have hcf := K.cf
  have hne3 := K.ne3
  have KH := Lib.hid K
  have HB := Lib.hid hB
  clear hsc hna hok hbel K hB
  go_enter Try.func49, Try.ntmps49
  go_wp2
  have HI := Lib.hid hI
  clear hI
  go_region_held3 (fun w' => w'.cell? ⟨W.heap.size, 0, none⟩ = some (.pointer (some ⟨gs, 0, none⟩)) ∧ w'.cell? ⟨gs, 7, none⟩ = some (.slice (some ⟨gi, 0, none⟩) nv ci) ∧ w'.cell? ⟨gs, 8, none⟩ = some (.func (.func C) #[] caps)) (simp [go_sem, *]) ((refine (KH.out.see evs _ n ins loop (by exact KH.out.keep _ _ _ HI.out (But.of_below (by exact (below_new2 _ _ _).drew))) (by exact ((HB.out.alloc _).alloc _).drew) hil hnl).mono ?_; rintro e w1 ⟨rfl, hI1, hbut1⟩; have x0 : w1.cell? ⟨W.heap.size, 0, none⟩ = some (.pointer (some ⟨gs, 0, none⟩)) := (hbut1.cell (by simp; omega) (by omega)).trans (by simp [go_sem]); have x7 : w1.cell? ⟨gs, 7, none⟩ = some (.slice (some ⟨gi, 0, none⟩) nv ci) := (hbut1.cell (by simp; omega) (by omega)).trans (by simp [go_sem, *]); have x8 : w1.cell? ⟨gs, 8, none⟩ = some (.func (.func C) #[] caps) := (hbut1.cell (by simp; omega) (by omega)).trans (by simp [go_sem, *]); have hq1 : W.heap.size + 1 + 1 ≤ w1.heap.size := (by simpa [World.drew] using hbut1.size)))
  clear hcf
  have hxb := Lib.hid (hbut1.blk (show Blk (((W.alloc (.cells #[.pointer (some ⟨gs, 0, none⟩)] 83)).alloc (.cells #[.int .i64 l.nd.kind, .int .i64 l.nd.line, .int .i64 l.nd.op, .int .i64 l.nd.num, .float .f64 l.nd.flt, .string l.nd.str, .slice l.ra l.nd.refs.length l.rc, .slice l.ka l.nd.kids.length l.kc] 52)).drew) (W.heap.size + 1) 52 #[.int .i64 l.nd.kind, .int .i64 l.nd.line, .int .i64 l.nd.op, .int .i64 l.nd.num, .float .f64 l.nd.flt, .string l.nd.str, .slice l.ra l.nd.refs.length l.rc, .slice l.ka l.nd.kids.length l.kc] from Blk.new_at (by simp)) (by omega))
  have hBI := hbut1.blk (show Blk (((W.alloc (.cells #[.pointer (some ⟨gs, 0, none⟩)] 83)).alloc (.cells #[.int .i64 l.nd.kind, .int .i64 l.nd.line, .int .i64 l.nd.op, .int .i64 l.nd.num, .float .f64 l.nd.flt, .string l.nd.str, .slice l.ra l.nd.refs.length l.rc, .slice l.ka l.nd.kids.length l.kc] 52)).drew) gi 4 (ins.map Value.bool).toArray from (HB.out.alloc _).alloc _) (by have := KH.out.ne1; omega)
  have HBI : Hid (BB w1 gi ins) := Lib.hid hBI
  have HI1 := Lib.hid hI1
  have hmapl : (ins.map Value.bool).length = nv * 1 := by rw [List.length_map, hil, Nat.mul_one]
  have hcellsI : ∀ j u, (ins.map Value.bool)[j]? = some u → w1.cell? ((⟨gi, 0, none⟩ : Addr).add j) = some u := fun j u hu => by
    rw [addr_addH, hBI.cell]
    simpa using hu
  have honeI : ∀ u ∈ ins.map Value.bool, u.oneCell' = true := fun u hu => by
    obtain ⟨x, -, rfl⟩ := List.mem_map.1 hu
    rfl
  obtain ⟨cells, hcse⟩ : ∃ cells, cells = ins.map Value.bool := ⟨_, rfl⟩
  rw [← hcse] at hmapl hcellsI honeI
  have HCS := Lib.hid hcse
  have HCI := Lib.hid hcellsI; have HON := Lib.hid honeI; have HML := Lib.hid hmapl
  have hnv := KH.out.nvl
  have hown0 : w1.ownsRow w1.heap.size 4 1 (.slice none 0 0) 0 [] := ⟨by simp, .inl ⟨rfl, rfl⟩⟩
  have HOW := Lib.hid hown0
  clear hcse hcellsI honeI hmapl hBI hI1 hown0
  obtain ⟨i0, hi, hz0, hz1, hz2⟩ := info_parts info4
  go_wp2_with (at_builtin; refine wpList_append_own _ rfl (.const (Value.slice none 0 0)) (.tmp 43) 55 rfl w1.heap.size 4 i0 (.bool false) 1 1 Try.underlying55 hi hz0 hz1 hz2 rfl (by decide) (.slice none 0 0) 0 [] rfl HOW.out ⟨gi, 0, none⟩ nv ci cells rfl HML.out HCI.out HON.out (by unfold maxLen; omega) (by omega) (Nat.le_refl _) ?_; intro v' w2 hown2 hgrow hnil; refine Hid.out ?_)
  refine Lib.hid ?_
  have hb2 : Below w1.heap.size w1 w2 := (But.of_grown hgrow).below (fun k h => by cases h) (Nat.le_refl _)
  simp only [Nat.zero_add, List.nil_append] at hown2
  have hfl : cells = ins.flatMap encB := by
    rw [HCS.out]
    exact flat_bool ins
  obtain ⟨oa, oc, hve, hro, -⟩ := ow_rd (enc := encB) (fun _ => rfl) (xs := ins) (by rw [hil, ← hfl]; exact hown2)
  rw [hil] at hve
  subst hve
  have HRO := Lib.hid hro
  have HB2 := Lib.hid hb2
  have hq2 := hb2.size
  obtain ⟨hc2, hf2⟩ := bcell hb2
  have hWL : Wl W gs gi ga nv l w2.heap.size oc w1.heap.size oa ins (w2.alloc (.cells #[.slice oa nv oc] 55)) :=
    ⟨((below_new w2 _).cell (p := ⟨W.heap.size, 0, none⟩) (by simp; omega)).trans ((hc2 _ _ (by omega)).trans x0),
     (Blk.below hxb.out hb2 (by have := hxb.out.lt; omega)).alloc _,
     (Blk.new w2 55 #[.slice oa nv oc]).cell 0,
     hro.alloc _,
     ((But.of_below (below_new2 W _ _)).drew.trans (hbut1.mono (fun k _ hk => .inl hk))).trans ((But.of_below hb2).trans (But.of_below (below_new w2 _))),
     hga, hgi, by omega, by omega, by simp, fun h0 g o e => by obtain ⟨b3, o3, e3, -, h3, -⟩ := hro h0; rw [e] at e3; injection e3 with e3; injection e3 with e3; omega⟩
  have HWL := Lib.hid hWL
  have HI2 := Lib.hid (KH.out.keep _ _ _ (KH.out.keep _ _ _ HI1.out (But.of_below hb2)) (But.of_below (below_new w2 (.cells #[.slice oa nv oc] 55))))
  have HBI2 := Lib.hid ((HBI.out.below hb2).alloc (.cells #[.slice oa nv oc] 55))
  have l0 : w2.cell? ⟨W.heap.size, 0, none⟩ = _ := (hc2 _ _ (by omega)).trans x0
  have hxb2 := Blk.below hxb.out hb2 (by have := hxb.out.lt; omega)
  obtain ⟨y0, y1, y2, y3, y4, y5, y6, y7⟩ := box8 hxb2
  have z1 : W.heap.size < w2.heap.size := by omega
  have z2 : W.heap.size + 1 < w2.heap.size := by omega
  clear hown2 hgrow hnil hfl hro hb2 hWL hc2 hf2 x0 x7 x8 hbut1 hxb2 c0 c1 c2 c3 c4 c5 c6 c7 s6 s7 s8
  have e1 : (l.nd.kind == 1) = false := beq_eq_false_iff_ne.2 hk1
  have e6 : (l.nd.kind == 6) = false := beq_eq_false_iff_ne.2 (fun h => hk2 (.inl h))
  have e7 : (l.nd.kind == 7) = false := beq_eq_false_iff_ne.2 (fun h => hk2 (.inr (.inl h)))
  have e8 : (l.nd.kind == 8) = false := beq_eq_false_iff_ne.2 (fun h => hk2 (.inr (.inr h)))
  have e12 : (l.nd.kind == 12) = false := beq_eq_false_iff_ne.2 hk3
  have HT : Hid (traceN (f.ns.map LN.nd) (fuel + 1) n ins loop = (n, ins, loop) :: l.nd.kids.flatMap (fun k => traceN (f.ns.map LN.nd) fuel k.toNat ins loop)) := by
    refine Lib.hid ?_
    simp only [traceN, nd_atD HL.out, if_neg hk1, if_neg hk2, if_neg hk3]
  have HKI := Lib.hid (KH.out.ia n l.nd (nd_at HL.out))
  have hkl := (KH.out.hf l (List.mem_of_getElem? HL.out)).2.2
  unfold maxLen at hkl
  have HRK := Lib.hid (KH.out.rn.2 l (List.mem_of_getElem? HL.out)).2
  clear hk1 hk2 hk3
  go_wp2
  go_loopw [51] (fun v wr => ∃ j : Nat, j ≤ l.nd.kids.length ∧ v = .int .i64 j ∧ Inv (evs ++ (n, ins, loop) :: (l.nd.kids.take j).flatMap (fun k => traceN (f.ns.map LN.nd) fuel k.toNat ins loop)) wr ∧ BB wr gi ins ∧ Wl W gs gi ga nv l w2.heap.size oc w1.heap.size oa ins wr) (fun v _ => l.nd.kids.length - (intOf v).toNat)
  case atStart => exact ⟨0, Nat.zero_le _, rfl, by simpa using HI2.out, HBI2.out, HWL.out⟩
  case round =>
    clear HI2 HBI2 HWL l0 y0 y1 y2 y3 y4 y5 y6 y7
    obtain ⟨j, hj, rfl, hIx, hBx, hW⟩ := hrel
    have HIX := Lib.hid hIx; have HBX := Lib.hid hBx; have HWX := Lib.hid hW
    have l0 := hW.sb
    by_cases hjl : j < l.nd.kids.length
    · obtain ⟨k, hk⟩ : ∃ k, l.nd.kids[j]? = some k := ⟨_, List.getElem?_eq_getElem hjl⟩
      obtain ⟨k0, k1⟩ := HKI.out k (List.mem_of_getElem? hk)
      obtain ⟨q, rfl⟩ : ∃ q : Nat, k = q := ⟨k.toNat, by omega⟩
      obtain ⟨l2, hl2⟩ : ∃ l, f.ns[q]? = some l := ⟨_, List.getElem?_eq_getElem (by omega)⟩
      have HL2 := Lib.hid hl2
      have hbx := KH.out.base _ _ hIx
      have HKT : Hid ((l.nd.kids.take (j + 1)).flatMap (fun k => traceN (f.ns.map LN.nd) fuel k.toNat ins loop) = (l.nd.kids.take j).flatMap (fun k => traceN (f.ns.map LN.nd) fuel k.toNat ins loop) ++ traceN (f.ns.map LN.nd) fuel q ins loop) := by
        refine Lib.hid ?_
        rw [List.take_add_one, hk]
        simp
      obtain ⟨b2, off2, hka, hlo2, hb2, cr⟩ := rdI_at (HRK.out.below hbx) hk
      rw [hka]
      have hql : ((j : Nat) : Int) < l.nd.kids.length := by omega
      have hqf : q < fuel := by omega
      clear hIx hBx hW hbx hk hka hl2
      go_wp2_with fail
      refine (IH.out _ _ q l2 ins loop hqf HL2.out HIX.out HBX.out hil).mono ?_
      rintro e w3 ⟨rfl, hI3, hB3, hbut3⟩
      have HI3 := Lib.hid hI3; have HB3 := Lib.hid hB3; have HW3 := Lib.hid (HWX.out.two hbut3)
      clear hI3 hB3 hbut3
      go_wp2
      exact ⟨⟨j + 1, by omega, by go_num, by rw [HKT.out]; simpa using HI3.out, HB3.out, HW3.out⟩, by simp [intOf]; omega⟩
    · have hjj : j = l.nd.kids.length := by omega
      subst hjj
      have HE : Hid (evs ++ (n, ins, loop) :: (l.nd.kids.take l.nd.kids.length).flatMap (fun k => traceN (f.ns.map LN.nd) fuel k.toNat ins loop) = evs ++ traceN (f.ns.map LN.nd) (fuel + 1) n ins loop) := by
        refine Lib.hid ?_
        rw [HT.out, List.take_length]
      clear hIx hBx hW hjl
      go_wp2
      refine bodyPost_end (v := .tuple #[]) (by simp [results, Try.results49, go_sem]) rfl ?_
      exact ⟨rfl, by rw [← HE.out]; exact HIX.out, HBX.out, HWX.out.but⟩
end Go.Proofs.Ytcpjplkbmflglaa
namespace Go.Proofs.Ytcpjplkbmflglaa
open Go.RowKit
attribute [local go_sem] run_store_float
set_option linter.unusedVariables false
set_option maxRecDepth 100000 in
set_option maxHeartbeats 4000000 in
theorem wk6_G {C : Nat} {caps : Array Value} {Inv : List Ev → World → Prop} {w0 : World} {lo : Nat} {f : LF} {gs gi ga nv ci fuel : Nat} (K : WkG C caps Inv w0 lo f gs gi ga nv ci) (ih : WalkAtG C caps Inv f gs gi ga nv fuel) (evs : List Ev) (W : World) (n : Nat) (l : LN) (ins : List Bool) (loop : Bool) (hnf : n < fuel + 1) (hl : f.ns[n]? = some l) (hI : Inv evs W) (hB : BB W gi ins) (hil : ins.length = nv) (hk : l.nd.kind = 6) :
    Calls Try.prog 49 #[.pointer (some ⟨gs, 0, none⟩), .int .i64 n, .bool loop] W (WalkS Inv ga gi W (evs ++ traceN (f.ns.map LN.nd) (fuel + 1) n ins loop) ins) := by
  have IH := Lib.hid ih
  clear ih
  have HK := Lib.hid hk
  clear hk
  have hbel := K.base _ _ hI
  have hsc := K.sc _ _ hI
  have hnl := (List.getElem?_eq_some_iff.1 hl).1
  have HL := Lib.hid hl
  have hgs := hsc.lt
  have hgi := hB.lt
  obtain ⟨b, off, hna, hlo, hb, c0, c1, c2, c3, c4, c5, c6, c7, hok⟩ := rdN_at (K.rn.below hbel) hl
  have s6 := hsc.cell 6
  have s7 := hsc.cell 7
  have s8 := hsc.cell 8
  simp at s6 s7 s8
  rw [hna] at s6
  have hni : (n : Int) < f.ns.length := by omega
  have q1 : gs < W.heap.size + 1 := by omega
  have q2 : b < W.heap.size + 1 := by omega
  have hga := K.gal _ _ hI
  have hcf := K.cf
  have hne3 := K.ne3
  have KH := Lib.hid K
  have HB := Lib.hid hB
  clear hsc hna hok hbel K hB
  go_enter Try.func49, Try.ntmps49
  go_wp2
  have HI := Lib.hid hI
  clear hI
  go_region_held3 (fun w' => w'.cell? ⟨W.heap.size, 0, none⟩ = some (.pointer (some ⟨gs, 0, none⟩)) ∧ w'.cell? ⟨gs, 7, none⟩ = some (.slice (some ⟨gi, 0, none⟩) nv ci) ∧ w'.cell? ⟨gs, 8, none⟩ = some (.func (.func C) #[] caps)) (simp [go_sem, *]) ((refine (KH.out.see evs _ n ins loop (by exact KH.out.keep _ _ _ HI.out (But.of_below (by exact (below_new2 _ _ _).drew))) (by exact ((HB.out.alloc _).alloc _).drew) hil hnl).mono ?_; rintro e w1 ⟨rfl, hI1, hbut1⟩; have x0 : w1.cell? ⟨W.heap.size, 0, none⟩ = some (.pointer (some ⟨gs, 0, none⟩)) := (hbut1.cell (by simp; omega) (by omega)).trans (by simp [go_sem]); have x7 : w1.cell? ⟨gs, 7, none⟩ = some (.slice (some ⟨gi, 0, none⟩) nv ci) := (hbut1.cell (by simp; omega) (by omega)).trans (by simp [go_sem, *]); have x8 : w1.cell? ⟨gs, 8, none⟩ = some (.func (.func C) #[] caps) := (hbut1.cell (by simp; omega) (by omega)).trans (by simp [go_sem, *]); have hq1 : W.heap.size + 1 + 1 ≤ w1.heap.size := (by simpa [World.drew] using hbut1.size)))
  clear hcf
  have hxb := Lib.hid (hbut1.blk (show Blk (((W.alloc (.cells #[.pointer (some ⟨gs, 0, none⟩)] 83)).alloc (.cells #[.int .i64 l.nd.kind, .int .i64 l.nd.line, .int .i64 l.nd.op, .int .i64 l.nd.num, .float .f64 l.nd.flt, .string l.nd.str, .slice l.ra l.nd.refs.length l.rc, .slice l.ka l.nd.kids.length l.kc] 52)).drew) (W.heap.size + 1) 52 #[.int .i64 l.nd.kind, .int .i64 l.nd.line, .int .i64 l.nd.op, .int .i64 l.nd.num, .float .f64 l.nd.flt, .string l.nd.str, .slice l.ra l.nd.refs.length l.rc, .slice l.ka l.nd.kids.length l.kc] from Blk.new_at (by simp)) (by omega))
  have hBI := hbut1.blk (show Blk (((W.alloc (.cells #[.pointer (some ⟨gs, 0, none⟩)] 83)).alloc (.cells #[.int .i64 l.nd.kind, .int .i64 l.nd.line, .int .i64 l.nd.op, .int .i64 l.nd.num, .float .f64 l.nd.flt, .string l.nd.str, .slice l.ra l.nd.refs.length l.rc, .slice l.ka l.nd.kids.length l.kc] 52)).drew) gi 4 (ins.map Value.bool).toArray from (HB.out.alloc _).alloc _) (by have := KH.out.ne1; omega)
  have HBI : Hid (BB w1 gi ins) := Lib.hid hBI
  have HI1 := Lib.hid hI1
  have hmapl : (ins.map Value.bool).length = nv * 1 := by rw [List.length_map, hil, Nat.mul_one]
  have hcellsI : ∀ j u, (ins.map Value.bool)[j]? = some u → w1.cell? ((⟨gi, 0, none⟩ : Addr).add j) = some u := fun j u hu => by
    rw [addr_addH, hBI.cell]
    simpa using hu
  have honeI : ∀ u ∈ ins.map Value.bool, u.oneCell' = true := fun u hu => by
    obtain ⟨x, -, rfl⟩ := List.mem_map.1 hu
    rfl
  obtain ⟨cells, hcse⟩ : ∃ cells, cells = ins.map Value.bool := ⟨_, rfl⟩
  rw [← hcse] at hmapl hcellsI honeI
  have HCS := Lib.hid hcse
  have HCI := Lib.hid hcellsI; have HON := Lib.hid honeI; have HML := Lib.hid hmapl
  have hnv := KH.out.nvl
  have hown0 : w1.ownsRow w1.heap.size 4 1 (.slice none 0 0) 0 [] := ⟨by simp, .inl ⟨rfl, rfl⟩⟩
  have HOW := Lib.hid hown0
  clear hcse hcellsI honeI hmapl hBI hI1 hown0
  obtain ⟨i0, hi, hz0, hz1, hz2⟩ := info_parts info4
  go_wp2_with (at_builtin; refine wpList_append_own _ rfl (.const (Value.slice none 0 0)) (.tmp 43) 55 rfl w1.heap.size 4 i0 (.bool false) 1 1 Try.underlying55 hi hz0 hz1 hz2 rfl (by decide) (.slice none 0 0) 0 [] rfl HOW.out ⟨gi, 0, none⟩ nv ci cells rfl HML.out HCI.out HON.out (by unfold maxLen; omega) (by omega) (Nat.le_refl _) ?_; intro v' w2 hown2 hgrow hnil; refine Hid.out ?_)
  refine Lib.hid ?_
  have hb2 : Below w1.heap.size w1 w2 := (But.of_grown hgrow).below (fun k h => by cases h) (Nat.le_refl _)
  simp only [Nat.zero_add, List.nil_append] at hown2
  have hfl : cells = ins.flatMap encB := by
    rw [HCS.out]
    exact flat_bool ins
  obtain ⟨oa, oc, hve, hro, -⟩ := ow_rd (enc := encB) (fun _ => rfl) (xs := ins) (by rw [hil, ← hfl]; exact hown2)
  rw [hil] at hve
  subst hve
  have HRO := Lib.hid hro
  have HB2 := Lib.hid hb2
  have hq2 := hb2.size
  obtain ⟨hc2, hf2⟩ := bcell hb2
  have hWL : Wl W gs gi ga nv l w2.heap.size oc w1.heap.size oa ins (w2.alloc (.cells #[.slice oa nv oc] 55)) :=
    ⟨((below_new w2 _).cell (p := ⟨W.heap.size, 0, none⟩) (by simp; omega)).trans ((hc2 _ _ (by omega)).trans x0),
     (Blk.below hxb.out hb2 (by have := hxb.out.lt; omega)).alloc _,
     (Blk.new w2 55 #[.slice oa nv oc]).cell 0,
     hro.alloc _,
     ((But.of_below (below_new2 W _ _)).drew.trans (hbut1.mono (fun k _ hk => .inl hk))).trans ((But.of_below hb2).trans (But.of_below (below_new w2 _))),
     hga, hgi, by omega, by omega, by simp, fun h0 g o e => by obtain ⟨b3, o3, e3, -, h3, -⟩ := hro h0; rw [e] at e3; injection e3 with e3; injection e3 with e3; omega⟩
  have HWL := Lib.hid hWL
  have HI2 := Lib.hid (KH.out.keep _ _ _ (KH.out.keep _ _ _ HI1.out (But.of_below hb2)) (But.of_below (below_new w2 (.cells #[.slice oa nv oc] 55))))
  have HBI2 := Lib.hid ((HBI.out.below hb2).alloc (.cells #[.slice oa nv oc] 55))
  have l0 : w2.cell? ⟨W.heap.size, 0, none⟩ = _ := (hc2 _ _ (by omega)).trans x0
  have hxb2 := Blk.below hxb.out hb2 (by have := hxb.out.lt; omega)
  obtain ⟨y0, y1, y2, y3, y4, y5, y6, y7⟩ := box8 hxb2
  have z1 : W.heap.size < w2.heap.size := by omega
  have z2 : W.heap.size + 1 < w2.heap.size := by omega
  clear hown2 hgrow hnil hfl hro hb2 hWL hc2 hf2 x0 x7 x8 hbut1 hxb2 c0 c1 c2 c3 c4 c5 c6 c7 s6 s7 s8
  have hk := HK.out
  have e1 : (l.nd.kind == 1) = false := by rw [hk]; rfl
  have e6 : (l.nd.kind == 6) = true := by rw [hk]; rfl
  have e7 : (l.nd.kind == 7) = false := by rw [hk]; rfl
  have e8 : (l.nd.kind == 8) = false := by rw [hk]; rfl
  have hkn := KH.out.lk n l.nd (nd_at HL.out) (by rw [hk]; decide)
  obtain ⟨m, hm⟩ : ∃ m, l.nd.kids.length = m + 1 := ⟨l.nd.kids.length - 1, by omega⟩
  obtain ⟨kl, hkl⟩ : ∃ k, l.nd.kids[m]? = some k := ⟨_, List.getElem?_eq_getElem (by omega)⟩
  have HT : Hid (traceN (f.ns.map LN.nd) (fuel + 1) n ins loop = (n, ins, loop) :: ((l.nd.kids.take m).flatMap (fun k => traceN (f.ns.map LN.nd) fuel k.toNat ins loop) ++ traceN (f.ns.map LN.nd) fuel kl.toNat (ins) true)) := by
    refine Lib.hid ?_
    simp [traceN, nd_atD HL.out, hk, hm]
    rw [(List.getElem?_eq_some_iff.1 hkl).2]
  have HKI := Lib.hid (KH.out.ia n l.nd (nd_at HL.out))
  have hkx := (KH.out.hf l (List.mem_of_getElem? HL.out)).2.2
  unfold maxLen at hkx
  have HRK := Lib.hid (KH.out.rn.2 l (List.mem_of_getElem? HL.out)).2
  have HRR := Lib.hid (KH.out.rn.2 l (List.mem_of_getElem? HL.out)).1
  have HKL := Lib.hid hkl
  have HM := Lib.hid hm
  have hkc := KH.out.kc l (List.mem_of_getElem? HL.out)
  rw [hm] at y7 hkx hkc
  have hmc : m ≤ l.kc := by omega
  have hmc2 : ((m : Nat) : Int) ≤ l.kc := by omega
  have hsl : (((m + 1 : Nat) : Int) - 1) = m := by omega
  clear hk hkn hkl hm
  go_wp2
  go_loopw [156] (fun v wr => ∃ j : Nat, j ≤ m ∧ v = .int .i64 j ∧ Inv (evs ++ (n, ins, loop) :: (l.nd.kids.take j).flatMap (fun k => traceN (f.ns.map LN.nd) fuel k.toNat ins loop)) wr ∧ BB wr gi ins ∧ Wl W gs gi ga nv l w2.heap.size oc w1.heap.size oa ins wr) (fun v _ => m - (intOf v).toNat)
  case atStart => exact ⟨0, Nat.zero_le _, rfl, by simpa using HI2.out, HBI2.out, HWL.out⟩
  case round =>
    clear HI2 HBI2 HWL l0 y0 y1 y2 y3 y4 y5 y6 y7
    obtain ⟨j, hj, rfl, hIx, hBx, hW⟩ := hrel
    have HIX := Lib.hid hIx; have HBX := Lib.hid hBx; have HWX := Lib.hid hW
    have l0 := hW.sb
    by_cases hjl : j < m
    · obtain ⟨k, hk⟩ : ∃ k, l.nd.kids[j]? = some k := ⟨_, List.getElem?_eq_getElem (by have := HM.out; omega)⟩
      obtain ⟨k0, k1⟩ := HKI.out k (List.mem_of_getElem? hk)
      obtain ⟨q, rfl⟩ : ∃ q : Nat, k = q := ⟨k.toNat, by omega⟩
      obtain ⟨l2, hl2⟩ : ∃ l, f.ns[q]? = some l := ⟨_, List.getElem?_eq_getElem (by omega)⟩
      have HL2 := Lib.hid hl2
      have hbx := KH.out.base _ _ hIx
      have HKT : Hid ((l.nd.kids.take (j + 1)).flatMap (fun k => traceN (f.ns.map LN.nd) fuel k.toNat ins loop) = (l.nd.kids.take j).flatMap (fun k => traceN (f.ns.map LN.nd) fuel k.toNat ins loop) ++ traceN (f.ns.map LN.nd) fuel q ins loop) := by
        refine Lib.hid ?_
        rw [List.take_add_one, hk]
        simp
      obtain ⟨b2, off2, hka, hlo2, hb2, cr⟩ := rdI_at (HRK.out.below hbx) hk
      rw [hka]
      have hql : ((j : Nat) : Int) < m := by omega
      have hqf : q < fuel := by omega
      clear hIx hBx hW hbx hk hka hl2
      go_wp2_with fail
      refine (IH.out _ _ q l2 ins loop hqf HL2.out HIX.out HBX.out hil).mono ?_
      rintro e w3 ⟨rfl, hI3, hB3, hbut3⟩
      have HI3 := Lib.hid hI3; have HB3 := Lib.hid hB3; have HW3 := Lib.hid (HWX.out.two hbut3)
      clear hI3 hB3 hbut3
      go_wp2
      exact ⟨⟨j + 1, by omega, by go_num, by rw [HKT.out]; simpa using HI3.out, HB3.out, HW3.out⟩, by simp [intOf]; omega⟩
    · have hjj : j = m := by omega
      subst hjj
      obtain ⟨y0, y1, y2, y3, y4, y5, y6, y7⟩ := box8 hW.xb
      have s7 := (KH.out.sc _ _ hIx).cell 7
      simp at s7
      obtain ⟨k0, k1⟩ := HKI.out kl (List.mem_of_getElem? HKL.out)
      obtain ⟨q, rfl⟩ : ∃ q : Nat, kl = q := ⟨kl.toNat, by omega⟩
      obtain ⟨l2, hl2⟩ : ∃ l, f.ns[q]? = some l := ⟨_, List.getElem?_eq_getElem (by omega)⟩
      have HL2 := Lib.hid hl2
      have hbx := KH.out.base _ _ hIx
      have hqf : q < fuel := by omega
      have HS7 := Lib.hid s7; have HY6 := Lib.hid y6; have HBXB := Lib.hid hbx
      clear hIx hBx hW hjl hl2 hbx
      have hB4 := HBX.out
      have hI4 := HIX.out
      have hW4 := HWX.out
      have hb4 := KH.out.base _ _ hI4
      obtain ⟨b2, off2, hka, hlo2, hb2, cr⟩ := rdI_at (HRK.out.below hb4) HKL.out
      obtain ⟨v0, v1, v2, v3, v4, v5, v6, v7⟩ := box8 hW4.xb
      rw [hka] at v7
      have u0 := hW4.sb
      have hb2w : b2 < w0.heap.size := by
        obtain ⟨b3, o3, e3, -, h3, -⟩ := HRK.out (by have := HM.out; omega)
        rw [hka] at e3; injection e3 with e3; injection e3 with e3; omega
      have HKA := Lib.hid hka
      have HI4 := Lib.hid hI4; have HW4 := Lib.hid hW4; have HB4 := Lib.hid hB4
      have hql : ((j : Nat) : Int) < l.nd.kids.length := by have := HM.out; omega
      have r1 : W.heap.size < wr.heap.size := by have := hW4.g4; have := hW4.g5; omega
      have r2 : W.heap.size + 1 < wr.heap.size := hW4.xb.lt
      clear hI4 hW4 hB4 hb4 hka l0 y0 y1 y2 y3 y4 y5 y6 y7 s7
      have hil4 : (ins).length = nv := hil
      go_wp2
      go_region_held3 (fun w' => w'.cell? ⟨W.heap.size, 0, none⟩ = some (.pointer (some ⟨gs, 0, none⟩)) ∧ w'.cell? ⟨W.heap.size + 1, 7, none⟩ = some (.slice (some ⟨b2, off2, none⟩) l.nd.kids.length l.kc) ∧ w'.cell? ⟨b2, off2 + j, none⟩ = some (.int .i64 q)) (simp [go_sem, *]) ((go_at_call 49; refine (IH.out _ _ q l2 (ins) true hqf HL2.out (by exact KH.out.keep _ _ _ HI4.out (But.of_below (by exact (Below.refl _ _).drew))) (by exact HB4.out) hil4).mono ?_; rintro e w5 ⟨rfl, hI5, hB5, hbut5⟩; have hW5 := (HW4.out.two (But.of_below (by exact (Below.refl _ _).drew))).two hbut5; have t0 := hW5.sb; have t7 := (box8 hW5.xb).2.2.2.2.2.2.2; rw [HKA.out] at t7; have tk := (hbut5.cell (b := b2) (o := off2 + j) (by exact hb2) (by have := KH.out.gi0; have := KH.out.ga0; rintro (e | e) <;> omega)).trans (by exact cr)))
      have HI5 := Lib.hid hI5; have HB5 := Lib.hid hB5; have HW5 := Lib.hid hW5
      have s9 := (KH.out.sc _ _ hI5).cell 7
      simp at s9
      have x9 := (box8 hW5.xb).1
      have HS9 := Lib.hid s9
      clear hI5 hB5 hW5 hbut5 s9
      have HI6 := HI5; have HB6 := HB5; have HW6 := HW5
      go_wp2
      refine bodyPost_end (v := .tuple #[]) (by simp [results, Try.results49, go_sem]) rfl ?_
      refine ⟨rfl, ?_, HB6.out, HW6.out.but⟩
      rw [HT.out]
      simpa using HI6.out
set_option maxRecDepth 100000 in
set_option maxHeartbeats 4000000 in
theorem wk7_G {C : Nat} {caps : Array Value} {Inv : List Ev → World → Prop} {w0 : World} {lo : Nat} {f : LF} {gs gi ga nv ci fuel : Nat} (K : WkG C caps Inv w0 lo f gs gi ga nv ci) (ih : WalkAtG C caps Inv f gs gi ga nv fuel) (evs : List Ev) (W : World) (n : Nat) (l : LN) (ins : List Bool) (loop : Bool) (hnf : n < fuel + 1) (hl : f.ns[n]? = some l) (hI : Inv evs W) (hB : BB W gi ins) (hil : ins.length = nv) (hk : l.nd.kind = 7) :
    Calls Try.prog 49 #[.pointer (some ⟨gs, 0, none⟩), .int .i64 n, .bool loop] W (WalkS Inv ga gi W (evs ++ traceN (f.ns.map LN.nd) (fuel + 1) n ins loop) ins) := by
  have IH := Lib.hid ih
  clear ih
  have HK := Lib.hid hk
  clear hk
  have hbel := K.base _ _ hI
  have hsc := K.sc _ _ hI
  have hnl := (List.getElem?_eq_some_iff.1 hl).1
  have HL := Lib.hid hl
  have hgs := hsc.lt
  have hgi := hB.lt
  obtain ⟨b, off, hna, hlo, hb, c0, c1, c2, c3, c4, c5, c6, c7, hok⟩ := rdN_at (K.rn.below hbel) hl
  have s6 := hsc.cell 6
  have s7 := hsc.cell 7
  have s8 := hsc.cell 8
  simp at s6 s7 s8
  rw [hna] at s6
  have hni : (n : Int) < f.ns.length := by omega
  have q1 : gs < W.heap.size + 1 := by omega
  have q2 : b < W.heap.size + 1 := by omega
  have hga := K.gal _ _ hI
  have hcf := K.cf
  have hne3 := K.ne3
  have KH := Lib.hid K
  have HB := Lib.hid hB
  clear hsc hna hok hbel K hB
  go_enter Try.func49, Try.ntmps49
  go_wp2
  have HI := Lib.hid hI
  clear hI
  go_region_held3 (fun w' => w'.cell? ⟨W.heap.size, 0, none⟩ = some (.pointer (some ⟨gs, 0, none⟩)) ∧ w'.cell? ⟨gs, 7, none⟩ = some (.slice (some ⟨gi, 0, none⟩) nv ci) ∧ w'.cell? ⟨gs, 8, none⟩ = some (.func (.func C) #[] caps)) (simp [go_sem, *]) ((refine (KH.out.see evs _ n ins loop (by exact KH.out.keep _ _ _ HI.out (But.of_below (by exact (below_new2 _ _ _).drew))) (by exact ((HB.out.alloc _).alloc _).drew) hil hnl).mono ?_; rintro e w1 ⟨rfl, hI1, hbut1⟩; have x0 : w1.cell? ⟨W.heap.size, 0, none⟩ = some (.pointer (some ⟨gs, 0, none⟩)) := (hbut1.cell (by simp; omega) (by omega)).trans (by simp [go_sem]); have x7 : w1.cell? ⟨gs, 7, none⟩ = some (.slice (some ⟨gi, 0, none⟩) nv ci) := (hbut1.cell (by simp; omega) (by omega)).trans (by simp [go_sem, *]); have x8 : w1.cell? ⟨gs, 8, none⟩ = some (.func (.func C) #[] caps) := (hbut1.cell (by simp; omega) (by omega)).trans (by simp [go_sem, *]); have hq1 : W.heap.size + 1 + 1 ≤ w1.heap.size := (by simpa [World.drew] using hbut1.size)))
  clear hcf
  have hxb := Lib.hid (hbut1.blk (show Blk (((W.alloc (.cells #[.pointer (some ⟨gs, 0, none⟩)] 83)).alloc (.cells #[.int .i64 l.nd.kind, .int .i64 l.nd.line, .int .i64 l.nd.op, .int .i64 l.nd.num, .float .f64 l.nd.flt, .string l.nd.str, .slice l.ra l.nd.refs.length l.rc, .slice l.ka l.nd.kids.length l.kc] 52)).drew) (W.heap.size + 1) 52 #[.int .i64 l.nd.kind, .int .i64 l.nd.line, .int .i64 l.nd.op, .int .i64 l.nd.num, .float .f64 l.nd.flt, .string l.nd.str, .slice l.ra l.nd.refs.length l.rc, .slice l.ka l.nd.kids.length l.kc] from Blk.new_at (by simp)) (by omega))
  have hBI := hbut1.blk (show Blk (((W.alloc (.cells #[.pointer (some ⟨gs, 0, none⟩)] 83)).alloc (.cells #[.int .i64 l.nd.kind, .int .i64 l.nd.line, .int .i64 l.nd.op, .int .i64 l.nd.num, .float .f64 l.nd.flt, .string l.nd.str, .slice l.ra l.nd.refs.length l.rc, .slice l.ka l.nd.kids.length l.kc] 52)).drew) gi 4 (ins.map Value.bool).toArray from (HB.out.alloc _).alloc _) (by have := KH.out.ne1; omega)
  have HBI : Hid (BB w1 gi ins) := Lib.hid hBI
  have HI1 := Lib.hid hI1
  have hmapl : (ins.map Value.bool).length = nv * 1 := by rw [List.length_map, hil, Nat.mul_one]
  have hcellsI : ∀ j u, (ins.map Value.bool)[j]? = some u → w1.cell? ((⟨gi, 0, none⟩ : Addr).add j) = some u := fun j u hu => by
    rw [addr_addH, hBI.cell]
    simpa using hu
  have honeI : ∀ u ∈ ins.map Value.bool, u.oneCell' = true := fun u hu => by
    obtain ⟨x, -, rfl⟩ := List.mem_map.1 hu
    rfl
  obtain ⟨cells, hcse⟩ : ∃ cells, cells = ins.map Value.bool := ⟨_, rfl⟩
  rw [← hcse] at hmapl hcellsI honeI
  have HCS := Lib.hid hcse
  have HCI := Lib.hid hcellsI; have HON := Lib.hid honeI; have HML := Lib.hid hmapl
  have hnv := KH.out.nvl
  have hown0 : w1.ownsRow w1.heap.size 4 1 (.slice none 0 0) 0 [] := ⟨by simp, .inl ⟨rfl, rfl⟩⟩
  have HOW := Lib.hid hown0
  clear hcse hcellsI honeI hmapl hBI hI1 hown0
  obtain ⟨i0, hi, hz0, hz1, hz2⟩ := info_parts info4
  go_wp2_with (at_builtin; refine wpList_append_own _ rfl (.const (Value.slice none 0 0)) (.tmp 43) 55 rfl w1.heap.size 4 i0 (.bool false) 1 1 Try.underlying55 hi hz0 hz1 hz2 rfl (by decide) (.slice none 0 0) 0 [] rfl HOW.out ⟨gi, 0, none⟩ nv ci cells rfl HML.out HCI.out HON.out (by unfold maxLen; omega) (by omega) (Nat.le_refl _) ?_; intro v' w2 hown2 hgrow hnil; refine Hid.out ?_)
  refine Lib.hid ?_
  have hb2 : Below w1.heap.size w1 w2 := (But.of_grown hgrow).below (fun k h => by cases h) (Nat.le_refl _)
  simp only [Nat.zero_add, List.nil_append] at hown2
  have hfl : cells = ins.flatMap encB := by
    rw [HCS.out]
    exact flat_bool ins
  obtain ⟨oa, oc, hve, hro, -⟩ := ow_rd (enc := encB) (fun _ => rfl) (xs := ins) (by rw [hil, ← hfl]; exact hown2)
  rw [hil] at hve
  subst hve
  have HRO := Lib.hid hro
  have HB2 := Lib.hid hb2
  have hq2 := hb2.size
  obtain ⟨hc2, hf2⟩ := bcell hb2
  have hWL : Wl W gs gi ga nv l w2.heap.size oc w1.heap.size oa ins (w2.alloc (.cells #[.slice oa nv oc] 55)) :=
    ⟨((below_new w2 _).cell (p := ⟨W.heap.size, 0, none⟩) (by simp; omega)).trans ((hc2 _ _ (by omega)).trans x0),
     (Blk.below hxb.out hb2 (by have := hxb.out.lt; omega)).alloc _,
     (Blk.new w2 55 #[.slice oa nv oc]).cell 0,
     hro.alloc _,
     ((But.of_below (below_new2 W _ _)).drew.trans (hbut1.mono (fun k _ hk => .inl hk))).trans ((But.of_below hb2).trans (But.of_below (below_new w2 _))),
     hga, hgi, by omega, by omega, by simp, fun h0 g o e => by obtain ⟨b3, o3, e3, -, h3, -⟩ := hro h0; rw [e] at e3; injection e3 with e3; injection e3 with e3; omega⟩
  have HWL := Lib.hid hWL
  have HI2 := Lib.hid (KH.out.keep _ _ _ (KH.out.keep _ _ _ HI1.out (But.of_below hb2)) (But.of_below (below_new w2 (.cells #[.slice oa nv oc] 55))))
  have HBI2 := Lib.hid ((HBI.out.below hb2).alloc (.cells #[.slice oa nv oc] 55))
  have l0 : w2.cell? ⟨W.heap.size, 0, none⟩ = _ := (hc2 _ _ (by omega)).trans x0
  have hxb2 := Blk.below hxb.out hb2 (by have := hxb.out.lt; omega)
  obtain ⟨y0, y1, y2, y3, y4, y5, y6, y7⟩ := box8 hxb2
  have z1 : W.heap.size < w2.heap.size := by omega
  have z2 : W.heap.size + 1 < w2.heap.size := by omega
  clear hown2 hgrow hnil hfl hro hb2 hWL hc2 hf2 x0 x7 x8 hbut1 hxb2 c0 c1 c2 c3 c4 c5 c6 c7 s6 s7 s8
  have hk := HK.out
  have e1 : (l.nd.kind == 1) = false := by rw [hk]; rfl
  have e6 : (l.nd.kind == 6) = false := by rw [hk]; rfl
  have e7 : (l.nd.kind == 7) = true := by rw [hk]; rfl
  have e8 : (l.nd.kind == 8) = false := by rw [hk]; rfl
  have hkn := KH.out.lk n l.nd (nd_at HL.out) (by rw [hk]; decide)
  obtain ⟨m, hm⟩ : ∃ m, l.nd.kids.length = m + 1 := ⟨l.nd.kids.length - 1, by omega⟩
  obtain ⟨kl, hkl⟩ : ∃ k, l.nd.kids[m]? = some k := ⟨_, List.getElem?_eq_getElem (by omega)⟩
  have HT : Hid (traceN (f.ns.map LN.nd) (fuel + 1) n ins loop = (n, ins, loop) :: ((l.nd.kids.take m).flatMap (fun k => traceN (f.ns.map LN.nd) fuel k.toNat ins loop) ++ traceN (f.ns.map LN.nd) fuel kl.toNat (setR ins l.nd.refs) true)) := by
    refine Lib.hid ?_
    simp [traceN, nd_atD HL.out, hk, hm]
    rw [(List.getElem?_eq_some_iff.1 hkl).2]
  have HKI := Lib.hid (KH.out.ia n l.nd (nd_at HL.out))
  have hkx := (KH.out.hf l (List.mem_of_getElem? HL.out)).2.2
  unfold maxLen at hkx
  have HRK := Lib.hid (KH.out.rn.2 l (List.mem_of_getElem? HL.out)).2
  have HRR := Lib.hid (KH.out.rn.2 l (List.mem_of_getElem? HL.out)).1
  have HKL := Lib.hid hkl
  have HM := Lib.hid hm
  have hkc := KH.out.kc l (List.mem_of_getElem? HL.out)
  rw [hm] at y7 hkx hkc
  have hmc : m ≤ l.kc := by omega
  have hmc2 : ((m : Nat) : Int) ≤ l.kc := by omega
  have hsl : (((m + 1 : Nat) : Int) - 1) = m := by omega
  clear hk hkn hkl hm
  go_wp2
  go_loopw [156] (fun v wr => ∃ j : Nat, j ≤ m ∧ v = .int .i64 j ∧ Inv (evs ++ (n, ins, loop) :: (l.nd.kids.take j).flatMap (fun k => traceN (f.ns.map LN.nd) fuel k.toNat ins loop)) wr ∧ BB wr gi ins ∧ Wl W gs gi ga nv l w2.heap.size oc w1.heap.size oa ins wr) (fun v _ => m - (intOf v).toNat)
  case atStart => exact ⟨0, Nat.zero_le _, rfl, by simpa using HI2.out, HBI2.out, HWL.out⟩
  case round =>
    clear HI2 HBI2 HWL l0 y0 y1 y2 y3 y4 y5 y6 y7
    obtain ⟨j, hj, rfl, hIx, hBx, hW⟩ := hrel
    have HIX := Lib.hid hIx; have HBX := Lib.hid hBx; have HWX := Lib.hid hW
    have l0 := hW.sb
    by_cases hjl : j < m
    · obtain ⟨k, hk⟩ : ∃ k, l.nd.kids[j]? = some k := ⟨_, List.getElem?_eq_getElem (by have := HM.out; omega)⟩
      obtain ⟨k0, k1⟩ := HKI.out k (List.mem_of_getElem? hk)
      obtain ⟨q, rfl⟩ : ∃ q : Nat, k = q := ⟨k.toNat, by omega⟩
      obtain ⟨l2, hl2⟩ : ∃ l, f.ns[q]? = some l := ⟨_, List.getElem?_eq_getElem (by omega)⟩
      have HL2 := Lib.hid hl2
      have hbx := KH.out.base _ _ hIx
      have HKT : Hid ((l.nd.kids.take (j + 1)).flatMap (fun k => traceN (f.ns.map LN.nd) fuel k.toNat ins loop) = (l.nd.kids.take j).flatMap (fun k => traceN (f.ns.map LN.nd) fuel k.toNat ins loop) ++ traceN (f.ns.map LN.nd) fuel q ins loop) := by
        refine Lib.hid ?_
        rw [List.take_add_one, hk]
        simp
      obtain ⟨b2, off2, hka, hlo2, hb2, cr⟩ := rdI_at (HRK.out.below hbx) hk
      rw [hka]
      have hql : ((j : Nat) : Int) < m := by omega
      have hqf : q < fuel := by omega
      clear hIx hBx hW hbx hk hka hl2
      go_wp2_with fail
      refine (IH.out _ _ q l2 ins loop hqf HL2.out HIX.out HBX.out hil).mono ?_
      rintro e w3 ⟨rfl, hI3, hB3, hbut3⟩
      have HI3 := Lib.hid hI3; have HB3 := Lib.hid hB3; have HW3 := Lib.hid (HWX.out.two hbut3)
      clear hI3 hB3 hbut3
      go_wp2
      exact ⟨⟨j + 1, by omega, by go_num, by rw [HKT.out]; simpa using HI3.out, HB3.out, HW3.out⟩, by simp [intOf]; omega⟩
    · have hjj : j = m := by omega
      subst hjj
      obtain ⟨y0, y1, y2, y3, y4, y5, y6, y7⟩ := box8 hW.xb
      have s7 := (KH.out.sc _ _ hIx).cell 7
      simp at s7
      obtain ⟨k0, k1⟩ := HKI.out kl (List.mem_of_getElem? HKL.out)
      obtain ⟨q, rfl⟩ : ∃ q : Nat, kl = q := ⟨kl.toNat, by omega⟩
      obtain ⟨l2, hl2⟩ : ∃ l, f.ns[q]? = some l := ⟨_, List.getElem?_eq_getElem (by omega)⟩
      have HL2 := Lib.hid hl2
      have hbx := KH.out.base _ _ hIx
      have hqf : q < fuel := by omega
      have HS7 := Lib.hid s7; have HY6 := Lib.hid y6; have HBXB := Lib.hid hbx
      clear hIx hBx hW hjl hl2 hbx
      go_wp2_with fail
      have hs1 : W.heap.size ≠ gi := by omega
      have hs2 : W.heap.size + 1 ≠ gi := by omega
      have hfl := (KH.out.hf l (List.mem_of_getElem? HL.out)).2.1
      refine (setT_any W.heap.size w2.heap.size (W.heap.size + 1) gs gi nv ci lo l.ra l.nd.refs l.rc ins wr HWX.out.sb HS7.out HY6.out (HRR.out.below HBXB.out) HBX.out hil hs1 KH.out.ne2 hs2 (fun b o h0 e => by obtain ⟨b3, o3, e3, -, h3, -⟩ := HRR.out h0; rw [e] at e3; injection e3 with e3; injection e3 with e3; have := KH.out.gi0; omega) hfl hnv).mono ?_
      rintro e w4 ⟨rfl, hB4, hbut4⟩
      have hI4 := KH.out.keep _ _ _ HIX.out hbut4
      have hW4 := HWX.out.two (hbut4.mono (fun k _ h => .inr h))
      have hb4 := KH.out.base _ _ hI4
      obtain ⟨b2, off2, hka, hlo2, hb2, cr⟩ := rdI_at (HRK.out.below hb4) HKL.out
      obtain ⟨v0, v1, v2, v3, v4, v5, v6, v7⟩ := box8 hW4.xb
      rw [hka] at v7
      have u0 := hW4.sb
      have hb2w : b2 < w0.heap.size := by
        obtain ⟨b3, o3, e3, -, h3, -⟩ := HRK.out (by have := HM.out; omega)
        rw [hka] at e3; injection e3 with e3; injection e3 with e3; omega
      have HKA := Lib.hid hka
      have HI4 := Lib.hid hI4; have HW4 := Lib.hid hW4; have HB4 := Lib.hid hB4
      have hql : ((j : Nat) : Int) < l.nd.kids.length := by have := HM.out; omega
      have r1 : W.heap.size < w4.heap.size := by have := hW4.g4; have := hW4.g5; omega
      have r2 : W.heap.size + 1 < w4.heap.size := hW4.xb.lt
      clear hI4 hW4 hB4 hb4 hbut4 hka l0 y0 y1 y2 y3 y4 y5 y6 y7 s7
      have hil4 : (setR ins l.nd.refs).length = nv := by rw [setR_len]; exact hil
      go_wp2
      go_region_held3 (fun w' => w'.cell? ⟨W.heap.size, 0, none⟩ = some (.pointer (some ⟨gs, 0, none⟩)) ∧ w'.cell? ⟨W.heap.size + 1, 7, none⟩ = some (.slice (some ⟨b2, off2, none⟩) l.nd.kids.length l.kc) ∧ w'.cell? ⟨b2, off2 + j, none⟩ = some (.int .i64 q)) (simp [go_sem, *]) ((go_at_call 49; refine (IH.out _ _ q l2 (setR ins l.nd.refs) true hqf HL2.out (by exact KH.out.keep _ _ _ HI4.out (But.of_below (by exact (Below.refl _ _).drew))) (by exact HB4.out) hil4).mono ?_; rintro e w5 ⟨rfl, hI5, hB5, hbut5⟩; have hW5 := (HW4.out.two (But.of_below (by exact (Below.refl _ _).drew))).two hbut5; have t0 := hW5.sb; have t7 := (box8 hW5.xb).2.2.2.2.2.2.2; rw [HKA.out] at t7; have tk := (hbut5.cell (b := b2) (o := off2 + j) (by exact hb2) (by have := KH.out.gi0; have := KH.out.ga0; rintro (e | e) <;> omega)).trans (by exact cr)))
      have HI5 := Lib.hid hI5; have HB5 := Lib.hid hB5; have HW5 := Lib.hid hW5
      have s9 := (KH.out.sc _ _ hI5).cell 7
      simp at s9
      have x9 := (box8 hW5.xb).1
      have HS9 := Lib.hid s9
      clear hI5 hB5 hW5 hbut5 s9
      go_wp2_with fail
      refine (setF_any W.heap.size w2.heap.size (W.heap.size + 1) gs gi nv ci w1.heap.size oc oa ins (setR ins l.nd.refs) w5 HW5.out.sb HS9.out HW5.out.ob HW5.out.ol HB5.out hil4 hil hnv).mono ?_
      rintro e w6 ⟨rfl, hB6, hbut6⟩
      have HI6 := Lib.hid (KH.out.keep _ _ _ HI5.out hbut6)
      have HB6 := Lib.hid hB6
      have HW6 := Lib.hid (HW5.out.two (hbut6.mono (fun k _ h => .inr h)))
      clear hB6 hbut6
      go_wp2
      refine bodyPost_end (v := .tuple #[]) (by simp [results, Try.results49, go_sem]) rfl ?_
      refine ⟨rfl, ?_, HB6.out, HW6.out.but⟩
      rw [HT.out]
      simpa using HI6.out
set_option maxRecDepth 100000 in
set_option maxHeartbeats 4000000 in
theorem wk8_G {C : Nat} {caps : Array Value} {Inv : List Ev → World → Prop} {w0 : World} {lo : Nat} {f : LF} {gs gi ga nv ci fuel : Nat} (K : WkG C caps Inv w0 lo f gs gi ga nv ci) (ih : WalkAtG C caps Inv f gs gi ga nv fuel) (evs : List Ev) (W : World) (n : Nat) (l : LN) (ins : List Bool) (loop : Bool) (hnf : n < fuel + 1) (hl : f.ns[n]? = some l) (hI : Inv evs W) (hB : BB W gi ins) (hil : ins.length = nv) (hk : l.nd.kind = 8) :
    Calls Try.prog 49 #[.pointer (some ⟨gs, 0, none⟩), .int .i64 n, .bool loop] W (WalkS Inv ga gi W (evs ++ traceN (f.ns.map LN.nd) (fuel + 1) n ins loop) ins) := by
  have IH := Lib.hid ih
  clear ih
  have HK := Lib.hid hk
  clear hk
  have hbel := K.base _ _ hI
  have hsc := K.sc _ _ hI
  have hnl := (List.getElem?_eq_some_iff.1 hl).1
  have HL := Lib.hid hl
  have hgs := hsc.lt
  have hgi := hB.lt
  obtain ⟨b, off, hna, hlo, hb, c0, c1, c2, c3, c4, c5, c6, c7, hok⟩ := rdN_at (K.rn.below hbel) hl
  have s6 := hsc.cell 6
  have s7 := hsc.cell 7
  have s8 := hsc.cell 8
  simp at s6 s7 s8
  rw [hna] at s6
  have hni : (n : Int) < f.ns.length := by omega
  have q1 : gs < W.heap.size + 1 := by omega
  have q2 : b < W.heap.size + 1 := by omega
  have hga := K.gal _ _ hI
  have hcf := K.cf
  have hne3 := K.ne3
  have KH := Lib.hid K
  have HB := Lib.hid hB
  clear hsc hna hok hbel K hB
  go_enter Try.func49, Try.ntmps49
  go_wp2
  have HI := Lib.hid hI
  clear hI
  go_region_held3 (fun w' => w'.cell? ⟨W.heap.size, 0, none⟩ = some (.pointer (some ⟨gs, 0, none⟩)) ∧ w'.cell? ⟨gs, 7, none⟩ = some (.slice (some ⟨gi, 0, none⟩) nv ci) ∧ w'.cell? ⟨gs, 8, none⟩ = some (.func (.func C) #[] caps)) (simp [go_sem, *]) ((refine (KH.out.see evs _ n ins loop (by exact KH.out.keep _ _ _ HI.out (But.of_below (by exact (below_new2 _ _ _).drew))) (by exact ((HB.out.alloc _).alloc _).drew) hil hnl).mono ?_; rintro e w1 ⟨rfl, hI1, hbut1⟩; have x0 : w1.cell? ⟨W.heap.size, 0, none⟩ = some (.pointer (some ⟨gs, 0, none⟩)) := (hbut1.cell (by simp; omega) (by omega)).trans (by simp [go_sem]); have x7 : w1.cell? ⟨gs, 7, none⟩ = some (.slice (some ⟨gi, 0, none⟩) nv ci) := (hbut1.cell (by simp; omega) (by omega)).trans (by simp [go_sem, *]); have x8 : w1.cell? ⟨gs, 8, none⟩ = some (.func (.func C) #[] caps) := (hbut1.cell (by simp; omega) (by omega)).trans (by simp [go_sem, *]); have hq1 : W.heap.size + 1 + 1 ≤ w1.heap.size := (by simpa [World.drew] using hbut1.size)))
  clear hcf
  have hxb := Lib.hid (hbut1.blk (show Blk (((W.alloc (.cells #[.pointer (some ⟨gs, 0, none⟩)] 83)).alloc (.cells #[.int .i64 l.nd.kind, .int .i64 l.nd.line, .int .i64 l.nd.op, .int .i64 l.nd.num, .float .f64 l.nd.flt, .string l.nd.str, .slice l.ra l.nd.refs.length l.rc, .slice l.ka l.nd.kids.length l.kc] 52)).drew) (W.heap.size + 1) 52 #[.int .i64 l.nd.kind, .int .i64 l.nd.line, .int .i64 l.nd.op, .int .i64 l.nd.num, .float .f64 l.nd.flt, .string l.nd.str, .slice l.ra l.nd.refs.length l.rc, .slice l.ka l.nd.kids.length l.kc] from Blk.new_at (by simp)) (by omega))
  have hBI := hbut1.blk (show Blk (((W.alloc (.cells #[.pointer (some ⟨gs, 0, none⟩)] 83)).alloc (.cells #[.int .i64 l.nd.kind, .int .i64 l.nd.line, .int .i64 l.nd.op, .int .i64 l.nd.num, .float .f64 l.nd.flt, .string l.nd.str, .slice l.ra l.nd.refs.length l.rc, .slice l.ka l.nd.kids.length l.kc] 52)).drew) gi 4 (ins.map Value.bool).toArray from (HB.out.alloc _).alloc _) (by have := KH.out.ne1; omega)
  have HBI : Hid (BB w1 gi ins) := Lib.hid hBI
  have HI1 := Lib.hid hI1
  have hmapl : (ins.map Value.bool).length = nv * 1 := by rw [List.length_map, hil, Nat.mul_one]
  have hcellsI : ∀ j u, (ins.map Value.bool)[j]? = some u → w1.cell? ((⟨gi, 0, none⟩ : Addr).add j) = some u := fun j u hu => by
    rw [addr_addH, hBI.cell]
    simpa using hu
  have honeI : ∀ u ∈ ins.map Value.bool, u.oneCell' = true := fun u hu => by
    obtain ⟨x, -, rfl⟩ := List.mem_map.1 hu
    rfl
  obtain ⟨cells, hcse⟩ : ∃ cells, cells = ins.map Value.bool := ⟨_, rfl⟩
  rw [← hcse] at hmapl hcellsI honeI
  have HCS := Lib.hid hcse
  have HCI := Lib.hid hcellsI; have HON := Lib.hid honeI; have HML := Lib.hid hmapl
  have hnv := KH.out.nvl
  have hown0 : w1.ownsRow w1.heap.size 4 1 (.slice none 0 0) 0 [] := ⟨by simp, .inl ⟨rfl, rfl⟩⟩
  have HOW := Lib.hid hown0
  clear hcse hcellsI honeI hmapl hBI hI1 hown0
  obtain ⟨i0, hi, hz0, hz1, hz2⟩ := info_parts info4
  go_wp2_with (at_builtin; refine wpList_append_own _ rfl (.const (Value.slice none 0 0)) (.tmp 43) 55 rfl w1.heap.size 4 i0 (.bool false) 1 1 Try.underlying55 hi hz0 hz1 hz2 rfl (by decide) (.slice none 0 0) 0 [] rfl HOW.out ⟨gi, 0, none⟩ nv ci cells rfl HML.out HCI.out HON.out (by unfold maxLen; omega) (by omega) (Nat.le_refl _) ?_; intro v' w2 hown2 hgrow hnil; refine Hid.out ?_)
  refine Lib.hid ?_
  have hb2 : Below w1.heap.size w1 w2 := (But.of_grown hgrow).below (fun k h => by cases h) (Nat.le_refl _)
  simp only [Nat.zero_add, List.nil_append] at hown2
  have hfl : cells = ins.flatMap encB := by
    rw [HCS.out]
    exact flat_bool ins
  obtain ⟨oa, oc, hve, hro, -⟩ := ow_rd (enc := encB) (fun _ => rfl) (xs := ins) (by rw [hil, ← hfl]; exact hown2)
  rw [hil] at hve
  subst hve
  have HRO := Lib.hid hro
  have HB2 := Lib.hid hb2
  have hq2 := hb2.size
  obtain ⟨hc2, hf2⟩ := bcell hb2
  have hWL : Wl W gs gi ga nv l w2.heap.size oc w1.heap.size oa ins (w2.alloc (.cells #[.slice oa nv oc] 55)) :=
    ⟨((below_new w2 _).cell (p := ⟨W.heap.size, 0, none⟩) (by simp; omega)).trans ((hc2 _ _ (by omega)).trans x0),
     (Blk.below hxb.out hb2 (by have := hxb.out.lt; omega)).alloc _,
     (Blk.new w2 55 #[.slice oa nv oc]).cell 0,
     hro.alloc _,
     ((But.of_below (below_new2 W _ _)).drew.trans (hbut1.mono (fun k _ hk => .inl hk))).trans ((But.of_below hb2).trans (But.of_below (below_new w2 _))),
     hga, hgi, by omega, by omega, by simp, fun h0 g o e => by obtain ⟨b3, o3, e3, -, h3, -⟩ := hro h0; rw [e] at e3; injection e3 with e3; injection e3 with e3; omega⟩
  have HWL := Lib.hid hWL
  have HI2 := Lib.hid (KH.out.keep _ _ _ (KH.out.keep _ _ _ HI1.out (But.of_below hb2)) (But.of_below (below_new w2 (.cells #[.slice oa nv oc] 55))))
  have HBI2 := Lib.hid ((HBI.out.below hb2).alloc (.cells #[.slice oa nv oc] 55))
  have l0 : w2.cell? ⟨W.heap.size, 0, none⟩ = _ := (hc2 _ _ (by omega)).trans x0
  have hxb2 := Blk.below hxb.out hb2 (by have := hxb.out.lt; omega)
  obtain ⟨y0, y1, y2, y3, y4, y5, y6, y7⟩ := box8 hxb2
  have z1 : W.heap.size < w2.heap.size := by omega
  have z2 : W.heap.size + 1 < w2.heap.size := by omega
  clear hown2 hgrow hnil hfl hro hb2 hWL hc2 hf2 x0 x7 x8 hbut1 hxb2 c0 c1 c2 c3 c4 c5 c6 c7 s6 s7 s8
  have hk := HK.out
  have e1 : (l.nd.kind == 1) = false := by rw [hk]; rfl
  have e6 : (l.nd.kind == 6) = false := by rw [hk]; rfl
  have e7 : (l.nd.kind == 7) = false := by rw [hk]; rfl
  have e8 : (l.nd.kind == 8) = true := by rw [hk]; rfl
  have hkn := KH.out.lk n l.nd (nd_at HL.out) (by rw [hk]; decide)
  obtain ⟨m, hm⟩ : ∃ m, l.nd.kids.length = m + 1 := ⟨l.nd.kids.length - 1, by omega⟩
  obtain ⟨kl, hkl⟩ : ∃ k, l.nd.kids[m]? = some k := ⟨_, List.getElem?_eq_getElem (by omega)⟩
  have HT : Hid (traceN (f.ns.map LN.nd) (fuel + 1) n ins loop = (n, ins, loop) :: ((l.nd.kids.take m).flatMap (fun k => traceN (f.ns.map LN.nd) fuel k.toNat ins loop) ++ traceN (f.ns.map LN.nd) fuel kl.toNat (setR ins l.nd.refs) true)) := by
    refine Lib.hid ?_
    simp [traceN, nd_atD HL.out, hk, hm]
    rw [(List.getElem?_eq_some_iff.1 hkl).2]
  have HKI := Lib.hid (KH.out.ia n l.nd (nd_at HL.out))
  have hkx := (KH.out.hf l (List.mem_of_getElem? HL.out)).2.2
  unfold maxLen at hkx
  have HRK := Lib.hid (KH.out.rn.2 l (List.mem_of_getElem? HL.out)).2
  have HRR := Lib.hid (KH.out.rn.2 l (List.mem_of_getElem? HL.out)).1
  have HKL := Lib.hid hkl
  have HM := Lib.hid hm
  have hkc := KH.out.kc l (List.mem_of_getElem? HL.out)
  rw [hm] at y7 hkx hkc
  have hmc : m ≤ l.kc := by omega
  have hmc2 : ((m : Nat) : Int) ≤ l.kc := by omega
  have hsl : (((m + 1 : Nat) : Int) - 1) = m := by omega
  clear hk hkn hkl hm
  go_wp2
  go_loopw [156] (fun v wr => ∃ j : Nat, j ≤ m ∧ v = .int .i64 j ∧ Inv (evs ++ (n, ins, loop) :: (l.nd.kids.take j).flatMap (fun k => traceN (f.ns.map LN.nd) fuel k.toNat ins loop)) wr ∧ BB wr gi ins ∧ Wl W gs gi ga nv l w2.heap.size oc w1.heap.size oa ins wr) (fun v _ => m - (intOf v).toNat)
  case atStart => exact ⟨0, Nat.zero_le _, rfl, by simpa using HI2.out, HBI2.out, HWL.out⟩
  case round =>
    clear HI2 HBI2 HWL l0 y0 y1 y2 y3 y4 y5 y6 y7
    obtain ⟨j, hj, rfl, hIx, hBx, hW⟩ := hrel
    have HIX := Lib.hid hIx; have HBX := Lib.hid hBx; have HWX := Lib.hid hW
    have l0 := hW.sb
    by_cases hjl : j < m
    · obtain ⟨k, hk⟩ : ∃ k, l.nd.kids[j]? = some k := ⟨_, List.getElem?_eq_getElem (by have := HM.out; omega)⟩
      obtain ⟨k0, k1⟩ := HKI.out k (List.mem_of_getElem? hk)
      obtain ⟨q, rfl⟩ : ∃ q : Nat, k = q := ⟨k.toNat, by omega⟩
      obtain ⟨l2, hl2⟩ : ∃ l, f.ns[q]? = some l := ⟨_, List.getElem?_eq_getElem (by omega)⟩
      have HL2 := Lib.hid hl2
      have hbx := KH.out.base _ _ hIx
      have HKT : Hid ((l.nd.kids.take (j + 1)).flatMap (fun k => traceN (f.ns.map LN.nd) fuel k.toNat ins loop) = (l.nd.kids.take j).flatMap (fun k => traceN (f.ns.map LN.nd) fuel k.toNat ins loop) ++ traceN (f.ns.map LN.nd) fuel q ins loop) := by
        refine Lib.hid ?_
        rw [List.take_add_one, hk]
        simp
      obtain ⟨b2, off2, hka, hlo2, hb2, cr⟩ := rdI_at (HRK.out.below hbx) hk
      rw [hka]
      have hql : ((j : Nat) : Int) < m := by omega
      have hqf : q < fuel := by omega
      clear hIx hBx hW hbx hk hka hl2
      go_wp2_with fail
      refine (IH.out _ _ q l2 ins loop hqf HL2.out HIX.out HBX.out hil).mono ?_
      rintro e w3 ⟨rfl, hI3, hB3, hbut3⟩
      have HI3 := Lib.hid hI3; have HB3 := Lib.hid hB3; have HW3 := Lib.hid (HWX.out.two hbut3)
      clear hI3 hB3 hbut3
      go_wp2
      exact ⟨⟨j + 1, by omega, by go_num, by rw [HKT.out]; simpa using HI3.out, HB3.out, HW3.out⟩, by simp [intOf]; omega⟩
    · have hjj : j = m := by omega
      subst hjj
      obtain ⟨y0, y1, y2, y3, y4, y5, y6, y7⟩ := box8 hW.xb
      have s7 := (KH.out.sc _ _ hIx).cell 7
      simp at s7
      obtain ⟨k0, k1⟩ := HKI.out kl (List.mem_of_getElem? HKL.out)
      obtain ⟨q, rfl⟩ : ∃ q : Nat, kl = q := ⟨kl.toNat, by omega⟩
      obtain ⟨l2, hl2⟩ : ∃ l, f.ns[q]? = some l := ⟨_, List.getElem?_eq_getElem (by omega)⟩
      have HL2 := Lib.hid hl2
      have hbx := KH.out.base _ _ hIx
      have hqf : q < fuel := by omega
      have HS7 := Lib.hid s7; have HY6 := Lib.hid y6; have HBXB := Lib.hid hbx
      clear hIx hBx hW hjl hl2 hbx
      go_wp2_with fail
      have hs1 : W.heap.size ≠ gi := by omega
      have hs2 : W.heap.size + 1 ≠ gi := by omega
      have hfl := (KH.out.hf l (List.mem_of_getElem? HL.out)).2.1
      refine (setT_any W.heap.size w2.heap.size (W.heap.size + 1) gs gi nv ci lo l.ra l.nd.refs l.rc ins wr HWX.out.sb HS7.out HY6.out (HRR.out.below HBXB.out) HBX.out hil hs1 KH.out.ne2 hs2 (fun b o h0 e => by obtain ⟨b3, o3, e3, -, h3, -⟩ := HRR.out h0; rw [e] at e3; injection e3 with e3; injection e3 with e3; have := KH.out.gi0; omega) hfl hnv).mono ?_
      rintro e w4 ⟨rfl, hB4, hbut4⟩
      have hI4 := KH.out.keep _ _ _ HIX.out hbut4
      have hW4 := HWX.out.two (hbut4.mono (fun k _ h => .inr h))
      have hb4 := KH.out.base _ _ hI4
      obtain ⟨b2, off2, hka, hlo2, hb2, cr⟩ := rdI_at (HRK.out.below hb4) HKL.out
      obtain ⟨v0, v1, v2, v3, v4, v5, v6, v7⟩ := box8 hW4.xb
      rw [hka] at v7
      have u0 := hW4.sb
      have hb2w : b2 < w0.heap.size := by
        obtain ⟨b3, o3, e3, -, h3, -⟩ := HRK.out (by have := HM.out; omega)
        rw [hka] at e3; injection e3 with e3; injection e3 with e3; omega
      have HKA := Lib.hid hka
      have HI4 := Lib.hid hI4; have HW4 := Lib.hid hW4; have HB4 := Lib.hid hB4
      have hql : ((j : Nat) : Int) < l.nd.kids.length := by have := HM.out; omega
      have r1 : W.heap.size < w4.heap.size := by have := hW4.g4; have := hW4.g5; omega
      have r2 : W.heap.size + 1 < w4.heap.size := hW4.xb.lt
      clear hI4 hW4 hB4 hb4 hbut4 hka l0 y0 y1 y2 y3 y4 y5 y6 y7 s7
      have hil4 : (setR ins l.nd.refs).length = nv := by rw [setR_len]; exact hil
      go_wp2
      go_region_held3 (fun w' => w'.cell? ⟨W.heap.size, 0, none⟩ = some (.pointer (some ⟨gs, 0, none⟩)) ∧ w'.cell? ⟨W.heap.size + 1, 7, none⟩ = some (.slice (some ⟨b2, off2, none⟩) l.nd.kids.length l.kc) ∧ w'.cell? ⟨b2, off2 + j, none⟩ = some (.int .i64 q)) (simp [go_sem, *]) ((go_at_call 49; refine (IH.out _ _ q l2 (setR ins l.nd.refs) true hqf HL2.out (by exact KH.out.keep _ _ _ HI4.out (But.of_below (by exact (Below.refl _ _).drew))) (by exact HB4.out) hil4).mono ?_; rintro e w5 ⟨rfl, hI5, hB5, hbut5⟩; have hW5 := (HW4.out.two (But.of_below (by exact (Below.refl _ _).drew))).two hbut5; have t0 := hW5.sb; have t7 := (box8 hW5.xb).2.2.2.2.2.2.2; rw [HKA.out] at t7; have tk := (hbut5.cell (b := b2) (o := off2 + j) (by exact hb2) (by have := KH.out.gi0; have := KH.out.ga0; rintro (e | e) <;> omega)).trans (by exact cr)))
      have HI5 := Lib.hid hI5; have HB5 := Lib.hid hB5; have HW5 := Lib.hid hW5
      have s9 := (KH.out.sc _ _ hI5).cell 7
      simp at s9
      have x9 := (box8 hW5.xb).1
      have HS9 := Lib.hid s9
      clear hI5 hB5 hW5 hbut5 s9
      go_wp2_with fail
      refine (setF_any W.heap.size w2.heap.size (W.heap.size + 1) gs gi nv ci w1.heap.size oc oa ins (setR ins l.nd.refs) w5 HW5.out.sb HS9.out HW5.out.ob HW5.out.ol HB5.out hil4 hil hnv).mono ?_
      rintro e w6 ⟨rfl, hB6, hbut6⟩
      have HI6 := Lib.hid (KH.out.keep _ _ _ HI5.out hbut6)
      have HB6 := Lib.hid hB6
      have HW6 := Lib.hid (HW5.out.two (hbut6.mono (fun k _ h => .inr h)))
      clear hB6 hbut6
      go_wp2
      refine bodyPost_end (v := .tuple #[]) (by simp [results, Try.results49, go_sem]) rfl ?_
      refine ⟨rfl, ?_, HB6.out, HW6.out.but⟩
      rw [HT.out]
      simpa using HI6.out
end Go.Proofs.Ytcpjplkbmflglaa
namespace Go.Proofs.Ytcpjplkbmflglaa
open Go.RowKit
attribute [local go_sem] run_store_float
set_option linter.unusedVariables false
set_option maxRecDepth 100000 in
set_option maxHeartbeats 4000000 in
theorem wk12_G {C : Nat} {caps : Array Value} {Inv : List Ev → World → Prop} {w0 : World} {lo : Nat} {f : LF} {gs gi ga nv ci fuel : Nat} (K : WkG C caps Inv w0 lo f gs gi ga nv ci) (ih : WalkAtG C caps Inv f gs gi ga nv fuel) (evs : List Ev) (W : World) (n : Nat) (l : LN) (ins : List Bool) (loop : Bool) (hnf : n < fuel + 1) (hl : f.ns[n]? = some l) (hI : Inv evs W) (hB : BB W gi ins) (hil : ins.length = nv) (hk : l.nd.kind = 12) :
    Calls Try.prog 49 #[.pointer (some ⟨gs, 0, none⟩), .int .i64 n, .bool loop] W (WalkS Inv ga gi W (evs ++ traceN (f.ns.map LN.nd) (fuel + 1) n ins loop) ins) := by
  have IH := Lib.hid ih
  clear ih
  have HK := Lib.hid hk
  clear hk
  have hbel := K.base _ _ hI
  have hsc := K.sc _ _ hI
  have hnl := (List.getElem?_eq_some_iff.1 hl).1
  have HL := Lib.hid hl
  have hgs := hsc.lt
  have hgi := hB.lt
  obtain ⟨b, off, hna, hlo, hb, c0, c1, c2, c3, c4, c5, c6, c7, hok⟩ := rdN_at (K.rn.below hbel) hl
  have s6 := hsc.cell 6
  have s7 := hsc.cell 7
  have s8 := hsc.cell 8
  simp at s6 s7 s8
  rw [hna] at s6
  have hni : (n : Int) < f.ns.length := by omega
  have q1 : gs < W.heap.size + 1 := by omega
  have q2 : b < W.heap.size + 1 := by omega
  have hga := K.gal _ _ hI
  have hcf := K.cf
  have hne3 := K.ne3
  have KH := Lib.hid K
  have HB := Lib.hid hB
  clear hsc hna hok hbel K hB
  go_enter Try.func49, Try.ntmps49
  go_wp2
  have HI := Lib.hid hI
  clear hI
  go_region_held3 (fun w' => w'.cell? ⟨W.heap.size, 0, none⟩ = some (.pointer (some ⟨gs, 0, none⟩)) ∧ w'.cell? ⟨gs, 7, none⟩ = some (.slice (some ⟨gi, 0, none⟩) nv ci) ∧ w'.cell? ⟨gs, 8, none⟩ = some (.func (.func C) #[] caps)) (simp [go_sem, *]) ((refine (KH.out.see evs _ n ins loop (by exact KH.out.keep _ _ _ HI.out (But.of_below (by exact (below_new2 _ _ _).drew))) (by exact ((HB.out.alloc _).alloc _).drew) hil hnl).mono ?_; rintro e w1 ⟨rfl, hI1, hbut1⟩; have x0 : w1.cell? ⟨W.heap.size, 0, none⟩ = some (.pointer (some ⟨gs, 0, none⟩)) := (hbut1.cell (by simp; omega) (by omega)).trans (by simp [go_sem]); have x7 : w1.cell? ⟨gs, 7, none⟩ = some (.slice (some ⟨gi, 0, none⟩) nv ci) := (hbut1.cell (by simp; omega) (by omega)).trans (by simp [go_sem, *]); have x8 : w1.cell? ⟨gs, 8, none⟩ = some (.func (.func C) #[] caps) := (hbut1.cell (by simp; omega) (by omega)).trans (by simp [go_sem, *]); have hq1 : W.heap.size + 1 + 1 ≤ w1.heap.size := (by simpa [World.drew] using hbut1.size)))
  clear hcf
  have hxb := Lib.hid (hbut1.blk (show Blk (((W.alloc (.cells #[.pointer (some ⟨gs, 0, none⟩)] 83)).alloc (.cells #[.int .i64 l.nd.kind, .int .i64 l.nd.line, .int .i64 l.nd.op, .int .i64 l.nd.num, .float .f64 l.nd.flt, .string l.nd.str, .slice l.ra l.nd.refs.length l.rc, .slice l.ka l.nd.kids.length l.kc] 52)).drew) (W.heap.size + 1) 52 #[.int .i64 l.nd.kind, .int .i64 l.nd.line, .int .i64 l.nd.op, .int .i64 l.nd.num, .float .f64 l.nd.flt, .string l.nd.str, .slice l.ra l.nd.refs.length l.rc, .slice l.ka l.nd.kids.length l.kc] from Blk.new_at (by simp)) (by omega))
  have hBI := hbut1.blk (show Blk (((W.alloc (.cells #[.pointer (some ⟨gs, 0, none⟩)] 83)).alloc (.cells #[.int .i64 l.nd.kind, .int .i64 l.nd.line, .int .i64 l.nd.op, .int .i64 l.nd.num, .float .f64 l.nd.flt, .string l.nd.str, .slice l.ra l.nd.refs.length l.rc, .slice l.ka l.nd.kids.length l.kc] 52)).drew) gi 4 (ins.map Value.bool).toArray from (HB.out.alloc _).alloc _) (by have := KH.out.ne1; omega)
  have HBI : Hid (BB w1 gi ins) := Lib.hid hBI
  have HI1 := Lib.hid hI1
  have hmapl : (ins.map Value.bool).length = nv * 1 := by rw [List.length_map, hil, Nat.mul_one]
  have hcellsI : ∀ j u, (ins.map Value.bool)[j]? = some u → w1.cell? ((⟨gi, 0, none⟩ : Addr).add j) = some u := fun j u hu => by
    rw [addr_addH, hBI.cell]
    simpa using hu
  have honeI : ∀ u ∈ ins.map Value.bool, u.oneCell' = true := fun u hu => by
    obtain ⟨x, -, rfl⟩ := List.mem_map.1 hu
    rfl
  obtain ⟨cells, hcse⟩ : ∃ cells, cells = ins.map Value.bool := ⟨_, rfl⟩
  rw [← hcse] at hmapl hcellsI honeI
  have HCS := Lib.hid hcse
  have HCI := Lib.hid hcellsI; have HON := Lib.hid honeI; have HML := Lib.hid hmapl
  have hnv := KH.out.nvl
  have hown0 : w1.ownsRow w1.heap.size 4 1 (.slice none 0 0) 0 [] := ⟨by simp, .inl ⟨rfl, rfl⟩⟩
  have HOW := Lib.hid hown0
  clear hcse hcellsI honeI hmapl hBI hI1 hown0
  obtain ⟨i0, hi, hz0, hz1, hz2⟩ := info_parts info4
  go_wp2_with (at_builtin; refine wpList_append_own _ rfl (.const (Value.slice none 0 0)) (.tmp 43) 55 rfl w1.heap.size 4 i0 (.bool false) 1 1 Try.underlying55 hi hz0 hz1 hz2 rfl (by decide) (.slice none 0 0) 0 [] rfl HOW.out ⟨gi, 0, none⟩ nv ci cells rfl HML.out HCI.out HON.out (by unfold maxLen; omega) (by omega) (Nat.le_refl _) ?_; intro v' w2 hown2 hgrow hnil; refine Hid.out ?_)
  refine Lib.hid ?_
  have hb2 : Below w1.heap.size w1 w2 := (But.of_grown hgrow).below (fun k h => by cases h) (Nat.le_refl _)
  simp only [Nat.zero_add, List.nil_append] at hown2
  have hfl : cells = ins.flatMap encB := by
    rw [HCS.out]
    exact flat_bool ins
  obtain ⟨oa, oc, hve, hro, -⟩ := ow_rd (enc := encB) (fun _ => rfl) (xs := ins) (by rw [hil, ← hfl]; exact hown2)
  rw [hil] at hve
  subst hve
  have HRO := Lib.hid hro
  have HB2 := Lib.hid hb2
  have hq2 := hb2.size
  obtain ⟨hc2, hf2⟩ := bcell hb2
  have hWL : Wl W gs gi ga nv l w2.heap.size oc w1.heap.size oa ins (w2.alloc (.cells #[.slice oa nv oc] 55)) :=
    ⟨((below_new w2 _).cell (p := ⟨W.heap.size, 0, none⟩) (by simp; omega)).trans ((hc2 _ _ (by omega)).trans x0),
     (Blk.below hxb.out hb2 (by have := hxb.out.lt; omega)).alloc _,
     (Blk.new w2 55 #[.slice oa nv oc]).cell 0,
     hro.alloc _,
     ((But.of_below (below_new2 W _ _)).drew.trans (hbut1.mono (fun k _ hk => .inl hk))).trans ((But.of_below hb2).trans (But.of_below (below_new w2 _))),
     hga, hgi, by omega, by omega, by simp, fun h0 g o e => by obtain ⟨b3, o3, e3, -, h3, -⟩ := hro h0; rw [e] at e3; injection e3 with e3; injection e3 with e3; omega⟩
  have HWL := Lib.hid hWL
  have HI2 := Lib.hid (KH.out.keep _ _ _ (KH.out.keep _ _ _ HI1.out (But.of_below hb2)) (But.of_below (below_new w2 (.cells #[.slice oa nv oc] 55))))
  have HBI2 := Lib.hid ((HBI.out.below hb2).alloc (.cells #[.slice oa nv oc] 55))
  have l0 : w2.cell? ⟨W.heap.size, 0, none⟩ = _ := (hc2 _ _ (by omega)).trans x0
  have hxb2 := Blk.below hxb.out hb2 (by have := hxb.out.lt; omega)
  obtain ⟨y0, y1, y2, y3, y4, y5, y6, y7⟩ := box8 hxb2
  have z1 : W.heap.size < w2.heap.size := by omega
  have z2 : W.heap.size + 1 < w2.heap.size := by omega
  clear hown2 hgrow hnil hfl hro hb2 hWL hc2 hf2 x0 x7 x8 hbut1 hxb2 c0 c1 c2 c3 c4 c5 c6 c7 s6 s7 s8
  have hk := HK.out
  have e1 : (l.nd.kind == 1) = false := by rw [hk]; rfl
  have e6 : (l.nd.kind == 6) = false := by rw [hk]; rfl
  have e7 : (l.nd.kind == 7) = false := by rw [hk]; rfl
  have e8 : (l.nd.kind == 8) = false := by rw [hk]; rfl
  have e12 : (l.nd.kind == 12) = true := by rw [hk]; rfl
  have hm := KH.out.tk n l.nd (nd_at HL.out) hk
  obtain ⟨ka, hka0⟩ : ∃ k, l.nd.kids[0]? = some k := ⟨_, List.getElem?_eq_getElem (by omega)⟩
  obtain ⟨kb, hkb0⟩ : ∃ k, l.nd.kids[1]? = some k := ⟨_, List.getElem?_eq_getElem (by omega)⟩
  have HT : Hid (traceN (f.ns.map LN.nd) (fuel + 1) n ins loop = (n, ins, loop) :: (traceN (f.ns.map LN.nd) fuel ka.toNat ins loop ++ traceN (f.ns.map LN.nd) fuel kb.toNat (setR ins l.nd.refs) loop)) := by
    refine Lib.hid ?_
    simp only [traceN, nd_atD HL.out, hk, hka0, hkb0]
    simp
  have HKI := Lib.hid (KH.out.ia n l.nd (nd_at HL.out))
  have HRK := Lib.hid (KH.out.rn.2 l (List.mem_of_getElem? HL.out)).2
  have HRR := Lib.hid (KH.out.rn.2 l (List.mem_of_getElem? HL.out)).1
  have HKA0 := Lib.hid hka0; have HKB0 := Lib.hid hkb0; have HM := Lib.hid hm
  obtain ⟨a0, a1⟩ := HKI.out ka (List.mem_of_getElem? hka0)
  obtain ⟨b0, b1⟩ := HKI.out kb (List.mem_of_getElem? hkb0)
  obtain ⟨qa, rfl⟩ : ∃ q : Nat, ka = q := ⟨ka.toNat, by omega⟩
  obtain ⟨qb, rfl⟩ : ∃ q : Nat, kb = q := ⟨kb.toNat, by omega⟩
  obtain ⟨la, hla⟩ : ∃ l, f.ns[qa]? = some l := ⟨_, List.getElem?_eq_getElem (by omega)⟩
  obtain ⟨lb, hlb⟩ : ∃ l, f.ns[qb]? = some l := ⟨_, List.getElem?_eq_getElem (by omega)⟩
  have HL3 := Lib.hid hla; have HL5 := Lib.hid hlb
  have hqf3 : qa < fuel := by omega
  have hqf5 : qb < fuel := by omega
  have hlk0 : (0 : Int) < l.nd.kids.length := by omega
  have hlk1 : (1 : Int) < l.nd.kids.length := by omega
  have hln0 : 0 < l.nd.kids.length := by omega
  have hln1 : 1 < l.nd.kids.length := by omega
  clear hk hm hka0 hkb0 hla hlb
  go_wp2
  generalize w2.alloc (.cells #[.slice oa nv oc] 55) = X at *
  have hbx := KH.out.base _ _ HI2.out
  obtain ⟨b2, off2, hka, hlo2, hbz3, cr3⟩ := rdI_at (HRK.out.below hbx) HKA0.out
  have hb2w : b2 < w0.heap.size := by
    obtain ⟨b3, o3, e3, -, h3, -⟩ := HRK.out hln0
    rw [hka] at e3; injection e3 with e3; injection e3 with e3; omega
  have HKA := Lib.hid hka
  have u0 := HWL.out.sb
  have u7 := (box8 HWL.out.xb).2.2.2.2.2.2.2
  rw [hka] at u7
  rw [Nat.add_zero] at cr3
  have r1 : W.heap.size < X.heap.size := by have := HWL.out.g4; have := HWL.out.g5; omega
  have r2 : W.heap.size + 1 < X.heap.size := HWL.out.xb.lt
  clear hka hbx l0 y0 y1 y2 y3 y4 y5 y6 y7
  go_region_held3 (fun w' => w'.cell? ⟨W.heap.size, 0, none⟩ = some (.pointer (some ⟨gs, 0, none⟩)) ∧ w'.cell? ⟨W.heap.size + 1, 7, none⟩ = some (.slice (some ⟨b2, off2, none⟩) l.nd.kids.length l.kc) ∧ w'.cell? ⟨b2, off2, none⟩ = some (.int .i64 qa)) (simp [go_sem, *]) ((go_at_call 49; refine (IH.out _ _ qa la ins loop hqf3 HL3.out (by exact KH.out.keep _ _ _ HI2.out (But.of_below (by exact (Below.refl _ _).drew))) (by exact HBI2.out) hil).mono ?_; rintro e v3 ⟨rfl, hI3, hB3, hbut3⟩; have hW3 := (HWL.out.two (But.of_below (by exact (Below.refl _ _).drew))).two hbut3; have t0 := hW3.sb; have t7 := (box8 hW3.xb).2.2.2.2.2.2.2; rw [HKA.out] at t7; have tk := (hbut3.cell (b := b2) (o := off2) (by exact hbz3) (by have := KH.out.gi0; have := KH.out.ga0; rintro (e | e) <;> omega)).trans (by exact cr3)))
  have HI3 := Lib.hid hI3; have HB3 := Lib.hid hB3; have HW3 := Lib.hid hW3
  have s3 := (KH.out.sc _ _ hI3).cell 7
  simp at s3
  have HS3 := Lib.hid s3
  have y6_3 := (box8 hW3.xb).2.2.2.2.2.2.1
  have HY3 := Lib.hid y6_3
  clear hI3 hB3 hW3 hbut3 s3 t0 t7 tk y6_3
  go_wp2_with fail
  have hs1 : W.heap.size ≠ gi := by omega
  have hs2 : W.heap.size + 1 ≠ gi := by omega
  have hfl := (KH.out.hf l (List.mem_of_getElem? HL.out)).2.1
  refine (setT_any W.heap.size w2.heap.size (W.heap.size + 1) gs gi nv ci lo l.ra l.nd.refs l.rc ins v3 HW3.out.sb HS3.out HY3.out (HRR.out.below (KH.out.base _ _ HI3.out)) HB3.out hil hs1 KH.out.ne2 hs2 (fun b o h0 e => by obtain ⟨b3, o3, e3, -, h3, -⟩ := HRR.out h0; rw [e] at e3; injection e3 with e3; injection e3 with e3; have := KH.out.gi0; omega) hfl hnv).mono ?_
  rintro e w4 ⟨rfl, hB4, hbut4⟩
  have hI4 := KH.out.keep _ _ _ HI3.out hbut4
  have hW4 := HW3.out.two (hbut4.mono (fun k _ h => .inr h))
  have hb4 := KH.out.base _ _ hI4
  obtain ⟨b9, off9, hka, hlo9, hbz9, cr5⟩ := rdI_at (HRK.out.below hb4) HKB0.out
  rw [HKA.out] at hka
  injection hka with hka; injection hka with hka1 hka2
  subst hka1; subst hka2
  obtain ⟨v0, v1, v2, v3', v4, v5', v6, v7⟩ := box8 hW4.xb
  rw [HKA.out] at v7
  have t0 := hW4.sb
  have HI4 := Lib.hid hI4; have HW4 := Lib.hid hW4; have HB4 := Lib.hid hB4
  have hbz5 := hbz9
  have r3 : W.heap.size < w4.heap.size := by have := hW4.g4; have := hW4.g5; omega
  have r4 : W.heap.size + 1 < w4.heap.size := hW4.xb.lt
  have hil4 : (setR ins l.nd.refs).length = nv := by rw [setR_len]; exact hil
  clear hI4 hW4 hB4 hb4 hbut4 u0 u7 cr3
  go_wp2
  go_region_held3 (fun w' => w'.cell? ⟨W.heap.size, 0, none⟩ = some (.pointer (some ⟨gs, 0, none⟩)) ∧ w'.cell? ⟨W.heap.size + 1, 7, none⟩ = some (.slice (some ⟨b2, off2, none⟩) l.nd.kids.length l.kc) ∧ w'.cell? ⟨b2, off2 + 1, none⟩ = some (.int .i64 qb)) (simp [go_sem, *]) ((go_at_call 49; refine (IH.out _ _ qb lb (setR ins l.nd.refs) loop hqf5 HL5.out (by exact KH.out.keep _ _ _ HI4.out (But.of_below (by exact (Below.refl _ _).drew))) (by exact HB4.out) hil4).mono ?_; rintro e v5 ⟨rfl, hI5, hB5, hbut5⟩; have hW5 := (HW4.out.two (But.of_below (by exact (Below.refl _ _).drew))).two hbut5; have t0 := hW5.sb; have t7 := (box8 hW5.xb).2.2.2.2.2.2.2; rw [HKA.out] at t7; have tk := (hbut5.cell (b := b2) (o := off2 + 1) (by exact hbz5) (by have := KH.out.gi0; have := KH.out.ga0; rintro (e | e) <;> omega)).trans (by exact cr5)))
  have HI5 := Lib.hid hI5; have HB5 := Lib.hid hB5; have HW5 := Lib.hid hW5
  have s5 := (KH.out.sc _ _ hI5).cell 7
  simp at s5
  have HS5 := Lib.hid s5
  have y6_5 := (box8 hW5.xb).2.2.2.2.2.2.1
  have HY5 := Lib.hid y6_5
  clear hI5 hB5 hW5 hbut5 s5 t0 t7 tk y6_5
  go_wp2_with fail
  refine (setF_any W.heap.size w2.heap.size (W.heap.size + 1) gs gi nv ci w1.heap.size oc oa ins (setR ins l.nd.refs) v5 HW5.out.sb HS5.out HW5.out.ob HW5.out.ol HB5.out hil4 hil hnv).mono ?_
  rintro e w6 ⟨rfl, hB6, hbut6⟩
  have HI6 := Lib.hid (KH.out.keep _ _ _ HI5.out hbut6)
  have HB6 := Lib.hid hB6
  have HW6 := Lib.hid (HW5.out.two (hbut6.mono (fun k _ h => .inr h)))
  clear hB6 hbut6
  go_wp2
  refine bodyPost_end (v := .tuple #[]) (by simp [results, Try.results49, go_sem]) rfl ?_
  refine ⟨rfl, ?_, HB6.out, HW6.out.but⟩
  rw [HT.out]
  simpa using HI6.out
end Go.Proofs.Ytcpjplkbmflglaa
namespace Go.Proofs.Ytcpjplkbmflglaa
open Go.RowKit
attribute [local go_sem] run_store_float
set_option linter.unusedVariables false
set_option maxRecDepth 100000 in
set_option maxHeartbeats 4000000 in
theorem wk1_G {C : Nat} {caps : Array Value} {Inv : List Ev → World → Prop} {w0 : World} {lo : Nat} {f : LF} {gs gi ga nv ci fuel : Nat} (K : WkG C caps Inv w0 lo f gs gi ga nv ci) (ih : WalkAtG C caps Inv f gs gi ga nv fuel) (evs : List Ev) (W : World) (n : Nat) (l : LN) (ins : List Bool) (loop : Bool) (hnf : n < fuel + 1) (hl : f.ns[n]? = some l) (hI : Inv evs W) (hB : BB W gi ins) (hil : ins.length = nv) (hk : l.nd.kind = 1) :
    Calls Try.prog 49 #[.pointer (some ⟨gs, 0, none⟩), .int .i64 n, .bool loop] W (WalkS Inv ga gi W (evs ++ traceN (f.ns.map LN.nd) (fuel + 1) n ins loop) ins) := by
  have IH := Lib.hid ih
  clear ih
  have HK := Lib.hid hk
  clear hk
  have hbel := K.base _ _ hI
  have hsc := K.sc _ _ hI
  have hnl := (List.getElem?_eq_some_iff.1 hl).1
  have HL := Lib.hid hl
  have hgs := hsc.lt
  have hgi := hB.lt
  obtain ⟨b, off, hna, hlo, hb, c0, c1, c2, c3, c4, c5, c6, c7, hok⟩ := rdN_at (K.rn.below hbel) hl
  have s6 := hsc.cell 6
  have s7 := hsc.cell 7
  have s8 := hsc.cell 8
  simp at s6 s7 s8
  rw [hna] at s6
  have hni : (n : Int) < f.ns.length := by omega
  have q1 : gs < W.heap.size + 1 := by omega
  have q2 : b < W.heap.size + 1 := by omega
  have hga := K.gal _ _ hI
  have hcf := K.cf
  have hne3 := K.ne3
  have KH := Lib.hid K
  have HB := Lib.hid hB
  clear hsc hna hok hbel K hB
  go_enter Try.func49, Try.ntmps49
  go_wp2
  have HI := Lib.hid hI
  clear hI
  go_region_held3 (fun w' => w'.cell? ⟨W.heap.size, 0, none⟩ = some (.pointer (some ⟨gs, 0, none⟩)) ∧ w'.cell? ⟨gs, 7, none⟩ = some (.slice (some ⟨gi, 0, none⟩) nv ci) ∧ w'.cell? ⟨gs, 8, none⟩ = some (.func (.func C) #[] caps)) (simp [go_sem, *]) ((refine (KH.out.see evs _ n ins loop (by exact KH.out.keep _ _ _ HI.out (But.of_below (by exact (below_new2 _ _ _).drew))) (by exact ((HB.out.alloc _).alloc _).drew) hil hnl).mono ?_; rintro e w1 ⟨rfl, hI1, hbut1⟩; have x0 : w1.cell? ⟨W.heap.size, 0, none⟩ = some (.pointer (some ⟨gs, 0, none⟩)) := (hbut1.cell (by simp; omega) (by omega)).trans (by simp [go_sem]); have x7 : w1.cell? ⟨gs, 7, none⟩ = some (.slice (some ⟨gi, 0, none⟩) nv ci) := (hbut1.cell (by simp; omega) (by omega)).trans (by simp [go_sem, *]); have x8 : w1.cell? ⟨gs, 8, none⟩ = some (.func (.func C) #[] caps) := (hbut1.cell (by simp; omega) (by omega)).trans (by simp [go_sem, *]); have hq1 : W.heap.size + 1 + 1 ≤ w1.heap.size := (by simpa [World.drew] using hbut1.size)))
  clear hcf
  have hxb := Lib.hid (hbut1.blk (show Blk (((W.alloc (.cells #[.pointer (some ⟨gs, 0, none⟩)] 83)).alloc (.cells #[.int .i64 l.nd.kind, .int .i64 l.nd.line, .int .i64 l.nd.op, .int .i64 l.nd.num, .float .f64 l.nd.flt, .string l.nd.str, .slice l.ra l.nd.refs.length l.rc, .slice l.ka l.nd.kids.length l.kc] 52)).drew) (W.heap.size + 1) 52 #[.int .i64 l.nd.kind, .int .i64 l.nd.line, .int .i64 l.nd.op, .int .i64 l.nd.num, .float .f64 l.nd.flt, .string l.nd.str, .slice l.ra l.nd.refs.length l.rc, .slice l.ka l.nd.kids.length l.kc] from Blk.new_at (by simp)) (by omega))
  have hBI := hbut1.blk (show Blk (((W.alloc (.cells #[.pointer (some ⟨gs, 0, none⟩)] 83)).alloc (.cells #[.int .i64 l.nd.kind, .int .i64 l.nd.line, .int .i64 l.nd.op, .int .i64 l.nd.num, .float .f64 l.nd.flt, .string l.nd.str, .slice l.ra l.nd.refs.length l.rc, .slice l.ka l.nd.kids.length l.kc] 52)).drew) gi 4 (ins.map Value.bool).toArray from (HB.out.alloc _).alloc _) (by have := KH.out.ne1; omega)
  have HBI : Hid (BB w1 gi ins) := Lib.hid hBI
  have HI1 := Lib.hid hI1
  have hmapl : (ins.map Value.bool).length = nv * 1 := by rw [List.length_map, hil, Nat.mul_one]
  have hcellsI : ∀ j u, (ins.map Value.bool)[j]? = some u → w1.cell? ((⟨gi, 0, none⟩ : Addr).add j) = some u := fun j u hu => by
    rw [addr_addH, hBI.cell]
    simpa using hu
  have honeI : ∀ u ∈ ins.map Value.bool, u.oneCell' = true := fun u hu => by
    obtain ⟨x, -, rfl⟩ := List.mem_map.1 hu
    rfl
  obtain ⟨cells, hcse⟩ : ∃ cells, cells = ins.map Value.bool := ⟨_, rfl⟩
  rw [← hcse] at hmapl hcellsI honeI
  have HCS := Lib.hid hcse
  have HCI := Lib.hid hcellsI; have HON := Lib.hid honeI; have HML := Lib.hid hmapl
  have hnv := KH.out.nvl
  have hown0 : w1.ownsRow w1.heap.size 4 1 (.slice none 0 0) 0 [] := ⟨by simp, .inl ⟨rfl, rfl⟩⟩
  have HOW := Lib.hid hown0
  clear hcse hcellsI honeI hmapl hBI hI1 hown0
  obtain ⟨i0, hi, hz0, hz1, hz2⟩ := info_parts info4
  go_wp2_with (at_builtin; refine wpList_append_own _ rfl (.const (Value.slice none 0 0)) (.tmp 43) 55 rfl w1.heap.size 4 i0 (.bool false) 1 1 Try.underlying55 hi hz0 hz1 hz2 rfl (by decide) (.slice none 0 0) 0 [] rfl HOW.out ⟨gi, 0, none⟩ nv ci cells rfl HML.out HCI.out HON.out (by unfold maxLen; omega) (by omega) (Nat.le_refl _) ?_; intro v' w2 hown2 hgrow hnil; refine Hid.out ?_)
  refine Lib.hid ?_
  have hb2 : Below w1.heap.size w1 w2 := (But.of_grown hgrow).below (fun k h => by cases h) (Nat.le_refl _)
  simp only [Nat.zero_add, List.nil_append] at hown2
  have hfl : cells = ins.flatMap encB := by
    rw [HCS.out]
    exact flat_bool ins
  obtain ⟨oa, oc, hve, hro, -⟩ := ow_rd (enc := encB) (fun _ => rfl) (xs := ins) (by rw [hil, ← hfl]; exact hown2)
  rw [hil] at hve
  subst hve
  have HRO := Lib.hid hro
  have HB2 := Lib.hid hb2
  have hq2 := hb2.size
  obtain ⟨hc2, hf2⟩ := bcell hb2
  have hWL : Wl W gs gi ga nv l w2.heap.size oc w1.heap.size oa ins (w2.alloc (.cells #[.slice oa nv oc] 55)) :=
    ⟨((below_new w2 _).cell (p := ⟨W.heap.size, 0, none⟩) (by simp; omega)).trans ((hc2 _ _ (by omega)).trans x0),
     (Blk.below hxb.out hb2 (by have := hxb.out.lt; omega)).alloc _,
     (Blk.new w2 55 #[.slice oa nv oc]).cell 0,
     hro.alloc _,
     ((But.of_below (below_new2 W _ _)).drew.trans (hbut1.mono (fun k _ hk => .inl hk))).trans ((But.of_below hb2).trans (But.of_below (below_new w2 _))),
     hga, hgi, by omega, by omega, by simp, fun h0 g o e => by obtain ⟨b3, o3, e3, -, h3, -⟩ := hro h0; rw [e] at e3; injection e3 with e3; injection e3 with e3; omega⟩
  have HWL := Lib.hid hWL
  have HI2 := Lib.hid (KH.out.keep _ _ _ (KH.out.keep _ _ _ HI1.out (But.of_below hb2)) (But.of_below (below_new w2 (.cells #[.slice oa nv oc] 55))))
  have HBI2 := Lib.hid ((HBI.out.below hb2).alloc (.cells #[.slice oa nv oc] 55))
  have l0 : w2.cell? ⟨W.heap.size, 0, none⟩ = _ := (hc2 _ _ (by omega)).trans x0
  have hxb2 := Blk.below hxb.out hb2 (by have := hxb.out.lt; omega)
  obtain ⟨y0, y1, y2, y3, y4, y5, y6, y7⟩ := box8 hxb2
  have z1 : W.heap.size < w2.heap.size := by omega
  have z2 : W.heap.size + 1 < w2.heap.size := by omega
  clear hown2 hgrow hnil hfl hro hb2 hWL hc2 hf2 x0 x7 x8 hbut1 hxb2 c0 c1 c2 c3 c4 c5 c6 c7 s6 s7 s8
  have hk := HK.out
  have e1 : (l.nd.kind == 1) = true := by rw [hk]; rfl
  obtain ⟨F, hF⟩ : ∃ F, F = (fun (acc : List Ev × List Bool) (k : Int) => (acc.1 ++ traceN (f.ns.map LN.nd) fuel k.toNat acc.2 loop, if (ndAt (f.ns.map LN.nd) k.toNat).kind = 2 then setR acc.2 (ndAt (f.ns.map LN.nd) k.toNat).refs else acc.2)) := ⟨_, rfl⟩
  have HF := Lib.hid hF
  have HT : Hid (traceN (f.ns.map LN.nd) (fuel + 1) n ins loop = (n, ins, loop) :: (l.nd.kids.foldl F ([], ins)).1) := by
    refine Lib.hid ?_
    rw [hF]
    simp [traceN, nd_atD HL.out, hk]
  have HKI := Lib.hid (KH.out.ia n l.nd (nd_at HL.out))
  have hkl := (KH.out.hf l (List.mem_of_getElem? HL.out)).2.2
  unfold maxLen at hkl
  have HRK := Lib.hid (KH.out.rn.2 l (List.mem_of_getElem? HL.out)).2
  obtain ⟨hi0, HSZ, HSO⟩ := KH.out.soft
  have hih : hi0 ≤ (w2.heap.size + 1) := by have := HSZ _ _ HI2.out; simpa using this
  have HSO := Lib.hid HSO
  have hw1 : W.heap.size + 1 < w2.heap.size := by omega
  have hrow0 : OwM (w2.alloc (.cells #[.slice oa nv oc] 55)) (w2.heap.size + 1) (.slice none 0 0) [] := ⟨by simp, .inl ⟨rfl, rfl⟩⟩
  obtain ⟨BSZ, hbs⟩ : ∃ b, b = (w2.heap.size + 1) := ⟨_, rfl⟩
  rw [← hbs] at hih hrow0
  have HBS := Lib.hid hbs
  have HR0 := Lib.hid hrow0
  clear hk hF hi HSZ hz0 hz1 hz2 hrow0 hbs
  obtain ⟨i3, hi3, hy0, hy1, hy2⟩ := info_parts info3'
  go_wp2
  go_loopw [9, 65] (fun v9 v wr => ∃ (j : Nat) (M : List Nat) (T : List Ev) (cur : List Bool), j ≤ l.nd.kids.length ∧ v = .int .i64 j ∧ Hid ((l.nd.kids.take j).foldl F ([], ins) = (T, cur)) ∧ Hid (Inv (evs ++ (n, ins, loop) :: T) wr) ∧ Hid (BB wr gi cur) ∧ Hid (Mn ins M cur) ∧ Hid (OwM wr BSZ v9 M) ∧ Hid (Wl W gs gi ga nv l w2.heap.size oc w1.heap.size oa ins wr)) (fun _ v _ => l.nd.kids.length - (intOf v).toNat)
  case atStart => exact ⟨0, [], [], ins, Nat.zero_le _, rfl, Lib.hid rfl, HI2, HBI2, Lib.hid (Mn.start ins), HR0, HWL⟩
  case round =>
    clear HI2 HBI2 HWL l0 y0 y1 y2 y3 y4 y5 y6 y7 HR0
    obtain ⟨j, M, T, cur, hj, rfl, HS, HIX, HBX, HMX, HOX, HWX⟩ := hrel
    have l0 := HWX.out.sb
    obtain ⟨va, vc, rfl, -, -⟩ := ow_rd (enc := encQ) (fun _ => rfl) HOX.out
    by_cases hjl : j < l.nd.kids.length
    · obtain ⟨k, hk⟩ : ∃ k, l.nd.kids[j]? = some k := ⟨_, List.getElem?_eq_getElem hjl⟩
      obtain ⟨k0, k1⟩ := HKI.out k (List.mem_of_getElem? hk)
      obtain ⟨q, rfl⟩ : ∃ q : Nat, k = q := ⟨k.toNat, by omega⟩
      obtain ⟨l2, hl2⟩ : ∃ l, f.ns[q]? = some l := ⟨_, List.getElem?_eq_getElem (by omega)⟩
      have HL2 := Lib.hid hl2
      have hbx := KH.out.base _ _ HIX.out
      have HKT : Hid ((l.nd.kids.take (j + 1)).foldl F ([], ins) = (T ++ traceN (f.ns.map LN.nd) fuel q cur loop, if l2.nd.kind = 2 then setR cur l2.nd.refs else cur)) := by
        refine Lib.hid ?_
        rw [List.take_add_one, hk, List.foldl_append, HS.out, HF.out]
        simp [nd_atD hl2]
      obtain ⟨b2, off2, hka, hlo2, hb2, cr⟩ := rdI_at (HRK.out.below hbx) hk
      rw [hka]
      have hql : ((j : Nat) : Int) < l.nd.kids.length := by omega
      have hqf : q < fuel := by omega
      have hqn : q < f.ns.length := by omega
      have hqn2 : (q : Int) < f.ns.length := by omega
      have hcl : cur.length = nv := by rw [HMX.out.len]; exact hil
      have HCL := Lib.hid hcl
      clear hbx hk hka hl2 hcl
      go_wp2_with fail
      refine (IH.out _ _ q l2 cur loop hqf HL2.out HIX.out HBX.out HCL.out).mono ?_
      rintro e w3 ⟨rfl, hI3, hB3, hbut3⟩
      have hO3 : OwM w3 BSZ _ M := hbut3.row HOX.out (two_below HWX.out.g1 HWX.out.g2 (by rw [HBS.out]; omega))
      have HO3 := Lib.hid hO3
      have HI3 := Lib.hid hI3; have HB3 := Lib.hid hB3; have HW3 := Lib.hid (HWX.out.two hbut3)
      clear hI3 hB3 hbut3 l0 cr HIX HBX HOX HWX hO3
      have l0 := HW3.out.sb
      obtain ⟨b3, off3, hna, hlo3, hb3, c0, -, -, -, -, -, c6, -, hok⟩ := rdN_at (KH.out.rn.below (KH.out.base _ _ HI3.out)) HL2.out
      have s6 := (KH.out.sc _ _ HI3.out).cell 6
      simp at s6
      rw [hna] at s6
      have HNA := Lib.hid hna
      have hb3w : b3 < w0.heap.size := by
        obtain ⟨b4, o4, e4, -, h4, -⟩ := KH.out.rn.1 (show 0 < f.ns.length by omega)
        rw [hna] at e4; injection e4 with e4; injection e4 with e4; omega
      clear hna hok
      by_cases hk2 : l2.nd.kind = 2
      · have HKT2 : Hid ((l.nd.kids.take (j + 1)).foldl F ([], ins) = (T ++ traceN (f.ns.map LN.nd) fuel q cur loop, setR cur l2.nd.refs)) := by
          refine Lib.hid ?_
          rw [HKT.out, if_pos hk2]
        have e2 : (l2.nd.kind == 2) = true := by rw [hk2]; rfl
        have HRR2 := Lib.hid (KH.out.rn.2 l2 (List.mem_of_getElem? HL2.out)).1
        have hrl := (KH.out.hf l2 (List.mem_of_getElem? HL2.out)).2.1
        unfold maxLen at hrl
        obtain ⟨E, hE⟩ : ∃ E, E = evs ++ (n, ins, loop) :: (T ++ traceN (f.ns.map LN.nd) fuel q cur loop) := ⟨_, rfl⟩
        have HE : Hid (evs ++ (n, ins, loop) :: T ++ traceN (f.ns.map LN.nd) fuel q cur loop = E) := Lib.hid (by rw [hE]; simp)
        have HE2 := Lib.hid hE
        have HI4 : Hid (Inv E w3) := Lib.hid (by rw [← HE.out]; exact HI3.out)
        clear hE HE HKT hk2 HI3
        go_wp2
        clear l0 s6 c0 c6 hb3
        go_loopw [9, 93] (fun v9 v wx => ∃ (p : Nat) (M' : List Nat) (cur' : List Bool), p ≤ l2.nd.refs.length ∧ v = .int .i64 p ∧ Hid (setR cur l2.nd.refs = setR cur' (l2.nd.refs.drop p)) ∧ Hid (Inv E wx) ∧ Hid (BB wx gi cur') ∧ Hid (Mn ins M' cur') ∧ Hid (OwM wx BSZ v9 M') ∧ Hid (Wl W gs gi ga nv l w2.heap.size oc w1.heap.size oa ins wx)) (fun _ v _ => l2.nd.refs.length - (intOf v).toNat)
        case atStart => exact ⟨0, M, cur, Nat.zero_le _, rfl, Lib.hid rfl, HI4, HB3, HMX, HO3, HW3⟩
        case round =>
          clear HI4 HB3 HMX HO3 HW3 HS
          obtain ⟨p, M', cur', hp, rfl, HSR, HI5, HB5, HM5, HO5, HW5⟩ := hrel
          obtain ⟨ua, uc, rfl, -, -⟩ := ow_rd (enc := encQ) (fun _ => rfl) HO5.out
          have l0 := HW5.out.sb
          have s7 := (KH.out.sc _ _ HI5.out).cell 7
          simp at s7
          have hcl5 : cur'.length = nv := by rw [HM5.out.len]; exact hil
          have hW5g := HW5.out.g5
          by_cases hlt : p < l2.nd.refs.length
          · obtain ⟨v, hv⟩ : ∃ v, l2.nd.refs[p]? = some v := ⟨_, List.getElem?_eq_getElem hlt⟩
            have HD : Hid (l2.nd.refs.drop p = v :: l2.nd.refs.drop (p + 1)) := by
              obtain ⟨q1, q2⟩ := List.getElem?_eq_some_iff.1 hv
              rw [List.drop_eq_getElem_cons q1, q2]; exact Lib.hid rfl
            have hbx := KH.out.base _ _ HI5.out
            obtain ⟨b5, off5, hra, hlo5, hb5, cr⟩ := rdI_at (HRR2.out.below hbx) hv
            rw [hra]
            have hpl : ((p : Nat) : Int) < l2.nd.refs.length := by omega
            clear hbx hra hv hlt
            by_cases h1 : 0 ≤ v
            · by_cases h2 : v < nv
              · obtain ⟨x, rfl⟩ : ∃ x : Nat, v = x := ⟨v.toNat, by omega⟩
                obtain ⟨d, hd⟩ : ∃ d, cur'[x]? = some d := ⟨_, List.getElem?_eq_getElem (by omega)⟩
                have cd := HB5.out.cell hd
                have HSS : Hid (setR cur l2.nd.refs = setR (cur'.set x true) (l2.nd.refs.drop (p + 1))) := by
                  rw [HSR.out, HD.out, setR, if_pos ⟨h1, by omega⟩, Int.toNat_natCast]; exact Lib.hid rfl
                have HHD := Lib.hid hd
                cases d with
                | true =>
                  have HSS2 : Hid (setR cur l2.nd.refs = setR cur' (l2.nd.refs.drop (p + 1))) := Lib.hid (by rw [HSS.out, set_same HHD.out])
                  clear hd hcl5
                  go_wp2
                  exact ⟨⟨p + 1, M', cur', by omega, by go_num, HSS2, HI5, HB5, HM5, HO5, HW5⟩, by simp [intOf]; omega⟩
                | false =>
                  have fz := HB5.out.fz x
                  have HM6 := Lib.hid (HM5.out.add HHD.out)
                  have hfew := HM5.out.few
                  have hgib : gi < BSZ := by have := HW5.out.g2; have := HBS.out; omega
                  have hset : But (fun k => k = gi) wr (wr.setCell ⟨gi, x, none⟩ (.bool true)) := (But.refl (fun k => k = gi) wr).set rfl x _
                  have HI6 := Lib.hid (KH.out.keep _ _ _ (KH.out.keep _ _ _ HI5.out hset) (But.of_below (below_new _ (.cells #[.int .i64 (x : Int)] 3))))
                  have HB6 := Lib.hid ((HB5.out.set_ x true).alloc (.cells #[.int .i64 (x : Int)] 3))
                  have HW6 := Lib.hid ((HW5.out.two (hset.mono (fun k _ h => .inr h))).two (But.of_below (below_new _ (.cells #[.int .i64 (x : Int)] 3))))
                  have HR6 := Lib.hid (World.ownsRow.alloc (hset.row HO5.out (fun k hk e => by omega)) (.cells #[.int .i64 (x : Int)] 3))
                  have HN := Lib.hid (new_at1 (wr.setCell ⟨gi, x, none⟩ (.bool true)) (.int .i64 (x : Int)) 3 wr.heap.size (by simp))
                  have hbase : BSZ ≤ wr.heap.size := by rw [HBS.out]; have := HW5.out.g5; omega
                  clear hd hcl5 hset HI5 HB5 HM5 HO5 HW5
                  go_wp2_with (at_builtin; refine wpList_append_own_at _ rfl _ _ 36 rfl BSZ 3 i3 (.int .i64 0) 1 8 Try.underlying36 hi3 hy0 hy1 hy2 rfl (by decide) _ _ _ rfl HR6.out ⟨wr.heap.size, 0, none⟩ 1 1 [.int .i64 (x : Int)] rfl rfl HN.out (by intro u' hu'; simp at hu'; subst hu'; rfl) (by unfold maxLen; omega) (by omega) (by simp; omega) ?_; intro v7 w7 hown7 hgrow7 _ hat7; refine Hid.out ?_)
                  refine Lib.hid ?_
                  have hown8 : OwM w7 BSZ v7 (M' ++ [x]) := owM_push hown7
                  have hin : ∀ g, (Value.slice ua M'.length uc).ownBlock = some g → BSZ ≤ g := fun g hg => (own_in HR6.out hg).1
                  have hk7 := But.of_grown hgrow7
                  have HI7 := Lib.hid (HSO.out _ _ _ HI6.out (hk7.mono (fun k _ hk => .inr ⟨Nat.le_trans hih (hin k hk), own_cells HR6.out hk⟩)))
                  have HB7 := Lib.hid (HB6.out.but hk7 (fun h => by have := hin _ h; omega))
                  have HW7 := Lib.hid (HW6.out.far hk7 (fun k hk => by have := hin k hk; have := HBS.out; omega) hw1)
                  have HO7 := Lib.hid hown8
                  clear hown8 hk7 hown7 hgrow7 hat7 HR6 HN HI6 HB6 HW6 hin
                  obtain ⟨v7a, v7c, rfl, -, -⟩ := ow_rd (enc := encQ) (fun _ => rfl) HO7.out
                  go_wp2
                  exact ⟨⟨p + 1, M' ++ [x], cur'.set x true, by omega, by go_num, HSS, HI7, HB7, HM6, HO7, HW7⟩, by simp [intOf]; omega⟩
              · have HSS : Hid (setR cur l2.nd.refs = setR cur' (l2.nd.refs.drop (p + 1))) := by
                  rw [HSR.out, HD.out, setR, if_neg (fun h => by omega)]; exact Lib.hid rfl
                have h2b : decide (v < (nv : Int)) = false := decide_eq_false h2
                clear hcl5
                go_wp2
                exact ⟨⟨p + 1, M', cur', by omega, by go_num, HSS, HI5, HB5, HM5, HO5, HW5⟩, by simp [intOf]; omega⟩
            · have HSS : Hid (setR cur l2.nd.refs = setR cur' (l2.nd.refs.drop (p + 1))) := by
                rw [HSR.out, HD.out, setR, if_neg (fun h => h1 h.1)]; exact Lib.hid rfl
              have h1b : decide (0 ≤ v) = false := decide_eq_false h1
              clear hcl5
              go_wp2
              exact ⟨⟨p + 1, M', cur', by omega, by go_num, HSS, HI5, HB5, HM5, HO5, HW5⟩, by simp [intOf]; omega⟩
          · have HQ : Hid (setR cur l2.nd.refs = cur') := by
              rw [HSR.out, List.drop_of_length_le (by omega), setR]; exact Lib.hid rfl
            clear hcl5
            go_wp2
            refine ⟨⟨j + 1, M', _, cur', by omega, by go_num, Lib.hid (by rw [HKT2.out, HQ.out]), Lib.hid (by rw [← HE2.out]; exact HI5.out), HB5, HM5, HO5, HW5⟩, by simp [intOf]; omega⟩
      · have HKT2 : Hid ((l.nd.kids.take (j + 1)).foldl F ([], ins) = (T ++ traceN (f.ns.map LN.nd) fuel q cur loop, cur)) := by
          refine Lib.hid ?_
          rw [HKT.out, if_neg hk2]
        have e2 : (l2.nd.kind == 2) = false := beq_eq_false_iff_ne.2 hk2
        clear hk2 HKT
        go_wp2
        exact ⟨⟨j + 1, M, _, cur, by omega, by go_num, HKT2, Lib.hid (by simpa using HI3.out), HB3, HMX, HO3, HW3⟩, by simp [intOf]; omega⟩
    · have hjj : j = l.nd.kids.length := by omega
      subst hjj
      have HE : Hid (evs ++ (n, ins, loop) :: T = evs ++ traceN (f.ns.map LN.nd) (fuel + 1) n ins loop) := by
        refine Lib.hid ?_
        have := HS.out
        rw [List.take_length] at this
        rw [HT.out, this]
      obtain ⟨va', vc', eva, hrd, -⟩ := ow_rd (enc := encQ) (fun _ => rfl) HOX.out
      injection eva with eva1 _ eva2
      subst eva1; subst eva2
      have HRD := Lib.hid hrd
      have hfew := HMX.out.few
      clear hjl HS hrd HOX
      go_wp2
      go_loopw [132] (fun v wx => ∃ (p : Nat) (cur' : List Bool), p ≤ M.length ∧ v = .int .i64 p ∧ cur'.length = nv ∧ Hid (∀ k, k ∉ M.drop p → cur'[k]? = ins[k]?) ∧ Hid (Inv (evs ++ (n, ins, loop) :: T) wx) ∧ Hid (BB wx gi cur') ∧ Hid (RdL encQ 1 wx BSZ va M) ∧ Hid (Wl W gs gi ga nv l w2.heap.size oc w1.heap.size oa ins wx)) (fun v _ => M.length - (intOf v).toNat)
      case atStart => exact ⟨0, cur, Nat.zero_le _, rfl, by rw [HMX.out.len]; exact hil, Lib.hid (fun k hk => HMX.out.out k (by simpa using hk)), HIX, HBX, HRD, HWX⟩
      case round =>
        have HWAS := Lib.hid HMX.out.was
        clear HIX HBX HWX HRD l0 HMX
        obtain ⟨p, cur', hp, rfl, hcl, HO, HI5, HB5, HR5, HW5⟩ := hrel
        have l0 := HW5.out.sb
        have s7 := (KH.out.sc _ _ HI5.out).cell 7
        simp at s7
        have hW5g := HW5.out.g5
        by_cases hlt : p < M.length
        · obtain ⟨x, hx⟩ : ∃ x, M[p]? = some x := ⟨_, List.getElem?_eq_getElem hlt⟩
          have hwx := HWAS.out x (List.mem_of_getElem? hx)
          have hxl : x < nv := by have := (List.getElem?_eq_some_iff.1 hwx).1; omega
          obtain ⟨b5, off5, hra, hlo5, hb5, cr⟩ := rdQ_at HR5.out hx
          have HX2 := Lib.hid (mn_reset (r := M.drop (p + 1)) (by rw [hcl, hil]) hwx (by rw [← mn_pick hx]; exact HO.out))
          have hgib : gi < BSZ := by have := HW5.out.g2; have := HBS.out; omega
          have fz := HB5.out.fz x
          obtain ⟨d, hd⟩ : ∃ d, cur'[x]? = some d := ⟨_, List.getElem?_eq_getElem (by omega)⟩
          have cd := HB5.out.cell hd
          clear hd
          have hset : But (fun k => k = gi) wr (wr.setCell ⟨gi, x, none⟩ (.bool false)) := (But.refl (fun k => k = gi) wr).set rfl x _
          have HI6 := Lib.hid (KH.out.keep _ _ _ HI5.out hset)
          have HB6 := Lib.hid (HB5.out.set_ x false)
          have HW6 := Lib.hid (HW5.out.two (hset.mono (fun k _ h => .inr h)))
          have HR6 := Lib.hid (hset.rd HR5.out (fun g o h0 e hk => by rw [hra] at e; injection e with e; injection e with e; omega))
          have hxi : (x : Int) < nv := by omega
          have hpl : ((p : Nat) : Int) < M.length := by omega
          have HCL := Lib.hid hcl
          have hgl : gi < wr.heap.size := HB5.out.lt
          rw [hra]
          rw [hra] at HR6
          clear hset HI5 HB5 HR5 HW5 hra hx hwx hcl
          go_wp2
          exact ⟨⟨p + 1, cur'.set x false, by omega, by go_num, by rw [List.length_set]; exact HCL.out, HX2, HI6, HB6, HR6, HW6⟩, by simp [intOf]; omega⟩
        · have HQ : Hid (cur' = ins) := Lib.hid (mn_end (fun k hk => HO.out k (by rw [List.drop_of_length_le (by omega)]; exact hk)))
          clear hcl
          go_wp2
          refine bodyPost_end (v := .tuple #[]) (by simp [results, Try.results49, go_sem]) rfl ?_
          refine ⟨rfl, ?_, ?_, HW5.out.but⟩
          · rw [← HE.out]; exact HI5.out
          · rw [← HQ.out]; exact HB5.out
end Go.Proofs.Ytcpjplkbmflglaa
namespace Go.Proofs.Ytcpjplkbmflglaa
open Go.RowKit
attribute [local go_sem] run_store_float
theorem walk_anyG {C : Nat} {caps : Array Value} {Inv : List Ev → World → Prop} {w0 : World} {lo : Nat} {f : LF} {gs gi ga nv ci : Nat} (K : WkG C caps Inv w0 lo f gs gi ga nv ci) : ∀ fuel, WalkAtG C caps Inv f gs gi ga nv fuel := by
  intro fuel
  induction fuel with
  | zero => intro evs X m l ins loop hm; omega
  | succ fuel ih =>
    intro evs X m l ins loop hm hl hI hB hil
    by_cases h1 : l.nd.kind = 1
    · exact wk1_G K ih evs X m l ins loop hm hl hI hB hil h1
    by_cases h6 : l.nd.kind = 6
    · exact wk6_G K ih evs X m l ins loop hm hl hI hB hil h6
    by_cases h7 : l.nd.kind = 7
    · exact wk7_G K ih evs X m l ins loop hm hl hI hB hil h7
    by_cases h8 : l.nd.kind = 8
    · exact wk8_G K ih evs X m l ins loop hm hl hI hB hil h8
    by_cases h12 : l.nd.kind = 12
    · exact wk12_G K ih evs X m l ins loop hm hl hI hB hil h12
    exact wkdef_G K ih evs X m l ins loop hm hl hI hB hil h1 (by rintro (h | h | h) <;> contradiction) h12
end Go.Proofs.Ytcpjplkbmflglaa
namespace Go.Proofs.Ytcpjplkbmflglaa
open Go.RowKit
attribute [local go_sem] run_store_float
set_option linter.unusedVariables false
/-- What scopes over f leans on. -/
structure ScG (C : Nat) (caps : Array Value) (Inv : List Ev → World → Prop) (w0 : World) (lo : Nat) (f : LF) (ga nv hi : Nat) : Prop where
  base : ∀ evs W, Inv evs W → Below w0.heap.size w0 W
  rn : RdN w0 lo f.na f.ns
  soft : ∀ evs W W', Inv evs W → But (Soft W (hi + 1) hi) W W' → Inv evs W'
  see : ∀ evs W (n : Nat) ins loop, Inv evs W → hi + 3 ≤ W.heap.size → BB W (hi + 1) ins → ins.length = nv → n < f.ns.length → Calls Try.prog C (#[.int .i64 n, .slice (some ⟨hi + 1, 0, none⟩) nv nv, .bool loop] ++ caps) W fun e W' => e = .returned (.tuple #[]) ∧ Inv (evs ++ [(n, ins, loop)]) W' ∧ But (· = ga) W W'
  cf : ∀ args W, (callFunc C args).run Try.prog W = .ok (.enter C args) W
  ga1 : ga < hi
  ga0 : w0.heap.size ≤ ga
  hn : f.ns.length ≤ 1048576
  hf : ∀ l ∈ f.ns, fitN l
  ia : InAll (f.ns.map LN.nd)
  lk : LoopKids (f.ns.map LN.nd)
  tk : ∀ (k : Nat) (n : Nd), (f.ns.map LN.nd)[k]? = some n → n.kind = 12 → n.kids.length = 2
  kc : ∀ l ∈ f.ns, l.nd.kids.length ≤ l.kc
  nvl : nv ≤ 1048576
theorem wk_ofG {C : Nat} {caps : Array Value} {Inv : List Ev → World → Prop} {w0 : World} {lo : Nat} {f : LF} {ga nv hi : Nat} (S : ScG C caps Inv w0 lo f ga nv hi) :
    WkG C caps (fun evs W => Inv evs W ∧ Blk W (hi + 2) 85 #[.string f.name, .int .i64 f.line, .int .i64 f.params, .bool f.rest, .slice f.va f.vars.length f.vc, .slice f.ua f.ups.length f.uc, .slice f.na f.ns.length f.nc, .slice (some ⟨hi + 1, 0, none⟩) nv nv, .func (.func C) #[] caps]) w0 lo f (hi + 2) (hi + 1) ga nv nv where
  base := fun evs W h => S.base evs W h.1
  rn := S.rn
  sc := fun evs W h => h.2
  keep := fun evs W W' h hb => ⟨S.soft _ _ _ h.1 (hb.mono (fun k _ hk => .inl hk)), hb.blk h.2 (by omega)⟩
  see := fun evs W n ins loop h hB hl hn => (S.see evs W n ins loop h.1 h.2.lt hB hl hn).mono fun e W' he => ⟨he.1, ⟨he.2.1, he.2.2.blk h.2 (by have := S.ga1; omega)⟩, he.2.2⟩
  soft := ⟨hi + 3, fun evs W h => h.2.lt, fun evs W W' h hb => ⟨S.soft _ _ _ h.1 (hb.mono (fun k _ hk => hk.elim .inl (fun hk => .inr ⟨by omega, hk.2⟩))), hb.blk h.2 (fun hk => by rcases hk with hk | hk <;> omega)⟩⟩
  cf := S.cf
  gal := fun evs W h => by have := h.2.lt; have := S.ga1; omega
  gi0 := by have := S.ga1; have := S.ga0; omega
  ga0 := S.ga0
  gs0 := by have := S.ga1; have := S.ga0; omega
  ne1 := by have := S.ga1; omega
  ne2 := by omega
  ne3 := by have := S.ga1; omega
  hn := S.hn
  hf := S.hf
  ia := S.ia
  lk := S.lk
  tk := S.tk
  kc := S.kc
  nvl := S.nvl
set_option maxRecDepth 100000 in
set_option maxHeartbeats 4000000 in
theorem scopes_anyG {C : Nat} {caps : Array Value} {Inv : List Ev → World → Prop} {w0 : World} {lo : Nat} {f : LF} {ga nv hi : Nat} (S : ScG C caps Inv w0 lo f ga nv hi) (W : World) (hW : W.heap.size = hi) (h0 : Inv [] W) (hv : f.vars.length = nv) (p0' : 0 ≤ f.params) (p1' : f.params ≤ nv) (hpos : 0 < f.ns.length) :
    Calls Try.prog 24 #[.agg #[.string f.name, .int .i64 f.line, .int .i64 f.params, .bool f.rest, .slice f.va f.vars.length f.vc, .slice f.ua f.ups.length f.uc, .slice f.na f.ns.length f.nc], .func (.func C) #[] caps] W fun e W' => e = .returned (.tuple #[]) ∧ Inv (traceN (f.ns.map LN.nd) f.ns.length (f.ns.length - 1) (seen0 f.params nv) false) W' ∧ But (· = ga) W W' := by
  subst hv
  obtain ⟨l, hl⟩ : ∃ l, f.ns[f.ns.length - 1]? = some l := ⟨_, List.getElem?_eq_getElem (by omega)⟩
  have hmk := mk55 f.vars.length S.nvl
  have hfn := S.hn
  have HI := Lib.hid h0; have HL := Lib.hid hl
  have hnv := S.nvl
  have hga1 := S.ga1
  subst hW
  have HS := Lib.hid S
  clear S h0 hl
  go_enter Try.func24, Try.ntmps24
  go_wp2
  go_region
  go_wp2
  have hbel0 : Below W.heap.size W (((W.alloc (.cells #[.string f.name, .int .i64 f.line, .int .i64 f.params, .bool f.rest, .slice f.va f.vars.length f.vc, .slice f.ua f.ups.length f.uc, .slice f.na f.ns.length f.nc] 47)).alloc (.cells (madeCells #[Value.bool false] f.vars.length) 4)).alloc (.cells #[.string f.name, .int .i64 f.line, .int .i64 f.params, .bool f.rest, .slice f.va f.vars.length f.vc, .slice f.ua f.ups.length f.uc, .slice f.na f.ns.length f.nc, .slice (some ⟨W.heap.size + 1, 0, none⟩) f.vars.length f.vars.length, .func (.func C) #[] caps] 85)).drew := (below_new3 _ _ _ _).drew
  have HBL := Lib.hid hbel0
  have HI0 := Lib.hid (HS.out.soft _ _ _ HI.out (But.of_below hbel0))
  have HF0 : Hid (Blk (((W.alloc (.cells #[.string f.name, .int .i64 f.line, .int .i64 f.params, .bool f.rest, .slice f.va f.vars.length f.vc, .slice f.ua f.ups.length f.uc, .slice f.na f.ns.length f.nc] 47)).alloc (.cells (madeCells #[Value.bool false] f.vars.length) 4)).alloc (.cells #[.string f.name, .int .i64 f.line, .int .i64 f.params, .bool f.rest, .slice f.va f.vars.length f.vc, .slice f.ua f.ups.length f.uc, .slice f.na f.ns.length f.nc, .slice (some ⟨W.heap.size + 1, 0, none⟩) f.vars.length f.vars.length, .func (.func C) #[] caps] 85)).drew W.heap.size 47 #[.string f.name, .int .i64 f.line, .int .i64 f.params, .bool f.rest, .slice f.va f.vars.length f.vc, .slice f.ua f.ups.length f.uc, .slice f.na f.ns.length f.nc]) := Lib.hid (((Blk.new W 47 _).alloc _).alloc _)
  have HB0 : Hid (BB (((W.alloc (.cells #[.string f.name, .int .i64 f.line, .int .i64 f.params, .bool f.rest, .slice f.va f.vars.length f.vc, .slice f.ua f.ups.length f.uc, .slice f.na f.ns.length f.nc] 47)).alloc (.cells (madeCells #[Value.bool false] f.vars.length) 4)).alloc (.cells #[.string f.name, .int .i64 f.line, .int .i64 f.params, .bool f.rest, .slice f.va f.vars.length f.vc, .slice f.ua f.ups.length f.uc, .slice f.na f.ns.length f.nc, .slice (some ⟨W.heap.size + 1, 0, none⟩) f.vars.length f.vars.length, .func (.func C) #[] caps] 85)).drew (W.heap.size + 1) (List.replicate f.vars.length false)) := Lib.hid ((BB.make_at (by simp)).alloc _)
  have HC0 : Hid (Blk (((W.alloc (.cells #[.string f.name, .int .i64 f.line, .int .i64 f.params, .bool f.rest, .slice f.va f.vars.length f.vc, .slice f.ua f.ups.length f.uc, .slice f.na f.ns.length f.nc] 47)).alloc (.cells (madeCells #[Value.bool false] f.vars.length) 4)).alloc (.cells #[.string f.name, .int .i64 f.line, .int .i64 f.params, .bool f.rest, .slice f.va f.vars.length f.vc, .slice f.ua f.ups.length f.uc, .slice f.na f.ns.length f.nc, .slice (some ⟨W.heap.size + 1, 0, none⟩) f.vars.length f.vars.length, .func (.func C) #[] caps] 85)).drew (W.heap.size + 2) 85 #[.string f.name, .int .i64 f.line, .int .i64 f.params, .bool f.rest, .slice f.va f.vars.length f.vc, .slice f.ua f.ups.length f.uc, .slice f.na f.ns.length f.nc, .slice (some ⟨W.heap.size + 1, 0, none⟩) f.vars.length f.vars.length, .func (.func C) #[] caps]) := Lib.hid (Blk.new_at (by simp))
  clear hbel0
  go_loopw [16] (fun v wr => ∃ (p : Nat), (p : Int) ≤ f.params ∧ v = .int .i64 p ∧ Hid (Below W.heap.size W wr) ∧ Hid (Inv [] wr) ∧ Hid (Blk wr W.heap.size 47 #[.string f.name, .int .i64 f.line, .int .i64 f.params, .bool f.rest, .slice f.va f.vars.length f.vc, .slice f.ua f.ups.length f.uc, .slice f.na f.ns.length f.nc]) ∧ Hid (BB wr (W.heap.size + 1) (List.replicate p true ++ List.replicate (f.vars.length - p) false)) ∧ Hid (Blk wr (W.heap.size + 2) 85 #[.string f.name, .int .i64 f.line, .int .i64 f.params, .bool f.rest, .slice f.va f.vars.length f.vc, .slice f.ua f.ups.length f.uc, .slice f.na f.ns.length f.nc, .slice (some ⟨W.heap.size + 1, 0, none⟩) f.vars.length f.vars.length, .func (.func C) #[] caps])) (fun v _ => f.params.toNat - (intOf v).toNat)
  case atStart => exact ⟨0, by simpa using p0', rfl, HBL, HI0, HF0, by simpa using HB0, HC0⟩
  case round =>
    clear HBL HI0 HF0 HB0 HC0 HI
    obtain ⟨p, hp, rfl, HBL, HI, HF, HB, HC⟩ := hrel
    have hz := HC.out.lt
    have f0 := HF.out.cell 6
    have c7 := HC.out.cell 7
    simp at f0 c7
    have hz0 : W.heap.size < wr.heap.size := by omega
    by_cases hlt : (p : Int) < f.params
    · have hpv : p < f.vars.length := by omega
      have hpv2 : (p : Int) < f.vars.length := by omega
      have hcd := rep_at2 p f.vars.length hpv
      have cd := HB.out.cell hcd
      have fz := HB.out.fz p
      have hset : But (fun k => k = W.heap.size + 1) wr (wr.setCell ⟨W.heap.size + 1, p, none⟩ (.bool true)) := (But.refl (fun k => k = W.heap.size + 1) wr).set rfl p _
      have HBL2 := Lib.hid (HBL.out.setCell (p := ⟨W.heap.size + 1, p, none⟩) (by simp) (.bool true))
      have HI2 := Lib.hid (HS.out.soft _ _ _ HI.out (hset.mono (fun k _ hk => .inl hk)))
      have HF2 := Lib.hid (hset.blk HF.out (by omega))
      have HC2 := Lib.hid (hset.blk HC.out (by omega))
      have HB2 : Hid (BB (wr.setCell ⟨W.heap.size + 1, p, none⟩ (.bool true)) (W.heap.size + 1) (List.replicate (p + 1) true ++ List.replicate (f.vars.length - (p + 1)) false)) := Lib.hid (by rw [← rep_set2 p _ hpv]; exact HB.out.set_ p true)
      clear hcd hset HBL HI HF HB HC
      go_wp2
      exact ⟨⟨p + 1, by omega, by go_num, HBL2, HI2, HF2, HB2, HC2⟩, by simp [intOf]; omega⟩
    · have HPP : Hid (f.params.toNat = p) := Lib.hid (by omega)
      have hz2 : W.heap.size + 2 < wr.heap.size := hz
      have hl1 : ((f.ns.length : Int) - 1) = ((f.ns.length - 1 : Nat) : Int) := by omega
      have hlm : f.ns.length - 1 < f.ns.length := by omega
      have hsl : (List.replicate p true ++ List.replicate (f.vars.length - p) false).length = f.vars.length := by simp; omega
      clear hz
      go_wp2_with fail
      refine (walk_anyG (wk_ofG HS.out) f.ns.length [] _ _ l _ false hlm HL.out ⟨HI.out, HC.out⟩ HB.out hsl).mono ?_
      rintro e w3 ⟨rfl, hI3, hB3, hbut3⟩
      have HI3 := Lib.hid hI3
      have HX3 := Lib.hid hbut3
      clear hI3 hB3 hbut3
      go_wp2
      refine bodyPost_end (v := .tuple #[]) (by simp [results, Try.results24, go_sem]) rfl ?_
      refine ⟨rfl, ?_, ?_⟩
      · have := HI3.out.1
        unfold seen0
        rw [HPP.out]
        simpa using this
      · exact ((But.of_below HBL.out).trans HX3.out).mono (fun k hk h => h.elim id (fun h => absurd h (by omega)))
end Go.Proofs.Ytcpjplkbmflglaa
