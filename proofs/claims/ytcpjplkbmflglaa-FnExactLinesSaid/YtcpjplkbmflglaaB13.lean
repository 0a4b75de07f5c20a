/- The reference's third look at a unit: codes 6 to 9. -/
import Derived.Test.YtcpjplkbmflglaaB12
namespace Go.Proofs.Ytcpjplkbmflglaa
open Go.RowKit
attribute [local go_sem] run_store_float
set_option linter.unusedVariables false
def seen0 (params : Int) (nv : Nat) : List Bool := List.replicate params.toNat true ++ List.replicate (nv - params.toNat) false
def step6 (fs : List Fd) (i n : Nat) (seen : List Bool) : Option (List Bool) :=
  let x := fdAt fs i
  let r := refsB x.nodes (parF x.nodes) x.params x.vars.length x.ups.length fs.length n (ndAt x.nodes n) seen
  if r.1 then some r.2 else none
def in6 (fs : List Fd) (i : Nat) (_ : Unit) : Unit ⊕ Nat := match loopS (step6 fs i) 0 (lenAt fs i) (seen0 (fdAt fs i).params (fdAt fs i).vars.length) with
  | .inl _ => .inl ()
  | .inr n => .inr n
def P6 (fs : List Fd) : Unit ⊕ (Nat × Nat) := loop2 (in6 fs) 0 fs.length ()
def fine7 (ns : List Nd) (n : Nat) : Bool := !(((ndAt ns n).kind == 9 || (ndAt ns n).kind == 10) && !inB ns (parF ns) n)
def P7 (fs : List Fd) : Unit ⊕ (Nat × Nat) := find2 (fun i => fine7 (nodesAt fs i)) (lenAt fs) fs.length
def step8 (fs : List Fd) (i n : Nat) (made : List Bool) : Option (List Bool) :=
  let x := fdAt fs i
  let nd := ndAt x.nodes n
  if nd.kind = 37 ∧ x.rest = false then none
  else if nd.kind ≠ 36 then some made
  else if ref0 nd ≤ i ∨ made[(ref0 nd).toNat]? = some true ∨ upsB x.nodes (parF x.nodes) x.params x.vars.length x.ups.length n (fdAt fs (ref0 nd).toNat).ups = false then none
  else some (made.set (ref0 nd).toNat true)
def in8 (fs : List Fd) (i : Nat) (made : List Bool) : List Bool ⊕ Nat := loopS (step8 fs i) 0 (lenAt fs i) made
def P8 (fs : List Fd) : List Bool ⊕ (Nat × Nat) := loop2 (in8 fs) 0 fs.length (List.replicate fs.length false)
def fine9 (made : List Bool) (f : Nat) : Bool := (made[f]?).getD false
def P9 (fs : List Fd) (made : List Bool) : Unit ⊕ Nat := loopS (chk (fine9 made)) 1 (fs.length - 1) ()
def F3 (fs : List Fd) : Flt3 := match P6 fs with
  | .inr (f, n) => (6, f, n)
  | .inl _ => match P7 fs with
    | .inr (f, n) => (7, f, n)
    | .inl _ => match P8 fs with
      | .inr (f, n) => (8, f, n)
      | .inl made => match P9 fs made with
        | .inr f => (9, f, 0)
        | .inl _ => (0, 0, 0)
theorem loopS_all {σ : Type} {step : Nat → σ → Option σ} : ∀ (m i : Nat) (s s' : σ), loopS step i m s = .inl s' → ∀ k, k < m → ∃ s1 s2, step (i + k) s1 = some s2 := by
  intro m
  induction m with
  | zero => intro i s s' _ k hk; omega
  | succ m ih =>
    intro i s s' h k hk
    rw [loopS] at h
    cases hs : step i s with
    | none => rw [hs] at h; simp at h
    | some s2 =>
      rw [hs] at h
      cases k with
      | zero => exact ⟨s, s2, hs⟩
      | succ k => have := ih (i + 1) s2 s' h k (by omega); rwa [show i + 1 + k = i + (k + 1) by omega] at this
theorem loop2_all {σ : Type} {inner : Nat → σ → σ ⊕ Nat} : ∀ (m i : Nat) (s s' : σ), loop2 inner i m s = .inl s' → ∀ k, k < m → ∃ s1 s2, inner (i + k) s1 = .inl s2 := by
  intro m
  induction m with
  | zero => intro i s s' _ k hk; omega
  | succ m ih =>
    intro i s s' h k hk
    rw [loop2] at h
    cases hs : inner i s with
    | inr n => rw [hs] at h; simp at h
    | inl s2 =>
      rw [hs] at h
      cases k with
      | zero => exact ⟨s, s2, hs⟩
      | succ k => have := ih (i + 1) s2 s' h k (by omega); rwa [show i + 1 + k = i + (k + 1) by omega] at this
/-- Behind code 6 a new function's number is one. -/
theorem P6_ref {fs : List Fd} (h : P6 fs = .inl ()) (i : Nat) (hi : i < fs.length) (n : Nat) (hn : n < lenAt fs i) (hk : (ndAt (fdAt fs i).nodes n).kind = 36) : 0 ≤ ref0 (ndAt (fdAt fs i).nodes n) ∧ ref0 (ndAt (fdAt fs i).nodes n) < fs.length := by
  obtain ⟨_, _, h1⟩ := loop2_all _ _ _ _ h i hi
  rw [Nat.zero_add] at h1
  unfold in6 at h1
  cases h2 : loopS (step6 fs i) 0 (lenAt fs i) (seen0 (fdAt fs i).params (fdAt fs i).vars.length) with
  | inr m => rw [h2] at h1; simp at h1
  | inl s =>
    obtain ⟨s1, s2, h3⟩ := loopS_all _ _ _ _ h2 n hn
    rw [Nat.zero_add] at h3
    unfold step6 refsB at h3
    simp only at h3
    rw [if_neg (show ¬ (ndAt (fdAt fs i).nodes n).kind = 27 by omega), if_pos hk] at h3
    simp only at h3
    split at h3
    · rename_i hd; exact of_decide_eq_true hd
    · simp at h3
structure OkU (f : LF) : Prop where
  pos : 0 < f.ns.length
  ia : InAll (f.ns.map LN.nd)
  lk : LoopKids (f.ns.map LN.nd)
  vn : f.vars.length ≤ 200
  un : f.ups.length ≤ 200
  p0 : 0 ≤ f.params
  p1 : f.params ≤ f.vars.length
  rf : ∀ l ∈ f.ns, l.nd.kind = 27 ∨ l.nd.kind = 36 → 0 < l.nd.refs.length
  cn : f.ns.length ≤ 1048576
structure T6 (w : World) (U : Value) (f : LF) (Xf X gp gd gs : Nat) (par dep : List Int) (seen : List Bool) (W : World) : Prop where
  ts : Ts w U X gp gd f.ns.length par dep W
  fb : Blk W Xf 47 #[.string f.name, .int .i64 f.line, .int .i64 f.params, .bool f.rest, .slice f.va f.vars.length f.vc, .slice f.ua f.ups.length f.uc, .slice f.na f.ns.length f.nc]
  sb : BB W gs seen
  ne1 : gs ≠ Xf
  ne2 : gs ≠ X
  ne3 : gs ≠ gp
  ne4 : gs ≠ gd
  lo : w.heap.size + 1 < gs
theorem T6.but {w W W' : World} {U : Value} {f : LF} {Xf X gp gd gs : Nat} {par dep : List Int} {seen seen' : List Bool} (h : T6 w U f Xf X gp gd gs par dep seen W) (hb : But (· = gs) W W') (hs : BB W' gs seen') : T6 w U f Xf X gp gd gs par dep seen' W' :=
  ⟨⟨h.ts.fs.but hb (fun k hk => by rw [hk]; exact h.lo), hb.blk h.ts.tb (fun e => h.ne2 e.symm), h.ts.bp.but hb (fun e => h.ne3 e.symm), h.ts.bd.but hb (fun e => h.ne4 e.symm)⟩, hb.blk h.fb (fun e => h.ne1 e.symm), hs, h.ne1, h.ne2, h.ne3, h.ne4, h.lo⟩
theorem T6.below {w W W' : World} {U : Value} {f : LF} {Xf X gp gd gs : Nat} {par dep : List Int} {seen : List Bool} (h : T6 w U f Xf X gp gd gs par dep seen W) (hb : Below W.heap.size W W') : T6 w U f Xf X gp gd gs par dep seen W' :=
  ⟨h.ts.below hb, h.fb.below hb h.fb.lt, h.sb.below hb, h.ne1, h.ne2, h.ne3, h.ne4, h.lo⟩
theorem T6.set_ {w W : World} {U : Value} {f : LF} {Xf X gp gd gs : Nat} {par dep : List Int} {seen : List Bool} (h : T6 w U f Xf X gp gd gs par dep seen W) (k : Nat) (v : Bool) : T6 w U f Xf X gp gd gs par dep (seen.set k v) (W.setCell ⟨gs, k, none⟩ (.bool v)) :=
  h.but (But.set (P := fun x => x = gs) (But.refl _ _) (show gs = gs from rfl) k _) (h.sb.set_ k v)
theorem info4 : (Try.prog.info? 4).map (fun i => (i.zero, i.size, i.bytes)) = some (some (Value.bool false), 1, 1) := by kernel_rfl
theorem BB.make_at {w : World} {n g : Nat} (h : g = w.heap.size) : BB (w.alloc (.cells (madeCells #[Value.bool false] n) 4)) g (List.replicate n false) := by subst h; exact BB.make n
theorem mk55 (n : Nat) (hn : n ≤ 1048576) (W : World) : (Instr.makeSlice 55 (.int .i64 (n : Int)) (.int .i64 (n : Int))).run Try.prog W = .ok (.slice (some ⟨W.heap.size, 0, none⟩) n n) (W.alloc (.cells (madeCells #[Value.bool false] n) 4)) := by
  obtain ⟨i0, hi0, hz0, hz1, hz2⟩ := info_parts info4
  have hmk := run_make (P := Try.prog) W 55 4 i0 _ Try.underlying55 hi0 hz0 .i64 .i64 (n : Int) (n : Int) (by omega) (by omega) (by rw [hz2]; omega) (by omega)
  rw [hz1, Nat.mul_one, Int.toNat_natCast] at hmk
  exact hmk
theorem rep_at2 (k n : Nat) (h : k < n) : (List.replicate k true ++ List.replicate (n - k) false)[k]? = some false := by
  rw [List.getElem?_append_right (by simp), List.length_replicate, Nat.sub_self, List.getElem?_replicate, if_pos (by omega)]
theorem rep_set2 (k n : Nat) (h : k < n) : (List.replicate k true ++ List.replicate (n - k) false).set k true = List.replicate (k + 1) true ++ List.replicate (n - (k + 1)) false := by
  rw [List.set_append_right _ _ (by simp), List.length_replicate, Nat.sub_self, show n - k = (n - (k + 1)) + 1 by omega, List.replicate_succ, List.set_cons_zero, List.replicate_succ', List.append_assoc]
  rfl
set_option maxRecDepth 100000 in
set_option maxHeartbeats 20000000 in
theorem third_any (A : Option Addr) (c : Nat) (fs : List LF) (w : World) (lo : Nat) (h : RdF w lo A fs) (hn : fs.length ≤ 1048576) (hf : ∀ f ∈ fs, fitF f) (hok : ∀ f ∈ fs, OkU f) :
    Calls Try.prog 20 #[.agg #[.slice A fs.length c]] w fun e w' => e = .returned (fltV (F3 (fs.map LF.fd))) ∧ Below w.heap.size w w' := by
  have H := Lib.hid h; have HF := Lib.hid hf; have HOK := Lib.hid hok
  have HOF : Hid (F3 (fs.map LF.fd) = match P6 (fs.map LF.fd) with
    | .inr (f, n) => ((6 : Int), (f : Int), (n : Int))
    | .inl _ => match P7 (fs.map LF.fd) with
      | .inr (f, n) => (7, (f : Int), (n : Int))
      | .inl _ => match P8 (fs.map LF.fd) with
        | .inr (f, n) => (8, (f : Int), (n : Int))
        | .inl made => match P9 (fs.map LF.fd) made with
          | .inr f => (9, (f : Int), 0)
          | .inl _ => (0, 0, 0)) := Lib.hid rfl
  clear h hf hok
  go_enter Try.func20, Try.ntmps20
  go_wp2
  go_loopw [24] (fun v wr => ∃ (p : Nat), p ≤ fs.length ∧ v = .int .i64 p ∧ P6 (fs.map LF.fd) = loop2 (in6 (fs.map LF.fd)) p (fs.length - p) () ∧ Fs w (.slice A fs.length c) wr) (fun v _ => fs.length - (intOf v).toNat)
  case atStart => exact ⟨0, Nat.zero_le _, rfl, by unfold P6; rw [List.length_map]; rfl, ⟨(Blk.new _ _ _).alloc _, Blk.new_at (by simp), below_new2 _ _ _⟩⟩
  case round =>
    obtain ⟨p, hp, rfl, hB, hS⟩ := hrel
    have ub0 := hS.ub.cell 0
    have HS := Lib.hid hS
    have HB := Lib.hid hB
    have hsz := hS.rb.lt
    have hsz0 : w.heap.size < wr.heap.size := by omega
    by_cases hlt : p < fs.length
    · obtain ⟨f, hpf⟩ : ∃ f, fs[p]? = some f := ⟨_, List.getElem?_eq_getElem hlt⟩
      obtain ⟨b, off, rfl, hlo, hb, c0, c1, c2, c3, c4, c5, c6, hokf⟩ := rdF_at (H.out.below hS.bel) hpf
      have HNW := Lib.hid (H.out.2 f (List.mem_of_getElem? hpf)).2.2
      have HFF := Lib.hid (HF.out f (List.mem_of_getElem? hpf))
      have HOKF := Lib.hid (HOK.out f (List.mem_of_getElem? hpf))
      have hfn := HOKF.out.cn
      have hvn := HOKF.out.vn
      obtain ⟨m, hm⟩ : ∃ m, fs.length - p = m + 1 := ⟨fs.length - p - 1, by omega⟩
      have HM := Lib.hid hm
      have HPF := Lib.hid hpf
      obtain ⟨par, hpar⟩ : ∃ par, parF (f.ns.map LN.nd) = par := ⟨_, rfl⟩
      have HPL : Hid (par.length = f.ns.length) := by rw [← hpar, parF_len, List.length_map]; exact Lib.hid rfl
      have HUP : Hid (UpL f.ns.length par) := by have := parF_up HOKF.out.ia; rw [List.length_map, hpar] at this; exact Lib.hid this
      have HPA := Lib.hid hpar
      obtain ⟨dep, hdep⟩ : ∃ dep, depF par f.ns.length = dep := ⟨_, rfl⟩
      have HDE := Lib.hid hdep
      have hpl : (p : Int) < fs.length := by omega
      have hfp : 0 < f.ns.length := HOKF.out.pos
      have HIN : Hid (in6 (fs.map LF.fd) p () = match loopS (step6 (fs.map LF.fd) p) 0 f.ns.length (seen0 f.params f.vars.length) with
          | .inl _ => .inl ()
          | .inr n => .inr n) := by
        unfold in6; rw [len_at hpf, fd_at hpf]; exact Lib.hid rfl
      clear hS hB hpf hm hokf hpar hdep
      obtain ⟨w3, hw3⟩ : ∃ wo : World, wo = wr := ⟨_, rfl⟩
      obtain rfl := hw3
      go_wp2_with fail
      refine (grow_any _ _ f.ns _ lo (HNW.out.below ((HS.out.alloc (.cells #[.string f.name, .int .i64 f.line, .int .i64 f.params, .bool f.rest, .slice f.va f.vars.length f.vc, .slice f.ua f.ups.length f.uc, .slice f.na f.ns.length f.nc] 47)).bel)) hfn HFF.out.2.2.2.2 HOKF.out.pos (fun k l hk => HOKF.out.ia k l.nd (nd_at hk))).mono ?_
      rintro e w4 ⟨gp, gd, rfl, hbp, hbd, hgp, hgd, hb4⟩
      rw [HPA.out] at hbp hbd
      rw [HDE.out] at hbd
      obtain ⟨hc4, hf4⟩ := bcell hb4
      have hq4 := hb4.size
      try simp only [World.size_alloc] at hc4 hf4 hq4
      have hsz4 : w.heap.size < w4.heap.size := by omega
      have hbz : b < w4.heap.size := by omega
      have hz40 : w3.heap.size < w4.heap.size := by omega
      have hz41 : w3.heap.size < w4.heap.size + 1 := by omega
      have HTS := Lib.hid (⟨(((HS.out.alloc (.cells #[.string f.name, .int .i64 f.line, .int .i64 f.params, .bool f.rest, .slice f.va f.vars.length f.vc, .slice f.ua f.ups.length f.uc, .slice f.na f.ns.length f.nc] 47)).below hb4).alloc _), Blk.new _ _ _, hbp.alloc _, hbd.alloc _⟩ : Ts w (.slice (some ⟨b, off, none⟩) fs.length c) w4.heap.size gp gd f.ns.length par dep (w4.alloc (.cells #[.slice (some ⟨gp, 0, none⟩) f.ns.length f.ns.length, .slice (some ⟨gd, 0, none⟩) f.ns.length f.ns.length] 73)))
      have HFB := Lib.hid (((Blk.new w3 47 #[.string f.name, .int .i64 f.line, .int .i64 f.params, .bool f.rest, .slice f.va f.vars.length f.vc, .slice f.ua f.ups.length f.uc, .slice f.na f.ns.length f.nc]).below hb4 (by simp)).alloc (.cells #[.slice (some ⟨gp, 0, none⟩) f.ns.length f.ns.length, .slice (some ⟨gd, 0, none⟩) f.ns.length f.ns.length] 73))
      have hgp4 := hbp.lt
      have hgd4 := hbd.lt
      have hmk := mk55 f.vars.length (by omega)
      clear hbp hbd hb4 hgp hgd
      obtain ⟨pn, hpn⟩ : ∃ pn : Nat, f.params = pn := ⟨f.params.toNat, by have := HOKF.out.p0; omega⟩
      have hpv : pn ≤ f.vars.length := by have := HOKF.out.p1; omega
      have HPN := Lib.hid hpn
      clear hpn
      go_wp2
      clear hmk
      go_loopw [7] (fun v wx => ∃ k : Nat, k ≤ pn ∧ v = .int .i64 k ∧ T6 w (.slice (some ⟨b, off, none⟩) fs.length c) f w3.heap.size w4.heap.size gp gd (w4.heap.size + 1) par dep (List.replicate k true ++ List.replicate (f.vars.length - k) false) wx) (fun v _ => pn - (intOf v).toNat)
      case atStart => exact ⟨0, Nat.zero_le _, rfl, ⟨⟨HTS.out.fs.alloc _, HTS.out.tb.alloc _, HTS.out.bp.alloc _, HTS.out.bd.alloc _⟩, HFB.out.alloc _, by simpa using BB.make_at (by simp), by omega, by omega, by omega, by omega, by omega⟩⟩
      case round =>
        clear HTS HFB hc4 hf4 ub0 c0 c1 c2 c3 c4 c5 c6
        obtain ⟨k, hk, rfl, hT⟩ := hrel
        obtain ⟨a0, a1, a2, a3, a4, a5, a6⟩ := box7 hT.fb
        rw [HPN.out] at a2
        have HT := Lib.hid hT
        obtain ⟨w5, hw5⟩ : ∃ wo : World, wo = wr := ⟨_, rfl⟩
        by_cases hkl : k < pn
        · have hd := hT.sb.cell (k := k) (x := false) (rep_at2 k f.vars.length (by omega))
          have fz := hT.sb.fz k
          have k1 : (k : Int) < pn := by omega
          have k2 : k < f.vars.length := by omega
          have k3 : (k : Int) < f.vars.length := by omega
          clear hT
          go_wp2
          refine ⟨⟨k + 1, by omega, by go_num, ?_⟩, by simp [intOf]; omega⟩
          have := HT.out.set_ k true
          rw [rep_set2 k f.vars.length (by omega)] at this
          exact this
        · have hkk : k = pn := by omega
          have HSD : Hid (List.replicate k true ++ List.replicate (f.vars.length - k) false = seen0 f.params f.vars.length) := by
            unfold seen0; rw [HPN.out, hkk]; exact Lib.hid rfl
          rw [HSD.out] at hT
          have HT0 := Lib.hid hT
          have hk2 : ¬ ((k : Int) < pn) := by omega
          have hs0 : Hid ((seen0 f.params f.vars.length).length = f.vars.length) := by
            rw [← HSD.out]; simp only [List.length_append, List.length_replicate]; exact Lib.hid (by omega)
          clear hT HT
          go_wp2
          go_loopw [48] (fun v wx => ∃ (q : Nat) (sn : List Bool), q ≤ f.ns.length ∧ v = .int .i64 q ∧ sn.length = f.vars.length ∧ loopS (step6 (fs.map LF.fd) p) 0 f.ns.length (seen0 f.params f.vars.length) = loopS (step6 (fs.map LF.fd) p) q (f.ns.length - q) sn ∧ T6 w (.slice (some ⟨b, off, none⟩) fs.length c) f w3.heap.size w4.heap.size gp gd (w4.heap.size + 1) par dep sn wx) (fun v _ => f.ns.length - (intOf v).toNat)
          case atStart => exact ⟨0, _, Nat.zero_le _, rfl, hs0.out, rfl, HT0.out⟩
          case round =>
            clear HT0
            obtain ⟨q, sn, hq, rfl, hsl, hC, hT⟩ := hrel
            have ub0 := hT.ts.fs.ub.cell 0
            obtain ⟨a0, a1, a2, a3, a4, a5, a6⟩ := box7 hT.fb
            obtain ⟨d0, d1⟩ := box2 hT.ts.tb
            have HT := Lib.hid hT
            have HC := Lib.hid hC
            have HSN := Lib.hid hsl
            by_cases hql : q < f.ns.length
            · obtain ⟨l, hl⟩ : ∃ l, f.ns[q]? = some l := ⟨_, List.getElem?_eq_getElem hql⟩
              obtain ⟨r, hr⟩ : ∃ r, f.ns.length - q = r + 1 := ⟨f.ns.length - q - 1, by omega⟩
              have HRR := Lib.hid hr
              have HLL := Lib.hid hl
              obtain ⟨rb, sn', hrf⟩ : ∃ rb sn', refsB (f.ns.map LN.nd) par f.params f.vars.length f.ups.length fs.length q l.nd sn = (rb, sn') := ⟨_, _, rfl⟩
              have HRF := Lib.hid hrf
              have HST : Hid (step6 (fs.map LF.fd) p q sn = if rb then some sn' else none) := by
                unfold step6
                simp only
                rw [fd_at HPF.out, List.length_map, show f.fd.nodes = f.ns.map LN.nd from rfl, nd_atD hl, HPA.out, show f.fd.params = f.params from rfl, show f.fd.vars = f.vars from rfl, show f.fd.ups = f.ups from rfl, hrf]; exact Lib.hid rfl
              have hsl2 : Hid (sn'.length = f.vars.length) := by
                have := refsB_len (f.ns.map LN.nd) par f.params f.vars.length f.ups.length fs.length q l.nd sn
                rw [hrf] at this
                exact Lib.hid (this.trans hsl)
              have hqi : (q : Int) < f.ns.length := by omega
              clear hT hC hsl hl hr hrf
              cases rb
              · have HQ : Hid (F3 (fs.map LF.fd) = (6, (p : Int), (q : Int))) := by
                  rw [HOF.out, HB.out, HM.out, loop2_bad (n := q) (by rw [HIN.out, HC.out, HRR.out, loopS_bad (by rw [HST.out]; rfl)])]; exact Lib.hid rfl
                go_wp2_with fail
                have hrefs := refs_any f par gp f.ns.length (w4.heap.size + 1) f.vars.length fs.length c (some ⟨b, off, none⟩) (.slice (some ⟨gd, 0, none⟩) f.ns.length f.ns.length) sn l w wr lo q HT.out.ts.fs.bel HNW.out hfn HFF.out.2.2.2.2 HLL.out HT.out.ts.bp HPL.out HUP.out HOKF.out.ia HT.out.sb HSN.out hvn HOKF.out.un hn (by have := HT.out.lo; omega) (fun e => HT.out.ne3 e.symm) (HOKF.out.rf l (List.mem_of_getElem? HLL.out))
                rw [show sn.length = f.vars.length from HSN.out] at hrefs
                refine hrefs.mono ?_
                rintro e w2 ⟨he, hs2, hbut⟩
                rw [HRF.out] at he hs2
                dsimp only at he hs2
                subst he
                clear hrefs
                have HT2 := Lib.hid (HT.out.but hbut hs2)
                clear hbut hs2
                have HS2 := Lib.hid HT2.out.ts.fs
                go_wp2_with fail
                refine (fault_any _ _ _ _).mono ?_
                rintro e w5 ⟨rfl, hb5⟩
                have HR5 := HS2.out.below hb5
                obtain ⟨r0, r1, r2⟩ := box3 HR5.rb
                have g0 := HR5.rb.frozen 0
                have g1 := HR5.rb.frozen 1
                have g2 := HR5.rb.frozen 2
                have HR6 := Lib.hid HR5
                clear HR5 hb5
                go_wp2
                refine bodyPost_ret (by simp [results, Try.results20, go_sem, *]; rfl) rfl ?_
                exact ⟨by rw [HQ.out]; rfl, ((HR6.out.bel.setCell (by simp) _).setCell (by simp) _).setCell (by simp) _⟩
              · go_wp2_with fail
                have hrefs := refs_any f par gp f.ns.length (w4.heap.size + 1) f.vars.length fs.length c (some ⟨b, off, none⟩) (.slice (some ⟨gd, 0, none⟩) f.ns.length f.ns.length) sn l w wr lo q HT.out.ts.fs.bel HNW.out hfn HFF.out.2.2.2.2 HLL.out HT.out.ts.bp HPL.out HUP.out HOKF.out.ia HT.out.sb HSN.out hvn HOKF.out.un hn (by have := HT.out.lo; omega) (fun e => HT.out.ne3 e.symm) (HOKF.out.rf l (List.mem_of_getElem? HLL.out))
                rw [show sn.length = f.vars.length from HSN.out] at hrefs
                refine hrefs.mono ?_
                rintro e w2 ⟨he, hs2, hbut⟩
                rw [HRF.out] at he hs2
                dsimp only at he hs2
                subst he
                clear hrefs
                have HT2 := Lib.hid (HT.out.but hbut hs2)
                clear hbut hs2
                go_wp2
                exact ⟨⟨q + 1, sn', by omega, by go_num, hsl2.out, by rw [HC.out, HRR.out, loopS_ok (s' := sn') (by rw [HST.out]; rfl), show f.ns.length - (q + 1) = r by have := HRR.out; omega], HT2.out⟩, by simp [intOf]; omega⟩
            · have hqq : q = f.ns.length := by omega
              have HIN2 : Hid (in6 (fs.map LF.fd) p () = .inl ()) := by
                rw [HIN.out, hC, hqq, Nat.sub_self]; exact Lib.hid rfl
              clear hT hC hsl
              go_wp2
              exact ⟨⟨p + 1, by omega, by go_num, by rw [HB.out, HM.out, loop2_ok HIN2.out, show fs.length - (p + 1) = m by have := HM.out; omega], HT.out.ts.fs⟩, by simp [intOf]; omega⟩
    · have hpp : p = fs.length := by omega
      have HP6 : Hid (P6 (fs.map LF.fd) = .inl ()) := by
        rw [hB, hpp, Nat.sub_self]; exact Lib.hid rfl
      have HOF2 : Hid (F3 (fs.map LF.fd) = match P7 (fs.map LF.fd) with
          | .inr (f, n) => ((7 : Int), (f : Int), (n : Int))
          | .inl _ => match P8 (fs.map LF.fd) with
            | .inr (f, n) => (8, (f : Int), (n : Int))
            | .inl made => match P9 (fs.map LF.fd) made with
              | .inr f => (9, (f : Int), 0)
              | .inl _ => (0, 0, 0)) := by
        rw [HOF.out, HP6.out]; exact Lib.hid rfl
      clear hS hB HB HOF hlt hp
      subst hpp
      obtain ⟨w2, hw2⟩ : ∃ wo : World, wo = wr := ⟨_, rfl⟩
      obtain rfl := hw2
      go_wp2
      go_loopw [66] (fun v wr => ∃ (p : Nat), p ≤ fs.length ∧ v = .int .i64 p ∧ P7 (fs.map LF.fd) = loop2 (in2 (fun i => fine7 (nodesAt (fs.map LF.fd) i)) (lenAt (fs.map LF.fd))) p (fs.length - p) () ∧ Fs w (.slice A fs.length c) wr) (fun v _ => fs.length - (intOf v).toNat)
      case atStart => exact ⟨0, Nat.zero_le _, rfl, by unfold P7 find2; rw [List.length_map]; rfl, HS.out⟩
      case round =>
        obtain ⟨p, hp, rfl, hB, hS⟩ := hrel
        have ub0 := hS.ub.cell 0
        have HS := Lib.hid hS
        have HB := Lib.hid hB
        have hsz := hS.rb.lt
        have hsz0 : w.heap.size < wr.heap.size := by omega
        by_cases hlt : p < fs.length
        · obtain ⟨f, hpf⟩ : ∃ f, fs[p]? = some f := ⟨_, List.getElem?_eq_getElem hlt⟩
          obtain ⟨b, off, rfl, hlo, hb, c0, c1, c2, c3, c4, c5, c6, hokf⟩ := rdF_at (H.out.below hS.bel) hpf
          have HNW := Lib.hid (H.out.2 f (List.mem_of_getElem? hpf)).2.2
          have HFF := Lib.hid (HF.out f (List.mem_of_getElem? hpf))
          have HOKF := Lib.hid (HOK.out f (List.mem_of_getElem? hpf))
          have hfn := HOKF.out.cn
          have hvn := HOKF.out.vn
          obtain ⟨m, hm⟩ : ∃ m, fs.length - p = m + 1 := ⟨fs.length - p - 1, by omega⟩
          have HM := Lib.hid hm
          have HPF := Lib.hid hpf
          obtain ⟨par, hpar⟩ : ∃ par, parF (f.ns.map LN.nd) = par := ⟨_, rfl⟩
          have HPL : Hid (par.length = f.ns.length) := by rw [← hpar, parF_len, List.length_map]; exact Lib.hid rfl
          have HUP : Hid (UpL f.ns.length par) := by have := parF_up HOKF.out.ia; rw [List.length_map, hpar] at this; exact Lib.hid this
          have HPA := Lib.hid hpar
          obtain ⟨dep, hdep⟩ : ∃ dep, depF par f.ns.length = dep := ⟨_, rfl⟩
          have HDE := Lib.hid hdep
          have hpl : (p : Int) < fs.length := by omega
          have hfp : 0 < f.ns.length := HOKF.out.pos
          have HIN : Hid (in2 (fun i => fine7 (nodesAt (fs.map LF.fd) i)) (lenAt (fs.map LF.fd)) p () = loopS (chk (fine7 (f.ns.map LN.nd))) 0 f.ns.length ()) := by
            unfold in2 find1; rw [len_at hpf]; show Hid (loopS (chk (fine7 (nodesAt (fs.map LF.fd) p))) 0 f.ns.length () = _); rw [nodes_at hpf]; exact Lib.hid rfl
          clear hS hB hpf hm hokf hpar hdep
          obtain ⟨w3, hw3⟩ : ∃ wo : World, wo = wr := ⟨_, rfl⟩
          obtain rfl := hw3
          go_wp2_with fail
          refine (grow_any _ _ f.ns _ lo (HNW.out.below ((HS.out.alloc (.cells #[.string f.name, .int .i64 f.line, .int .i64 f.params, .bool f.rest, .slice f.va f.vars.length f.vc, .slice f.ua f.ups.length f.uc, .slice f.na f.ns.length f.nc] 47)).bel)) hfn HFF.out.2.2.2.2 HOKF.out.pos (fun k l hk => HOKF.out.ia k l.nd (nd_at hk))).mono ?_
          rintro e w4 ⟨gp, gd, rfl, hbp, hbd, hgp, hgd, hb4⟩
          rw [HPA.out] at hbp hbd
          rw [HDE.out] at hbd
          obtain ⟨hc4, hf4⟩ := bcell hb4
          have hq4 := hb4.size
          try simp only [World.size_alloc] at hc4 hf4 hq4
          have hsz4 : w.heap.size < w4.heap.size := by omega
          have hbz : b < w4.heap.size := by omega
          have hz40 : w3.heap.size < w4.heap.size := by omega
          have hz41 : w3.heap.size < w4.heap.size + 1 := by omega
          have HTS := Lib.hid (⟨(((HS.out.alloc (.cells #[.string f.name, .int .i64 f.line, .int .i64 f.params, .bool f.rest, .slice f.va f.vars.length f.vc, .slice f.ua f.ups.length f.uc, .slice f.na f.ns.length f.nc] 47)).below hb4).alloc _), Blk.new _ _ _, hbp.alloc _, hbd.alloc _⟩ : Ts w (.slice (some ⟨b, off, none⟩) fs.length c) w4.heap.size gp gd f.ns.length par dep (w4.alloc (.cells #[.slice (some ⟨gp, 0, none⟩) f.ns.length f.ns.length, .slice (some ⟨gd, 0, none⟩) f.ns.length f.ns.length] 73)))
          have HFB := Lib.hid (((Blk.new w3 47 #[.string f.name, .int .i64 f.line, .int .i64 f.params, .bool f.rest, .slice f.va f.vars.length f.vc, .slice f.ua f.ups.length f.uc, .slice f.na f.ns.length f.nc]).below hb4 (by simp)).alloc (.cells #[.slice (some ⟨gp, 0, none⟩) f.ns.length f.ns.length, .slice (some ⟨gd, 0, none⟩) f.ns.length f.ns.length] 73))
          clear hbp hbd hb4 hgp hgd
          go_wp2
          go_loopw [77] (fun v wx => ∃ q : Nat, q ≤ f.ns.length ∧ v = .int .i64 q ∧ in2 (fun i => fine7 (nodesAt (fs.map LF.fd) i)) (lenAt (fs.map LF.fd)) p () = loopS (chk (fine7 (f.ns.map LN.nd))) q (f.ns.length - q) () ∧ Ts w (.slice (some ⟨b, off, none⟩) fs.length c) w4.heap.size gp gd f.ns.length par dep wx ∧ Blk wx w3.heap.size 47 #[.string f.name, .int .i64 f.line, .int .i64 f.params, .bool f.rest, .slice f.va f.vars.length f.vc, .slice f.ua f.ups.length f.uc, .slice f.na f.ns.length f.nc]) (fun v _ => f.ns.length - (intOf v).toNat)
          case atStart => exact ⟨0, Nat.zero_le _, rfl, HIN.out, HTS.out, HFB.out⟩
          case round =>
            clear HTS HFB hc4 hf4 ub0 c0 c1 c2 c3 c4 c5 c6
            obtain ⟨q, hq, rfl, hC, hT, hfb⟩ := hrel
            have ub0 := hT.fs.ub.cell 0
            obtain ⟨a0, a1, a2, a3, a4, a5, a6⟩ := box7 hfb
            obtain ⟨d0, d1⟩ := box2 hT.tb
            have HT := Lib.hid hT
            have HC := Lib.hid hC
            have HFBX := Lib.hid hfb
            by_cases hql : q < f.ns.length
            · obtain ⟨l, hl⟩ : ∃ l, f.ns[q]? = some l := ⟨_, List.getElem?_eq_getElem hql⟩
              obtain ⟨r, hr⟩ : ∃ r, f.ns.length - q = r + 1 := ⟨f.ns.length - q - 1, by omega⟩
              have HRR := Lib.hid hr
              have HLL := Lib.hid hl
              have hqi : (q : Int) < f.ns.length := by omega
              obtain ⟨bn, offn, hna, hlon, hbn, n0, -, -, -, -, -, -, -, -⟩ := rdN_at (HNW.out.below hT.fs.bel) hl
              rw [hna] at a6
              have HFE : Hid (fine7 (f.ns.map LN.nd) q = !((l.nd.kind == 9 || l.nd.kind == 10) && !inB (f.ns.map LN.nd) par q)) := by
                unfold fine7; rw [nd_atD hl, HPA.out]; exact Lib.hid rfl
              have HNA := Lib.hid hna
              clear hT hC hl hr hfb hna
              by_cases hk9 : l.nd.kind = 9
              · rw [hk9] at n0
                cases hI : inB (f.ns.map LN.nd) par q
                · have HFN : Hid (fine7 (f.ns.map LN.nd) q = false) := by rw [HFE.out, hk9, hI]; exact Lib.hid rfl
                  clear hk9
                  have HQ : Hid (F3 (fs.map LF.fd) = (7, (p : Int), (q : Int))) := by
                    rw [HOF2.out, HB.out, HM.out, loop2_bad (n := q) (by rw [HC.out, HRR.out, loopS_bad (chk_f HFN.out)])]; exact Lib.hid rfl
                  have hinl := inl_any f par gp f.ns.length (.slice (some ⟨gd, 0, none⟩) f.ns.length f.ns.length) wr lo q (HNW.out.below HT.out.fs.bel) hfn HFF.out.2.2.2.2 hql HT.out.bp HPL.out HUP.out HOKF.out.ia HOKF.out.lk
                  rw [HNA.out, hI] at hinl
                  go_wp2_with fail
                  refine hinl.mono ?_
                  rintro e w2 ⟨rfl, hb2⟩
                  have HT2 := Lib.hid (HT.out.below hb2)
                  have HF2 := Lib.hid (HFBX.out.below hb2 HFBX.out.lt)
                  clear hb2 hinl
                  have HS2 := Lib.hid HT2.out.fs
                  go_wp2_with fail
                  refine (fault_any _ _ _ _).mono ?_
                  rintro e w5 ⟨rfl, hb5⟩
                  have HR5 := HS2.out.below hb5
                  obtain ⟨r0, r1, r2⟩ := box3 HR5.rb
                  have g0 := HR5.rb.frozen 0
                  have g1 := HR5.rb.frozen 1
                  have g2 := HR5.rb.frozen 2
                  have HR6 := Lib.hid HR5
                  clear HR5 hb5
                  go_wp2
                  refine bodyPost_ret (by simp [results, Try.results20, go_sem, *]; rfl) rfl ?_
                  exact ⟨by rw [HQ.out]; rfl, ((HR6.out.bel.setCell (by simp) _).setCell (by simp) _).setCell (by simp) _⟩
                · have HFN : Hid (fine7 (f.ns.map LN.nd) q = true) := by rw [HFE.out, hk9, hI]; exact Lib.hid rfl
                  clear hk9
                  have hinl := inl_any f par gp f.ns.length (.slice (some ⟨gd, 0, none⟩) f.ns.length f.ns.length) wr lo q (HNW.out.below HT.out.fs.bel) hfn HFF.out.2.2.2.2 hql HT.out.bp HPL.out HUP.out HOKF.out.ia HOKF.out.lk
                  rw [HNA.out, hI] at hinl
                  go_wp2_with fail
                  refine hinl.mono ?_
                  rintro e w2 ⟨rfl, hb2⟩
                  have HT2 := Lib.hid (HT.out.below hb2)
                  have HF2 := Lib.hid (HFBX.out.below hb2 HFBX.out.lt)
                  clear hb2 hinl
                  go_wp2
                  exact ⟨⟨q + 1, by omega, by go_num, by rw [HC.out, HRR.out, loopS_ok (chk_t HFN.out), show f.ns.length - (q + 1) = r by have := HRR.out; omega], HT2.out, HF2.out⟩, by simp [intOf]; omega⟩
              by_cases hk10 : l.nd.kind = 10
              · rw [hk10] at n0
                cases hI : inB (f.ns.map LN.nd) par q
                · have HFN : Hid (fine7 (f.ns.map LN.nd) q = false) := by rw [HFE.out, hk10, hI]; exact Lib.hid rfl
                  clear hk10 hk9
                  have HQ : Hid (F3 (fs.map LF.fd) = (7, (p : Int), (q : Int))) := by
                    rw [HOF2.out, HB.out, HM.out, loop2_bad (n := q) (by rw [HC.out, HRR.out, loopS_bad (chk_f HFN.out)])]; exact Lib.hid rfl
                  have hinl := inl_any f par gp f.ns.length (.slice (some ⟨gd, 0, none⟩) f.ns.length f.ns.length) wr lo q (HNW.out.below HT.out.fs.bel) hfn HFF.out.2.2.2.2 hql HT.out.bp HPL.out HUP.out HOKF.out.ia HOKF.out.lk
                  rw [HNA.out, hI] at hinl
                  go_wp2_with fail
                  refine hinl.mono ?_
                  rintro e w2 ⟨rfl, hb2⟩
                  have HT2 := Lib.hid (HT.out.below hb2)
                  have HF2 := Lib.hid (HFBX.out.below hb2 HFBX.out.lt)
                  clear hb2 hinl
                  have HS2 := Lib.hid HT2.out.fs
                  go_wp2_with fail
                  refine (fault_any _ _ _ _).mono ?_
                  rintro e w5 ⟨rfl, hb5⟩
                  have HR5 := HS2.out.below hb5
                  obtain ⟨r0, r1, r2⟩ := box3 HR5.rb
                  have g0 := HR5.rb.frozen 0
                  have g1 := HR5.rb.frozen 1
                  have g2 := HR5.rb.frozen 2
                  have HR6 := Lib.hid HR5
                  clear HR5 hb5
                  go_wp2
                  refine bodyPost_ret (by simp [results, Try.results20, go_sem, *]; rfl) rfl ?_
                  exact ⟨by rw [HQ.out]; rfl, ((HR6.out.bel.setCell (by simp) _).setCell (by simp) _).setCell (by simp) _⟩
                · have HFN : Hid (fine7 (f.ns.map LN.nd) q = true) := by rw [HFE.out, hk10, hI]; exact Lib.hid rfl
                  clear hk10 hk9
                  have hinl := inl_any f par gp f.ns.length (.slice (some ⟨gd, 0, none⟩) f.ns.length f.ns.length) wr lo q (HNW.out.below HT.out.fs.bel) hfn HFF.out.2.2.2.2 hql HT.out.bp HPL.out HUP.out HOKF.out.ia HOKF.out.lk
                  rw [HNA.out, hI] at hinl
                  go_wp2_with fail
                  refine hinl.mono ?_
                  rintro e w2 ⟨rfl, hb2⟩
                  have HT2 := Lib.hid (HT.out.below hb2)
                  have HF2 := Lib.hid (HFBX.out.below hb2 HFBX.out.lt)
                  clear hb2 hinl
                  go_wp2
                  exact ⟨⟨q + 1, by omega, by go_num, by rw [HC.out, HRR.out, loopS_ok (chk_t HFN.out), show f.ns.length - (q + 1) = r by have := HRR.out; omega], HT2.out, HF2.out⟩, by simp [intOf]; omega⟩
              have HFN : Hid (fine7 (f.ns.map LN.nd) q = true) := by
                rw [HFE.out, beq_eq_false_iff_ne.2 hk9, beq_eq_false_iff_ne.2 hk10]; exact Lib.hid rfl
              have e9 := beq_eq_false_iff_ne.2 hk9
              have e10 := beq_eq_false_iff_ne.2 hk10
              clear hk9 hk10
              go_wp2
              exact ⟨⟨q + 1, by omega, by go_num, by rw [HC.out, HRR.out, loopS_ok (chk_t HFN.out), show f.ns.length - (q + 1) = r by have := HRR.out; omega], HT.out, HFBX.out⟩, by simp [intOf]; omega⟩
            · have hqq : q = f.ns.length := by omega
              have HIN2 : Hid (in2 (fun i => fine7 (nodesAt (fs.map LF.fd) i)) (lenAt (fs.map LF.fd)) p () = .inl ()) := by
                rw [hC, hqq, Nat.sub_self]; exact Lib.hid rfl
              clear hT hC hfb
              go_wp2
              exact ⟨⟨p + 1, by omega, by go_num, by rw [HB.out, HM.out, loop2_ok HIN2.out, show fs.length - (p + 1) = m by have := HM.out; omega], HT.out.fs⟩, by simp [intOf]; omega⟩
        · have hpp : p = fs.length := by omega
          have HOF3 : Hid (F3 (fs.map LF.fd) = match P8 (fs.map LF.fd) with
              | .inr (f, n) => ((8 : Int), (f : Int), (n : Int))
              | .inl made => match P9 (fs.map LF.fd) made with
                | .inr f => (9, (f : Int), 0)
                | .inl _ => (0, 0, 0)) := by
            rw [HOF2.out, hB, hpp, Nat.sub_self]; exact Lib.hid rfl
          clear hS hB HB HOF2 hlt hp
          subst hpp
          obtain ⟨w2, hw2⟩ : ∃ wo : World, wo = wr := ⟨_, rfl⟩
          obtain rfl := hw2
          have hmk8 := mk55 fs.length hn
          go_wp2
          clear hmk8
          go_loopw [111] (fun v wr => ∃ (p : Nat) (made : List Bool), p ≤ fs.length ∧ v = .int .i64 p ∧ made.length = fs.length ∧ P8 (fs.map LF.fd) = loop2 (in8 (fs.map LF.fd)) p (fs.length - p) made ∧ Fs w (.slice A fs.length c) wr ∧ BB wr w2.heap.size made) (fun v _ => fs.length - (intOf v).toNat)
          case atStart => exact ⟨0, List.replicate fs.length false, Nat.zero_le _, rfl, by simp, by unfold P8; rw [List.length_map]; rfl, HS.out.alloc _, BB.make_at rfl⟩
          case round =>
            have hgm : w.heap.size + 1 < w2.heap.size := hsz
            obtain ⟨gm, hgme⟩ : ∃ gm, gm = w2.heap.size := ⟨_, rfl⟩
            rw [← hgme] at hgm hrel ⊢
            clear HS ub0 hsz hsz0 hgme
            obtain ⟨p, made, hp, rfl, hml, hB, hS, hM⟩ := hrel
            have ub0 := hS.ub.cell 0
            have HS := Lib.hid hS
            have HB := Lib.hid hB
            have HMB := Lib.hid hM
            have HMLX := Lib.hid hml
            have hsz := hS.rb.lt
            have hsz0 : w.heap.size < wr.heap.size := by omega
            clear hM hml
            by_cases hlt : p < fs.length
            · obtain ⟨f, hpf⟩ : ∃ f, fs[p]? = some f := ⟨_, List.getElem?_eq_getElem hlt⟩
              obtain ⟨b, off, rfl, hlo, hb, c0, c1, c2, c3, c4, c5, c6, hokf⟩ := rdF_at (H.out.below hS.bel) hpf
              have HNW := Lib.hid (H.out.2 f (List.mem_of_getElem? hpf)).2.2
              have HFF := Lib.hid (HF.out f (List.mem_of_getElem? hpf))
              have HOKF := Lib.hid (HOK.out f (List.mem_of_getElem? hpf))
              have hfn := HOKF.out.cn
              have hvn := HOKF.out.vn
              obtain ⟨m, hm⟩ : ∃ m, fs.length - p = m + 1 := ⟨fs.length - p - 1, by omega⟩
              have HM := Lib.hid hm
              have HPF := Lib.hid hpf
              obtain ⟨par, hpar⟩ : ∃ par, parF (f.ns.map LN.nd) = par := ⟨_, rfl⟩
              have HPL : Hid (par.length = f.ns.length) := by rw [← hpar, parF_len, List.length_map]; exact Lib.hid rfl
              have HUP : Hid (UpL f.ns.length par) := by have := parF_up HOKF.out.ia; rw [List.length_map, hpar] at this; exact Lib.hid this
              have HPA := Lib.hid hpar
              obtain ⟨dep, hdep⟩ : ∃ dep, depF par f.ns.length = dep := ⟨_, rfl⟩
              have HDE := Lib.hid hdep
              have hpl : (p : Int) < fs.length := by omega
              have hfp : 0 < f.ns.length := HOKF.out.pos
              have HIN : Hid (in8 (fs.map LF.fd) p made = loopS (step8 (fs.map LF.fd) p) 0 f.ns.length made) := by
                unfold in8; rw [len_at hpf]; exact Lib.hid rfl
              have hml := HMLX.out
              clear hS hB hpf hm hokf hpar hdep
              obtain ⟨w3, hw3⟩ : ∃ wo : World, wo = wr := ⟨_, rfl⟩
              obtain rfl := hw3
              go_wp2_with fail
              refine (grow_any _ _ f.ns _ lo (HNW.out.below ((HS.out.alloc (.cells #[.string f.name, .int .i64 f.line, .int .i64 f.params, .bool f.rest, .slice f.va f.vars.length f.vc, .slice f.ua f.ups.length f.uc, .slice f.na f.ns.length f.nc] 47)).bel)) hfn HFF.out.2.2.2.2 HOKF.out.pos (fun k l hk => HOKF.out.ia k l.nd (nd_at hk))).mono ?_
              rintro e w4 ⟨gp, gd, rfl, hbp, hbd, hgp, hgd, hb4⟩
              rw [HPA.out] at hbp hbd
              rw [HDE.out] at hbd
              obtain ⟨hc4, hf4⟩ := bcell hb4
              have hq4 := hb4.size
              try simp only [World.size_alloc] at hc4 hf4 hq4
              have hsz4 : w.heap.size < w4.heap.size := by omega
              have hbz : b < w4.heap.size := by omega
              have hz40 : w3.heap.size < w4.heap.size := by omega
              have hz41 : w3.heap.size < w4.heap.size + 1 := by omega
              have HTS := Lib.hid (⟨(((HS.out.alloc (.cells #[.string f.name, .int .i64 f.line, .int .i64 f.params, .bool f.rest, .slice f.va f.vars.length f.vc, .slice f.ua f.ups.length f.uc, .slice f.na f.ns.length f.nc] 47)).below hb4).alloc _), Blk.new _ _ _, hbp.alloc _, hbd.alloc _⟩ : Ts w (.slice (some ⟨b, off, none⟩) fs.length c) w4.heap.size gp gd f.ns.length par dep (w4.alloc (.cells #[.slice (some ⟨gp, 0, none⟩) f.ns.length f.ns.length, .slice (some ⟨gd, 0, none⟩) f.ns.length f.ns.length] 73)))
              have HFB := Lib.hid (((Blk.new w3 47 #[.string f.name, .int .i64 f.line, .int .i64 f.params, .bool f.rest, .slice f.va f.vars.length f.vc, .slice f.ua f.ups.length f.uc, .slice f.na f.ns.length f.nc]).below hb4 (by simp)).alloc (.cells #[.slice (some ⟨gp, 0, none⟩) f.ns.length f.ns.length, .slice (some ⟨gd, 0, none⟩) f.ns.length f.ns.length] 73))
              have HT0 := Lib.hid (⟨HTS.out, HFB.out, ((HMB.out.alloc (.cells #[.string f.name, .int .i64 f.line, .int .i64 f.params, .bool f.rest, .slice f.va f.vars.length f.vc, .slice f.ua f.ups.length f.uc, .slice f.na f.ns.length f.nc] 47)).below hb4).alloc _, by have := HMB.out.lt; omega, by have := HMB.out.lt; omega, by have := HMB.out.lt; simp at hgp; omega, by have := HMB.out.lt; simp at hgd; omega, hgm⟩ : T6 w (.slice (some ⟨b, off, none⟩) fs.length c) f w3.heap.size w4.heap.size gp gd gm par dep made (w4.alloc (.cells #[.slice (some ⟨gp, 0, none⟩) f.ns.length f.ns.length, .slice (some ⟨gd, 0, none⟩) f.ns.length f.ns.length] 73)))
              clear hbp hbd hb4 hgp hgd
              go_wp2
              go_loopw [122] (fun v wx => ∃ (q : Nat) (mk : List Bool), q ≤ f.ns.length ∧ v = .int .i64 q ∧ mk.length = fs.length ∧ in8 (fs.map LF.fd) p made = loopS (step8 (fs.map LF.fd) p) q (f.ns.length - q) mk ∧ T6 w (.slice (some ⟨b, off, none⟩) fs.length c) f w3.heap.size w4.heap.size gp gd gm par dep mk wx) (fun v _ => f.ns.length - (intOf v).toNat)
              case atStart => exact ⟨0, made, Nat.zero_le _, rfl, hml, HIN.out, HT0.out⟩
              case round =>
                clear HTS HFB HT0 HMB hc4 hf4 ub0 c0 c1 c2 c3 c4 c5 c6
                obtain ⟨q, mk, hq, rfl, hmk, hC, hT⟩ := hrel
                have ub0 := hT.ts.fs.ub.cell 0
                obtain ⟨a0, a1, a2, a3, a4, a5, a6⟩ := box7 hT.fb
                obtain ⟨d0, d1⟩ := box2 hT.ts.tb
                have HT := Lib.hid hT
                have HC := Lib.hid hC
                have HMK := Lib.hid hmk
                by_cases hql : q < f.ns.length
                · obtain ⟨l, hl⟩ : ∃ l, f.ns[q]? = some l := ⟨_, List.getElem?_eq_getElem hql⟩
                  obtain ⟨r, hr⟩ : ∃ r, f.ns.length - q = r + 1 := ⟨f.ns.length - q - 1, by omega⟩
                  have HRR := Lib.hid hr
                  have HLL := Lib.hid hl
                  have hqi : (q : Int) < f.ns.length := by omega
                  obtain ⟨bn, offn, hna, hlon, hbn, n0, -, -, -, -, -, n6, -, hokn⟩ := rdN_at (HNW.out.below hT.ts.fs.bel) hl
                  rw [hna] at a6
                  have HOKN := Lib.hid hokn.1
                  have HST0 : Hid (step8 (fs.map LF.fd) p q mk = if l.nd.kind = 37 ∧ f.rest = false then none else if l.nd.kind ≠ 36 then some mk else if ref0 l.nd ≤ p ∨ mk[(ref0 l.nd).toNat]? = some true ∨ upsB (f.ns.map LN.nd) par f.params f.vars.length f.ups.length q (fdAt (fs.map LF.fd) (ref0 l.nd).toNat).ups = false then none else some (mk.set (ref0 l.nd).toNat true)) := by
                    unfold step8
                    simp only
                    rw [fd_at HPF.out, show f.fd.nodes = f.ns.map LN.nd from rfl, nd_atD hl, HPA.out, show f.fd.params = f.params from rfl, show f.fd.vars = f.vars from rfl, show f.fd.ups = f.ups from rfl, show f.fd.rest = f.rest from rfl]; exact Lib.hid rfl
                  clear hT hC hl hr hna hokn hmk
                  by_cases hk37 : l.nd.kind = 37
                  · cases hre : f.rest
                    · have HST : Hid (step8 (fs.map LF.fd) p q mk = none) := by rw [HST0.out, if_pos ⟨hk37, hre⟩]; exact Lib.hid rfl
                      rw [hk37] at n0
                      rw [hre] at a3
                      clear hk37
                      have HQ : Hid (F3 (fs.map LF.fd) = (8, (p : Int), (q : Int))) := by
                        rw [HOF3.out, HB.out, HM.out, loop2_bad (n := q) (by rw [HC.out, HRR.out, loopS_bad HST.out])]; exact Lib.hid rfl
                      have HS2 := Lib.hid HT.out.ts.fs
                      go_wp2_with fail
                      refine (fault_any _ _ _ _).mono ?_
                      rintro e w5 ⟨rfl, hb5⟩
                      have HR5 := HS2.out.below hb5
                      obtain ⟨r0, r1, r2⟩ := box3 HR5.rb
                      have g0 := HR5.rb.frozen 0
                      have g1 := HR5.rb.frozen 1
                      have g2 := HR5.rb.frozen 2
                      have HR6 := Lib.hid HR5
                      clear HR5 hb5
                      go_wp2
                      refine bodyPost_ret (by simp [results, Try.results20, go_sem, *]; rfl) rfl ?_
                      exact ⟨by rw [HQ.out]; rfl, ((HR6.out.bel.setCell (by simp) _).setCell (by simp) _).setCell (by simp) _⟩
                    · have HST : Hid (step8 (fs.map LF.fd) p q mk = some mk) := by rw [HST0.out, if_neg (fun h => by rw [hre] at h; exact Bool.noConfusion h.2), if_pos (by omega)]; exact Lib.hid rfl
                      rw [hk37] at n0
                      rw [hre] at a3
                      clear hk37
                      go_wp2
                      exact ⟨⟨q + 1, mk, by omega, by go_num, HMK.out, by rw [HC.out, HRR.out, loopS_ok HST.out, show f.ns.length - (q + 1) = r by have := HRR.out; omega], HT.out⟩, by simp [intOf]; omega⟩
                  have e37 := beq_eq_false_iff_ne.2 hk37
                  by_cases hk36 : l.nd.kind = 36
                  · obtain ⟨g0, g1⟩ := P6_ref HP6.out p (by rw [List.length_map]; exact hlt) q (by rw [len_at HPF.out]; exact hql) (by rw [fd_at HPF.out, show f.fd.nodes = f.ns.map LN.nd from rfl, nd_atD HLL.out]; exact hk36)
                    rw [fd_at HPF.out, show f.fd.nodes = f.ns.map LN.nd from rfl, nd_atD HLL.out] at g0 g1
                    rw [List.length_map] at g1
                    obtain ⟨gn, hgn⟩ : ∃ gn : Nat, ref0 l.nd = gn := ⟨(ref0 l.nd).toNat, by omega⟩
                    have hr0 : l.nd.refs[0]? = some (gn : Int) := by
                      obtain ⟨x, hx⟩ : ∃ x, l.nd.refs[0]? = some x := ⟨_, List.getElem?_eq_getElem (HOKF.out.rf l (List.mem_of_getElem? HLL.out) (.inr hk36))⟩
                      rw [← hgn]; unfold ref0; rw [hx]; rfl
                    have hrl := HOKF.out.rf l (List.mem_of_getElem? HLL.out) (.inr hk36)
                    have hrf := (HFF.out.2.2.2.2 l (List.mem_of_getElem? HLL.out)).2.1
                    unfold maxLen at hrf
                    obtain ⟨g, hg⟩ : ∃ g, fs[gn]? = some g := ⟨_, List.getElem?_eq_getElem (by omega)⟩
                    have HGF := Lib.hid hg
                    have HST1 : Hid (step8 (fs.map LF.fd) p q mk = if (gn : Int) ≤ p ∨ mk[gn]? = some true ∨ upsB (f.ns.map LN.nd) par f.params f.vars.length f.ups.length q g.ups = false then none else some (mk.set gn true)) := by
                      rw [HST0.out, if_neg (fun h => hk37 h.1), if_neg (fun h => h hk36), hgn, Int.toNat_natCast, fd_at hg]; exact Lib.hid rfl
                    obtain ⟨b2, off2, hra, hlo2, hb2, cr⟩ := rdI_at HOKN.out hr0
                    rw [hra] at n6
                    rw [Nat.add_zero] at cr
                    rw [hk36] at n0
                    have k1 : gn < mk.length := by have := HMK.out; omega
                    have k2 : (gn : Int) < mk.length := by omega
                    have k3 : (gn : Int) < fs.length := by omega
                    obtain ⟨mv, hmv⟩ : ∃ v, mk[gn]? = some v := ⟨_, List.getElem?_eq_getElem k1⟩
                    have cm := HT.out.sb.cell hmv
                    have fzm := HT.out.sb.fz gn
                    have HMV := Lib.hid hmv
                    have k4 : gn < fs.length := by omega
                    clear hk37 hk36 e37 g0 g1 hgn hr0 hg hra hmv k1 k2
                    by_cases hgp1 : (gn : Int) ≤ p
                    · have HST : Hid (step8 (fs.map LF.fd) p q mk = none) := by rw [HST1.out, if_pos (.inl hgp1)]; exact Lib.hid rfl
                      have HQ : Hid (F3 (fs.map LF.fd) = (8, (p : Int), (q : Int))) := by
                        rw [HOF3.out, HB.out, HM.out, loop2_bad (n := q) (by rw [HC.out, HRR.out, loopS_bad HST.out])]; exact Lib.hid rfl
                      have HS2 := Lib.hid HT.out.ts.fs
                      go_wp2_with fail
                      refine (fault_any _ _ _ _).mono ?_
                      rintro e w5 ⟨rfl, hb5⟩
                      have HR5 := HS2.out.below hb5
                      obtain ⟨r0, r1, r2⟩ := box3 HR5.rb
                      have g0 := HR5.rb.frozen 0
                      have g1 := HR5.rb.frozen 1
                      have g2 := HR5.rb.frozen 2
                      have HR6 := Lib.hid HR5
                      clear HR5 hb5
                      go_wp2
                      refine bodyPost_ret (by simp [results, Try.results20, go_sem, *]; rfl) rfl ?_
                      exact ⟨by rw [HQ.out]; rfl, ((HR6.out.bel.setCell (by simp) _).setCell (by simp) _).setCell (by simp) _⟩
                    cases mv
                    · cases hU : upsB (f.ns.map LN.nd) par f.params f.vars.length f.ups.length q g.ups
                      · have HST : Hid (step8 (fs.map LF.fd) p q mk = none) := by rw [HST1.out, if_pos (.inr (.inr hU))]; exact Lib.hid rfl
                        have HQ : Hid (F3 (fs.map LF.fd) = (8, (p : Int), (q : Int))) := by
                          rw [HOF3.out, HB.out, HM.out, loop2_bad (n := q) (by rw [HC.out, HRR.out, loopS_bad HST.out])]; exact Lib.hid rfl
                        have hups := ups_any fs (some ⟨b, off, none⟩) c f g par gp f.ns.length (.slice (some ⟨gd, 0, none⟩) f.ns.length f.ns.length) wr lo p gn q (H.out.below HT.out.ts.fs.bel) hn HPF.out HGF.out hfn HFF.out.2.2.2.2 hql HT.out.ts.bp HPL.out HUP.out HOKF.out.ia hvn HOKF.out.un (HOK.out g (List.mem_of_getElem? HGF.out)).un
                        rw [hU] at hups
                        go_wp2_with fail
                        refine hups.mono ?_
                        rintro e w2 ⟨rfl, hb2⟩
                        have HT2 := Lib.hid (HT.out.below hb2)
                        clear hb2 hups
                        have HS2 := Lib.hid HT2.out.ts.fs
                        go_wp2_with fail
                        refine (fault_any _ _ _ _).mono ?_
                        rintro e w5 ⟨rfl, hb5⟩
                        have HR5 := HS2.out.below hb5
                        obtain ⟨r0, r1, r2⟩ := box3 HR5.rb
                        have g0 := HR5.rb.frozen 0
                        have g1 := HR5.rb.frozen 1
                        have g2 := HR5.rb.frozen 2
                        have HR6 := Lib.hid HR5
                        clear HR5 hb5
                        go_wp2
                        refine bodyPost_ret (by simp [results, Try.results20, go_sem, *]; rfl) rfl ?_
                        exact ⟨by rw [HQ.out]; rfl, ((HR6.out.bel.setCell (by simp) _).setCell (by simp) _).setCell (by simp) _⟩
                      · have HST : Hid (step8 (fs.map LF.fd) p q mk = some (mk.set gn true)) := by
                          rw [HST1.out, if_neg (by rw [HMV.out, hU]; simp <;> omega)]; exact Lib.hid rfl
                        have hups := ups_any fs (some ⟨b, off, none⟩) c f g par gp f.ns.length (.slice (some ⟨gd, 0, none⟩) f.ns.length f.ns.length) wr lo p gn q (H.out.below HT.out.ts.fs.bel) hn HPF.out HGF.out hfn HFF.out.2.2.2.2 hql HT.out.ts.bp HPL.out HUP.out HOKF.out.ia hvn HOKF.out.un (HOK.out g (List.mem_of_getElem? HGF.out)).un
                        rw [hU] at hups
                        go_wp2_with fail
                        refine hups.mono ?_
                        rintro e w2 ⟨rfl, hb2⟩
                        have HT2 := Lib.hid (HT.out.below hb2)
                        clear hb2 hups
                        have cm2 := HT2.out.sb.cell HMV.out
                        have fz2 := HT2.out.sb.fz gn
                        go_wp2
                        exact ⟨⟨q + 1, mk.set gn true, by omega, by go_num, by rw [List.length_set]; exact HMK.out, by rw [HC.out, HRR.out, loopS_ok HST.out, show f.ns.length - (q + 1) = r by have := HRR.out; omega], HT2.out.set_ gn true⟩, by simp [intOf]; omega⟩
                    · have HST : Hid (step8 (fs.map LF.fd) p q mk = none) := by rw [HST1.out, if_pos (.inr (.inl HMV.out))]; exact Lib.hid rfl
                      have HQ : Hid (F3 (fs.map LF.fd) = (8, (p : Int), (q : Int))) := by
                        rw [HOF3.out, HB.out, HM.out, loop2_bad (n := q) (by rw [HC.out, HRR.out, loopS_bad HST.out])]; exact Lib.hid rfl
                      have HS2 := Lib.hid HT.out.ts.fs
                      go_wp2_with fail
                      refine (fault_any _ _ _ _).mono ?_
                      rintro e w5 ⟨rfl, hb5⟩
                      have HR5 := HS2.out.below hb5
                      obtain ⟨r0, r1, r2⟩ := box3 HR5.rb
                      have g0 := HR5.rb.frozen 0
                      have g1 := HR5.rb.frozen 1
                      have g2 := HR5.rb.frozen 2
                      have HR6 := Lib.hid HR5
                      clear HR5 hb5
                      go_wp2
                      refine bodyPost_ret (by simp [results, Try.results20, go_sem, *]; rfl) rfl ?_
                      exact ⟨by rw [HQ.out]; rfl, ((HR6.out.bel.setCell (by simp) _).setCell (by simp) _).setCell (by simp) _⟩
                  have e36 := beq_eq_false_iff_ne.2 hk36
                  have e36n : (l.nd.kind != 36) = true := by simp [hk36]
                  have HST : Hid (step8 (fs.map LF.fd) p q mk = some mk) := by rw [HST0.out, if_neg (fun h => hk37 h.1), if_pos hk36]; exact Lib.hid rfl
                  clear hk37 hk36
                  go_wp2
                  exact ⟨⟨q + 1, mk, by omega, by go_num, HMK.out, by rw [HC.out, HRR.out, loopS_ok HST.out, show f.ns.length - (q + 1) = r by have := HRR.out; omega], HT.out⟩, by simp [intOf]; omega⟩
                · have hqq : q = f.ns.length := by omega
                  have HIN2 : Hid (in8 (fs.map LF.fd) p made = .inl mk) := by
                    rw [hC, hqq, Nat.sub_self]; exact Lib.hid rfl
                  clear hT hC hmk
                  go_wp2
                  exact ⟨⟨p + 1, mk, by omega, by go_num, HMK.out, by rw [HB.out, HM.out, loop2_ok HIN2.out, show fs.length - (p + 1) = m by have := HM.out; omega], HT.out.ts.fs, HT.out.sb⟩, by simp [intOf]; omega⟩
            · have hpp : p = fs.length := by omega
              have HOF4 : Hid (F3 (fs.map LF.fd) = match P9 (fs.map LF.fd) made with
                  | .inr f => ((9 : Int), (f : Int), (0 : Int))
                  | .inl _ => (0, 0, 0)) := by
                rw [HOF3.out, hB, hpp, Nat.sub_self]; exact Lib.hid rfl
              clear hS hB HB HOF3 hlt hp
              subst hpp
              obtain ⟨w2, hw2⟩ : ∃ wo : World, wo = wr := ⟨_, rfl⟩
              obtain rfl := hw2
              by_cases hz : fs.length = 0
              · have HQ : Hid (F3 (fs.map LF.fd) = (0, 0, 0)) := by
                  rw [HOF4.out]; unfold P9; rw [List.length_map, hz]; exact Lib.hid rfl
                rw [hz] at ub0
                go_wp2
                go_loopw [20] (fun v wr => v = .int .i64 1 ∧ wr = w2) (fun v _ => 0)
                case atStart => exact ⟨rfl, rfl⟩
                case round =>
                  obtain ⟨rfl, rfl⟩ := hrel
                  obtain ⟨r0, r1, r2⟩ := box3 HS.out.rb
                  have g0 := HS.out.rb.frozen 0
                  have g1 := HS.out.rb.frozen 1
                  have g2 := HS.out.rb.frozen 2
                  go_wp2
                  refine bodyPost_ret (by simp [results, Try.results20, go_sem, *]; rfl) rfl ?_
                  exact ⟨by rw [HQ.out]; rfl, ((HS.out.bel.setCell (by simp) _).setCell (by simp) _).setCell (by simp) _⟩
              · go_wp2
                go_loopw [20] (fun v wr => ∃ p : Nat, 1 ≤ p ∧ p ≤ fs.length ∧ v = .int .i64 p ∧ P9 (fs.map LF.fd) made = loopS (chk (fine9 made)) p (fs.length - p) () ∧ Fs w (.slice A fs.length c) wr ∧ BB wr gm made) (fun v _ => fs.length - (intOf v).toNat)
                case atStart => exact ⟨1, Nat.le_refl _, by omega, rfl, by unfold P9; rw [List.length_map], HS.out, HMB.out⟩
                case round =>
                  clear HS HMB ub0
                  obtain ⟨p, hp1, hp, rfl, hB, hS, hM⟩ := hrel
                  have ub0 := hS.ub.cell 0
                  have HS := Lib.hid hS
                  have HB := Lib.hid hB
                  have HMB := Lib.hid hM
                  by_cases hlt : p < fs.length
                  · obtain ⟨m, hm⟩ : ∃ m, fs.length - p = m + 1 := ⟨fs.length - p - 1, by omega⟩
                    have HM := Lib.hid hm
                    obtain ⟨mv, hmv⟩ : ∃ v, made[p]? = some v := ⟨_, List.getElem?_eq_getElem (by have := HMLX.out; omega)⟩
                    have cm := hM.cell hmv
                    have k1 : p < made.length := by have := HMLX.out; omega
                    have k2 : (p : Int) < made.length := by omega
                    have HF9 : Hid (fine9 made p = mv) := by unfold fine9; rw [hmv]; exact Lib.hid rfl
                    clear hS hB hM hm hmv
                    cases mv
                    · have HQ : Hid (F3 (fs.map LF.fd) = (9, (p : Int), 0)) := by
                        rw [HOF4.out, HB.out, HM.out, loopS_bad (chk_f HF9.out)]; exact Lib.hid rfl
                      go_wp2_with fail
                      refine (fault_any _ _ _ _).mono ?_
                      rintro e w5 ⟨rfl, hb5⟩
                      have HR5 := HS.out.below hb5
                      obtain ⟨r0, r1, r2⟩ := box3 HR5.rb
                      have g0 := HR5.rb.frozen 0
                      have g1 := HR5.rb.frozen 1
                      have g2 := HR5.rb.frozen 2
                      have HR6 := Lib.hid HR5
                      clear HR5 hb5
                      go_wp2
                      refine bodyPost_ret (by simp [results, Try.results20, go_sem, *]; rfl) rfl ?_
                      exact ⟨by rw [HQ.out]; rfl, ((HR6.out.bel.setCell (by simp) _).setCell (by simp) _).setCell (by simp) _⟩
                    · go_wp2
                      exact ⟨⟨p + 1, by omega, by omega, by go_num, by rw [HB.out, HM.out, loopS_ok (chk_t HF9.out), show fs.length - (p + 1) = m by have := HM.out; omega], HS.out, HMB.out⟩, by simp [intOf]; omega⟩
                  · clear hM
                    have HQ : Hid (F3 (fs.map LF.fd) = (0, 0, 0)) := by
                      rw [HOF4.out, hB, show fs.length - p = 0 by omega]; exact Lib.hid rfl
                    clear hS hB
                    obtain ⟨r0, r1, r2⟩ := box3 HS.out.rb
                    have g0 := HS.out.rb.frozen 0
                    have g1 := HS.out.rb.frozen 1
                    have g2 := HS.out.rb.frozen 2
                    go_wp2
                    refine bodyPost_ret (by simp [results, Try.results20, go_sem, *]; rfl) rfl ?_
                    exact ⟨by rw [HQ.out]; rfl, ((HS.out.bel.setCell (by simp) _).setCell (by simp) _).setCell (by simp) _⟩
end Go.Proofs.Ytcpjplkbmflglaa
