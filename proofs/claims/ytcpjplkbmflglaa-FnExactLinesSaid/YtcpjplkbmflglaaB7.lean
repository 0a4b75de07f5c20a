/- The reference's look upwards: places, declarations, what is visible, what lies in a loop. -/
import Derived.Test.YtcpjplkbmflglaaB6
namespace Go.Proofs.Ytcpjplkbmflglaa
open Go.RowKit
attribute [local go_sem] run_store_float
set_option linter.unusedVariables false
def placeG : List Int → Int → Nat → Int
  | [], _, _ => -1
  | k :: r, x, i => if k = x then (i : Int) else placeG r x (i + 1)
def placeL (ks : List Int) (x : Int) : Int := placeG ks x 0
theorem placeG_lt : ∀ (ks : List Int) (x : Int) (i : Nat), -1 ≤ placeG ks x i ∧ placeG ks x i < i + ks.length := by
  intro ks
  induction ks with
  | nil => intro x i; simp [placeG]; omega
  | cons k r ih =>
    intro x i
    unfold placeG
    split
    · simp; omega
    · have := ih x (i + 1)
      simp only [List.length_cons]; omega
theorem placeL_lt (ks : List Int) (x : Int) : -1 ≤ placeL ks x ∧ placeL ks x < ks.length := by
  have := placeG_lt ks x 0
  unfold placeL; omega
theorem place_any (A : Option Addr) (c : Nat) (ks : List Int) (x : Int) (w : World) (lo : Nat) (h : RdL encI 1 w lo A ks) (hn : ks.length ≤ maxLen) :
    Calls Try.prog 78 #[.slice A ks.length c, .int .i64 x] w fun e w' => e = .returned (.int .i64 (placeL ks x)) ∧ w = w' := by
  unfold maxLen at hn
  have H := Lib.hid h
  clear h
  go_enter Try.func78, Try.ntmps78
  go_wp2
  go_loop [9] (fun v => ∃ p : Nat, p ≤ ks.length ∧ v = .int .i64 p ∧ placeL ks x = placeG (ks.drop p) x p) (fun v => ks.length - (intOf v).toNat)
  case atStart => exact ⟨0, Nat.zero_le _, rfl, rfl⟩
  case round =>
    obtain ⟨p, hp, rfl, hB⟩ := hrel
    have HB := Lib.hid hB
    clear hB
    by_cases hlt : p < ks.length
    · obtain ⟨k, hk⟩ : ∃ k, ks[p]? = some k := ⟨_, List.getElem?_eq_getElem hlt⟩
      obtain ⟨b, off, rfl, hlo, hb, hc⟩ := rdI_at H.out hk
      have hd : Hid (ks.drop p = k :: ks.drop (p + 1)) := by
        have := (List.getElem?_eq_some_iff.1 hk).2
        rw [← this]; exact List.drop_eq_getElem_cons hlt
      clear hk
      by_cases he : k = x
      · subst he
        go_wp2
        go_ret
        exact ⟨by rw [HB.out, hd.out]; unfold placeG; rw [if_pos rfl]; rfl, rfl⟩
      · have HE := Lib.hid he
        have heb : (k == x) = false := by simpa using he
        clear he
        go_wp2
        go_round
        case rel => exact ⟨p + 1, by omega, by go_num, by rw [HB.out, hd.out, placeG, if_neg HE.out]⟩
        case measure => simp [intOf]; omega
    · have hpp : p = ks.length := by omega
      subst hpp
      go_wp2
      go_ret
      exact ⟨by rw [HB.out, List.drop_length]; rfl, rfl⟩
def declK (k : Int) : Bool := k == 2 || k == 7 || k == 8 || k == 12
def declC (kd : Int) (refs : List Int) (v : Int) : Bool := declK kd && decide (0 ≤ placeL refs v)
def declB (n : Nd) (v : Int) : Bool := declC n.kind n.refs v
theorem decl_any (kd ln vop vnum : Int) (vflt : Nat) (vstr : ByteArray) (ra ka : Option Addr) (refs : List Int) (rc kn kc : Nat) (v : Int) (w : World) (lo : Nat) (h : RdL encI 1 w lo ra refs) (hn : refs.length ≤ maxLen) (W : World) (hW : Below W.heap.size W w) :
    Calls Try.prog 79 #[.agg #[.int .i64 kd, .int .i64 ln, .int .i64 vop, .int .i64 vnum, .float .f64 vflt, .string vstr, .slice ra refs.length rc, .slice ka kn kc], .int .i64 v] w fun e w' => e = .returned (.bool (declC kd refs v)) ∧ Below w.heap.size w w' ∧ Below W.heap.size W w' := by
  have H := Lib.hid h
  have HW := Lib.hid hW
  clear h hW
  go_enter Try.func79, Try.ntmps79
  go_wp2_with (go_at_call 78; refine (place_any _ _ _ _ _ lo (H.out.alloc _) hn).mono ?_; rintro e w1 ⟨rfl, rfl⟩)
  all_goals go_ret
  all_goals exact ⟨by simp_all [declC, declK], below_new _ _, HW.out.trans ((below_new _ _).mono HW.out.size)⟩
/-- A let among these nodes declares v. -/
def letK (ns : List Nd) (v : Int) (k : Int) : Bool := match ns[k.toNat]? with
  | none => false
  | some m => m.kind == 2 && declB m v
def visStep (ns : List Nd) (n : Nd) (p v : Int) : Bool :=
  (n.kind == 1 && (n.kids.take p.toNat).any (letK ns v)) || ((n.kind == 7 || n.kind == 8 || n.kind == 12) && (p == (n.kids.length : Int) - 1 && declB n v))
def visUp (ns : List Nd) (par : List Int) (v : Int) : Nat → Int → Int → Bool
  | 0, _, _ => false
  | fuel + 1, below, up => if up < 0 then false else match ns[up.toNat]? with
    | none => false
    | some n => visStep ns n (placeL n.kids below) v || visUp ns par v fuel up (par[up.toNat]?.getD (-1))
def visB (ns : List Nd) (par : List Int) (params : Int) (a : Nat) (v : Int) : Bool := decide (v < params) || visUp ns par v ns.length a (par[a]?.getD (-1))
theorem UpL.lt {n : Nat} {par : List Int} (h : UpL n par) {j : Nat} {p : Int} (hp : par[j]? = some p) : p < n ∨ (p < 0) := by
  by_cases h0 : 0 ≤ p
  · exact .inl (h j p hp h0).2
  · exact .inr (by omega)
/-- How far a look upwards has still to go. -/
def msr (n : Nat) (v : Value) : Nat := if intOf v < 0 then 0 else (n - intOf v).toNat + 1
theorem msr_lt {n q : Nat} {u : Int} (hq : q < n) (hu : 0 ≤ u → (q : Int) < u ∧ u < n) : msr n (.int .i64 u) < msr n (.int .i64 q) := by
  have e : ∀ z : Int, msr n (.int .i64 z) = if z < 0 then 0 else ((n : Int) - z).toNat + 1 := fun _ => rfl
  rw [e, e, if_neg (show ¬ (q : Int) < 0 by omega)]
  split
  · omega
  · have := hu (by omega)
    omega
/-- The boxes of a look upwards. -/
structure Vs (w : World) (f : LF) (gp n c : Nat) (D : Value) (W : World) : Prop where
  fb : Blk W w.heap.size 47 #[.string f.name, .int .i64 f.line, .int .i64 f.params, .bool f.rest, .slice f.va f.vars.length f.vc, .slice f.ua f.ups.length f.uc, .slice f.na n f.nc]
  tb : Blk W (w.heap.size + 1) 73 #[.slice (some ⟨gp, 0, none⟩) n c, D]
  bel : Below w.heap.size w W
section
variable {w W W' : World} {f : LF} {gp n c : Nat} {D : Value}
theorem Vs.below (h : Vs w f gp n c D W) (hb : Below W.heap.size W W') : Vs w f gp n c D W' := ⟨h.fb.below hb h.fb.lt, h.tb.below hb h.tb.lt, h.bel.trans (hb.mono h.bel.size)⟩
theorem Vs.alloc (h : Vs w f gp n c D W) (o : Obj) : Vs w f gp n c D (W.alloc o) := h.below (below_new W o)
theorem Vs.drew (h : Vs w f gp n c D W) : Vs w f gp n c D W.drew := ⟨h.fb, h.tb, h.bel.drew⟩
theorem Blk.drw {w : World} {g : Nat} {t : TypeId} {cs : Array Value} (h : Blk w g t cs) : Blk w.drew g t cs := h
theorem OkN.drw {w : World} {lo : Nat} {l : LN} (h : OkN w lo l) : OkN w.drew lo l := h
theorem RdL.drw {α : Type} {enc : α → List Value} {sz lo : Nat} {w : World} {A : Option Addr} {xs : List α} (h : RdL enc sz w lo A xs) : RdL enc sz w.drew lo A xs := h
theorem box7 {w : World} {g : Nat} {t : TypeId} {a b c d e f h : Value} (hb : Blk w g t #[a, b, c, d, e, f, h]) : w.cell? ⟨g, 0, none⟩ = some a ∧ w.cell? ⟨g, 1, none⟩ = some b ∧ w.cell? ⟨g, 2, none⟩ = some c ∧ w.cell? ⟨g, 3, none⟩ = some d ∧ w.cell? ⟨g, 4, none⟩ = some e ∧ w.cell? ⟨g, 5, none⟩ = some f ∧ w.cell? ⟨g, 6, none⟩ = some h :=
  ⟨hb.cell 0, hb.cell 1, hb.cell 2, hb.cell 3, hb.cell 4, hb.cell 5, hb.cell 6⟩
theorem box8 {w : World} {g : Nat} {t : TypeId} {a b c d e f h i : Value} (hb : Blk w g t #[a, b, c, d, e, f, h, i]) : w.cell? ⟨g, 0, none⟩ = some a ∧ w.cell? ⟨g, 1, none⟩ = some b ∧ w.cell? ⟨g, 2, none⟩ = some c ∧ w.cell? ⟨g, 3, none⟩ = some d ∧ w.cell? ⟨g, 4, none⟩ = some e ∧ w.cell? ⟨g, 5, none⟩ = some f ∧ w.cell? ⟨g, 6, none⟩ = some h ∧ w.cell? ⟨g, 7, none⟩ = some i :=
  ⟨hb.cell 0, hb.cell 1, hb.cell 2, hb.cell 3, hb.cell 4, hb.cell 5, hb.cell 6, hb.cell 7⟩
end
def inUp (ns : List Nd) (par : List Int) : Nat → Int → Int → Bool
  | 0, _, _ => false
  | fuel + 1, below, up => if up < 0 then false else match ns[up.toNat]? with
    | none => false
    | some n => ((n.kind == 6 || n.kind == 7 || n.kind == 8) && n.kids[n.kids.length - 1]? == some below) || inUp ns par fuel up (par[up.toNat]?.getD (-1))
def inB (ns : List Nd) (par : List Int) (a : Nat) : Bool := inUp ns par ns.length a (par[a]?.getD (-1))
/-- A loop has kids. -/
def LoopKids (ns : List Nd) : Prop := ∀ (k : Nat) (n : Nd), ns[k]? = some n → (n.kind = 6 ∨ n.kind = 7 ∨ n.kind = 8) → 0 < n.kids.length
set_option maxRecDepth 100000 in
set_option maxHeartbeats 4000000 in
theorem vis_any (f : LF) (par : List Int) (gp c : Nat) (D : Value) (v : Int) (w : World) (lo : Nat) (a : Nat) (hns : RdN w lo f.na f.ns) (hn : f.ns.length ≤ 1048576) (hf : ∀ l ∈ f.ns, fitN l) (ha : a < f.ns.length) (hp : BI w gp par) (hlp : par.length = f.ns.length) (hup : UpL f.ns.length par) (hia : InAll (f.ns.map LN.nd)) :
    Calls Try.prog 62 #[.agg #[.string f.name, .int .i64 f.line, .int .i64 f.params, .bool f.rest, .slice f.va f.vars.length f.vc, .slice f.ua f.ups.length f.uc, .slice f.na f.ns.length f.nc], .agg #[.slice (some ⟨gp, 0, none⟩) f.ns.length c, D], .int .i64 a, .int .i64 v] w fun e w' => e = .returned (.bool (visB (f.ns.map LN.nd) par f.params a v)) ∧ Below w.heap.size w w' := by
  have HNS := Lib.hid hns; have HF := Lib.hid hf; have HP := Lib.hid hp; have HUP := Lib.hid hup; have HIA := Lib.hid hia
  obtain ⟨n, hN⟩ : ∃ n, n = f.ns.length := ⟨_, rfl⟩
  have HN := Lib.hid hN
  have HLP := Lib.hid hlp
  have ha' : a < n := by omega
  have hn' : n ≤ 1048576 := by omega
  obtain ⟨u0, hu0⟩ : ∃ u, par[a]? = some u := ⟨_, List.getElem?_eq_getElem (by omega)⟩
  have cu := hp.cell hu0
  have HU0 := Lib.hid hu0
  have hgp := hp.lt
  by_cases hv : v < f.params
  · have HV := Lib.hid hv
    rw [← HN.out]
    clear hns hf hp hup hia hN hlp hu0 hn ha
    go_enter Try.func62, Try.ntmps62
    go_wp2
    go_ret
    exact ⟨by unfold visB; rw [decide_eq_true HV.out]; rfl, below_new2 _ _ _⟩
  · have HV : Hid (visB (f.ns.map LN.nd) par f.params a v = visUp (f.ns.map LN.nd) par v n a u0) := by
      unfold visB
      rw [decide_eq_false hv, Bool.false_or, hu0, List.length_map, ← hN]; rfl
    rw [← HN.out]
    clear hns hf hp hup hia hN hlp hu0 hn ha
    go_enter Try.func62, Try.ntmps62
    go_wp2
    go_loopw [9, 10] (fun s9 s10 wr => ∃ (fuel : Nat) (below up : Int), s9 = .int .i64 below ∧ s10 = .int .i64 up ∧ up < n ∧ (0 ≤ up → (n : Int) - up ≤ fuel) ∧ visB (f.ns.map LN.nd) par f.params a v = visUp (f.ns.map LN.nd) par v fuel below up ∧ Vs w f gp n c D wr) (fun _ s10 _ => msr n s10)
    case atStart => exact ⟨n, a, u0, rfl, rfl, by have := HUP.out.lt HU0.out; have := HN.out; omega, fun h => by omega, HV.out, ⟨Blk.alloc (Blk.new _ _ _) _, Blk.new_at (by simp), below_new2 _ _ _⟩⟩
    case round =>
      clear cu
      obtain ⟨fuel, below, up, rfl, rfl, hup1, hfu, hV, hS⟩ := hrel
      have HV2 := Lib.hid hV
      have HS := Lib.hid hS
      obtain ⟨a0, a1, a2, a3, a4, a5, a6⟩ := box7 hS.fb
      obtain ⟨b0, b1⟩ := box2 hS.tb
      have hsz := hS.bel.size
      have hsz2 := hS.tb.lt
      by_cases h0 : 0 ≤ up
      · obtain ⟨q, rfl⟩ : ∃ q : Nat, up = q := ⟨up.toNat, by omega⟩
        have hfu2 := hfu h0
        obtain ⟨m, rfl⟩ : ∃ m, fuel = m + 1 := ⟨fuel - 1, by omega⟩
        have hqn : q < n := by omega
        obtain ⟨l, hl⟩ : ∃ l, f.ns[q]? = some l := ⟨_, List.getElem?_eq_getElem (by have := HN.out; omega)⟩
        obtain ⟨b, off, hna, hlo, hb, c0, c1, c2, c3, c4, c5, c6, c7, hok⟩ := rdN_at (HNS.out.below hS.bel) hl
        obtain ⟨u, hu⟩ : ∃ u, par[q]? = some u := ⟨_, List.getElem?_eq_getElem (by have := HLP.out; have := HN.out; omega)⟩
        have cu := (HP.out.below hS.bel).cell hu
        have HUB := Lib.hid (fun (h : 0 ≤ u) => (⟨(HUP.out q u hu h).1, by have := (HUP.out q u hu h).2; have := HN.out; omega⟩ : (q : Int) < u ∧ u < n))
        rw [hna] at a6
        obtain ⟨f2, f3⟩ := (HF.out l (List.mem_of_getElem? hl)).2
        have hkn : l.nd.kids.length ≤ 9223372036854775807 := by unfold maxLen at f3; exact f3
        have HOK := Lib.hid hok
        have HOKW := Lib.hid (HNS.out.2 l (List.mem_of_getElem? hl))
        have HUQ := Lib.hid hu
        have HVS : Hid (visB (f.ns.map LN.nd) par f.params a v = (visStep (f.ns.map LN.nd) l.nd (placeL l.nd.kids below) v || visUp (f.ns.map LN.nd) par v m q u)) := by
          rw [hV, visUp, if_neg (by omega), Int.toNat_natCast, nd_at hl, hu]; rfl
        have HKI := Lib.hid (HIA.out q l.nd (nd_at hl))
        have HUN : Hid (u < n) := by
          by_cases hu0 : 0 ≤ u
          · exact Lib.hid (HUB.out hu0).2
          · exact Lib.hid (by omega)
        have HFU : Hid (0 ≤ u → (n : Int) - u ≤ m) := Lib.hid (fun h => by have := (HUB.out h).1; omega)
        have HMS := Lib.hid (msr_lt hqn HUB.out : msr n (.int .i64 u) < msr n (.int .i64 q))
        obtain ⟨nd, ra, rc, ka, kc⟩ := l
        dsimp only at c0 c1 c2 c3 c4 c5 c6 c7 hkn f2 f3 HVS HKI
        obtain ⟨pl1, pl2⟩ := placeL_lt nd.kids below
        have HPL := Lib.hid (show placeL nd.kids below = placeL nd.kids below from rfl)
        clear hV hS hfu hfu2 hl hu hok hna
        by_cases hk1 : nd.kind = 1
        · rw [hk1] at c0
          have HK1 := Lib.hid hk1
          clear hk1
          go_wp2_with fail
          refine (place_any _ _ nd.kids below _ lo (HOK.out.2.alloc _) f3).mono ?_
          rintro e w1 ⟨rfl, rfl⟩
          generalize placeL nd.kids below = p at *
          have hS1 := Lib.hid (HS.out.alloc (.cells #[.int .i64 1, .int .i64 nd.line, .int .i64 nd.op, .int .i64 nd.num, .float .f64 nd.flt, .string nd.str, .slice ra nd.refs.length rc, .slice ka nd.kids.length kc] 52))
          have hB1 := Lib.hid (Blk.new wr 52 #[.int .i64 1, .int .i64 nd.line, .int .i64 nd.op, .int .i64 nd.num, .float .f64 nd.flt, .string nd.str, .slice ra nd.refs.length rc, .slice ka nd.kids.length kc])
          obtain ⟨w2, hw2⟩ : ∃ wo : World, wo = wr := ⟨_, rfl⟩
          obtain rfl := hw2
          go_wp2
          go_loopw [13] (fun i wx => ∃ j : Nat, j ≤ p.toNat ∧ i = .int .i64 j ∧ (nd.kids.take p.toNat).any (letK (f.ns.map LN.nd) v) = ((nd.kids.take p.toNat).drop j).any (letK (f.ns.map LN.nd) v) ∧ Vs w f gp n c D wx ∧ Blk wx w2.heap.size 52 #[.int .i64 1, .int .i64 nd.line, .int .i64 nd.op, .int .i64 nd.num, .float .f64 nd.flt, .string nd.str, .slice ra nd.refs.length rc, .slice ka nd.kids.length kc]) (fun i _ => p.toNat - (intOf i).toNat)
          case atStart => exact ⟨0, Nat.zero_le _, rfl, rfl, hS1.out, hB1.out⟩
          case round =>
            clear hS1 hB1 c0 c1 c2 c3 c4 c5 c6 c7 a0 a1 a2 a3 a4 a5 a6 b0 b1 cu
            obtain ⟨j, hj, rfl, hA, hS, hB⟩ := hrel
            have HSX := Lib.hid hS
            have HBX := Lib.hid hB
            have HA0 := Lib.hid hA
            obtain ⟨a0, a1, a2, a3, a4, a5, a6⟩ := box7 hS.fb
            obtain ⟨b0, b1⟩ := box2 hS.tb
            obtain ⟨c0, c1, c2, c3, c4, c5, c6, c7⟩ := box8 hB
            have cu := (HP.out.below hS.bel).cell HUQ.out
            have hszx := hS.bel.size
            have hszb := hS.tb.lt
            have hszn := hB.lt
            have hsza : w.heap.size < wr.heap.size := by omega
            by_cases hjp : (j : Int) < p
            · obtain ⟨k, hk⟩ : ∃ k, nd.kids[j]? = some k := ⟨_, List.getElem?_eq_getElem (by omega)⟩
              obtain ⟨ki0, ki1⟩ := HKI.out k (List.mem_of_getElem? hk)
              obtain ⟨kn, rfl⟩ : ∃ kn : Nat, k = kn := ⟨k.toNat, by omega⟩
              obtain ⟨l2, hl2⟩ : ∃ l, f.ns[kn]? = some l := ⟨_, List.getElem?_eq_getElem (by have := HN.out; omega)⟩
              have HD : Hid (((nd.kids.take p.toNat).drop j).any (letK (f.ns.map LN.nd) v) = ((l2.nd.kind == 2 && declB l2.nd v) || ((nd.kids.take p.toNat).drop (j + 1)).any (letK (f.ns.map LN.nd) v))) := by
                have e1 : (nd.kids.take p.toNat)[j]? = some (kn : Int) := by rw [List.getElem?_take_of_lt (by omega)]; exact hk
                have e2 := (List.getElem?_eq_some_iff.1 e1)
                obtain ⟨e3, e4⟩ := e2
                rw [List.drop_eq_getElem_cons e3, e4, List.any_cons]
                unfold letK
                rw [Int.toNat_natCast, nd_at hl2]
                exact Lib.hid rfl
              obtain ⟨b', off', hna', hlo', hb', d0, d1, d2, d3, d4, d5, d6, d7, hok2⟩ := rdN_at (HNS.out.below hS.bel) hl2
              rw [hna'] at a6
              have HOK2 := Lib.hid hok2
              have f22 := (HF.out l2 (List.mem_of_getElem? hl2)).2.1
              obtain ⟨b3, off3, rfl, hlo3, hb3, ck⟩ := rdI_at (HOKW.out.2.below hS.bel) hk
              obtain ⟨nd2, ra2, rc2, ka2, kc2⟩ := l2
              dsimp only at d0 d1 d2 d3 d4 d5 d6 d7 HD f22
              have k1 : (kn : Int) < n := by omega
              have k2 : kn < n := by omega
              have k3 : (0 : Int) ≤ j := by omega
              have k4 : (j : Int) < nd.kids.length := by omega
              have k5 : j < nd.kids.length := by omega
              have k6 : (0 : Int) ≤ kn := by omega
              have HKN := Lib.hid ki1
              clear hA hS hB hk hl2 hna' hok2 ki0 ki1
              by_cases hq2 : nd2.kind = 2
              · have HQ2 := Lib.hid hq2
                rw [hq2] at d0
                clear hq2
                cases hD : declC 2 nd2.refs v
                · have HDD := Lib.hid hD
                  go_wp2
                  go_region
                  go_wp2_with fail
                  refine (decl_any _ _ _ _ _ _ _ _ nd2.refs _ _ _ _ _ lo (by exact (HOK2.out.1.alloc _).drw) f22 w (by exact (HSX.out.bel.alloc HSX.out.bel.size _).drew)).mono ?_
                  rintro e w3 ⟨rfl, hb3', HB3⟩
                  go_wp2
                  exact ⟨⟨j + 1, by omega, by go_num, by rw [HA0.out, HD.out, HQ2.out]; unfold declB; rw [HQ2.out, HDD.out]; rfl, (HSX.out.alloc _).drew.below hb3', (HBX.out.alloc _).drw.below hb3' (by have := HBX.out.lt; simp; omega)⟩, by simp [intOf]; omega⟩
                · have HDD := Lib.hid hD
                  go_wp2
                  go_region
                  go_wp2_with fail
                  refine (decl_any _ _ _ _ _ _ _ _ nd2.refs _ _ _ _ _ lo (by exact (HOK2.out.1.alloc _).drw) f22 w (by exact (HSX.out.bel.alloc HSX.out.bel.size _).drew)).mono ?_
                  rintro e w3 ⟨rfl, hb3', HB3⟩
                  go_wp2
                  go_ret
                  exact ⟨by rw [HVS.out]; unfold visStep; rw [HK1.out, HA0.out, HD.out, HQ2.out]; unfold declB; dsimp only; rw [HQ2.out, HDD.out]; rfl, HB3⟩
              · have hqb : (nd2.kind == 2) = false := by simpa using hq2
                have HQ2 := Lib.hid hqb
                clear hq2
                go_wp2
                go_region
                go_wp2
                exact ⟨⟨j + 1, by omega, by go_num, by rw [HA0.out, HD.out, HQ2.out]; rfl, (HSX.out.alloc _).drew, HBX.out.alloc _⟩, by simp [intOf]; omega⟩
            · have HV5 : Hid (visB (f.ns.map LN.nd) par f.params a v = visUp (f.ns.map LN.nd) par v m q u) := by
                rw [HVS.out]
                unfold visStep
                rw [HK1.out, hA, List.drop_of_length_le (by rw [List.length_take]; omega)]
                exact Lib.hid rfl
              clear hA hS hB
              go_wp2
              exact ⟨⟨m, q, u, rfl, rfl, HUN.out, HFU.out, HV5.out, HSX.out⟩, HMS.out⟩
        · have hk1b : (nd.kind == 1) = false := by simpa using hk1
          have HK1 := Lib.hid hk1b
          have hgp2 : gp < wr.heap.size := by omega
          have hsza : w.heap.size < wr.heap.size := by omega
          clear hk1
          go_wp2_with fail
          refine (place_any _ _ nd.kids below _ lo (HOK.out.2.alloc _) f3).mono ?_
          rintro e w1 ⟨rfl, rfl⟩
          generalize placeL nd.kids below = p at *
          go_wp2_with (go_at_call 79; refine (decl_any _ _ _ _ _ _ _ _ nd.refs _ _ _ _ _ lo (HOK.out.1.alloc _) f2 w (HS.out.bel.alloc HS.out.bel.size _)).mono ?_; rintro e w3 ⟨rfl, hb3, HB3⟩; obtain ⟨hc3, hf3⟩ := bcell hb3; (try simp only [World.size_alloc] at hc3 hf3); have hz3 : wr.heap.size < w3.heap.size := (by have := hb3.size; simp at this; omega))
          all_goals (first
            | (go_ret; refine ⟨?_, HB3⟩; clear hc3 hf3 hb3 HB3; rw [HVS.out]; unfold visStep; rw [HK1.out]; simp_all [declB])
            | (refine ⟨⟨m, q, u, rfl, rfl, HUN.out, HFU.out, ?_, ?_⟩, HMS.out⟩
               · (try clear hc3 hf3 hb3 HB3); rw [HVS.out]; unfold visStep; rw [HK1.out]; simp_all [declB]
               · first | exact (HS.out.alloc _).below hb3 | exact HS.out.alloc _))
      · have HV3 : Hid (visB (f.ns.map LN.nd) par f.params a v = false) := by
          rw [hV]
          cases fuel with
          | zero => exact Lib.hid rfl
          | succ m => rw [visUp, if_pos (by omega)]; exact Lib.hid rfl
        clear hV hS hfu
        go_wp2
        go_ret
        exact ⟨by rw [HV3.out]; rfl, HS.out.bel⟩
set_option maxRecDepth 100000 in
set_option maxHeartbeats 4000000 in
theorem inl_any (f : LF) (par : List Int) (gp c : Nat) (D : Value) (w : World) (lo : Nat) (a : Nat) (hns : RdN w lo f.na f.ns) (hn : f.ns.length ≤ 1048576) (hf : ∀ l ∈ f.ns, fitN l) (ha : a < f.ns.length) (hp : BI w gp par) (hlp : par.length = f.ns.length) (hup : UpL f.ns.length par) (hia : InAll (f.ns.map LN.nd)) (hlk : LoopKids (f.ns.map LN.nd)) :
    Calls Try.prog 41 #[.agg #[.string f.name, .int .i64 f.line, .int .i64 f.params, .bool f.rest, .slice f.va f.vars.length f.vc, .slice f.ua f.ups.length f.uc, .slice f.na f.ns.length f.nc], .agg #[.slice (some ⟨gp, 0, none⟩) f.ns.length c, D], .int .i64 a] w fun e w' => e = .returned (.bool (inB (f.ns.map LN.nd) par a)) ∧ Below w.heap.size w w' := by
  have HLK := Lib.hid hlk
  clear hlk
  have HNS := Lib.hid hns; have HF := Lib.hid hf; have HP := Lib.hid hp; have HUP := Lib.hid hup; have HIA := Lib.hid hia
  obtain ⟨n, hN⟩ : ∃ n, n = f.ns.length := ⟨_, rfl⟩
  have HN := Lib.hid hN
  have HLP := Lib.hid hlp
  have ha' : a < n := by omega
  have hn' : n ≤ 1048576 := by omega
  obtain ⟨u0, hu0⟩ : ∃ u, par[a]? = some u := ⟨_, List.getElem?_eq_getElem (by omega)⟩
  have cu := hp.cell hu0
  have HU0 := Lib.hid hu0
  have hgp := hp.lt
  have HV : Hid (inB (f.ns.map LN.nd) par a = inUp (f.ns.map LN.nd) par n a u0) := by
    unfold inB
    rw [hu0, List.length_map, ← hN]; exact Lib.hid rfl
  rw [← HN.out]
  clear hns hf hp hup hia hN hlp hu0 hn ha
  go_enter Try.func41, Try.ntmps41
  go_wp2
  go_loopw [7, 8] (fun s9 s10 wr => ∃ (fuel : Nat) (below up : Int), s9 = .int .i64 below ∧ s10 = .int .i64 up ∧ up < n ∧ (0 ≤ up → (n : Int) - up ≤ fuel) ∧ inB (f.ns.map LN.nd) par a = inUp (f.ns.map LN.nd) par fuel below up ∧ Vs w f gp n c D wr) (fun _ s10 _ => msr n s10)
  case atStart => exact ⟨n, a, u0, rfl, rfl, by have := HUP.out.lt HU0.out; have := HN.out; omega, fun h => by omega, HV.out, ⟨Blk.alloc (Blk.new _ _ _) _, Blk.new_at (by simp), below_new2 _ _ _⟩⟩
  case round =>
    clear cu
    obtain ⟨fuel, below, up, rfl, rfl, hup1, hfu, hV, hS⟩ := hrel
    have HV2 := Lib.hid hV
    have HS := Lib.hid hS
    obtain ⟨a0, a1, a2, a3, a4, a5, a6⟩ := box7 hS.fb
    obtain ⟨b0, b1⟩ := box2 hS.tb
    have hsz := hS.bel.size
    have hsz2 := hS.tb.lt
    by_cases h0 : 0 ≤ up
    · obtain ⟨q, rfl⟩ : ∃ q : Nat, up = q := ⟨up.toNat, by omega⟩
      have hfu2 := hfu h0
      obtain ⟨m, rfl⟩ : ∃ m, fuel = m + 1 := ⟨fuel - 1, by omega⟩
      have hqn : q < n := by omega
      obtain ⟨l, hl⟩ : ∃ l, f.ns[q]? = some l := ⟨_, List.getElem?_eq_getElem (by have := HN.out; omega)⟩
      obtain ⟨b, off, hna, hlo, hb, c0, c1, c2, c3, c4, c5, c6, c7, hok⟩ := rdN_at (HNS.out.below hS.bel) hl
      obtain ⟨u, hu⟩ : ∃ u, par[q]? = some u := ⟨_, List.getElem?_eq_getElem (by have := HLP.out; have := HN.out; omega)⟩
      have cu := (HP.out.below hS.bel).cell hu
      have HUB := Lib.hid (fun (h : 0 ≤ u) => (⟨(HUP.out q u hu h).1, by have := (HUP.out q u hu h).2; have := HN.out; omega⟩ : (q : Int) < u ∧ u < n))
      rw [hna] at a6
      obtain ⟨f2, f3⟩ := (HF.out l (List.mem_of_getElem? hl)).2
      have hkn : l.nd.kids.length ≤ 9223372036854775807 := by unfold maxLen at f3; exact f3
      have HOK := Lib.hid hok
      have HVS : Hid (inB (f.ns.map LN.nd) par a = (((l.nd.kind == 6 || l.nd.kind == 7 || l.nd.kind == 8) && l.nd.kids[l.nd.kids.length - 1]? == some below) || inUp (f.ns.map LN.nd) par m q u)) := by
        rw [hV, inUp, if_neg (by omega), Int.toNat_natCast, nd_at hl, hu]; exact Lib.hid rfl
      have HUN : Hid (u < n) := by
        by_cases hu0 : 0 ≤ u
        · exact Lib.hid (HUB.out hu0).2
        · exact Lib.hid (by omega)
      have HFU : Hid (0 ≤ u → (n : Int) - u ≤ m) := Lib.hid (fun h => by have := (HUB.out h).1; omega)
      have HMS := Lib.hid (msr_lt hqn HUB.out : msr n (.int .i64 u) < msr n (.int .i64 q))
      have HKP := Lib.hid (HLK.out q l.nd (nd_at hl))
      obtain ⟨nd, ra, rc, ka, kc⟩ := l
      dsimp only at c0 c1 c2 c3 c4 c5 c6 c7 hkn f2 f3 HVS HKP
      clear hV hS hfu hfu2 hl hu hok hna
      have hgp2 : gp < wr.heap.size := by omega
      have hsza : w.heap.size < wr.heap.size := by omega
      by_cases hk : nd.kind = 6 ∨ nd.kind = 7 ∨ nd.kind = 8
      · have hkp := HKP.out hk
        obtain ⟨k, hkk⟩ : ∃ k, nd.kids[nd.kids.length - 1]? = some k := ⟨_, List.getElem?_eq_getElem (by omega)⟩
        obtain ⟨b3, off3, rfl, hlo3, hb3, ck⟩ := rdI_at HOK.out.2 hkk
        have HKK := Lib.hid hkk
        have k1 : (0 : Int) ≤ (nd.kids.length : Int) - 1 := by omega
        have k2 : ((nd.kids.length : Int) - 1).toNat = nd.kids.length - 1 := by omega
        have HT : Hid ((nd.kind == 6 || nd.kind == 7 || nd.kind == 8) = true) := by
          rcases hk with h | h | h <;> (rw [h]; exact Lib.hid rfl)
        clear hkk
        by_cases he : k = below
        · subst he
          have HR : Hid (inB (f.ns.map LN.nd) par a = true) := by rw [HVS.out, HT.out, HKK.out]; exact Lib.hid (by simp)
          rcases hk with hk | hk | hk
          all_goals
            rw [hk] at c0
            clear hk
            go_wp2
            go_ret
            exact ⟨by rw [HR.out]; rfl, HS.out.bel.alloc HS.out.bel.size _⟩
        · have heb : (k == below) = false := by simpa using he
          have HR : Hid (inB (f.ns.map LN.nd) par a = inUp (f.ns.map LN.nd) par m q u) := by rw [HVS.out, HT.out, HKK.out]; exact Lib.hid (by simp [he])
          clear he
          rcases hk with hk | hk | hk
          all_goals
            rw [hk] at c0
            clear hk
            go_wp2
            exact ⟨⟨m, q, u, rfl, rfl, HUN.out, HFU.out, HR.out, HS.out.alloc _⟩, HMS.out⟩
      · have e6 : (nd.kind == 6) = false := by simp; omega
        have e7 : (nd.kind == 7) = false := by simp; omega
        have e8 : (nd.kind == 8) = false := by simp; omega
        have HR : Hid (inB (f.ns.map LN.nd) par a = inUp (f.ns.map LN.nd) par m q u) := by rw [HVS.out, e6, e7, e8]; exact Lib.hid rfl
        clear hk
        go_wp2
        exact ⟨⟨m, q, u, rfl, rfl, HUN.out, HFU.out, HR.out, HS.out.alloc _⟩, HMS.out⟩
    · have HV3 : Hid (inB (f.ns.map LN.nd) par a = false) := by
        rw [hV]
        cases fuel with
        | zero => exact Lib.hid rfl
        | succ m => rw [inUp, if_pos (by omega)]; exact Lib.hid rfl
      clear hV hS hfu
      go_wp2
      go_ret
      exact ⟨by rw [HV3.out]; rfl, HS.out.bel⟩
end Go.Proofs.Ytcpjplkbmflglaa
