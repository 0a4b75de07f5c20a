/- The closure of walk that sets and resets what is in scope. -/
import Derived.Test.YtcpjplkbmflglaaB14
import Derived.Laws.CopyOwn
import Derived.Laws.EntriesVeiled
import Derived.Laws.AppendOwn
import Derived.StillTailTactics
import Derived.Deep.LoopGhost
import Derived.Maps.AppendAt
namespace Go.Proofs.Ytcpjplkbmflglaa
open Go.RowKit
attribute [local go_sem] run_store_float
set_option linter.unusedVariables false
theorem But.cell {P : Nat → Prop} {w w' : World} (h : But P w w') {b o : Nat} (hb : b < w.heap.size) (hP : ¬ P b) : w'.cell? ⟨b, o, none⟩ = w.cell? ⟨b, o, none⟩ := World.cell?_of_block (h.block b hb hP)
theorem But.drewN {P : Nat → Prop} {w w' : World} (h : But P w w') (n : Nat) : But P w (w'.drewN n) := ⟨h.os, h.tape, h.output, h.size, h.block⟩
theorem But.drew {P : Nat → Prop} {w w' : World} (h : But P w w') : But P w w'.drew := ⟨h.os, h.tape, h.output, h.size, h.block⟩
/-- copy into a row known whole, as one step of a region: that row alone turns. -/
theorem step_copy_but {P : Program} {ops : Array Oper} {o : Oper} {a : Act} {w : World} {K : Act → World → Prop} {Q : Exit → Act → World → Prop} {E : Prop} (hgd : o.guard = none) (d s : Operand) (dT sT : TypeId)
    (ho : o.op = .call { callee := .builtin .copy, args := #[d, s], argTypes := #[dT, sT] }) (elem : TypeId) (hu : P.underlying dT = some (.slice elem)) (hsz : (P.info? elem).map (·.size) = some 1)
    (dp sp : Option Addr) (dLen dCap sLen sCap : Nat) (hd : a.eval d = .slice dp dLen dCap) (hs : a.eval s = .slice sp sLen sCap)
    (g off : Nat) (cur : List Value) (t : TypeId) (hg : w.heap[g]? = some (.cells cur.toArray t (0, 0))) (cs : List Value) (hn : cs.length = Nat.min sLen dLen)
    (hpos : 0 < cs.length → dp = some ⟨g, off, none⟩ ∧ ∃ ad, sp = some ad ∧ ∀ j v, cs[j]? = some v → w.cell? (ad.add j) = some v)
    (hfit : off + cs.length ≤ cur.length) (h1 : ∀ v ∈ cs, v.oneCell' = true)
    (h : ∀ w', RowKit.Hid (w'.heap[g]? = some (.cells (splice cur off cs).toArray t (0, 0))) → But (· = g) w w' → K (a.put o.dst (goInt cs.length)) w') :
    if Region.wanted o (yielded ops a.tmps) = true then Oper.wp P o a w K Q else E := by
  have hw : Region.wanted o (yielded ops a.tmps) = true := by simp [Region.wanted, hgd]
  rw [if_pos hw]
  by_cases h0 : cs.length = 0
  · obtain rfl : cs = [] := List.eq_nil_of_length_eq_zero h0
    have hrun := run_copy_none (P := P) w dT sT o.type elem dp sp dLen dCap sLen sCap hu hsz (by simpa using hn.symm)
    unfold Oper.wp
    simp [execOp, ho, resolve, invoke, builtin, hd, hs, hrun, Result.andThen]
    exact h w (show _ = _ by simpa [splice] using hg) (But.refl _ _)
  · obtain ⟨rfl, ad, rfl, hsrc⟩ := hpos (by omega)
    have hrun := run_copy_row (P := P) w dT sT o.type elem g off dLen dCap ad sLen sCap cur.toArray t cs hu hsz hg hn hsrc (by simpa using hfit) h1
    unfold Oper.wp
    simp [execOp, ho, resolve, invoke, builtin, hd, hs, hrun, Result.andThen]
    exact h _ (show _ = _ by simpa [splice] using setRow_heap w g _ _ t _ hg) ⟨rfl, rfl, rfl, by simp [World.setRow], fun k hk hne => setRow_other w g k _ hne⟩
def setR (ins : List Bool) : List Int → List Bool
  | [] => ins
  | v :: r => setR (if 0 ≤ v ∧ v < ins.length then ins.set v.toNat true else ins) r
theorem setR_len : ∀ (vs : List Int) (ins : List Bool), (setR ins vs).length = ins.length := by
  intro vs
  induction vs with
  | nil => intro ins; rfl
  | cons v r ih =>
    intro ins
    rw [setR, ih]
    split <;> simp
def SetS (W : World) (gi : Nat) (ins : List Bool) (e : Ending) (W' : World) : Prop := e = .returned (.tuple #[]) ∧ BB W' gi ins ∧ But (· = gi) W W'
set_option maxHeartbeats 1000000 in
theorem setT_any (sb ob xb gs gi n ci lo : Nat) (ra : Option Addr) (refs : List Int) (rc : Nat) (ins : List Bool) (W : World) (hs0 : W.cell? ⟨sb, 0, none⟩ = some (.pointer (some ⟨gs, 0, none⟩))) (hs7 : W.cell? ⟨gs, 7, none⟩ = some (.slice (some ⟨gi, 0, none⟩) n ci)) (hx6 : W.cell? ⟨xb, 6, none⟩ = some (.slice ra refs.length rc)) (hr : RdL encI 1 W lo ra refs) (hI : BB W gi ins) (hn : ins.length = n)
    (e1 : sb ≠ gi) (e2 : gs ≠ gi) (e3 : xb ≠ gi) (e4 : ∀ b o, 0 < refs.length → ra = some ⟨b, o, none⟩ → b ≠ gi) (hrl : refs.length ≤ maxLen) (hnl : n ≤ 1048576) :
    Calls Try.prog 66 #[.bool true, .pointer (some ⟨sb, 0, none⟩), .pointer (some ⟨ob, 0, none⟩), .pointer (some ⟨xb, 0, none⟩)] W (SetS W gi (setR ins refs)) := by
  unfold maxLen at hrl
  have l1 := block_lt_of_cell hs0
  have l2 := block_lt_of_cell hs7
  have l3 := block_lt_of_cell hx6
  have HR := Lib.hid hr; have HI := Lib.hid hI; have HN := Lib.hid hn
  have H0 := Lib.hid hs0; have H7 := Lib.hid hs7; have H6 := Lib.hid hx6
  clear hr hI hn
  go_enter Try.func66, Try.ntmps66
  go_wp2
  go_loopw [18] (fun v wr => ∃ (p : Nat) (ins' : List Bool), p ≤ refs.length ∧ v = .int .i64 p ∧ ins'.length = n ∧ setR ins refs = setR ins' (refs.drop p) ∧ BB wr gi ins' ∧ But (· = gi) W wr) (fun v _ => refs.length - (intOf v).toNat)
  case atStart => exact ⟨0, ins, Nat.zero_le _, rfl, HN.out, rfl, HI.out, But.refl _ _⟩
  case round =>
    clear hs0 hs7 hx6
    obtain ⟨p, ins', hp, rfl, hl, hE, hb, hbut⟩ := hrel
    have hs0 := (hbut.cell (o := 0) l1 e1).trans H0.out
    have hs7 := (hbut.cell (o := 7) l2 e2).trans H7.out
    have HE := Lib.hid hE; have HB := Lib.hid hb; have HBU := Lib.hid hbut; have HL := Lib.hid hl
    by_cases hlt : p < refs.length
    · obtain ⟨v, hv⟩ : ∃ v, refs[p]? = some v := ⟨_, List.getElem?_eq_getElem hlt⟩
      have HD : Hid (refs.drop p = v :: refs.drop (p + 1)) := by
        obtain ⟨q1, q2⟩ := List.getElem?_eq_some_iff.1 hv
        rw [List.drop_eq_getElem_cons q1, q2]; exact Lib.hid rfl
      obtain ⟨b2, off2, rfl, hlo2, hb2, cr⟩ := rdI_at HR.out hv
      have cr2 := (hbut.cell (o := off2 + p) hb2 (e4 b2 off2 (by omega) rfl)).trans cr
      clear cr hE hb hbut hl hv
      by_cases h1 : 0 ≤ v
      · by_cases h2 : v < n
        · obtain ⟨q, rfl⟩ : ∃ q : Nat, v = q := ⟨v.toNat, by omega⟩
          obtain ⟨d, hd⟩ : ∃ d, ins'[q]? = some d := ⟨_, List.getElem?_eq_getElem (by have := HL.out; omega)⟩
          have cd := HB.out.cell hd
          have fz := HB.out.fz q
          have k1 : q < n := by omega
          have HS : Hid (setR ins refs = setR (ins'.set q true) (refs.drop (p + 1))) := by
            rw [HE.out, HD.out, setR, if_pos ⟨h1, by have := HL.out; omega⟩, Int.toNat_natCast]; exact Lib.hid rfl
          clear hd
          go_wp2
          exact ⟨⟨p + 1, _, by omega, by go_num, by rw [List.length_set]; exact HL.out, HS.out, HB.out.set_ q true, But.set (P := fun x => x = gi) HBU.out (show gi = gi from rfl) q _⟩, by simp [intOf]; omega⟩
        · have HS : Hid (setR ins refs = setR ins' (refs.drop (p + 1))) := by
            rw [HE.out, HD.out, setR, if_neg (fun h => by have := HL.out; omega)]; exact Lib.hid rfl
          have h2b : decide (v < (n : Int)) = false := decide_eq_false h2
          go_wp2
          exact ⟨⟨p + 1, _, by omega, by go_num, HL.out, HS.out, HB.out, HBU.out⟩, by simp [intOf]; omega⟩
      · have HS : Hid (setR ins refs = setR ins' (refs.drop (p + 1))) := by
          rw [HE.out, HD.out, setR, if_neg (fun h => h1 h.1)]; exact Lib.hid rfl
        have h1b : decide (0 ≤ v) = false := decide_eq_false h1
        go_wp2
        exact ⟨⟨p + 1, _, by omega, by go_num, HL.out, HS.out, HB.out, HBU.out⟩, by simp [intOf]; omega⟩
    · have HQ : Hid (setR ins refs = ins') := by
        rw [hE, List.drop_of_length_le (by omega), setR]; exact Lib.hid rfl
      clear hE hb hbut hl
      go_wp2
      refine bodyPost_end (v := .tuple #[]) (by simp [results, Try.results66, go_sem]) rfl ?_
      exact ⟨rfl, by rw [HQ.out]; exact HB.out, HBU.out⟩
set_option maxHeartbeats 1000000 in
theorem setF_any (sb ob xb gs gi n ci lo oc : Nat) (oa : Option Addr) (old ins : List Bool) (W : World) (hs0 : W.cell? ⟨sb, 0, none⟩ = some (.pointer (some ⟨gs, 0, none⟩))) (hs7 : W.cell? ⟨gs, 7, none⟩ = some (.slice (some ⟨gi, 0, none⟩) n ci)) (ho0 : W.cell? ⟨ob, 0, none⟩ = some (.slice oa n oc)) (hr : RdL encB 1 W lo oa old) (hI : BB W gi ins) (hn : ins.length = n) (hon : old.length = n) (hnl : n ≤ 1048576) :
    Calls Try.prog 66 #[.bool false, .pointer (some ⟨sb, 0, none⟩), .pointer (some ⟨ob, 0, none⟩), .pointer (some ⟨xb, 0, none⟩)] W (SetS W gi old) := by
  have HR := Lib.hid hr; have HI := Lib.hid hI; have HN := Lib.hid hn; have HO := Lib.hid hon
  have hcs : (old.map Value.bool).length = Nat.min n n := by rw [List.length_map, hon]; simp
  have hcl : (ins.map Value.bool).length = n := by rw [List.length_map, hn]
  obtain ⟨cs, hcse⟩ : ∃ cs, cs = old.map Value.bool := ⟨_, rfl⟩
  obtain ⟨cur, hcure⟩ : ∃ cur, cur = ins.map Value.bool := ⟨_, rfl⟩
  have HCS := Lib.hid hcse; have HCU := Lib.hid hcure
  rw [← hcse] at hcs
  rw [← hcure] at hcl
  have hg0 := hI
  unfold BB Blk at hg0
  rw [← hcure] at hg0
  have HG := Lib.hid hg0
  have hpos : Hid (0 < cs.length → (some ⟨gi, 0, none⟩ : Option Addr) = some ⟨gi, 0, none⟩ ∧ ∃ ad, oa = some ad ∧ ∀ j v, cs[j]? = some v → W.cell? (ad.add j) = some v) := by
    refine Lib.hid (fun h0 => ⟨rfl, ?_⟩)
    obtain ⟨b, off, e, -, -, hc⟩ := hr (by rw [hcse] at h0; simpa using h0)
    refine ⟨_, e, fun j v hj => ?_⟩
    rw [hcse, List.getElem?_map] at hj
    obtain ⟨x, hx, rfl⟩ := Option.map_eq_some_iff.1 hj
    have := hc j x hx 0 _ rfl
    by_cases h : j = 0
    · subst h; simpa [Addr.add] using this
    · simpa [Addr.add, h] using this
  have hone : Hid (∀ v ∈ cs, v.oneCell' = true) := by
    refine Lib.hid (fun v hv => ?_)
    rw [hcse] at hv
    obtain ⟨x, -, rfl⟩ := List.mem_map.1 hv
    rfl
  have HCN := Lib.hid hcs; have HCL := Lib.hid hcl
  clear hr hI hn hon hcs hcl hcse hcure hg0
  go_enter Try.func66, Try.ntmps66
  go_wp2
  go_region_law (refine step_copy_but rfl (.tmp 12) (.tmp 13) 55 55 rfl 4 Try.underlying55 (by kernel_rfl) (some ⟨gi, 0, none⟩) oa n ci n oc rfl rfl gi 0 cur 4 HG.out cs HCN.out (fun h => ⟨rfl, (hpos.out h).2⟩) (by rw [HCN.out, HCL.out]; simp) hone.out ?_; intro w4 hg4 hb4)
  all_goals
    go_wp2
    refine bodyPost_end (v := .tuple #[]) (by simp [results, Try.results66, go_sem]) rfl ?_
    refine ⟨rfl, ?_, ⟨hb4.os, hb4.tape, hb4.output, hb4.size, hb4.block⟩⟩
    have := hg4.out
    unfold BB Blk
    rw [show old.map Value.bool = splice cur 0 cs from by
      unfold splice
      rw [HCS.out, List.take_zero, List.nil_append, List.drop_of_length_le (by rw [HCL.out, List.length_map, HO.out]; omega), List.append_nil]]
    exact this
end Go.Proofs.Ytcpjplkbmflglaa
namespace Go.Proofs.Ytcpjplkbmflglaa
open Go.RowKit
attribute [local go_sem] run_store_float
set_option linter.unusedVariables false
theorem But.of_grown {w w' : World} {row : Option Nat} (h : w.grownBy w' row) : But (fun k => row = some k) w w' :=
  ⟨h.os, h.tape, h.output, h.size, fun k hk hx => h.block k hk (fun e => hx e.symm)⟩
theorem flat_at {α : Type} (enc : α → List Value) (sz : Nat) (hlen : ∀ x, (enc x).length = sz) : ∀ (xs : List α) (i : Nat) (x : α), xs[i]? = some x → ∀ j u, (enc x)[j]? = some u → (xs.flatMap enc)[i * sz + j]? = some u
  | [], i, x, h => by simp at h
  | y :: r, 0, x, h => by
    intro j u hu
    simp at h
    subst h
    rw [List.flatMap_cons, Nat.zero_mul, Nat.zero_add, List.getElem?_append_left (List.getElem?_eq_some_iff.1 hu).1]
    exact hu
  | y :: r, i + 1, x, h => by
    intro j u hu
    rw [List.flatMap_cons, List.getElem?_append_right (by rw [hlen, Nat.add_mul]; omega), hlen]
    rw [show (i + 1) * sz + j - sz = i * sz + j by rw [Nat.add_mul]; omega]
    exact flat_at enc sz hlen r i x (by simpa using h) j u hu
theorem addr_addH (g k : Nat) : (⟨g, 0, none⟩ : Addr).add k = ⟨g, k, none⟩ := by
  by_cases h : k = 0
  · subst h; simp [Addr.add]
  · simp [Addr.add, h]
theorem ow_rd {α : Type} {enc : α → List Value} {sz B : Nat} {e : TypeId} {w : World} {v : Value} {xs : List α} (hlen : ∀ x, (enc x).length = sz) (h : w.ownsRow B e sz v xs.length (xs.flatMap enc)) :
    ∃ A c, v = .slice A xs.length c ∧ RdL enc sz w B A xs ∧ Wr w B A xs.length sz e := by
  rcases h.2 with ⟨rfl, e0⟩ | ⟨g, cap, cur, rfl, hB, hg, hnc, -, hs, -⟩
  · exact ⟨none, 0, by rw [e0], fun h0 => absurd h0 (by omega), fun h0 => absurd h0 (by omega)⟩
  · refine ⟨some ⟨g, 0, none⟩, cap, rfl, fun _ => ⟨g, 0, rfl, hB, (Array.getElem?_eq_some_iff.1 hg).1, fun i x hx j u hu => ?_⟩, fun _ => ⟨g, cur, rfl, hB, hg, by rw [hs]; exact Nat.mul_le_mul_right sz hnc⟩⟩
    have := World.ownsRow.cells h (g := g) rfl (i * sz + j) u (flat_at enc sz hlen xs i x hx j u hu)
    rw [addr_addH] at this
    rw [Nat.zero_add]
    exact this

abbrev Ev := Nat × List Bool × Bool
/-- What 'see' is told below node n. -/
def traceN (ns : List Nd) : Nat → Nat → List Bool → Bool → List Ev
  | 0, _, _, _ => []
  | fuel + 1, n, ins, loop =>
    let x := ndAt ns n
    (n, ins, loop) :: (
      if x.kind = 1 then (x.kids.foldl (fun (acc : List Ev × List Bool) k => (acc.1 ++ traceN ns fuel k.toNat acc.2 loop, if (ndAt ns k.toNat).kind = 2 then setR acc.2 (ndAt ns k.toNat).refs else acc.2)) ([], ins)).1
      else if x.kind = 6 ∨ x.kind = 7 ∨ x.kind = 8 then (x.kids.take (x.kids.length - 1)).flatMap (fun k => traceN ns fuel k.toNat ins loop) ++ traceN ns fuel ((x.kids[x.kids.length - 1]?).getD 0).toNat (if x.kind = 6 then ins else setR ins x.refs) true
      else if x.kind = 12 then traceN ns fuel ((x.kids[0]?).getD 0).toNat ins loop ++ traceN ns fuel ((x.kids[1]?).getD 0).toNat (setR ins x.refs) loop
      else x.kids.flatMap (fun k => traceN ns fuel k.toNat ins loop))
end Go.Proofs.Ytcpjplkbmflglaa
namespace Go.Proofs.Ytcpjplkbmflglaa
open Go.RowKit
attribute [local go_sem] run_store_float
set_option linter.unusedVariables false
def Two (ga gi : Nat) (k : Nat) : Prop := k = ga ∨ k = gi
/-- What a block's own list may turn: it lies behind the first world, and is no map. -/
def Soft (W : World) (gi hi : Nat) (k : Nat) : Prop := k = gi ∨ (hi ≤ k ∧ ∃ cs t f, W.heap[k]? = some (.cells cs t f))
/-- Behind a call of walk. -/
def WalkS (Inv : List Ev → World → Prop) (ga gi : Nat) (W : World) (evs : List Ev) (ins : List Bool) (e : Ending) (W' : World) : Prop := e = .returned (.tuple #[]) ∧ Inv evs W' ∧ BB W' gi ins ∧ But (Two ga gi) W W'
theorem flat_bool : ∀ ins : List Bool, ins.map Value.bool = ins.flatMap encB := by
  intro ins
  induction ins with
  | nil => rfl
  | cons x r ih => rw [List.map_cons, List.flatMap_cons, ih]; rfl
/-- The boxes of one call of walk. -/
structure Wl (W : World) (gs gi ga nv : Nat) (l : LN) (b2 oc lo2 : Nat) (oa : Option Addr) (ins : List Bool) (X : World) : Prop where
  sb : X.cell? ⟨W.heap.size, 0, none⟩ = some (.pointer (some ⟨gs, 0, none⟩))
  xb : Blk X (W.heap.size + 1) 52 #[.int .i64 l.nd.kind, .int .i64 l.nd.line, .int .i64 l.nd.op, .int .i64 l.nd.num, .float .f64 l.nd.flt, .string l.nd.str, .slice l.ra l.nd.refs.length l.rc, .slice l.ka l.nd.kids.length l.kc]
  ob : X.cell? ⟨b2, 0, none⟩ = some (.slice oa nv oc)
  ol : RdL encB 1 X lo2 oa ins
  but : But (Two ga gi) W X
  g1 : ga < W.heap.size
  g2 : gi < W.heap.size
  g3 : W.heap.size ≤ lo2
  g4 : W.heap.size < b2
  g5 : b2 < X.heap.size
  g6 : 0 < ins.length → ∀ g o, oa = some ⟨g, o, none⟩ → g < b2
theorem Wl.two {W X X' : World} {gs gi ga nv : Nat} {l : LN} {b2 oc lo2 : Nat} {oa : Option Addr} {ins : List Bool} (h : Wl W gs gi ga nv l b2 oc lo2 oa ins X) (hb : But (Two ga gi) X X') : Wl W gs gi ga nv l b2 oc lo2 oa ins X' :=
  ⟨(hb.cell (by have := h.g4; have := h.g5; omega) (fun e => by have := h.g1; have := h.g2; rcases e with e | e <;> omega)).trans h.sb,
   hb.blk h.xb (fun e => by have := h.g1; have := h.g2; rcases e with e | e <;> omega),
   (hb.cell h.g5 (fun e => by have := h.g1; have := h.g2; have := h.g4; rcases e with e | e <;> omega)).trans h.ob,
   hb.rd h.ol (fun g o h0 e hp => by
     obtain ⟨b, off, e2, hlo, -⟩ := h.ol h0
     rw [e] at e2
     injection e2 with e2; injection e2 with e2
     have := h.g1; have := h.g2; have := h.g3
     rcases hp with e3 | e3 <;> omega),
   h.but.trans hb, h.g1, h.g2, h.g3, h.g4, Nat.lt_of_lt_of_le h.g5 hb.size, h.g6⟩
/-- What is made behind the boxes does them nothing. -/
theorem Wl.far {W X X' : World} {gs gi ga nv : Nat} {l : LN} {b2 oc lo2 : Nat} {oa : Option Addr} {ins : List Bool} {P : Nat → Prop} (h : Wl W gs gi ga nv l b2 oc lo2 oa ins X) (hb : But P X X') (hP : ∀ k, P k → b2 < k) (hx : W.heap.size + 1 < b2) : Wl W gs gi ga nv l b2 oc lo2 oa ins X' :=
  ⟨(hb.cell (by have := h.g4; have := h.g5; omega) (fun e => by have := hP _ e; omega)).trans h.sb,
   hb.blk h.xb (fun e => by have := hP _ e; omega),
   (hb.cell h.g5 (fun e => by have := hP _ e; omega)).trans h.ob,
   hb.rd h.ol (fun g o h0 e hp => by have := hP _ hp; have := h.g6 h0 g o e; omega),
   ⟨hb.os.trans h.but.os, hb.tape.trans h.but.tape, hb.output.trans h.but.output, Nat.le_trans h.but.size hb.size, fun k hk hn => (hb.block k (Nat.lt_of_lt_of_le hk h.but.size) (fun e => by have := hP _ e; omega)).trans (h.but.block k hk hn)⟩, h.g1, h.g2, h.g3, h.g4, Nat.lt_of_lt_of_le h.g5 hb.size, h.g6⟩
end Go.Proofs.Ytcpjplkbmflglaa
namespace Go.Proofs.Ytcpjplkbmflglaa
/-- cur is ins with the places of mine set, each of which was clear. -/
structure Mn (ins : List Bool) (mine : List Nat) (cur : List Bool) : Prop where
  len : cur.length = ins.length
  was : ∀ q ∈ mine, ins[q]? = some false
  out : ∀ q, q ∉ mine → cur[q]? = ins[q]?
  now : ∀ q ∈ mine, cur[q]? = some true
  cnt : mine.length + cur.count false = ins.count false
theorem cnt_set_true (cur : List Bool) (q : Nat) (h : cur[q]? = some false) : (cur.set q true).count false + 1 = cur.count false := by
  obtain ⟨h1, h2⟩ := List.getElem?_eq_some_iff.1 h
  have h3 : 0 < cur.count false := List.count_pos_iff.2 (h2 ▸ List.getElem_mem h1)
  rw [List.count_set h1, h2]
  simp
  omega
theorem Mn.few {ins cur : List Bool} {mine : List Nat} (h : Mn ins mine cur) : mine.length ≤ ins.length := by
  have h1 := h.cnt
  have h2 : ins.count false ≤ ins.length := List.count_le_length
  omega
theorem Mn.start (ins : List Bool) : Mn ins [] ins := ⟨rfl, fun q h => absurd h (by simp), fun _ _ => rfl, fun q h => absurd h (by simp), by simp⟩
theorem Mn.add {ins cur : List Bool} {mine : List Nat} {q : Nat} (h : Mn ins mine cur) (hq : cur[q]? = some false) : Mn ins (mine ++ [q]) (cur.set q true) :=
  have hm : q ∉ mine := fun e => by rw [h.now q e] at hq; cases hq
  ⟨by rw [List.length_set]; exact h.len, fun k hk => by
    rcases List.mem_append.1 hk with hk | hk
    · exact h.was k hk
    · rw [List.mem_singleton] at hk
      subst hk
      exact (h.out k hm).symm.trans hq, fun k hk => by
    have h1 : k ∉ mine := fun e => hk (List.mem_append.2 (.inl e))
    have h2 : q ≠ k := fun e => hk (List.mem_append.2 (.inr (by simp [e])))
    rw [List.getElem?_set_ne h2]
    exact h.out k h1, fun k hk => by
    rcases List.mem_append.1 hk with hk | hk
    · have h2 : q ≠ k := fun e => by subst e; exact hm hk
      rw [List.getElem?_set_ne h2]
      exact h.now k hk
    · rw [List.mem_singleton] at hk
      subst hk
      exact List.getElem?_set_self (List.getElem?_eq_some_iff.1 hq).1, by
    have h1 := cnt_set_true cur q hq
    have h2 := h.cnt
    rw [List.length_append]
    simp only [List.length_singleton]
    omega⟩
theorem set_same {cur : List Bool} {q : Nat} (hq : cur[q]? = some true) : cur.set q true = cur := List.ext_getElem? fun k => by
  by_cases e : q = k
  · subst e
    rw [List.getElem?_set_self (List.getElem?_eq_some_iff.1 hq).1, hq]
  · rw [List.getElem?_set_ne e]
/-- Reset of the first of those left. -/
theorem mn_reset {ins cur : List Bool} {q : Nat} {r : List Nat} (hl : cur.length = ins.length) (hq : ins[q]? = some false) (h : ∀ k, k ∉ q :: r → cur[k]? = ins[k]?) : ∀ k, k ∉ r → (cur.set q false)[k]? = ins[k]? := by
  intro k hk
  by_cases e : q = k
  · subst e
    have := (List.getElem?_eq_some_iff.1 hq).1
    rw [List.getElem?_set_self (by omega), hq]
  · rw [List.getElem?_set_ne e]
    exact h k (by simp; exact ⟨fun x => e x.symm, hk⟩)
theorem mn_end {ins cur : List Bool} (h : ∀ k, k ∉ ([] : List Nat) → cur[k]? = ins[k]?) : cur = ins := List.ext_getElem? fun k => h k (by simp)
def encQ (q : Nat) : List Value := [.int .i64 (q : Int)]
/-- The list 'mine'. -/
def OwM (w : World) (base : Nat) (v : Value) (M : List Nat) : Prop := w.ownsRow base 3 1 v M.length (M.flatMap encQ)
theorem owM_push {w : World} {base : Nat} {v : Value} {M : List Nat} {q : Nat} (h : w.ownsRow base 3 1 v (M.length + 1) (M.flatMap encQ ++ [.int .i64 (q : Int)])) : OwM w base v (M ++ [q]) := by
  unfold OwM
  rw [List.length_append, List.flatMap_append]
  exact h
/-- A row of one's own lies in cells. -/
theorem own_cells {w : World} {base : Nat} {e : TypeId} {size n : Nat} {v : Value} {xs : List Value} (h : w.ownsRow base e size v n xs) {g : Nat} (hg : v.ownBlock = some g) : ∃ cs t f, w.heap[g]? = some (.cells cs t f) := by
  rcases h.2 with ⟨rfl, -⟩ | ⟨g', cap, cur, rfl, hB, hh, -⟩
  · simp [Value.ownBlock] at hg
  · have e1 : g' = g := by simpa [Value.ownBlock] using hg
    subst e1
    exact ⟨_, _, _, hh⟩
theorem own_in {w : World} {base : Nat} {e : TypeId} {size n : Nat} {v : Value} {xs : List Value} (h : w.ownsRow base e size v n xs) {g : Nat} (hg : v.ownBlock = some g) : base ≤ g ∧ g < w.heap.size := by
  rcases h.2 with ⟨rfl, -⟩ | ⟨g', cap, cur, rfl, hB, hh, -⟩
  · simp [Value.ownBlock] at hg
  · have e1 : g' = g := by simpa [Value.ownBlock] using hg
    subst e1
    exact ⟨hB, (Array.getElem?_eq_some_iff.1 hh).1⟩
theorem But.row {P : Nat → Prop} {w w' : World} (h : But P w w') {base : Nat} {e : TypeId} {size n : Nat} {v : Value} {xs : List Value} (hr : w.ownsRow base e size v n xs) (hP : ∀ k, base ≤ k → ¬ P k) : w'.ownsRow base e size v n xs :=
  ⟨hr.1, by
    rcases hr.2 with h1 | ⟨g, cap, cur, e1, hB, hh, r⟩
    · exact .inl h1
    · exact .inr ⟨g, cap, cur, e1, hB, (h.block g (Array.getElem?_eq_some_iff.1 hh).1 (hP g hB)).trans hh, r⟩⟩
end Go.Proofs.Ytcpjplkbmflglaa
namespace Go.Proofs.Ytcpjplkbmflglaa
open Go.RowKit
attribute [local go_sem] run_store_float
set_option linter.unusedVariables false
theorem new_at1 (w : World) (x : Value) (t : TypeId) (g : Nat) (hg : w.heap.size = g) : ∀ j u, [x][j]? = some u → (w.alloc (.cells #[x] t)).cell? ((⟨g, 0, none⟩ : Addr).add j) = some u := by
  subst hg
  exact cell_one_new w x t
theorem rdQ_at {w : World} {lo : Nat} {A : Option Addr} {xs : List Nat} (h : RdL encQ 1 w lo A xs) {k : Nat} {x : Nat} (hk : xs[k]? = some x) :
    ∃ b off, A = some ⟨b, off, none⟩ ∧ lo ≤ b ∧ b < w.heap.size ∧ w.cell? ⟨b, off + k, none⟩ = some (.int .i64 x) := by
  have hlt := (List.getElem?_eq_some_iff.1 hk).1
  obtain ⟨b, off, e, hlo, hb, hc⟩ := h (by omega)
  have := hc k x hk 0 _ rfl
  exact ⟨b, off, e, hlo, hb, by simpa using this⟩
theorem two_below {ga gi s b : Nat} (h1 : ga < s) (h2 : gi < s) (h : s ≤ b) : ∀ k, b ≤ k → ¬ Two ga gi k := fun k hk e => by
  rcases e with e | e <;> omega
theorem mn_pick {M : List Nat} {p q : Nat} (h : M[p]? = some q) : M.drop p = q :: M.drop (p + 1) := by
  obtain ⟨q1, q2⟩ := List.getElem?_eq_some_iff.1 h
  rw [List.drop_eq_getElem_cons q1, q2]
end Go.Proofs.Ytcpjplkbmflglaa
