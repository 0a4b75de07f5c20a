/- What scopes leaves in the three arrays. -/
import Derived.Test.YtcpjplkbmflglaaD2
import Derived.Test.YtcpjplkbmflglaaD9
namespace Go.Proofs.Ytcpjplkbmflglaa
open Go.RowKit
attribute [local go_sem] run_store_float
set_option linter.unusedVariables false
/-- A fn that passed the first look. -/
structure OkW (f : LF) : Prop where
  ok : OkU f
  fit : fitF f
  tk : ∀ (k : Nat) (n : Nd), (f.ns.map LN.nd)[k]? = some n → n.kind = 12 → n.kids.length = 2
  kc : ∀ l ∈ f.ns, l.nd.kids.length ≤ l.kc
  rv : ∀ l ∈ f.ns, l.nd.kind = 26 → 0 < l.nd.refs.length
def evsOf (f : LF) : List Ev := traceN (f.ns.map LN.nd) f.ns.length (f.ns.length - 1) (seen0 f.params f.vars.length) false
theorem soft_ge {W : World} {hi k : Nat} (h : Soft W (hi + 1) hi k) : hi ≤ k := by rcases h with h | h <;> omega
theorem out7_len (ns : List Nd) : ∀ (evs : List Ev) (out : List Bool), (evs.foldl (out7 ns) out).length = out.length := by
  intro evs
  induction evs with
  | nil => intro out; rfl
  | cons e r ih => intro out; rw [List.foldl_cons, ih]; unfold out7; rw [List.length_set]
theorem st8_len (fs : List Fd) (x : Fd) : ∀ (evs : List Ev) (out : List Bool), (evs.foldl (st8 fs x) out).length = out.length := by
  intro evs
  induction evs with
  | nil => intro out; rfl
  | cons e r ih =>
    intro out; rw [List.foldl_cons, ih]; unfold st8
    dsimp only
    repeat' split
    all_goals first | rfl | rw [List.length_set]
theorem st6_len (ns : List Nd) : ∀ (evs : List Ev) (out : List Sc1), (evs.foldl (st6 ns) out).length = out.length := by
  intro evs
  induction evs with
  | nil => intro out; rfl
  | cons e r ih =>
    intro out; rw [List.foldl_cons, ih]; unfold st6
    dsimp only
    split
    all_goals first | rfl | rw [List.length_set]
theorem Sm.but {W W' : World} {ga hi : Nat} {S : List Sc1} (h : Sm W ga hi S) (hg : ga < hi) (hb : But (Soft W (hi + 1) hi) W W') : Sm W' ga hi S := by
  obtain ⟨cells, h1, h2, h3⟩ := h
  refine ⟨cells, hb.blk h1 (fun e => by have := soft_ge e; omega), h2, fun n s u hs hu => ?_⟩
  have := h3 n s u hs hu
  cases s with
  | none => exact this
  | some p =>
    obtain ⟨v, b⟩ := p
    obtain ⟨r, q1, q2, q3⟩ := this
    refine ⟨r, q1, q2, (hb.block r (Array.getElem?_eq_some_iff.1 q3).1 (fun e => ?_)).trans q3⟩
    rcases e with e | ⟨-, cs, t, f, e⟩
    · omega
    · rw [e] at q3; cases q3
set_option maxRecDepth 100000 in
set_option maxHeartbeats 1000000 in
theorem scopes7_any (f : LF) (p0 p1 ga lo : Nat)  (w0 W : World) (S0 : List Bool) (O : OkW f) (hb0 : Below w0.heap.size w0 W) (hr : RdN w0 lo f.na f.ns) (hga : w0.heap.size ≤ ga) (h0 : Blk W p0 47 #[.string f.name, .int .i64 f.line, .int .i64 f.params, .bool f.rest, .slice f.va f.vars.length f.vc, .slice f.ua f.ups.length f.uc, .slice f.na f.ns.length f.nc]) (h1 : Blk W p1 55 #[.slice (some ⟨ga, 0, none⟩) f.ns.length f.ns.length])  (ho : BB W ga S0) (hgl : ga < W.heap.size) (hl : S0.length = f.ns.length) (e0 : p0 ≠ ga) (e1 : p1 ≠ ga) :
    Calls Try.prog 24 #[.agg #[.string f.name, .int .i64 f.line, .int .i64 f.params, .bool f.rest, .slice f.va f.vars.length f.vc, .slice f.ua f.ups.length f.uc, .slice f.na f.ns.length f.nc], .func (.func 27) #[] #[.pointer (some ⟨p0, 0, none⟩), .pointer (some ⟨p1, 0, none⟩)]] W fun e W' => e = .returned (.tuple #[]) ∧ BB W' ga ((evsOf f).foldl (out7 (f.ns.map LN.nd)) S0) ∧ But (· = ga) W W' := by
  have hp0 := h0.lt
  have hp1 := h1.lt
  skip
  have S : ScG 27 #[.pointer (some ⟨p0, 0, none⟩), .pointer (some ⟨p1, 0, none⟩)] (fun evs X => Below w0.heap.size w0 X ∧ Blk X p0 47 #[.string f.name, .int .i64 f.line, .int .i64 f.params, .bool f.rest, .slice f.va f.vars.length f.vc, .slice f.ua f.ups.length f.uc, .slice f.na f.ns.length f.nc] ∧ Blk X p1 55 #[.slice (some ⟨ga, 0, none⟩) f.ns.length f.ns.length] ∧ BB X ga (evs.foldl (out7 (f.ns.map LN.nd)) S0) ∧ W.heap.size ≤ X.heap.size) w0 lo f ga f.vars.length W.heap.size := {
    base := fun evs X h => h.1
    rn := hr
    soft := fun evs X X' h hb => ⟨h.1.trans (hb.below (fun k hk => by have := soft_ge hk; have := hb0.size; omega) h.1.size), hb.blk h.2.1 (fun e => by have := soft_ge e; omega), hb.blk h.2.2.1 (fun e => by have := soft_ge e; omega), h.2.2.2.1.but hb (fun e => by have := soft_ge e; omega), Nat.le_trans h.2.2.2.2 hb.size⟩
    see := fun evs X n ins loop h hs3 hB hil hn => (k27_any f p0 p1 ga (W.heap.size + 1) f.vars.length f.vars.length lo n ins loop _ X h.2.1 h.2.2.1 (hr.below h.1) h.2.2.2.1 (by rw [out7_len]; exact hl) hn O.ok.cn).mono (by
      rintro e X' ⟨he, hS, hX⟩
      exact ⟨he, ⟨h.1.trans (hX.below (fun k hk => by omega) h.1.size), hX.blk h.2.1 e0, hX.blk h.2.2.1 e1, by rw [List.foldl_append]; exact hS, Nat.le_trans h.2.2.2.2 hX.size⟩, hX⟩)
    cf := fun args W => by rfl
    ga1 := hgl
    ga0 := hga
    hn := O.ok.cn
    hf := O.fit.2.2.2.2
    ia := O.ok.ia
    lk := O.ok.lk
    tk := O.tk
    kc := O.kc
    nvl := by have := O.ok.vn; omega }
  refine (scopes_anyG S W rfl ⟨hb0, h0, h1, ho, Nat.le_refl _⟩ rfl O.ok.p0 O.ok.p1 O.ok.pos).mono ?_
  rintro e W' ⟨he, hI, hX⟩
  exact ⟨he, hI.2.2.2.1, hX⟩
set_option maxRecDepth 100000 in
set_option maxHeartbeats 1000000 in
theorem scopes6_any (f : LF) (p0 p1 ga lo : Nat)  (w0 W : World) (hi : Nat) (hhi : W.heap.size = hi) (S0 : List Sc1) (O : OkW f) (hb0 : Below w0.heap.size w0 W) (hr : RdN w0 lo f.na f.ns) (hga : w0.heap.size ≤ ga) (h0 : Blk W p0 47 #[.string f.name, .int .i64 f.line, .int .i64 f.params, .bool f.rest, .slice f.va f.vars.length f.vc, .slice f.ua f.ups.length f.uc, .slice f.na f.ns.length f.nc]) (h1 : Blk W p1 53 #[.slice (some ⟨ga, 0, none⟩) f.ns.length f.ns.length])  (ho : Sm W ga hi S0) (hgl : ga < W.heap.size) (hl : S0.length = f.ns.length) (e0 : p0 ≠ ga) (e1 : p1 ≠ ga) :
    Calls Try.prog 24 #[.agg #[.string f.name, .int .i64 f.line, .int .i64 f.params, .bool f.rest, .slice f.va f.vars.length f.vc, .slice f.ua f.ups.length f.uc, .slice f.na f.ns.length f.nc], .func (.func 25) #[] #[.pointer (some ⟨p0, 0, none⟩), .pointer (some ⟨p1, 0, none⟩)]] W fun e W' => e = .returned (.tuple #[]) ∧ Sm W' ga hi ((evsOf f).foldl (st6 (f.ns.map LN.nd)) S0) ∧ But (· = ga) W W' := by
  have hp0 := h0.lt
  have hp1 := h1.lt
  subst hhi
  have S : ScG 25 #[.pointer (some ⟨p0, 0, none⟩), .pointer (some ⟨p1, 0, none⟩)] (fun evs X => Below w0.heap.size w0 X ∧ Blk X p0 47 #[.string f.name, .int .i64 f.line, .int .i64 f.params, .bool f.rest, .slice f.va f.vars.length f.vc, .slice f.ua f.ups.length f.uc, .slice f.na f.ns.length f.nc] ∧ Blk X p1 53 #[.slice (some ⟨ga, 0, none⟩) f.ns.length f.ns.length] ∧ Sm X ga W.heap.size (evs.foldl (st6 (f.ns.map LN.nd)) S0) ∧ W.heap.size ≤ X.heap.size) w0 lo f ga f.vars.length W.heap.size := {
    base := fun evs X h => h.1
    rn := hr
    soft := fun evs X X' h hb => ⟨h.1.trans (hb.below (fun k hk => by have := soft_ge hk; have := hb0.size; omega) h.1.size), hb.blk h.2.1 (fun e => by have := soft_ge e; omega), hb.blk h.2.2.1 (fun e => by have := soft_ge e; omega), h.2.2.2.1.but hgl hb, Nat.le_trans h.2.2.2.2 hb.size⟩
    see := fun evs X n ins loop h hs3 hB hil hn => (k25_any f p0 p1 ga (W.heap.size + 1) f.vars.length f.vars.length lo W.heap.size n ins loop _ X h.2.1 h.2.2.1 (hr.below h.1) h.2.2.2.1 hB hil (by rw [st6_len]; exact hl) hn O.ok.cn (by have := O.ok.vn; omega) hs3 (fun l hl hk => O.rv l (List.mem_of_getElem? hl) hk)).mono (by
      rintro e X' ⟨he, hS, hX⟩
      exact ⟨he, ⟨h.1.trans (hX.below (fun k hk => by omega) h.1.size), hX.blk h.2.1 e0, hX.blk h.2.2.1 e1, by rw [List.foldl_append]; exact hS, Nat.le_trans h.2.2.2.2 hX.size⟩, hX⟩)
    cf := fun args W => by rfl
    ga1 := hgl
    ga0 := hga
    hn := O.ok.cn
    hf := O.fit.2.2.2.2
    ia := O.ok.ia
    lk := O.ok.lk
    tk := O.tk
    kc := O.kc
    nvl := by have := O.ok.vn; omega }
  refine (scopes_anyG S W rfl ⟨hb0, h0, h1, ho, Nat.le_refl _⟩ rfl O.ok.p0 O.ok.p1 O.ok.pos).mono ?_
  rintro e W' ⟨he, hI, hX⟩
  exact ⟨he, hI.2.2.2.1, hX⟩
set_option maxRecDepth 100000 in
set_option maxHeartbeats 1000000 in
theorem scopes8_any (f : LF) (p0 p1 p2 ga lo : Nat) (A : Option Addr) (c : Nat) (fs : List LF) (w0 W : World) (S0 : List Bool) (O : OkW f) (hb0 : Below w0.heap.size w0 W) (hr : RdN w0 lo f.na f.ns) (hga : w0.heap.size ≤ ga) (h0 : Blk W p0 47 #[.string f.name, .int .i64 f.line, .int .i64 f.params, .bool f.rest, .slice f.va f.vars.length f.vc, .slice f.ua f.ups.length f.uc, .slice f.na f.ns.length f.nc]) (h1 : Blk W p1 55 #[.slice (some ⟨ga, 0, none⟩) f.ns.length f.ns.length]) (h2 : Blk W p2 31 #[.slice A fs.length c]) (hR : RdF w0 lo A fs) (hm : f ∈ fs) (hlo : lo ≤ w0.heap.size) (hfs : fs.length ≤ 1048576) (e2 : p2 ≠ ga) (hul : ∀ g ∈ fs, g.ups.length ≤ 200) (href : ∀ (n : Nat) (l : LN), f.ns[n]? = some l → l.nd.kind = 36 → 0 < l.nd.refs.length ∧ 0 ≤ ref0 l.nd ∧ ref0 l.nd < fs.length) (ho : BB W ga S0) (hgl : ga < W.heap.size) (hl : S0.length = f.ns.length) (e0 : p0 ≠ ga) (e1 : p1 ≠ ga) :
    Calls Try.prog 24 #[.agg #[.string f.name, .int .i64 f.line, .int .i64 f.params, .bool f.rest, .slice f.va f.vars.length f.vc, .slice f.ua f.ups.length f.uc, .slice f.na f.ns.length f.nc], .func (.func 28) #[] #[.pointer (some ⟨p0, 0, none⟩), .pointer (some ⟨p1, 0, none⟩), .pointer (some ⟨p2, 0, none⟩)]] W fun e W' => e = .returned (.tuple #[]) ∧ BB W' ga ((evsOf f).foldl (st8 (fs.map LF.fd) f.fd) S0) ∧ But (· = ga) W W' := by
  have hp0 := h0.lt
  have hp1 := h1.lt
  have hp2 : p2 < W.heap.size ∧ p2 ≠ ga := ⟨h2.lt, e2⟩
  skip
  have S : ScG 28 #[.pointer (some ⟨p0, 0, none⟩), .pointer (some ⟨p1, 0, none⟩), .pointer (some ⟨p2, 0, none⟩)] (fun evs X => Below w0.heap.size w0 X ∧ Blk X p0 47 #[.string f.name, .int .i64 f.line, .int .i64 f.params, .bool f.rest, .slice f.va f.vars.length f.vc, .slice f.ua f.ups.length f.uc, .slice f.na f.ns.length f.nc] ∧ Blk X p1 55 #[.slice (some ⟨ga, 0, none⟩) f.ns.length f.ns.length] ∧ BB X ga (evs.foldl (st8 (fs.map LF.fd) f.fd) S0) ∧ W.heap.size ≤ X.heap.size ∧ Blk X p2 31 #[.slice A fs.length c]) w0 lo f ga f.vars.length W.heap.size := {
    base := fun evs X h => h.1
    rn := hr
    soft := fun evs X X' h hb => ⟨h.1.trans (hb.below (fun k hk => by have := soft_ge hk; have := hb0.size; omega) h.1.size), hb.blk h.2.1 (fun e => by have := soft_ge e; omega), hb.blk h.2.2.1 (fun e => by have := soft_ge e; omega), h.2.2.2.1.but hb (fun e => by have := soft_ge e; omega), Nat.le_trans h.2.2.2.2.1 hb.size, hb.blk h.2.2.2.2.2 (fun e => by have := hp2.1; have := soft_ge e; omega)⟩
    see := fun evs X n ins loop h hs3 hB hil hn => (k28_any A c fs f p0 p1 p2 ga (W.heap.size + 1) f.vars.length f.vars.length lo n ins loop _ X h.2.1 h.2.2.1 h.2.2.2.2.2 (hR.below h.1) hm (by omega) (by omega) (fun _ _ => trivial) h.2.2.2.1 hB hil (by rw [st8_len]; exact hl) hn O.ok.cn hfs (by have := O.ok.vn; omega) e0 e1 hp2.2 0 ⟨rfl, rfl, rfl, Nat.le_refl _, fun _ _ => rfl⟩ (fun Y hY => hR.below (h.1.trans (hY.below (fun k hk => by omega) h.1.size))) hul (fun l hl hk => href n l hl hk)).mono (by
      rintro e X' ⟨he, hS, hX⟩
      exact ⟨he, ⟨h.1.trans (hX.below (fun k hk => by omega) h.1.size), hX.blk h.2.1 e0, hX.blk h.2.2.1 e1, by rw [List.foldl_append]; exact hS, Nat.le_trans h.2.2.2.2.1 hX.size, hX.blk h.2.2.2.2.2 hp2.2⟩, hX⟩)
    cf := fun args W => by rfl
    ga1 := hgl
    ga0 := hga
    hn := O.ok.cn
    hf := O.fit.2.2.2.2
    ia := O.ok.ia
    lk := O.ok.lk
    tk := O.tk
    kc := O.kc
    nvl := by have := O.ok.vn; omega }
  refine (scopes_anyG S W rfl ⟨hb0, h0, h1, ho, Nat.le_refl _, h2⟩ rfl O.ok.p0 O.ok.p1 O.ok.pos).mono ?_
  rintro e W' ⟨he, hI, hX⟩
  exact ⟨he, hI.2.2.2.1, hX⟩
end Go.Proofs.Ytcpjplkbmflglaa
