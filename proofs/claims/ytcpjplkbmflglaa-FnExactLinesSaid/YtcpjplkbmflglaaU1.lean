/- Nodes, functions, units: how they lie in memory. -/
import Derived.Test.YtcpjplkbmflglaaU0
import Derived.Test.YtcpjplkbmflglaaFl2
namespace Go.Proofs.Ytcpjplkbmflglaa
open Go.RowKit
attribute [local go_sem] run_store_float

/-- A node of a function's text. -/
structure Nd where
  kind : Int
  line : Int
  op : Int
  num : Int
  flt : Nat
  str : ByteArray
  refs : List Int
  kids : List Int
/-- A node as it lies: where its two lists are. -/
structure LN where
  nd : Nd
  ra : Option Addr
  rc : Nat
  ka : Option Addr
  kc : Nat
structure Up where
  loc : Bool
  ix : Int
/-- A function as it lies. -/
structure LF where
  name : ByteArray
  line : Int
  params : Int
  rest : Bool
  vars : List ByteArray
  va : Option Addr
  vc : Nat
  ups : List Up
  ua : Option Addr
  uc : Nat
  ns : List LN
  na : Option Addr
  nc : Nat
/-- A function, wherever it lies. -/
structure Fd where
  name : ByteArray
  line : Int
  params : Int
  rest : Bool
  vars : List ByteArray
  ups : List Up
  nodes : List Nd
def LF.fd (f : LF) : Fd := ⟨f.name, f.line, f.params, f.rest, f.vars, f.ups, f.ns.map LN.nd⟩
def encI (n : Int) : List Value := [.int .i64 n]
def encU (p : Up) : List Value := [.bool p.loc, .int .i64 p.ix]
def encN (l : LN) : List Value := [.int .i64 l.nd.kind, .int .i64 l.nd.line, .int .i64 l.nd.op, .int .i64 l.nd.num, .float .f64 l.nd.flt, .string l.nd.str, .slice l.ra l.nd.refs.length l.rc, .slice l.ka l.nd.kids.length l.kc]
def encF (f : LF) : List Value := [.string f.name, .int .i64 f.line, .int .i64 f.params, .bool f.rest, .slice f.va f.vars.length f.vc, .slice f.ua f.ups.length f.uc, .slice f.na f.ns.length f.nc]
def OkN (w : World) (lo : Nat) (l : LN) : Prop := RdL encI 1 w lo l.ra l.nd.refs ∧ RdL encI 1 w lo l.ka l.nd.kids
def RdN (w : World) (lo : Nat) (A : Option Addr) (ls : List LN) : Prop := RdL encN 8 w lo A ls ∧ ∀ l ∈ ls, OkN w lo l
def OkF (w : World) (lo : Nat) (f : LF) : Prop := RdL encS 1 w lo f.va f.vars ∧ RdL encU 2 w lo f.ua f.ups ∧ RdN w lo f.na f.ns
def RdF (w : World) (lo : Nat) (A : Option Addr) (fs : List LF) : Prop := RdL encF 7 w lo A fs ∧ ∀ f ∈ fs, OkF w lo f
section
variable {w w' : World} {lo : Nat} {A : Option Addr} {l : LN} {f : LF} {ls : List LN} {fs : List LF}
theorem OkN.below (h : OkN w lo l) (hb : Below w.heap.size w w') : OkN w' lo l := ⟨h.1.below hb, h.2.below hb⟩
theorem RdN.below (h : RdN w lo A ls) (hb : Below w.heap.size w w') : RdN w' lo A ls := ⟨h.1.below hb, fun l hl => (h.2 l hl).below hb⟩
theorem OkF.below (h : OkF w lo f) (hb : Below w.heap.size w w') : OkF w' lo f := ⟨h.1.below hb, h.2.1.below hb, h.2.2.below hb⟩
theorem RdF.below (h : RdF w lo A fs) (hb : Below w.heap.size w w') : RdF w' lo A fs := ⟨h.1.below hb, fun f hf => (h.2 f hf).below hb⟩
theorem OkN.alloc (h : OkN w lo l) (o : Obj) : OkN (w.alloc o) lo l := h.below (below_new w o)
theorem RdN.alloc (h : RdN w lo A ls) (o : Obj) : RdN (w.alloc o) lo A ls := h.below (below_new w o)
theorem OkF.alloc (h : OkF w lo f) (o : Obj) : OkF (w.alloc o) lo f := h.below (below_new w o)
theorem RdF.alloc (h : RdF w lo A fs) (o : Obj) : RdF (w.alloc o) lo A fs := h.below (below_new w o)
theorem OkN.lower {lo' : Nat} (h : OkN w lo l) (hl : lo' ≤ lo) : OkN w lo' l := ⟨h.1.lower hl, h.2.lower hl⟩
theorem RdN.lower {lo' : Nat} (h : RdN w lo A ls) (hl : lo' ≤ lo) : RdN w lo' A ls := ⟨h.1.lower hl, fun l h' => (h.2 l h').lower hl⟩
theorem OkF.lower {lo' : Nat} (h : OkF w lo f) (hl : lo' ≤ lo) : OkF w lo' f := ⟨h.1.lower hl, h.2.1.lower hl, h.2.2.lower hl⟩
theorem rdI_at {xs : List Int} (h : RdL encI 1 w lo A xs) {k : Nat} {x : Int} (hk : xs[k]? = some x) :
    ∃ b off, A = some ⟨b, off, none⟩ ∧ lo ≤ b ∧ b < w.heap.size ∧ w.cell? ⟨b, off + k, none⟩ = some (.int .i64 x) := by
  have hlt := (List.getElem?_eq_some_iff.1 hk).1
  obtain ⟨b, off, e, hlo, hb, hc⟩ := h (by omega)
  exact ⟨b, off, e, hlo, hb, by simpa using hc k x hk 0 _ rfl⟩
theorem rdU_at {xs : List Up} (h : RdL encU 2 w lo A xs) {k : Nat} {x : Up} (hk : xs[k]? = some x) :
    ∃ b off, A = some ⟨b, off, none⟩ ∧ lo ≤ b ∧ b < w.heap.size ∧ w.cell? ⟨b, off + k * 2, none⟩ = some (.bool x.loc) ∧ w.cell? ⟨b, off + k * 2 + 1, none⟩ = some (.int .i64 x.ix) := by
  have hlt := (List.getElem?_eq_some_iff.1 hk).1
  obtain ⟨b, off, e, hlo, hb, hc⟩ := h (by omega)
  have hj := hc k x hk
  exact ⟨b, off, e, hlo, hb, hj 0 _ rfl, hj 1 _ rfl⟩
theorem rdN_at (h : RdN w lo A ls) {k : Nat} {l : LN} (hk : ls[k]? = some l) :
    ∃ b off, A = some ⟨b, off, none⟩ ∧ lo ≤ b ∧ b < w.heap.size ∧ w.cell? ⟨b, off + k * 8, none⟩ = some (.int .i64 l.nd.kind) ∧ w.cell? ⟨b, off + k * 8 + 1, none⟩ = some (.int .i64 l.nd.line) ∧ w.cell? ⟨b, off + k * 8 + 2, none⟩ = some (.int .i64 l.nd.op) ∧ w.cell? ⟨b, off + k * 8 + 3, none⟩ = some (.int .i64 l.nd.num) ∧ w.cell? ⟨b, off + k * 8 + 4, none⟩ = some (.float .f64 l.nd.flt) ∧ w.cell? ⟨b, off + k * 8 + 5, none⟩ = some (.string l.nd.str) ∧ w.cell? ⟨b, off + k * 8 + 6, none⟩ = some (.slice l.ra l.nd.refs.length l.rc) ∧ w.cell? ⟨b, off + k * 8 + 7, none⟩ = some (.slice l.ka l.nd.kids.length l.kc) ∧ OkN w lo l := by
  have hlt := (List.getElem?_eq_some_iff.1 hk).1
  obtain ⟨b, off, e, hlo, hb, hc⟩ := h.1 (by omega)
  have hj := hc k l hk
  exact ⟨b, off, e, hlo, hb, hj 0 _ rfl, hj 1 _ rfl, hj 2 _ rfl, hj 3 _ rfl, hj 4 _ rfl, hj 5 _ rfl, hj 6 _ rfl, hj 7 _ rfl, h.2 l (List.mem_of_getElem? hk)⟩
theorem rdF_at (h : RdF w lo A fs) {k : Nat} {f : LF} (hk : fs[k]? = some f) :
    ∃ b off, A = some ⟨b, off, none⟩ ∧ lo ≤ b ∧ b < w.heap.size ∧ w.cell? ⟨b, off + k * 7, none⟩ = some (.string f.name) ∧ w.cell? ⟨b, off + k * 7 + 1, none⟩ = some (.int .i64 f.line) ∧ w.cell? ⟨b, off + k * 7 + 2, none⟩ = some (.int .i64 f.params) ∧ w.cell? ⟨b, off + k * 7 + 3, none⟩ = some (.bool f.rest) ∧ w.cell? ⟨b, off + k * 7 + 4, none⟩ = some (.slice f.va f.vars.length f.vc) ∧ w.cell? ⟨b, off + k * 7 + 5, none⟩ = some (.slice f.ua f.ups.length f.uc) ∧ w.cell? ⟨b, off + k * 7 + 6, none⟩ = some (.slice f.na f.ns.length f.nc) ∧ OkF w lo f := by
  have hlt := (List.getElem?_eq_some_iff.1 hk).1
  obtain ⟨b, off, e, hlo, hb, hc⟩ := h.1 (by omega)
  have hj := hc k f hk
  exact ⟨b, off, e, hlo, hb, hj 0 _ rfl, hj 1 _ rfl, hj 2 _ rfl, hj 3 _ rfl, hj 4 _ rfl, hj 5 _ rfl, hj 6 _ rfl, h.2 f (List.mem_of_getElem? hk)⟩
end
/-- What a node, a function weigh. -/
def wN (l : LN) : Nat := l.nd.str.size + l.nd.refs.length + l.nd.kids.length
def wF (f : LF) : Nat := f.name.size + (f.vars.length + totS f.vars) + f.ups.length + (f.ns.length + totW wN f.ns)
def fitN (l : LN) : Prop := l.nd.str.size ≤ maxLen ∧ l.nd.refs.length ≤ maxLen ∧ l.nd.kids.length ≤ maxLen
def fitF (f : LF) : Prop := f.name.size ≤ maxLen ∧ (f.vars.length ≤ maxLen ∧ ∀ s ∈ f.vars, s.size ≤ maxLen) ∧ f.ups.length ≤ maxLen ∧ f.ns.length ≤ maxLen ∧ ∀ l ∈ f.ns, fitN l
end Go.Proofs.Ytcpjplkbmflglaa
