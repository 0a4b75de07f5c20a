/- Hear of the program. -/
import Derived.Test.YtchlolfdinakiaaDoorH6
import Derived.Test.YtchlolfdinakiaaDoorH7
import Derived.Deep.AppendLies
import Derived.Deep.RegionHeld3
import Derived.Deep.RegionLaw
namespace Go.Proofs.YtchlolfdinakiaaDoor
open Go.RowKit
attribute [local go_sem] run_store_float run_store_func
theorem Env.drew {A : Option Addr} {l : List UInt8} {lo R : Nat} {w wi : World} (h : Env A l lo R w wi) : Env A l lo R w wi.drew := ⟨h.bel.drew, h.rd, h.res⟩
theorem Blk.drewH {w : World} {g : Nat} {t : TypeId} {cs : Array Value} (h : Blk w g t cs) : Blk w.drew g t cs := h
theorem World.ownsRow.drew {w : World} {base : Nat} {e : TypeId} {size n : Nat} {v : Value} {xs : List Value} (h : w.ownsRow base e size v n xs) : w.drew.ownsRow base e size v n xs := h
theorem But.undrew {P : Nat → Prop} {w w' : World} (h : But P w.drew w') : But P w w' := ⟨h.os, h.tape, h.output, h.size, h.block⟩
theorem errV_on {w w1 : World} (h : ErrV w) (hb : Below w.heap.size w w1) : ErrV w1 := (But.of_below (P := fun _ => False) hb).errV h (fun _ h => h.elim)

structure I1 (A : Option Addr) (c : Nat) (l : List UInt8) (lo : Nat) (w : World) (code ticks made : Int) (p : Nat) (ok : Bool) (n : Int) (ps : List Rc) (rv : Value) (wr : World) : Prop where
  env : Env A l lo (w.heap.size + 1) w wr
  ii : Blk wr (w.heap.size + 1 + 1) 3 #[.int .i64 (p : Int)]
  kk : Blk wr (w.heap.size + 1 + 1 + 1) 4 #[.bool ok]
  bb : Blk wr w.heap.size 35 #[.slice A l.length c]
  ff : Blk wr (w.heap.size + 1 + 1 + 1 + 1) 69 #[.func (.func 43) #[] #[.pointer (some ⟨(w.heap.size + 1 + 1), 0, none⟩), .pointer (some ⟨w.heap.size, 0, none⟩), .pointer (some ⟨(w.heap.size + 1 + 1 + 1), 0, none⟩)]]
  out : Blk wr (w.heap.size + 1 + 1 + 1 + 1 + 1) 39 #[.int .i64 code, rv, .slice none 0 0, .string ⟨#[]⟩, .string ⟨#[]⟩, .int .i64 ticks, .int .i64 made]
  row : OwR wr (w.heap.size + 1 + 1 + 1 + 1 + 1 + 1) rv ps
  trk : Trk l p (!ok) (tlR ps.length) (HR code ticks made ps n)
  wt : ok = true → ps.length + totW wR ps ≤ p
  pl : p ≤ l.length
  n64 : i64 n
  pn : ps.length ≤ l.length + 1
  ok_ : okS ps
structure I2 (A : Option Addr) (c : Nat) (l : List UInt8) (lo : Nat) (w : World) (code ticks made : Int) (p : Nat) (ok : Bool) (n : Int) (ps : List Rc) (rv : Value) (vs : List ByteArray) (sv : Value) (wr : World) : Prop where
  env : Env A l lo (w.heap.size + 1) w wr
  ii : Blk wr (w.heap.size + 1 + 1) 3 #[.int .i64 (p : Int)]
  kk : Blk wr (w.heap.size + 1 + 1 + 1) 4 #[.bool ok]
  bb : Blk wr w.heap.size 35 #[.slice A l.length c]
  ff : Blk wr (w.heap.size + 1 + 1 + 1 + 1) 69 #[.func (.func 43) #[] #[.pointer (some ⟨(w.heap.size + 1 + 1), 0, none⟩), .pointer (some ⟨w.heap.size, 0, none⟩), .pointer (some ⟨(w.heap.size + 1 + 1 + 1), 0, none⟩)]]
  out : Blk wr (w.heap.size + 1 + 1 + 1 + 1 + 1) 39 #[.int .i64 code, rv, sv, .string ⟨#[]⟩, .string ⟨#[]⟩, .int .i64 ticks, .int .i64 made]
  rowR : OwR wr (w.heap.size + 1 + 1 + 1 + 1 + 1 + 1) rv ps
  rowS : OwS wr (w.heap.size + 1 + 1 + 1 + 1 + 1 + 1) sv vs
  trk : Trk l p (!ok) (tlV vs.length) (HV code ticks made ps vs n)
  wt : ok = true → ps.length + totW wR ps + vs.length + totS vs ≤ p
  pl : p ≤ l.length
  n64 : i64 n
  pn : ps.length ≤ l.length + 1
  pv : vs.length ≤ l.length + 1
  ok_ : okS ps
def rdI (L bi bk : Nat) (w : World) : Nat := match w.cell? ⟨bk, 0, none⟩, w.cell? ⟨bi, 0, none⟩ with
  | some (.bool true), some (.int _ p) => L + 1 - p.toNat
  | _, _ => 0
theorem rdI_eq {L bi bk : Nat} {w : World} {t t' : TypeId} {p : Nat} {ok : Bool} (h : Blk w bi t #[.int .i64 (p : Int)]) (h' : Blk w bk t' #[.bool ok]) : rdI L bi bk w = if ok then L + 1 - p else 0 := by
  unfold rdI
  rw [cell1 h, cell1 h']
  cases ok <;> simp
def MidR (A : Option Addr) (c : Nat) (l : List UInt8) (lo : Nat) (w : World) (code ticks made : Int) (p : Nat) (ps : List Rc) (rv : Value) (X : Nat) (wx : World) : Prop :=
  ∃ (x1 x2 x3 x4 : Int) (p1 p2 p3 p4 : Nat) (k1 k2 k3 k4 : Bool), NumRd l p false x1 p1 (!k1) ∧ NumRd l p1 (!k1) x2 p2 (!k2) ∧ NumRd l p2 (!k2) x3 p3 (!k3) ∧ NumRd l p3 (!k3) x4 p4 (!k4) ∧
    Env A l lo (w.heap.size + 1) w wx ∧ Blk wx (w.heap.size + 1 + 1) 3 #[.int .i64 (p4 : Int)] ∧ Blk wx (w.heap.size + 1 + 1 + 1) 4 #[.bool k4] ∧ Blk wx w.heap.size 35 #[.slice A l.length c] ∧ Blk wx (w.heap.size + 1 + 1 + 1 + 1) 69 #[.func (.func 43) #[] #[.pointer (some ⟨(w.heap.size + 1 + 1), 0, none⟩), .pointer (some ⟨w.heap.size, 0, none⟩), .pointer (some ⟨(w.heap.size + 1 + 1 + 1), 0, none⟩)]] ∧ Blk wx (w.heap.size + 1 + 1 + 1 + 1 + 1) 39 #[.int .i64 code, rv, .slice none 0 0, .string ⟨#[]⟩, .string ⟨#[]⟩, .int .i64 ticks, .int .i64 made] ∧ OwR wx (w.heap.size + 1 + 1 + 1 + 1 + 1 + 1) rv ps ∧
    Blk wx X 62 #[.int .i64 x1, .int .i64 x2, .int .i64 x3, .int .i64 x4, .string ⟨#[]⟩] ∧ (w.heap.size + 1 + 1 + 1 + 1 + 1) < X ∧ ∀ g, rv.ownBlock = some g → g < X
theorem mid_set {A : Option Addr} {c : Nat} {l : List UInt8} {lo : Nat} {w w8 : World} {code ticks made : Int} {ps : List Rc} {rv : Value} {X p4 : Nat} {k4 : Bool} {x1 x2 x3 x4 : Int} (hA : ∀ b o, A = some ⟨b, o, none⟩ → b < w.heap.size) (h1 : Env A l lo (w.heap.size + 1) w w8) (h2 : Blk w8 (w.heap.size + 1 + 1) 3 #[.int .i64 (p4 : Int)]) (h3 : Blk w8 (w.heap.size + 1 + 1 + 1) 4 #[.bool k4]) (h4 : Blk w8 w.heap.size 35 #[.slice A l.length c]) (h5 : Blk w8 (w.heap.size + 1 + 1 + 1 + 1) 69 #[.func (.func 43) #[] #[.pointer (some ⟨(w.heap.size + 1 + 1), 0, none⟩), .pointer (some ⟨w.heap.size, 0, none⟩), .pointer (some ⟨(w.heap.size + 1 + 1 + 1), 0, none⟩)]]) (h6 : Blk w8 (w.heap.size + 1 + 1 + 1 + 1 + 1) 39 #[.int .i64 code, rv, .slice none 0 0, .string ⟨#[]⟩, .string ⟨#[]⟩, .int .i64 ticks, .int .i64 made]) (h7 : OwR w8 (w.heap.size + 1 + 1 + 1 + 1 + 1 + 1) rv ps)
    (hx : Blk w8 X 62 #[.int .i64 0, .int .i64 0, .int .i64 0, .int .i64 0, .string ⟨#[]⟩]) (hX : (w.heap.size + 1 + 1 + 1 + 1 + 1) < X) (hg : ∀ g, rv.ownBlock = some g → g < X) :
    Env A l lo (w.heap.size + 1) w (((((w8.setCell ⟨X, 0, none⟩ (.int .i64 x1)).setCell ⟨X, 1, none⟩ (.int .i64 x2)).setCell ⟨X, 2, none⟩ (.int .i64 x3)).setCell ⟨X, 3, none⟩ (.int .i64 x4)).setCell ⟨X, 4, none⟩ (.string ⟨#[]⟩)) ∧ Blk (((((w8.setCell ⟨X, 0, none⟩ (.int .i64 x1)).setCell ⟨X, 1, none⟩ (.int .i64 x2)).setCell ⟨X, 2, none⟩ (.int .i64 x3)).setCell ⟨X, 3, none⟩ (.int .i64 x4)).setCell ⟨X, 4, none⟩ (.string ⟨#[]⟩)) (w.heap.size + 1 + 1) 3 #[.int .i64 (p4 : Int)] ∧ Blk (((((w8.setCell ⟨X, 0, none⟩ (.int .i64 x1)).setCell ⟨X, 1, none⟩ (.int .i64 x2)).setCell ⟨X, 2, none⟩ (.int .i64 x3)).setCell ⟨X, 3, none⟩ (.int .i64 x4)).setCell ⟨X, 4, none⟩ (.string ⟨#[]⟩)) (w.heap.size + 1 + 1 + 1) 4 #[.bool k4] ∧ Blk (((((w8.setCell ⟨X, 0, none⟩ (.int .i64 x1)).setCell ⟨X, 1, none⟩ (.int .i64 x2)).setCell ⟨X, 2, none⟩ (.int .i64 x3)).setCell ⟨X, 3, none⟩ (.int .i64 x4)).setCell ⟨X, 4, none⟩ (.string ⟨#[]⟩)) w.heap.size 35 #[.slice A l.length c] ∧ Blk (((((w8.setCell ⟨X, 0, none⟩ (.int .i64 x1)).setCell ⟨X, 1, none⟩ (.int .i64 x2)).setCell ⟨X, 2, none⟩ (.int .i64 x3)).setCell ⟨X, 3, none⟩ (.int .i64 x4)).setCell ⟨X, 4, none⟩ (.string ⟨#[]⟩)) (w.heap.size + 1 + 1 + 1 + 1) 69 #[.func (.func 43) #[] #[.pointer (some ⟨(w.heap.size + 1 + 1), 0, none⟩), .pointer (some ⟨w.heap.size, 0, none⟩), .pointer (some ⟨(w.heap.size + 1 + 1 + 1), 0, none⟩)]] ∧ Blk (((((w8.setCell ⟨X, 0, none⟩ (.int .i64 x1)).setCell ⟨X, 1, none⟩ (.int .i64 x2)).setCell ⟨X, 2, none⟩ (.int .i64 x3)).setCell ⟨X, 3, none⟩ (.int .i64 x4)).setCell ⟨X, 4, none⟩ (.string ⟨#[]⟩)) (w.heap.size + 1 + 1 + 1 + 1 + 1) 39 #[.int .i64 code, rv, .slice none 0 0, .string ⟨#[]⟩, .string ⟨#[]⟩, .int .i64 ticks, .int .i64 made] ∧ OwR (((((w8.setCell ⟨X, 0, none⟩ (.int .i64 x1)).setCell ⟨X, 1, none⟩ (.int .i64 x2)).setCell ⟨X, 2, none⟩ (.int .i64 x3)).setCell ⟨X, 3, none⟩ (.int .i64 x4)).setCell ⟨X, 4, none⟩ (.string ⟨#[]⟩)) (w.heap.size + 1 + 1 + 1 + 1 + 1 + 1) rv ps ∧
    Blk (((((w8.setCell ⟨X, 0, none⟩ (.int .i64 x1)).setCell ⟨X, 1, none⟩ (.int .i64 x2)).setCell ⟨X, 2, none⟩ (.int .i64 x3)).setCell ⟨X, 3, none⟩ (.int .i64 x4)).setCell ⟨X, 4, none⟩ (.string ⟨#[]⟩)) X 62 #[.int .i64 x1, .int .i64 x2, .int .i64 x3, .int .i64 x4, .string ⟨#[]⟩] ∧ (w.heap.size + 1 + 1 + 1 + 1 + 1) < X ∧ ∀ g, rv.ownBlock = some g → g < X := by
  have hs : But (fun x => x = X) w8 (((((w8.setCell ⟨X, 0, none⟩ (.int .i64 x1)).setCell ⟨X, 1, none⟩ (.int .i64 x2)).setCell ⟨X, 2, none⟩ (.int .i64 x3)).setCell ⟨X, 3, none⟩ (.int .i64 x4)).setCell ⟨X, 4, none⟩ (.string ⟨#[]⟩)) := (((((But.refl (fun x => x = X) _).set rfl _ _).set rfl _ _).set rfl _ _).set rfl _ _).set rfl _ _
  exact ⟨h1.but hA hs (fun k e => ⟨by omega, by omega⟩), hs.blk h2 (fun e => by omega), hs.blk h3 (fun e => by omega), hs.blk h4 (fun e => by omega), hs.blk h5 (fun e => by omega), hs.blk h6 (fun e => by omega), hs.row h7 (fun g hgg e => by have := hg g hgg; omega), ((((hx.set_ 0 _).set_ 1 _).set_ 2 _).set_ 3 _).set_ 4 _, hX, hg⟩
set_option maxRecDepth 100000 in
set_option maxHeartbeats 20000000 in
theorem ihear_small (A : Option Addr) (c : Nat) (l : List UInt8) (w : World) (lo : Nat) (hb : RdL encB 1 w lo A l) (hA : ∀ b o, A = some ⟨b, o, none⟩ → b < w.heap.size) (hl : l.length ≤ 1000000) (hcap : l.length ≤ c) (hcm : c ≤ maxLen) (hE : ErrV w) (hTab : Tab w) :
    Calls Tryd.prog 21 #[.slice A l.length c] w (RpH w l) := by
  obtain ⟨i0, hi, hz0, hz1, hz2⟩ := info_parts info39
  obtain ⟨i9, hi9, hz90, hz91, hz92⟩ := info_parts info9
  have HE0 := Lib.hid hE
  have HT0 := Lib.hid hTab
  clear hE hTab
  have hl1 : ¬ (1000000 : Int) < l.length := by omega
  have hres : Blk ((w.alloc (.cells #[.slice A l.length c] 35)).alloc (.cells #[.int .i64 0, .slice none 0 0, .slice none 0 0, .string ⟨#[]⟩, .string ⟨#[]⟩, .int .i64 0, .int .i64 0] 39)) (w.heap.size + 1) 39 #[.int .i64 0, .slice none 0 0, .slice none 0 0, .string ⟨#[]⟩, .string ⟨#[]⟩, .int .i64 0, .int .i64 0] := by have := Blk.new (w.alloc (.cells #[.slice A l.length c] 35)) 39 #[.int .i64 0, .slice none 0 0, .slice none 0 0, .string ⟨#[]⟩, .string ⟨#[]⟩, .int .i64 0, .int .i64 0]; simp only [World.size_alloc] at this; exact this
  have e0 : Env A l lo (w.heap.size + 1) w ((((((w.alloc (.cells #[.slice A l.length c] 35)).alloc (.cells #[.int .i64 0, .slice none 0 0, .slice none 0 0, .string ⟨#[]⟩, .string ⟨#[]⟩, .int .i64 0, .int .i64 0] 39)).alloc (.cells #[.int .i64 0] 3)).alloc (.cells #[.bool true] 4)).alloc (.cells #[.func (.func 43) #[] #[.pointer (some ⟨(w.heap.size + 1 + 1), 0, none⟩), .pointer (some ⟨w.heap.size, 0, none⟩), .pointer (some ⟨(w.heap.size + 1 + 1 + 1), 0, none⟩)]] 69)).alloc (.cells #[.int .i64 0, .slice none 0 0, .slice none 0 0, .string ⟨#[]⟩, .string ⟨#[]⟩, .int .i64 0, .int .i64 0] 39)) := (((((⟨(below_new _ _).alloc (by simp) _, (hb.alloc _).alloc _, hres⟩ : Env A l lo (w.heap.size + 1) w ((w.alloc (.cells #[.slice A l.length c] 35)).alloc (.cells #[.int .i64 0, .slice none 0 0, .slice none 0 0, .string ⟨#[]⟩, .string ⟨#[]⟩, .int .i64 0, .int .i64 0] 39)))).alloc (.cells #[.int .i64 0] 3)).alloc (.cells #[.bool true] 4)).alloc (.cells #[.func (.func 43) #[] #[.pointer (some ⟨(w.heap.size + 1 + 1), 0, none⟩), .pointer (some ⟨w.heap.size, 0, none⟩), .pointer (some ⟨(w.heap.size + 1 + 1 + 1), 0, none⟩)]] 69)).alloc (.cells #[.int .i64 0, .slice none 0 0, .slice none 0 0, .string ⟨#[]⟩, .string ⟨#[]⟩, .int .i64 0, .int .i64 0] 39)
  have b0 : Blk ((((((w.alloc (.cells #[.slice A l.length c] 35)).alloc (.cells #[.int .i64 0, .slice none 0 0, .slice none 0 0, .string ⟨#[]⟩, .string ⟨#[]⟩, .int .i64 0, .int .i64 0] 39)).alloc (.cells #[.int .i64 0] 3)).alloc (.cells #[.bool true] 4)).alloc (.cells #[.func (.func 43) #[] #[.pointer (some ⟨(w.heap.size + 1 + 1), 0, none⟩), .pointer (some ⟨w.heap.size, 0, none⟩), .pointer (some ⟨(w.heap.size + 1 + 1 + 1), 0, none⟩)]] 69)).alloc (.cells #[.int .i64 0, .slice none 0 0, .slice none 0 0, .string ⟨#[]⟩, .string ⟨#[]⟩, .int .i64 0, .int .i64 0] 39)) w.heap.size 35 #[.slice A l.length c] := (((((Blk.new w 35 #[.slice A l.length c]).alloc (.cells #[.int .i64 0, .slice none 0 0, .slice none 0 0, .string ⟨#[]⟩, .string ⟨#[]⟩, .int .i64 0, .int .i64 0] 39)).alloc (.cells #[.int .i64 0] 3)).alloc (.cells #[.bool true] 4)).alloc (.cells #[.func (.func 43) #[] #[.pointer (some ⟨(w.heap.size + 1 + 1), 0, none⟩), .pointer (some ⟨w.heap.size, 0, none⟩), .pointer (some ⟨(w.heap.size + 1 + 1 + 1), 0, none⟩)]] 69)).alloc (.cells #[.int .i64 0, .slice none 0 0, .slice none 0 0, .string ⟨#[]⟩, .string ⟨#[]⟩, .int .i64 0, .int .i64 0] 39)
  have i0' : Blk ((((((w.alloc (.cells #[.slice A l.length c] 35)).alloc (.cells #[.int .i64 0, .slice none 0 0, .slice none 0 0, .string ⟨#[]⟩, .string ⟨#[]⟩, .int .i64 0, .int .i64 0] 39)).alloc (.cells #[.int .i64 0] 3)).alloc (.cells #[.bool true] 4)).alloc (.cells #[.func (.func 43) #[] #[.pointer (some ⟨(w.heap.size + 1 + 1), 0, none⟩), .pointer (some ⟨w.heap.size, 0, none⟩), .pointer (some ⟨(w.heap.size + 1 + 1 + 1), 0, none⟩)]] 69)).alloc (.cells #[.int .i64 0, .slice none 0 0, .slice none 0 0, .string ⟨#[]⟩, .string ⟨#[]⟩, .int .i64 0, .int .i64 0] 39)) (w.heap.size + 1 + 1) 3 #[.int .i64 ((0 : Nat) : Int)] := by have := (((Blk.new ((w.alloc (.cells #[.slice A l.length c] 35)).alloc (.cells #[.int .i64 0, .slice none 0 0, .slice none 0 0, .string ⟨#[]⟩, .string ⟨#[]⟩, .int .i64 0, .int .i64 0] 39)) 3 #[.int .i64 0]).alloc (.cells #[.bool true] 4)).alloc (.cells #[.func (.func 43) #[] #[.pointer (some ⟨(w.heap.size + 1 + 1), 0, none⟩), .pointer (some ⟨w.heap.size, 0, none⟩), .pointer (some ⟨(w.heap.size + 1 + 1 + 1), 0, none⟩)]] 69)).alloc (.cells #[.int .i64 0, .slice none 0 0, .slice none 0 0, .string ⟨#[]⟩, .string ⟨#[]⟩, .int .i64 0, .int .i64 0] 39); simp only [World.size_alloc] at this; exact this
  have k0 : Blk ((((((w.alloc (.cells #[.slice A l.length c] 35)).alloc (.cells #[.int .i64 0, .slice none 0 0, .slice none 0 0, .string ⟨#[]⟩, .string ⟨#[]⟩, .int .i64 0, .int .i64 0] 39)).alloc (.cells #[.int .i64 0] 3)).alloc (.cells #[.bool true] 4)).alloc (.cells #[.func (.func 43) #[] #[.pointer (some ⟨(w.heap.size + 1 + 1), 0, none⟩), .pointer (some ⟨w.heap.size, 0, none⟩), .pointer (some ⟨(w.heap.size + 1 + 1 + 1), 0, none⟩)]] 69)).alloc (.cells #[.int .i64 0, .slice none 0 0, .slice none 0 0, .string ⟨#[]⟩, .string ⟨#[]⟩, .int .i64 0, .int .i64 0] 39)) (w.heap.size + 1 + 1 + 1) 4 #[.bool true] := by have := ((Blk.new (((w.alloc (.cells #[.slice A l.length c] 35)).alloc (.cells #[.int .i64 0, .slice none 0 0, .slice none 0 0, .string ⟨#[]⟩, .string ⟨#[]⟩, .int .i64 0, .int .i64 0] 39)).alloc (.cells #[.int .i64 0] 3)) 4 #[.bool true]).alloc (.cells #[.func (.func 43) #[] #[.pointer (some ⟨(w.heap.size + 1 + 1), 0, none⟩), .pointer (some ⟨w.heap.size, 0, none⟩), .pointer (some ⟨(w.heap.size + 1 + 1 + 1), 0, none⟩)]] 69)).alloc (.cells #[.int .i64 0, .slice none 0 0, .slice none 0 0, .string ⟨#[]⟩, .string ⟨#[]⟩, .int .i64 0, .int .i64 0] 39); simp only [World.size_alloc] at this; exact this
  have f0 : Blk ((((((w.alloc (.cells #[.slice A l.length c] 35)).alloc (.cells #[.int .i64 0, .slice none 0 0, .slice none 0 0, .string ⟨#[]⟩, .string ⟨#[]⟩, .int .i64 0, .int .i64 0] 39)).alloc (.cells #[.int .i64 0] 3)).alloc (.cells #[.bool true] 4)).alloc (.cells #[.func (.func 43) #[] #[.pointer (some ⟨(w.heap.size + 1 + 1), 0, none⟩), .pointer (some ⟨w.heap.size, 0, none⟩), .pointer (some ⟨(w.heap.size + 1 + 1 + 1), 0, none⟩)]] 69)).alloc (.cells #[.int .i64 0, .slice none 0 0, .slice none 0 0, .string ⟨#[]⟩, .string ⟨#[]⟩, .int .i64 0, .int .i64 0] 39)) (w.heap.size + 1 + 1 + 1 + 1) 69 #[.func (.func 43) #[] #[.pointer (some ⟨(w.heap.size + 1 + 1), 0, none⟩), .pointer (some ⟨w.heap.size, 0, none⟩), .pointer (some ⟨(w.heap.size + 1 + 1 + 1), 0, none⟩)]] := by have := (Blk.new ((((w.alloc (.cells #[.slice A l.length c] 35)).alloc (.cells #[.int .i64 0, .slice none 0 0, .slice none 0 0, .string ⟨#[]⟩, .string ⟨#[]⟩, .int .i64 0, .int .i64 0] 39)).alloc (.cells #[.int .i64 0] 3)).alloc (.cells #[.bool true] 4)) 69 #[.func (.func 43) #[] #[.pointer (some ⟨(w.heap.size + 1 + 1), 0, none⟩), .pointer (some ⟨w.heap.size, 0, none⟩), .pointer (some ⟨(w.heap.size + 1 + 1 + 1), 0, none⟩)]]).alloc (.cells #[.int .i64 0, .slice none 0 0, .slice none 0 0, .string ⟨#[]⟩, .string ⟨#[]⟩, .int .i64 0, .int .i64 0] 39); simp only [World.size_alloc] at this; exact this
  have o0 : Blk ((((((w.alloc (.cells #[.slice A l.length c] 35)).alloc (.cells #[.int .i64 0, .slice none 0 0, .slice none 0 0, .string ⟨#[]⟩, .string ⟨#[]⟩, .int .i64 0, .int .i64 0] 39)).alloc (.cells #[.int .i64 0] 3)).alloc (.cells #[.bool true] 4)).alloc (.cells #[.func (.func 43) #[] #[.pointer (some ⟨(w.heap.size + 1 + 1), 0, none⟩), .pointer (some ⟨w.heap.size, 0, none⟩), .pointer (some ⟨(w.heap.size + 1 + 1 + 1), 0, none⟩)]] 69)).alloc (.cells #[.int .i64 0, .slice none 0 0, .slice none 0 0, .string ⟨#[]⟩, .string ⟨#[]⟩, .int .i64 0, .int .i64 0] 39)) (w.heap.size + 1 + 1 + 1 + 1 + 1) 39 #[.int .i64 0, .slice none 0 0, .slice none 0 0, .string ⟨#[]⟩, .string ⟨#[]⟩, .int .i64 0, .int .i64 0] := by have := Blk.new (((((w.alloc (.cells #[.slice A l.length c] 35)).alloc (.cells #[.int .i64 0, .slice none 0 0, .slice none 0 0, .string ⟨#[]⟩, .string ⟨#[]⟩, .int .i64 0, .int .i64 0] 39)).alloc (.cells #[.int .i64 0] 3)).alloc (.cells #[.bool true] 4)).alloc (.cells #[.func (.func 43) #[] #[.pointer (some ⟨(w.heap.size + 1 + 1), 0, none⟩), .pointer (some ⟨w.heap.size, 0, none⟩), .pointer (some ⟨(w.heap.size + 1 + 1 + 1), 0, none⟩)]] 69)) 39 #[.int .i64 0, .slice none 0 0, .slice none 0 0, .string ⟨#[]⟩, .string ⟨#[]⟩, .int .i64 0, .int .i64 0]; simp only [World.size_alloc] at this; exact this
  have env_0 := Lib.hid e0
  have bb_0 := Lib.hid b0
  have ii_0 := Lib.hid i0'
  have kk_0 := Lib.hid k0
  have ff_0 := Lib.hid f0
  have out_0 := Lib.hid o0
  clear hb hres e0 b0 i0' k0 f0 o0
  go_enter Tryd.func21, Tryd.ntmps21
  go_wp2_with fail
  generalize ((((((w.alloc (.cells #[.slice A l.length c] 35)).alloc (.cells #[.int .i64 0, .slice none 0 0, .slice none 0 0, .string ⟨#[]⟩, .string ⟨#[]⟩, .int .i64 0, .int .i64 0] 39)).alloc (.cells #[.int .i64 0] 3)).alloc (.cells #[.bool true] 4)).alloc (.cells #[.func (.func 43) #[] #[.pointer (some ⟨(w.heap.size + 1 + 1), 0, none⟩), .pointer (some ⟨w.heap.size, 0, none⟩), .pointer (some ⟨(w.heap.size + 1 + 1 + 1), 0, none⟩)]] 69)).alloc (.cells #[.int .i64 0, .slice none 0 0, .slice none 0 0, .string ⟨#[]⟩, .string ⟨#[]⟩, .int .i64 0, .int .i64 0] 39)) = W0 at *
  have x0 := cell1 ff_0.out
  have env_0d := Lib.hid env_0.out.drew
  have bb_0d := Lib.hid bb_0.out.drewH
  have ii_0d := Lib.hid ii_0.out.drewH
  have kk_0d := Lib.hid kk_0.out.drewH
  have ff_0d := Lib.hid ff_0.out.drewH
  have out_0d := Lib.hid out_0.out.drewH
  clear env_0 bb_0 ii_0 kk_0 ff_0 out_0
  go_region_held3 (fun w' => w'.cell? ⟨(w.heap.size + 1 + 1 + 1 + 1), 0, none⟩ = some (.func (.func 43) #[] #[.pointer (some ⟨(w.heap.size + 1 + 1), 0, none⟩), .pointer (some ⟨w.heap.size, 0, none⟩), .pointer (some ⟨(w.heap.size + 1 + 1 + 1), 0, none⟩)])) (first | assumption | (simp [go_sem, *])) (first
      | (go_at_call 43; refine (inumH_any A c l _ _ (w.heap.size + 1 + 1) w.heap.size (w.heap.size + 1 + 1 + 1) _ lo env_2.out.rd ii_2.out bb_2.out kk_2.out (fun b o e => by have := hA b o e; exact ⟨by omega, by omega⟩) pl2 hcap hcm (errV_on HE0.out env_2.out.bel)).mono ?_; rintro e w3 ⟨made, p3, k3, rfl, hr, hi, hk, hu⟩; have env_3 := Lib.hid (env_2.out.but hA hu (fun k e => ⟨by omega, by omega⟩)); have bb_3 := Lib.hid (hu.blk bb_2.out (fun e => by omega)); have ff_3 := Lib.hid (hu.blk ff_2.out (fun e => by omega)); have out_3 := Lib.hid (hu.blk out_2.out (fun e => by omega)); have ii_3 := Lib.hid hi; have kk_3 := Lib.hid hk; have pl3 := hr.2.2.1; have hr3 := Lib.hid hr; have n3 := Lib.hid hr.1; clear hr hi hk hu env_2 bb_2 ii_2 kk_2 ff_2 out_2; have sf3 := cell1 ff_3.out; obtain ⟨y0, y1, y2, y3, y4, y5, y6⟩ := box7 out_3.out; have fo : ∀ j, w3.frozen? ⟨(w.heap.size + 1 + 1 + 1 + 1 + 1), j, none⟩ = false := (fun j => out_3.out.frozen j))
      | (go_at_call 43; refine (inumH_any A c l _ _ (w.heap.size + 1 + 1) w.heap.size (w.heap.size + 1 + 1 + 1) _ lo env_1.out.rd ii_1.out bb_1.out kk_1.out (fun b o e => by have := hA b o e; exact ⟨by omega, by omega⟩) pl1 hcap hcm (errV_on HE0.out env_1.out.bel)).mono ?_; rintro e w2 ⟨ticks, p2, k2, rfl, hr, hi, hk, hu⟩; have env_2 := Lib.hid (env_1.out.but hA hu (fun k e => ⟨by omega, by omega⟩)); have bb_2 := Lib.hid (hu.blk bb_1.out (fun e => by omega)); have ff_2 := Lib.hid (hu.blk ff_1.out (fun e => by omega)); have out_2 := Lib.hid (hu.blk out_1.out (fun e => by omega)); have ii_2 := Lib.hid hi; have kk_2 := Lib.hid hk; have pl2 := hr.2.2.1; have hr2 := Lib.hid hr; have n2 := Lib.hid hr.1; clear hr hi hk hu env_1 bb_1 ii_1 kk_1 ff_1 out_1; have sf2 := cell1 ff_2.out)
      | (go_at_call 43; refine (inumH_any A c l _ _ (w.heap.size + 1 + 1) w.heap.size (w.heap.size + 1 + 1 + 1) _ lo env_0d.out.rd ii_0d.out bb_0d.out kk_0d.out (fun b o e => by have := hA b o e; exact ⟨by omega, by omega⟩) (Nat.zero_le _) hcap hcm (errV_on HE0.out env_0d.out.bel)).mono ?_; rintro e w1 ⟨code, p1, k1, rfl, hr, hi, hk, hu⟩; have env_1 := Lib.hid (env_0d.out.but hA hu (fun k e => ⟨by omega, by omega⟩)); have bb_1 := Lib.hid (hu.blk bb_0d.out (fun e => by omega)); have ff_1 := Lib.hid (hu.blk ff_0d.out (fun e => by omega)); have out_1 := Lib.hid (hu.blk out_0d.out (fun e => by omega)); have ii_1 := Lib.hid hi; have kk_1 := Lib.hid hk; have pl1 := hr.2.2.1; have hr1 := Lib.hid hr; have n1 := Lib.hid hr.1; clear hr hi hk hu env_0d bb_0d ii_0d kk_0d ff_0d out_0d; have sf1 := cell1 ff_1.out))
  clear fo y0 y1 y2 y3 y4 y5 y6 sf1 sf2 sf3 x0
  have hset : But (fun x => x = (w.heap.size + 1 + 1 + 1 + 1 + 1)) w3 (w3.setCell ⟨(w.heap.size + 1 + 1 + 1 + 1 + 1), 0, none⟩ (.int .i64 code)) := (But.refl (fun x => x = (w.heap.size + 1 + 1 + 1 + 1 + 1)) _).set rfl _ _
  have env_3a := Lib.hid (env_3.out.but hA hset (fun k e => ⟨by omega, by omega⟩))
  have bb_3a := Lib.hid (hset.blk bb_3.out (fun e => by omega))
  have ii_3a := Lib.hid (hset.blk ii_3.out (fun e => by omega))
  have kk_3a := Lib.hid (hset.blk kk_3.out (fun e => by omega))
  have ff_3a := Lib.hid (hset.blk ff_3.out (fun e => by omega))
  have out_3a : Hid (Blk (w3.setCell ⟨(w.heap.size + 1 + 1 + 1 + 1 + 1), 0, none⟩ (.int .i64 code)) (w.heap.size + 1 + 1 + 1 + 1 + 1) 39 #[.int .i64 code, .slice none 0 0, .slice none 0 0, .string ⟨#[]⟩, .string ⟨#[]⟩, .int .i64 0, .int .i64 0]) := Lib.hid (out_3.out.set_ 0 (.int .i64 code))
  clear hset env_3 bb_3 ii_3 kk_3 ff_3 out_3
  have hset : But (fun x => x = (w.heap.size + 1 + 1 + 1 + 1 + 1)) (w3.setCell ⟨(w.heap.size + 1 + 1 + 1 + 1 + 1), 0, none⟩ (.int .i64 code)) ((w3.setCell ⟨(w.heap.size + 1 + 1 + 1 + 1 + 1), 0, none⟩ (.int .i64 code)).setCell ⟨(w.heap.size + 1 + 1 + 1 + 1 + 1), 5, none⟩ (.int .i64 ticks)) := (But.refl (fun x => x = (w.heap.size + 1 + 1 + 1 + 1 + 1)) _).set rfl _ _
  have env_3b := Lib.hid (env_3a.out.but hA hset (fun k e => ⟨by omega, by omega⟩))
  have bb_3b := Lib.hid (hset.blk bb_3a.out (fun e => by omega))
  have ii_3b := Lib.hid (hset.blk ii_3a.out (fun e => by omega))
  have kk_3b := Lib.hid (hset.blk kk_3a.out (fun e => by omega))
  have ff_3b := Lib.hid (hset.blk ff_3a.out (fun e => by omega))
  have out_3b : Hid (Blk ((w3.setCell ⟨(w.heap.size + 1 + 1 + 1 + 1 + 1), 0, none⟩ (.int .i64 code)).setCell ⟨(w.heap.size + 1 + 1 + 1 + 1 + 1), 5, none⟩ (.int .i64 ticks)) (w.heap.size + 1 + 1 + 1 + 1 + 1) 39 #[.int .i64 code, .slice none 0 0, .slice none 0 0, .string ⟨#[]⟩, .string ⟨#[]⟩, .int .i64 ticks, .int .i64 0]) := Lib.hid (out_3a.out.set_ 5 (.int .i64 ticks))
  clear hset env_3a bb_3a ii_3a kk_3a ff_3a out_3a
  have hset : But (fun x => x = (w.heap.size + 1 + 1 + 1 + 1 + 1)) ((w3.setCell ⟨(w.heap.size + 1 + 1 + 1 + 1 + 1), 0, none⟩ (.int .i64 code)).setCell ⟨(w.heap.size + 1 + 1 + 1 + 1 + 1), 5, none⟩ (.int .i64 ticks)) (((w3.setCell ⟨(w.heap.size + 1 + 1 + 1 + 1 + 1), 0, none⟩ (.int .i64 code)).setCell ⟨(w.heap.size + 1 + 1 + 1 + 1 + 1), 5, none⟩ (.int .i64 ticks)).setCell ⟨(w.heap.size + 1 + 1 + 1 + 1 + 1), 6, none⟩ (.int .i64 made)) := (But.refl (fun x => x = (w.heap.size + 1 + 1 + 1 + 1 + 1)) _).set rfl _ _
  have env_3c := Lib.hid (env_3b.out.but hA hset (fun k e => ⟨by omega, by omega⟩))
  have bb_3c := Lib.hid (hset.blk bb_3b.out (fun e => by omega))
  have ii_3c := Lib.hid (hset.blk ii_3b.out (fun e => by omega))
  have kk_3c := Lib.hid (hset.blk kk_3b.out (fun e => by omega))
  have ff_3c := Lib.hid (hset.blk ff_3b.out (fun e => by omega))
  have out_3c : Hid (Blk (((w3.setCell ⟨(w.heap.size + 1 + 1 + 1 + 1 + 1), 0, none⟩ (.int .i64 code)).setCell ⟨(w.heap.size + 1 + 1 + 1 + 1 + 1), 5, none⟩ (.int .i64 ticks)).setCell ⟨(w.heap.size + 1 + 1 + 1 + 1 + 1), 6, none⟩ (.int .i64 made)) (w.heap.size + 1 + 1 + 1 + 1 + 1) 39 #[.int .i64 code, .slice none 0 0, .slice none 0 0, .string ⟨#[]⟩, .string ⟨#[]⟩, .int .i64 ticks, .int .i64 made]) := Lib.hid (out_3b.out.set_ 6 (.int .i64 made))
  clear hset env_3b bb_3b ii_3b kk_3b ff_3b out_3b
  generalize ((w3.setCell ⟨(w.heap.size + 1 + 1 + 1 + 1 + 1), 0, none⟩ (.int .i64 code)).setCell ⟨(w.heap.size + 1 + 1 + 1 + 1 + 1), 5, none⟩ (.int .i64 ticks)).setCell ⟨(w.heap.size + 1 + 1 + 1 + 1 + 1), 6, none⟩ (.int .i64 made) = w3c at *
  have x0 := cell1 ff_3c.out
  go_wp2_with fail
  refine (inumH_any A c l _ _ (w.heap.size + 1 + 1) w.heap.size (w.heap.size + 1 + 1 + 1) _ lo env_3c.out.rd ii_3c.out bb_3c.out kk_3c.out (fun b o e => by have := hA b o e; exact ⟨by omega, by omega⟩) pl3 hcap hcm (errV_on HE0.out env_3c.out.bel)).mono ?_
  rintro e w4 ⟨n0, p4, k4, rfl, hr, hi, hk, hu⟩
  have env_4 := Lib.hid (env_3c.out.but hA hu (fun k e => ⟨by omega, by omega⟩))
  have bb_4 := Lib.hid (hu.blk bb_3c.out (fun e => by omega))
  have ff_4 := Lib.hid (hu.blk ff_3c.out (fun e => by omega))
  have out_4 := Lib.hid (hu.blk out_3c.out (fun e => by omega))
  have ii_4 := Lib.hid hi
  have kk_4 := Lib.hid hk
  have pl4 := hr.2.2.1
  have hr4 := Lib.hid hr
  have n4 := Lib.hid hr.1
  clear hr hi hk hu env_3c bb_3c ii_3c kk_3c ff_3c out_3c
  have ht4 := trk_head hr1.out hr2.out hr3.out hr4.out
  have s4 : I1 A c l lo w code ticks made p4 k4 n0 [] (.slice none 0 0) w4 := ⟨env_4.out, ii_4.out, kk_4.out, bb_4.out, ff_4.out, out_4.out, World.ownsRow_nil _ _ _ _, ht4, fun _ => Nat.zero_le _, pl4, n4.out, Nat.zero_le _, (fun x hx => by cases hx)⟩
  have hs4 := Lib.hid s4
  have HI := Lib.hid (And.intro n1.out (And.intro n2.out n3.out))
  clear s4 ht4 env_4 ii_4 kk_4 bb_4 ff_4 out_4 hr1 hr2 hr3 hr4 pl1 pl2 pl3 pl4 n4 n1 n2 n3 x0
  go_upto_block 0 with fail
  go_cut [8] (fun n wc => ∃ (p : Nat) (ok : Bool) (N : Int) (ps : List Rc) (rv : Value), n = .int .i64 N ∧ I1 A c l lo w code ticks made p ok N ps rv wc ∧ (N ≤ 0 ∨ ok = false))
  case first =>
    clear hl1
    go_wp2_with fail
    go_loopw [8] (fun n wr => ∃ (p : Nat) (ok : Bool) (N : Int) (ps : List Rc) (rv : Value), n = .int .i64 N ∧ Hid (I1 A c l lo w code ticks made p ok N ps rv wr)) (fun _ wr => rdI l.length (w.heap.size + 1 + 1) (w.heap.size + 1 + 1 + 1) wr)
    case atStart => exact ⟨p4, k4, n0, [], _, rfl, hs4⟩
    case round =>
      obtain ⟨p, ok, N, ps, rv, rfl, hS⟩ := hrel
      clear hs4
      have x3 := cell1 hS.out.kk
      have x0 := cell1 hS.out.ff
      have hN64 := hS.out.n64
      by_cases hN : 0 < N
      · cases ok with
        | false =>
          go_wp2_with fail
          go_meet
          exact ⟨p, false, N, ps, rv, rfl, hS.out, .inr rfl⟩
        | true =>
          have env_r := Lib.hid hS.out.env
          have ii_r := Lib.hid hS.out.ii
          have kk_r := Lib.hid hS.out.kk
          have bb_r := Lib.hid hS.out.bb
          have ff_r := Lib.hid hS.out.ff
          have out_r := Lib.hid hS.out.out
          have rowR_r := Lib.hid hS.out.row
          have plr := hS.out.pl
          have hszo := hS.out.out.lt
          have HGR := Lib.hid (fun g hg => (World.ownsRow.lt (w := wr) hS.out.row g hg).2)
          go_upto_region 12 with fail
          go_cut [9] from 28 to 52 (fun s9 wx => ∃ X : Nat, s9 = .pointer (some ⟨X, 0, none⟩) ∧ MidR A c l lo w code ticks made p ps rv X wx)
          case first =>
            go_region_held3 (fun w' => w'.cell? ⟨(w.heap.size + 1 + 1 + 1 + 1), 0, none⟩ = some (.func (.func 43) #[] #[.pointer (some ⟨(w.heap.size + 1 + 1), 0, none⟩), .pointer (some ⟨w.heap.size, 0, none⟩), .pointer (some ⟨(w.heap.size + 1 + 1 + 1), 0, none⟩)])) (first | with_reducible assumption | with_reducible exact cell1 (ff_r.out.alloc _).drewH | with_reducible exact cell1 (ff_5.out.alloc _) | with_reducible exact cell1 (ff_6.out.alloc _) | with_reducible exact cell1 (ff_7.out.alloc _) | with_reducible exact cell1 (ff_8.out.alloc _) | (simp [go_sem, *])) (first
              | (go_at_call 43; refine (inumH_any A c l _ _ (w.heap.size + 1 + 1) w.heap.size (w.heap.size + 1 + 1 + 1) _ lo (by first | with_reducible exact (env_r.out).drew.rd | with_reducible exact (env_r.out.alloc _).drew.rd) (by first | with_reducible exact (ii_r.out).drewH | with_reducible exact (ii_r.out.alloc _).drewH) (by first | with_reducible exact (bb_r.out).drewH | with_reducible exact (bb_r.out.alloc _).drewH) (by first | with_reducible exact (kk_r.out).drewH | with_reducible exact (kk_r.out.alloc _).drewH) (fun b o e => by have := hA b o e; exact ⟨by omega, by omega⟩) plr hcap hcm (by first | with_reducible exact errV_on HE0.out ((env_r.out).drew).bel | with_reducible exact errV_on HE0.out ((env_r.out.alloc _).drew).bel)).mono ?_; rintro e w5 ⟨x1, p5, k5, rfl, hr, hi, hk, hu⟩; have zl5 : (w.heap.size + 1 + 1 + 1 + 1 + 1) < wr.heap.size := out_r.out.lt; (first | ((with_reducible have hux : But (fun x => x = (w.heap.size + 1 + 1) ∨ x = (w.heap.size + 1 + 1 + 1)) (((wr).alloc (.cells #[.int .i64 0, .int .i64 0, .int .i64 0, .int .i64 0, .string ⟨#[]⟩] 62)).drew) w5 := hu); have xb := hux.blk ((Blk.new (wr) 62 #[.int .i64 0, .int .i64 0, .int .i64 0, .int .i64 0, .string ⟨#[]⟩]).drewH) (fun e => by omega); clear hux) | (replace xb := But.blk hu xb (fun e => by omega)) | skip); have hu1 : But (fun x => x = (w.heap.size + 1 + 1) ∨ x = (w.heap.size + 1 + 1 + 1)) (wr) w5 := (by first | with_reducible exact hu.undrew | with_reducible exact (But.of_below (below_new _ _)).trans hu.undrew); have env_5 := Lib.hid (env_r.out.but hA hu1 (fun k e => ⟨by omega, by omega⟩)); have bb_5 := Lib.hid (hu1.blk bb_r.out (fun e => by omega)); have ff_5 := Lib.hid (hu1.blk ff_r.out (fun e => by omega)); have out_5 := Lib.hid (hu1.blk out_r.out (fun e => by omega)); have rowR_5 := Lib.hid (hu1.row rowR_r.out (fun g hg e => by have := (World.ownsRow.lt rowR_r.out g hg).1; omega)); have ii_5 := Lib.hid hi; have kk_5 := Lib.hid hk; have pl5 := hr.2.2.1; have hr5 := Lib.hid hr; have sf5 := cell1 ff_5.out; have zs5 : wr.heap.size ≤ w5.heap.size := hu1.size; clear hr hi hk hu hu1 env_r ii_r kk_r bb_r out_r rowR_r)
              | (go_at_call 43; refine (inumH_any A c l _ _ (w.heap.size + 1 + 1) w.heap.size (w.heap.size + 1 + 1 + 1) _ lo (by first | with_reducible exact (env_5.out).rd | with_reducible exact (env_5.out.alloc _).rd) (by first | with_reducible exact ii_5.out | with_reducible exact ii_5.out.alloc _) (by first | with_reducible exact bb_5.out | with_reducible exact bb_5.out.alloc _) (by first | with_reducible exact kk_5.out | with_reducible exact kk_5.out.alloc _) (fun b o e => by have := hA b o e; exact ⟨by omega, by omega⟩) pl5 hcap hcm (by first | with_reducible exact errV_on HE0.out ((env_5.out)).bel | with_reducible exact errV_on HE0.out ((env_5.out.alloc _)).bel)).mono ?_; rintro e w6 ⟨x2, p6, k6, rfl, hr, hi, hk, hu⟩; have zl6 : (w.heap.size + 1 + 1 + 1 + 1 + 1) < w5.heap.size := out_5.out.lt; (first | ((with_reducible have hux : But (fun x => x = (w.heap.size + 1 + 1) ∨ x = (w.heap.size + 1 + 1 + 1)) (((w5).alloc (.cells #[.int .i64 0, .int .i64 0, .int .i64 0, .int .i64 0, .string ⟨#[]⟩] 62))) w6 := hu); have xb := hux.blk (Blk.new (w5) 62 #[.int .i64 0, .int .i64 0, .int .i64 0, .int .i64 0, .string ⟨#[]⟩]) (fun e => by omega); clear hux) | (replace xb := But.blk hu xb (fun e => by omega)) | skip); have hu1 : But (fun x => x = (w.heap.size + 1 + 1) ∨ x = (w.heap.size + 1 + 1 + 1)) (w5) w6 := (by first | with_reducible exact hu | with_reducible exact (But.of_below (below_new _ _)).trans hu); have env_6 := Lib.hid (env_5.out.but hA hu1 (fun k e => ⟨by omega, by omega⟩)); have bb_6 := Lib.hid (hu1.blk bb_5.out (fun e => by omega)); have ff_6 := Lib.hid (hu1.blk ff_5.out (fun e => by omega)); have out_6 := Lib.hid (hu1.blk out_5.out (fun e => by omega)); have rowR_6 := Lib.hid (hu1.row rowR_5.out (fun g hg e => by have := (World.ownsRow.lt rowR_5.out g hg).1; omega)); have ii_6 := Lib.hid hi; have kk_6 := Lib.hid hk; have pl6 := hr.2.2.1; have hr6 := Lib.hid hr; have sf6 := cell1 ff_6.out; have zs6 : wr.heap.size ≤ w6.heap.size := Nat.le_trans zs5 hu1.size; clear hr hi hk hu hu1 env_5 ii_5 kk_5 bb_5 ff_5 out_5 rowR_5)
              | (go_at_call 43; refine (inumH_any A c l _ _ (w.heap.size + 1 + 1) w.heap.size (w.heap.size + 1 + 1 + 1) _ lo (by first | with_reducible exact (env_6.out).rd | with_reducible exact (env_6.out.alloc _).rd) (by first | with_reducible exact ii_6.out | with_reducible exact ii_6.out.alloc _) (by first | with_reducible exact bb_6.out | with_reducible exact bb_6.out.alloc _) (by first | with_reducible exact kk_6.out | with_reducible exact kk_6.out.alloc _) (fun b o e => by have := hA b o e; exact ⟨by omega, by omega⟩) pl6 hcap hcm (by first | with_reducible exact errV_on HE0.out ((env_6.out)).bel | with_reducible exact errV_on HE0.out ((env_6.out.alloc _)).bel)).mono ?_; rintro e w7 ⟨x3', p7, k7, rfl, hr, hi, hk, hu⟩; have zl7 : (w.heap.size + 1 + 1 + 1 + 1 + 1) < w6.heap.size := out_6.out.lt; (first | ((with_reducible have hux : But (fun x => x = (w.heap.size + 1 + 1) ∨ x = (w.heap.size + 1 + 1 + 1)) (((w6).alloc (.cells #[.int .i64 0, .int .i64 0, .int .i64 0, .int .i64 0, .string ⟨#[]⟩] 62))) w7 := hu); have xb := hux.blk (Blk.new (w6) 62 #[.int .i64 0, .int .i64 0, .int .i64 0, .int .i64 0, .string ⟨#[]⟩]) (fun e => by omega); clear hux) | (replace xb := But.blk hu xb (fun e => by omega)) | skip); have hu1 : But (fun x => x = (w.heap.size + 1 + 1) ∨ x = (w.heap.size + 1 + 1 + 1)) (w6) w7 := (by first | with_reducible exact hu | with_reducible exact (But.of_below (below_new _ _)).trans hu); have env_7 := Lib.hid (env_6.out.but hA hu1 (fun k e => ⟨by omega, by omega⟩)); have bb_7 := Lib.hid (hu1.blk bb_6.out (fun e => by omega)); have ff_7 := Lib.hid (hu1.blk ff_6.out (fun e => by omega)); have out_7 := Lib.hid (hu1.blk out_6.out (fun e => by omega)); have rowR_7 := Lib.hid (hu1.row rowR_6.out (fun g hg e => by have := (World.ownsRow.lt rowR_6.out g hg).1; omega)); have ii_7 := Lib.hid hi; have kk_7 := Lib.hid hk; have pl7 := hr.2.2.1; have hr7 := Lib.hid hr; have sf7 := cell1 ff_7.out; have zs7 : wr.heap.size ≤ w7.heap.size := Nat.le_trans zs6 hu1.size; clear hr hi hk hu hu1 env_6 ii_6 kk_6 bb_6 ff_6 out_6 rowR_6)
              | (go_at_call 43; refine (inumH_any A c l _ _ (w.heap.size + 1 + 1) w.heap.size (w.heap.size + 1 + 1 + 1) _ lo (by first | with_reducible exact (env_7.out).rd | with_reducible exact (env_7.out.alloc _).rd) (by first | with_reducible exact ii_7.out | with_reducible exact ii_7.out.alloc _) (by first | with_reducible exact bb_7.out | with_reducible exact bb_7.out.alloc _) (by first | with_reducible exact kk_7.out | with_reducible exact kk_7.out.alloc _) (fun b o e => by have := hA b o e; exact ⟨by omega, by omega⟩) pl7 hcap hcm (by first | with_reducible exact errV_on HE0.out ((env_7.out)).bel | with_reducible exact errV_on HE0.out ((env_7.out.alloc _)).bel)).mono ?_; rintro e w8 ⟨x4, p8, k8, rfl, hr, hi, hk, hu⟩; have zl8 : (w.heap.size + 1 + 1 + 1 + 1 + 1) < w7.heap.size := out_7.out.lt; (first | ((with_reducible have hux : But (fun x => x = (w.heap.size + 1 + 1) ∨ x = (w.heap.size + 1 + 1 + 1)) (((w7).alloc (.cells #[.int .i64 0, .int .i64 0, .int .i64 0, .int .i64 0, .string ⟨#[]⟩] 62))) w8 := hu); have xb := hux.blk (Blk.new (w7) 62 #[.int .i64 0, .int .i64 0, .int .i64 0, .int .i64 0, .string ⟨#[]⟩]) (fun e => by omega); clear hux) | (replace xb := But.blk hu xb (fun e => by omega)) | skip); have hu1 : But (fun x => x = (w.heap.size + 1 + 1) ∨ x = (w.heap.size + 1 + 1 + 1)) (w7) w8 := (by first | with_reducible exact hu | with_reducible exact (But.of_below (below_new _ _)).trans hu); have env_8 := Lib.hid (env_7.out.but hA hu1 (fun k e => ⟨by omega, by omega⟩)); have bb_8 := Lib.hid (hu1.blk bb_7.out (fun e => by omega)); have ff_8 := Lib.hid (hu1.blk ff_7.out (fun e => by omega)); have out_8 := Lib.hid (hu1.blk out_7.out (fun e => by omega)); have rowR_8 := Lib.hid (hu1.row rowR_7.out (fun g hg e => by have := (World.ownsRow.lt rowR_7.out g hg).1; omega)); have ii_8 := Lib.hid hi; have kk_8 := Lib.hid hk; have pl8 := hr.2.2.1; have hr8 := Lib.hid hr; have sf8 := cell1 ff_8.out; have zs8 : wr.heap.size ≤ w8.heap.size := Nat.le_trans zs7 hu1.size; clear hr hi hk hu hu1 env_7 ii_7 kk_7 bb_7 ff_7 out_7 rowR_7; (try (obtain ⟨t0, t1, t2, t3, t4⟩ := box5 xb; have xf := (fun j => xb.frozen j)))))
            all_goals go_wp2_with fail
            all_goals go_meet
            all_goals refine ⟨_, rfl, x1, x2, x3', x4, p5, p6, p7, p8, k5, k6, k7, k8, hr5.out, hr6.out, hr7.out, hr8.out, ?_⟩
            all_goals first
              | exact ⟨env_8.out.alloc _, ii_8.out.alloc _, kk_8.out.alloc _, bb_8.out.alloc _, ff_8.out.alloc _, out_8.out.alloc _, World.ownsRow.alloc rowR_8.out _, Blk.new _ _ _, out_8.out.lt, fun g hg => (World.ownsRow.lt rowR_8.out g hg).2⟩
              | exact mid_set hA env_8.out ii_8.out kk_8.out bb_8.out ff_8.out out_8.out rowR_8.out xb (by omega) (fun g hg => by have := HGR.out g hg; omega)
          case rest =>
            obtain ⟨X, rfl, x1, x2, x3', x4, p1, p2, p3, p4, k1, k2, k3, k4, q1, q2, q3, q4, e_, i_, k_, b_, f_, o_, r_, x_, hX, hgX⟩ := hcut
            clear env_r ii_r kk_r bb_r ff_r out_r rowR_r x0 x3
            have env_s := Lib.hid e_
            have ii_s := Lib.hid i_
            have kk_s := Lib.hid k_
            have bb_s := Lib.hid b_
            have ff_s := Lib.hid f_
            have out_s := Lib.hid o_
            have rowR_s := Lib.hid r_
            have x_s := Lib.hid x_
            have hq1 := Lib.hid q1
            have hq2 := Lib.hid q2
            have hq3 := Lib.hid q3
            have hq4 := Lib.hid q4
            have pls := q4.2.2.1
            have HGX := Lib.hid hgX
            have hszX := x_.lt
            clear e_ i_ k_ b_ f_ o_ r_ q1 q2 q3 q4
            clear x_ hgX
            go_wp2_with fail
            refine (itxtH_any A c l _ _ (w.heap.size + 1 + 1 + 1 + 1) (w.heap.size + 1 + 1) w.heap.size (w.heap.size + 1 + 1 + 1) _ lo env_s.out.rd ff_s.out ii_s.out bb_s.out kk_s.out (fun b o e => by have := hA b o e; exact ⟨by omega, by omega⟩) hl pls hcap hcm (errV_on HE0.out env_s.out.bel)).mono ?_
            rintro e w9 ⟨x5, p9, k9, rfl, hr, hi, hk, hu⟩
            have env_9 := Lib.hid (env_s.out.but hA hu (fun k e => ⟨by omega, by omega⟩))
            have bb_9 := Lib.hid (hu.blk bb_s.out (fun e => by omega))
            have ff_9 := Lib.hid (hu.blk ff_s.out (fun e => by omega))
            have out_9 := Lib.hid (hu.blk out_s.out (fun e => by omega))
            have rowR_9 := Lib.hid (hu.row rowR_s.out (fun g hg e => by have := (World.ownsRow.lt rowR_s.out g hg).1; omega))
            have x_9 := Lib.hid (hu.blk x_s.out (fun e => by omega))
            have ii_9 := Lib.hid hi
            have kk_9 := Lib.hid hk
            have pl9 := hr.2.2.1
            have hr9 := Lib.hid hr
            clear hr hi hk hu env_s ii_s kk_s bb_s ff_s out_s rowR_s x_s
            obtain ⟨y0, y1, y2, y3, y4⟩ := box5 x_9.out
            have fo := x_9.out.frozen 4
            go_upto_region 14 with fail
            have hset : But (fun x => x = X) w9 (w9.setCell ⟨X, 4, none⟩ (.string x5)) := (But.refl (fun x => x = X) _).set rfl _ _
            have env_9s := Lib.hid (env_9.out.but hA hset (fun k e => ⟨by omega, by omega⟩))
            have ii_9s := Lib.hid (hset.blk ii_9.out (fun e => by omega))
            have kk_9s := Lib.hid (hset.blk kk_9.out (fun e => by omega))
            have bb_9s := Lib.hid (hset.blk bb_9.out (fun e => by omega))
            have ff_9s := Lib.hid (hset.blk ff_9.out (fun e => by omega))
            have out_9s := Lib.hid (hset.blk out_9.out (fun e => by omega))
            have rowR_9s := Lib.hid (hset.row rowR_9.out (fun g hg e => by have := (World.ownsRow.lt rowR_9.out g hg).1; have := HGX.out g hg; omega))
            have x_9s : Hid (Blk (w9.setCell ⟨X, 4, none⟩ (.string x5)) X 62 #[.int .i64 x1, .int .i64 x2, .int .i64 x3', .int .i64 x4, .string x5]) := Lib.hid (x_9.out.set_ 4 (.string x5))
            clear hset fo y0 y1 y2 y3 y4 env_9 ii_9 kk_9 bb_9 ff_9 out_9 rowR_9 x_9
            generalize w9.setCell ⟨X, 4, none⟩ (.string x5) = wB at *
            obtain ⟨y0, y1, y2, y3, y4⟩ := box5 x_9s.out
            obtain ⟨z0, z1, z2, z3, z4, z5, z6⟩ := box7 out_9s.out
            have hpn := hS.out.pn
            have hBs : (w.heap.size + 1 + 1 + 1 + 1 + 1 + 1) ≤ wB.heap.size := by have := x_9s.out.lt; omega
            have hrow := rowR_9s.out
            have hnews : ∀ j u, [Value.int .i64 x1, .int .i64 x2, .int .i64 x3', .int .i64 x4, .string x5][j]? = some u → (wB.alloc (.cells #[.int .i64 x1, .int .i64 x2, .int .i64 x3', .int .i64 x4, .string x5] 62)).cell? ((⟨wB.heap.size, 0, none⟩ : Addr).add j) = some u := fun j u hj => by rw [addr_addH, (Blk.new wB 62 #[.int .i64 x1, .int .i64 x2, .int .i64 x3', .int .i64 x4, .string x5]).cell j]; simpa using hj
            have HNW := Lib.hid hnews
            clear hnews
            go_wp2_with (at_builtin; refine wpList_append_own _ rfl _ _ 37 rfl (w.heap.size + 1 + 1 + 1 + 1 + 1 + 1) 62 i0 _ 5 48 Tryd.underlying37 hi hz0 hz1 hz2 rfl (by decide) _ _ _ rfl (World.ownsRow.alloc hrow _) ⟨wB.heap.size, 0, none⟩ 1 1 [.int .i64 x1, .int .i64 x2, .int .i64 x3', .int .i64 x4, .string x5] rfl rfl HNW.out (by intro u' hu'; simp at hu'; rcases hu' with rfl | rfl | rfl | rfl | rfl <;> rfl) (by unfold maxLen; omega) (by omega) (by simp; omega) ?_; intro v2 w2 hown2 hgrow _; refine Hid.out ?_)
            refine Lib.hid ?_
            have hk2 : But (fun k => rv.ownBlock = some k) wB w2 := (But.of_below (below_new wB _)).trans (But.of_grown hgrow)
            have env_2 := Lib.hid (env_9s.out.but hA hk2 (fun k e => by have := (World.ownsRow.lt hrow k e).1; omega))
            have ii_2 := Lib.hid (hk2.blk ii_9s.out (row_blk_ne hrow ii_9s.out (by decide)))
            have kk_2 := Lib.hid (hk2.blk kk_9s.out (row_blk_ne hrow kk_9s.out (by decide)))
            have bb_2 := Lib.hid (hk2.blk bb_9s.out (row_blk_ne hrow bb_9s.out (by decide)))
            have ff_2 := Lib.hid (hk2.blk ff_9s.out (row_blk_ne hrow ff_9s.out (by decide)))
            have out_2 := Lib.hid (hk2.blk out_9s.out (row_blk_ne hrow out_9s.out (by decide)))
            have hrow2 : OwR w2 (w.heap.size + 1 + 1 + 1 + 1 + 1 + 1) v2 (ps ++ [(⟨x1, x2, x3', x4, x5⟩ : Rc)]) := owR_push (x := (⟨x1, x2, x3', x4, x5⟩ : Rc)) hown2
            obtain ⟨g2, cap2, hv2⟩ : ∃ g2 cap2, v2 = .slice (some ⟨g2, 0, none⟩) (ps.length + 1) cap2 := by
              rcases hown2.2 with ⟨-, h0⟩ | ⟨g, cap, cur, e, -⟩
              · omega
              · exact ⟨g, cap, e⟩
            subst hv2
            have hrow2 := Lib.hid hrow2
            have hlt2 := (World.ownsRow.lt hrow2.out g2 rfl).1
            clear hk2 hown2 hgrow hrow env_9s out_9s ii_9s kk_9s bb_9s ff_9s rowR_9s x_9s y0 y1 y2 y3 y4 z0 z1 z2 z3 z4 z5 z6 HNW
            obtain ⟨z0, z1, z2, z3, z4, z5, z6⟩ := box7 out_2.out
            have fo := out_2.out.frozen 1
            have hwt := rec_wt (s := x5) hq1.out hq2.out hq3.out hq4.out hr9.out
            have htrk := Lib.hid (trk_rec (x := (⟨x1, x2, x3', x4, x5⟩ : Rc)) hS.out.trk hN hq1.out hq2.out hq3.out hq4.out hr9.out)
            have hok := Lib.hid (okS_push (x := (⟨x1, x2, x3', x4, x5⟩ : Rc)) hS.out.ok_ hq1.out.1 hq2.out.1 hq3.out.1 hq4.out.1)
            have hwp := hS.out.wt rfl
            have htw := totW_app ps (⟨x1, x2, x3', x4, x5⟩ : Rc)
            have HW := Lib.hid hwt
            have HT := Lib.hid htw
            clear hwt htw
            have hNl : N ≤ 9223372036854775807 := hN64.2
            go_wp2
            have hset : But (fun x => x = (w.heap.size + 1 + 1 + 1 + 1 + 1)) w2 (w2.setCell ⟨(w.heap.size + 1 + 1 + 1 + 1 + 1), 1, none⟩ (.slice (some ⟨g2, 0, none⟩) (ps.length + 1) cap2)) := (But.refl (fun x => x = (w.heap.size + 1 + 1 + 1 + 1 + 1)) _).set rfl _ _
            have hii := hset.blk ii_2.out (fun e => by omega)
            have hkk := hset.blk kk_2.out (fun e => by omega)
            obtain ⟨u1, u2, u3, u4⟩ := HW.out
            have hT := HT.out
            refine ⟨⟨p9, k9, N - 1, ps ++ [(⟨x1, x2, x3', x4, x5⟩ : Rc)], _, rfl, Lib.hid ⟨env_2.out.but hA hset (fun k e => ⟨by omega, by omega⟩), hii, hkk, hset.blk bb_2.out (fun e => by omega), hset.blk ff_2.out (fun e => by omega), out_2.out.set_ 1 _, hset.row hrow2.out (fun g hg e => by have := (World.ownsRow.lt hrow2.out g hg).1; omega), by rw [List.length_append]; exact htrk.out, fun hb9 => ?_, u2, ⟨by have := hN64.1; omega, by have := hN64.2; omega⟩, ?_, hok.out⟩⟩, ?_⟩
            · obtain ⟨v1, -⟩ := u4 (by rw [hb9]; rfl)
              rw [List.length_append, List.length_singleton, hT]
              simp only at v1 ⊢
              omega
            · rw [List.length_append, List.length_singleton]
              omega
            · rw [rdI_eq hii hkk, rdI_eq hS.out.ii hS.out.kk]
              cases k9 with
              | false => simp; omega
              | true => obtain ⟨v1, -⟩ := u4 rfl; simp; omega
      · cases ok <;> (go_wp2_with fail; go_meet; exact ⟨p, _, N, ps, rv, rfl, hS.out, .inl (by omega)⟩)
  case rest =>
    obtain ⟨p, ok, N, ps, rv, rfl, hS, hex⟩ := hcut
    have HS := Lib.hid hS
    have HX := Lib.hid (hex.imp id (fun (h : ok = false) => (show (!ok) = true by rw [h]; rfl)))
    clear hs4 hex
    have env_m := Lib.hid hS.env
    have ii_m := Lib.hid hS.ii
    have kk_m := Lib.hid hS.kk
    have bb_m := Lib.hid hS.bb
    have ff_m := Lib.hid hS.ff
    have out_m := Lib.hid hS.out
    have rowR_m := Lib.hid hS.row
    have plm := hS.pl
    have x0 := cell1 hS.ff
    clear hS hl1
    go_wp2_with fail
    refine (inumH_any A c l _ _ (w.heap.size + 1 + 1) w.heap.size (w.heap.size + 1 + 1 + 1) _ lo env_m.out.rd ii_m.out bb_m.out kk_m.out (fun b o e => by have := hA b o e; exact ⟨by omega, by omega⟩) plm hcap hcm (errV_on HE0.out env_m.out.bel)).mono ?_
    rintro e w11 ⟨n1, p11, k11, rfl, hr, hi, hk, hu⟩
    have env_11 := Lib.hid (env_m.out.but hA hu (fun k e => ⟨by omega, by omega⟩))
    have bb_11 := Lib.hid (hu.blk bb_m.out (fun e => by omega))
    have ff_11 := Lib.hid (hu.blk ff_m.out (fun e => by omega))
    have out_11 := Lib.hid (hu.blk out_m.out (fun e => by omega))
    have rowR_11 := Lib.hid (hu.row rowR_m.out (fun g hg e => by have := (World.ownsRow.lt rowR_m.out g hg).1; omega))
    have ii_11 := Lib.hid hi
    have kk_11 := Lib.hid hk
    have pl11 := hr.2.2.1
    have hr11 := Lib.hid hr
    have n11 := Lib.hid hr.1
    clear hr hi hk hu env_m ii_m kk_m bb_m ff_m out_m rowR_m
    clear x0
    have t11 := trk_mid HS.out.trk HX.out hr11.out
    have s11 : I2 A c l lo w code ticks made p11 k11 n1 ps rv [] (.slice none 0 0) w11 := ⟨env_11.out, ii_11.out, kk_11.out, bb_11.out, ff_11.out, out_11.out, rowR_11.out, World.ownsRow_nil _ _ _ _, t11, (fun h => by have h1 := hr11.out.2.2.2.1; have h2 := hr11.out.2.1; have h3 : ok = true := (by cases hb : ok with | true => rfl | false => have := h1 (by rw [hb]; rfl); rw [h] at this; cases this); have h4 := HS.out.wt h3; simp [totS]; omega), pl11, n11.out, HS.out.pn, Nat.zero_le _, HS.out.ok_⟩
    have hs11 := Lib.hid s11
    clear s11 t11 env_11 ii_11 kk_11 bb_11 ff_11 out_11 rowR_11 hr11 n11 pl11 plm
    go_upto_block 2 with fail
    go_cut [10] (fun n wc => ∃ (p : Nat) (ok : Bool) (N : Int) (vs : List ByteArray) (sv : Value), n = .int .i64 N ∧ I2 A c l lo w code ticks made p ok N ps rv vs sv wc ∧ (N ≤ 0 ∨ ok = false))
    case first =>
      go_wp2_with fail
      go_loopw [10] (fun n wr => ∃ (p : Nat) (ok : Bool) (N : Int) (vs : List ByteArray) (sv : Value), n = .int .i64 N ∧ Hid (I2 A c l lo w code ticks made p ok N ps rv vs sv wr)) (fun _ wr => rdI l.length (w.heap.size + 1 + 1) (w.heap.size + 1 + 1 + 1) wr)
      case atStart => exact ⟨p11, k11, n1, [], _, rfl, hs11⟩
      case round =>
        clear hs11 HS HX
        obtain ⟨p, ok, N, vs, sv, rfl, hS⟩ := hrel
        have x3 := cell1 hS.out.kk
        have hN64 := hS.out.n64
        by_cases hN : 0 < N
        · cases ok with
          | false =>
            go_wp2_with fail
            go_meet
            exact ⟨p, false, N, vs, sv, rfl, hS.out, .inr rfl⟩
          | true =>
            have env_r := Lib.hid hS.out.env
            have ii_r := Lib.hid hS.out.ii
            have kk_r := Lib.hid hS.out.kk
            have bb_r := Lib.hid hS.out.bb
            have ff_r := Lib.hid hS.out.ff
            have out_r := Lib.hid hS.out.out
            have rowR_r := Lib.hid hS.out.rowR
            have rowS_r := Lib.hid hS.out.rowS
            have plr := hS.out.pl
            have hszo := hS.out.out.lt
            have hpn := hS.out.pv
            go_upto_region 18 with fail
            have env_d := Lib.hid env_r.out.drew
            have ii_d := Lib.hid ii_r.out.drewH
            have kk_d := Lib.hid kk_r.out.drewH
            have bb_d := Lib.hid bb_r.out.drewH
            have ff_d := Lib.hid ff_r.out.drewH
            have out_d := Lib.hid out_r.out.drewH
            have rowR_d := Lib.hid (World.ownsRow.drew rowR_r.out)
            have rowS_d := Lib.hid (World.ownsRow.drew rowS_r.out)
            clear env_r ii_r kk_r bb_r ff_r out_r rowR_r rowS_r
            obtain ⟨z0, z1, z2, z3, z4, z5, z6⟩ := box7 out_d.out
            go_region_law (first
              | (refine step_append_lies _ (by rfl) _ _ _ (by rfl) (w.heap.size + 1 + 1 + 1 + 1 + 1 + 1) 9 i9 _ 1 16 Tryd.underlying31 hi9 hz90 hz91 hz92 rfl (by decide) _ _ _ (by rfl) (World.ownsRow.alloc hrow _) ⟨w12.heap.size, 0, none⟩ 1 1 [.string s1] (by rfl) rfl (fun j u hj => by rw [addr_addH, (Blk.new w12 9 #[.string s1]).cell j]; simpa using hj) (by intro u' hu'; simp at hu'; subst hu'; rfl) (by decide) (by unfold maxLen; omega) (by omega) (by simp; omega) _ rfl ?_; intro g2 cap2 w2 hown2 hgrow hat2 hlt2; have hk2 : But (fun k => sv.ownBlock = some k) w12 w2 := (But.of_below (below_new w12 _)).trans (But.of_grown hgrow); have env_2 := Lib.hid (env_12.out.but hA hk2 (fun k e => by have := (World.ownsRow.lt hrow k e).1; omega)); have ii_2 := Lib.hid (hk2.blk ii_12.out (row_blk_ne hrow ii_12.out (by decide))); have kk_2 := Lib.hid (hk2.blk kk_12.out (row_blk_ne hrow kk_12.out (by decide))); have bb_2 := Lib.hid (hk2.blk bb_12.out (row_blk_ne hrow bb_12.out (by decide))); have ff_2 := Lib.hid (hk2.blk ff_12.out (row_blk_ne hrow ff_12.out (by decide))); have out_2 := Lib.hid (hk2.blk out_12.out (row_blk_ne hrow out_12.out (by decide))); have rowR_2 := Lib.hid (hk2.row rowR_12.out (row_row_ne rowR_12.out hrow (by decide))); obtain ⟨m0, m1, m2, m3, m4, m5, m6⟩ := box7 out_2.out; have fo2 := out_2.out.frozen 2)
              | (go_simp; go_at_call 45; refine (itxtH_any A c l _ _ (w.heap.size + 1 + 1 + 1 + 1) (w.heap.size + 1 + 1) w.heap.size (w.heap.size + 1 + 1 + 1) _ lo env_d.out.rd ff_d.out ii_d.out bb_d.out kk_d.out (fun b o e => by have := hA b o e; exact ⟨by omega, by omega⟩) hl plr hcap hcm (errV_on HE0.out env_d.out.bel)).mono ?_; rintro e w12 ⟨s1, p12, k12, rfl, hr, hi, hk, hu⟩; have env_12 := Lib.hid (env_d.out.but hA hu (fun k e => ⟨by omega, by omega⟩)); have bb_12 := Lib.hid (hu.blk bb_d.out (fun e => by omega)); have ff_12 := Lib.hid (hu.blk ff_d.out (fun e => by omega)); have out_12 := Lib.hid (hu.blk out_d.out (fun e => by omega)); have rowR_12 := Lib.hid (hu.row rowR_d.out (fun g hg e => by have := (World.ownsRow.lt rowR_d.out g hg).1; omega)); have rowS_12 := Lib.hid (hu.row rowS_d.out (fun g hg e => by have := (World.ownsRow.lt rowS_d.out g hg).1; omega)); have ii_12 := Lib.hid hi; have kk_12 := Lib.hid hk; have pl12 := hr.2.2.1; have hr12 := Lib.hid hr; clear hr hi hk hu env_d ii_d kk_d bb_d ff_d out_d rowR_d rowS_d; obtain ⟨v0, v1, v2, v3, v4, v5, v6⟩ := box7 out_12.out; obtain ⟨va0, va1, va2, va3, va4, va5, va6⟩ := box7 (out_12.out.alloc (.cells #[.string s1] 9)); have fo := out_12.out.frozen 2; have hBs : (w.heap.size + 1 + 1 + 1 + 1 + 1 + 1) ≤ w12.heap.size := (by have := out_12.out.lt; omega); have hrow := rowS_12.out))
            all_goals
              have hrow2 : OwS w2 (w.heap.size + 1 + 1 + 1 + 1 + 1 + 1) (.slice (some ⟨g2, 0, none⟩) (vs.length + 1) cap2) (vs ++ [s1]) := owS_push (x := s1) hown2
              have hrow2 := Lib.hid hrow2
              have hlB := (World.ownsRow.lt hrow2.out g2 rfl).1
              have htrk := Lib.hid (trk_val hS.out.trk hN hr12.out)
              have hwp := hS.out.wt rfl
              have HW := Lib.hid hr12.out
              have HT := Lib.hid (totS_app vs s1)
              clear hown2 hgrow hk2 hrow hat2 z0 z1 z2 z3 z4 z5 z6 v0 v1 v2 v3 v4 v5 v6 va0 va1 va2 va3 va4 va5 va6 m0 m1 m2 m3 m4 m5 m6 fo fo2 x3
              have hNl : N ≤ 9223372036854775807 := hN64.2
              go_wp2
              have hset : But (fun x => x = (w.heap.size + 1 + 1 + 1 + 1 + 1)) w2 (w2.setCell ⟨(w.heap.size + 1 + 1 + 1 + 1 + 1), 2, none⟩ (.slice (some ⟨g2, 0, none⟩) (vs.length + 1) cap2)) := (But.refl (fun x => x = (w.heap.size + 1 + 1 + 1 + 1 + 1)) _).set rfl _ _
              have hii := hset.blk ii_2.out (fun e => by omega)
              have hkk := hset.blk kk_2.out (fun e => by omega)
              obtain ⟨q0, q1, q2, q3, q4, -⟩ := HW.out
              have hT := HT.out
              refine ⟨⟨p12, k12, N - 1, vs ++ [s1], _, rfl, Lib.hid ⟨env_2.out.but hA hset (fun k e => ⟨by omega, by omega⟩), hii, hkk, hset.blk bb_2.out (fun e => by omega), hset.blk ff_2.out (fun e => by omega), out_2.out.set_ 2 _, hset.row rowR_2.out (fun g hg e => by have := (World.ownsRow.lt rowR_2.out g hg).1; omega), hset.row hrow2.out (fun g hg e => by have := (World.ownsRow.lt hrow2.out g hg).1; omega), by rw [List.length_append]; exact htrk.out, fun hb9 => ?_, q2, ⟨by have := hN64.1; omega, by have := hN64.2; omega⟩, hS.out.pn, ?_, hS.out.ok_⟩⟩, ?_⟩
              · have v1 := q4 (by rw [hb9]; rfl)
                rw [List.length_append, List.length_singleton, hT]
                omega
              · rw [List.length_append, List.length_singleton]
                omega
              · rw [rdI_eq hii hkk, rdI_eq hS.out.ii hS.out.kk]
                cases k12 with
                | false => simp; omega
                | true => have v1 := q4 rfl; simp; omega
        · cases ok <;> (go_wp2_with fail; go_meet; exact ⟨p, _, N, vs, sv, rfl, hS.out, .inl (by omega)⟩)
    case rest =>
      obtain ⟨p, ok, N2, vs, sv, rfl, hS, hex⟩ := hcut
      have HS2 := Lib.hid hS
      have HE2 := Lib.hid (hex.imp id (fun (h : ok = false) => (show (!ok) = true by rw [h]; rfl)))
      clear hs11 hex HS HX
      obtain ⟨A2, c2, rfl, hrR, hwR⟩ := ow_rd (enc := encR) (fun _ => rfl) hS.rowR
      obtain ⟨B2, d2, rfl, hrS, hwS⟩ := ow_rd (enc := encS) (fun _ => rfl) hS.rowS
      clear hrR hwR hrS hwS
      have env_m := Lib.hid hS.env
      have ii_m := Lib.hid hS.ii
      have kk_m := Lib.hid hS.kk
      have bb_m := Lib.hid hS.bb
      have ff_m := Lib.hid hS.ff
      have out_m := Lib.hid hS.out
      have rowR_m := Lib.hid hS.rowR
      have rowS_m := Lib.hid hS.rowS
      have plm := hS.pl
      clear hS
      go_wp2_with fail
      refine (itxtH_any A c l _ _ (w.heap.size + 1 + 1 + 1 + 1) (w.heap.size + 1 + 1) w.heap.size (w.heap.size + 1 + 1 + 1) _ lo env_m.out.rd ff_m.out ii_m.out bb_m.out kk_m.out (fun b o e => by have := hA b o e; exact ⟨by omega, by omega⟩) hl plm hcap hcm (errV_on HE0.out env_m.out.bel)).mono ?_
      rintro e w13 ⟨er, p13, k13, rfl, hr, hi, hk, hu⟩
      have env_13 := Lib.hid (env_m.out.but hA hu (fun k e => ⟨by omega, by omega⟩))
      have bb_13 := Lib.hid (hu.blk bb_m.out (fun e => by omega))
      have ff_13 := Lib.hid (hu.blk ff_m.out (fun e => by omega))
      have out_13 := Lib.hid (hu.blk out_m.out (fun e => by omega))
      have rowR_13 := Lib.hid (hu.row rowR_m.out (fun g hg e => by have := (World.ownsRow.lt rowR_m.out g hg).1; omega))
      have rowS_13 := Lib.hid (hu.row rowS_m.out (fun g hg e => by have := (World.ownsRow.lt rowS_m.out g hg).1; omega))
      have ii_13 := Lib.hid hi
      have kk_13 := Lib.hid hk
      have pl13 := hr.2.2.1
      have hr13 := Lib.hid hr
      clear hr hi hk hu env_m ii_m kk_m bb_m ff_m out_m rowR_m rowS_m
      go_wp2_with fail
      refine (itxtH_any A c l _ _ (w.heap.size + 1 + 1 + 1 + 1) (w.heap.size + 1 + 1) w.heap.size (w.heap.size + 1 + 1 + 1) _ lo env_13.out.rd ff_13.out ii_13.out bb_13.out kk_13.out (fun b o e => by have := hA b o e; exact ⟨by omega, by omega⟩) hl pl13 hcap hcm (errV_on HE0.out env_13.out.bel)).mono ?_
      rintro e w14 ⟨tr, p14, k14, rfl, hr, hi, hk, hu⟩
      have env_14 := Lib.hid (env_13.out.but hA hu (fun k e => ⟨by omega, by omega⟩))
      have bb_14 := Lib.hid (hu.blk bb_13.out (fun e => by omega))
      have ff_14 := Lib.hid (hu.blk ff_13.out (fun e => by omega))
      have out_14 := Lib.hid (hu.blk out_13.out (fun e => by omega))
      have rowR_14 := Lib.hid (hu.row rowR_13.out (fun g hg e => by have := (World.ownsRow.lt rowR_13.out g hg).1; omega))
      have rowS_14 := Lib.hid (hu.row rowS_13.out (fun g hg e => by have := (World.ownsRow.lt rowS_13.out g hg).1; omega))
      have ii_14 := Lib.hid hi
      have kk_14 := Lib.hid hk
      have pl14 := hr.2.2.1
      have hr14 := Lib.hid hr
      clear hr hi hk hu env_13 ii_13 kk_13 bb_13 ff_13 out_13 rowR_13 rowS_13
      obtain ⟨y0, y1, y2, y3, y4, y5, y6⟩ := box7 out_14.out
      have fo := out_14.out.frozen 3
      have fo4 := out_14.out.frozen 4
      go_upto_region 20 with fail
      have hset : But (fun x => x = (w.heap.size + 1 + 1 + 1 + 1 + 1)) w14 (w14.setCell ⟨(w.heap.size + 1 + 1 + 1 + 1 + 1), 3, none⟩ (.string er)) := (But.refl (fun x => x = (w.heap.size + 1 + 1 + 1 + 1 + 1)) _).set rfl _ _
      have env_14a := Lib.hid (env_14.out.but hA hset (fun k e => ⟨by omega, by omega⟩))
      have ii_14a := Lib.hid (hset.blk ii_14.out (fun e => by omega))
      have kk_14a := Lib.hid (hset.blk kk_14.out (fun e => by omega))
      have bb_14a := Lib.hid (hset.blk bb_14.out (fun e => by omega))
      have ff_14a := Lib.hid (hset.blk ff_14.out (fun e => by omega))
      have rowR_14a := Lib.hid (hset.row rowR_14.out (fun g hg e => by have := (World.ownsRow.lt rowR_14.out g hg).1; omega))
      have rowS_14a := Lib.hid (hset.row rowS_14.out (fun g hg e => by have := (World.ownsRow.lt rowS_14.out g hg).1; omega))
      have out_14a : Hid (Blk (w14.setCell ⟨(w.heap.size + 1 + 1 + 1 + 1 + 1), 3, none⟩ (.string er)) (w.heap.size + 1 + 1 + 1 + 1 + 1) 39 #[.int .i64 code, .slice A2 ps.length c2, .slice B2 vs.length d2, .string er, .string ⟨#[]⟩, .int .i64 ticks, .int .i64 made]) := Lib.hid (out_14.out.set_ 3 (.string er))
      clear hset env_14 ii_14 kk_14 bb_14 ff_14 out_14 rowR_14 rowS_14
      have hset : But (fun x => x = (w.heap.size + 1 + 1 + 1 + 1 + 1)) (w14.setCell ⟨(w.heap.size + 1 + 1 + 1 + 1 + 1), 3, none⟩ (.string er)) ((w14.setCell ⟨(w.heap.size + 1 + 1 + 1 + 1 + 1), 3, none⟩ (.string er)).setCell ⟨(w.heap.size + 1 + 1 + 1 + 1 + 1), 4, none⟩ (.string tr)) := (But.refl (fun x => x = (w.heap.size + 1 + 1 + 1 + 1 + 1)) _).set rfl _ _
      have env_z := Lib.hid (env_14a.out.but hA hset (fun k e => ⟨by omega, by omega⟩))
      have ii_z := Lib.hid (hset.blk ii_14a.out (fun e => by omega))
      have kk_z := Lib.hid (hset.blk kk_14a.out (fun e => by omega))
      have bb_z := Lib.hid (hset.blk bb_14a.out (fun e => by omega))
      have ff_z := Lib.hid (hset.blk ff_14a.out (fun e => by omega))
      have rowR_z := Lib.hid (hset.row rowR_14a.out (fun g hg e => by have := (World.ownsRow.lt rowR_14a.out g hg).1; omega))
      have rowS_z := Lib.hid (hset.row rowS_14a.out (fun g hg e => by have := (World.ownsRow.lt rowS_14a.out g hg).1; omega))
      have out_z : Hid (Blk ((w14.setCell ⟨(w.heap.size + 1 + 1 + 1 + 1 + 1), 3, none⟩ (.string er)).setCell ⟨(w.heap.size + 1 + 1 + 1 + 1 + 1), 4, none⟩ (.string tr)) (w.heap.size + 1 + 1 + 1 + 1 + 1) 39 #[.int .i64 code, .slice A2 ps.length c2, .slice B2 vs.length d2, .string er, .string tr, .int .i64 ticks, .int .i64 made]) := Lib.hid (out_14a.out.set_ 4 (.string tr))
      clear hset fo fo4 y0 y1 y2 y3 y4 y5 y6 env_14a ii_14a kk_14a bb_14a ff_14a out_14a rowR_14a rowS_14a
      generalize (w14.setCell ⟨(w.heap.size + 1 + 1 + 1 + 1 + 1), 3, none⟩ (.string er)).setCell ⟨(w.heap.size + 1 + 1 + 1 + 1 + 1), 4, none⟩ (.string tr) = wz at *
      have HD := Lib.hid (trk_end HS2.out.trk HE2.out hr13.out hr14.out)
      obtain ⟨z0, z1, z2, z3, z4, z5, z6⟩ := box7 out_z.out
      have x3 := cell1 kk_z.out
      have x2 := cell1 bb_z.out
      have hzb := bb_z.out.lt
      have hzk := kk_z.out.lt
      have hzo := out_z.out.lt
      cases k14 with
      | false =>
        obtain ⟨r0, r1, r2, r3, r4, r5, r6⟩ := box7 env_z.out.res
        have fr : ∀ k, wz.frozen? ⟨(w.heap.size + 1), k, none⟩ = false := fun k => env_z.out.res.frozen k
        go_quiet (fail)
        go_wp2
        refine bodyPost_ret (by simp [results, Tryd.results21, go_sem, *]; rfl) rfl ?_
        exact rpH_zero (.inr ⟨hl, .inl rfl, fun x hx ht => by have h1 := (HD.out x hx ht).1; cases h1⟩) ((((((((bl_drewN _ env_z.out.bel).setCell (Nat.le_succ _) _).setCell (Nat.le_succ _) _).setCell (Nat.le_succ _) _).setCell (Nat.le_succ _) _).setCell (Nat.le_succ _) _).setCell (Nat.le_succ _) _).setCell (Nat.le_succ _) _)
      | true =>
        have hb13 : k13 = true := by
          cases hb : k13 with
          | true => rfl
          | false => have h1 := hr14.out.2.2.2.1 (by rw [hb]; rfl); cases h1
        have hbad : ok = true := by
          cases hb : ok with
          | true => rfl
          | false => have h1 := hr13.out.2.2.2.1 (by rw [hb]; rfl); rw [hb13] at h1; cases h1
        have q1 := hr14.out.2.2.2.2.1 rfl
        have q2 := hr13.out.2.2.2.2.1 (by rw [hb13]; rfl)
        have q3 := HS2.out.wt hbad
        have hwt : wRp ⟨code, ps, vs, er, tr, ticks, made⟩ ≤ 1048576 := by unfold wRp; simp only; omega
        have hok := Lib.hid (okRp_of ⟨code, ps, vs, er, tr, ticks, made⟩ HI.out.1 HI.out.2.1 HI.out.2.2 HS2.out.ok_ hwt)
        have hlen := Lib.hid (tellB_len ⟨code, ps, vs, er, tr, ticks, made⟩ hok.out hwt)
        obtain ⟨_, _, e1, hrR, hwR⟩ := ow_rd (enc := encR) (fun _ => rfl) rowR_z.out
        cases e1
        obtain ⟨_, _, e1, hrS, hwS⟩ := ow_rd (enc := encS) (fun _ => rfl) rowS_z.out
        cases e1
        have HRR := Lib.hid hrR
        have HRS := Lib.hid hrS
        have HWR := Lib.hid hwR
        have HWS := Lib.hid hwS
        have hpn := HS2.out.pn
        have hpv := HS2.out.pv
        subst hbad hb13
        clear hrR hrS hwR hwS hwt
        obtain ⟨T, hTT⟩ : ∃ T, T = tellR ⟨code, ps, vs, er, tr, ticks, made⟩ := ⟨_, rfl⟩
        have hTB : T = l ↔ tellB ⟨code, ps, vs, er, tr, ticks, made⟩ = l := by
          rw [hTT]
          unfold tellR
          constructor
          · intro h
            split at h
            · have hp := hr14.out.2.2.1
              rw [← h] at hp
              simp only [List.length_nil] at hp
              omega
            · exact h
          · intro h
            rw [h, if_neg (by omega)]
        have HTT := Lib.hid hTT
        have HTB := Lib.hid hTB
        have hcb0 := conv_all (env_z.out.rd.drew) (c := c)
        have hTab := Lib.hid (tab_on HT0.out env_z.out.bel.drew)
        clear hTT hTB q1 q2 q3
        by_cases heq : T = l
        · have HQ := Lib.hid heq
          clear heq
          go_cut [84] (fun s wx => s = .bool false ∧ Below wz.heap.size wz wx)
          case first =>
            go_region_with (go_at_call 13; refine (itell_any A2 B2 c2 d2 ⟨code, ps, vs, er, tr, ticks, made⟩ _ _ _ HRR.out.drew HRS.out.drew hok.out hlen.out hTab.out (tab_one hTab.out)).mono ?_; rintro e w1 ⟨v1, rfl, hO1, hb1⟩; replace hb1 := bl_undrew hb1; obtain ⟨hc1, hf1⟩ := bcell hb1; rw [← HTT.out] at hO1; rw [HQ.out] at hO1; obtain ⟨A1, c1, rfl, hr1⟩ := own_rd hO1; have hcv1 := conv_all hr1 (c := c1); have hcb1 := conv_all (env_z.out.rd.below hb1) (c := c))
            all_goals (go_wp2_with fail; go_meet; exact ⟨rfl, hb1⟩)
          case rest =>
            obtain ⟨rfl, hb1⟩ := hcut
            have res1 := env_z.out.res.below hb1 env_z.out.res.lt
            have out1 := out_z.out.below hb1 out_z.out.lt
            have bel1 := env_z.out.bel.trans (hb1.mono env_z.out.bel.size)
            clear z0 z1 z2 z3 z4 z5 z6 x2 x3 hcb0
            obtain ⟨r0, r1, r2, r3, r4, r5, r6⟩ := box7 res1
            obtain ⟨z0, z1, z2, z3, z4, z5, z6⟩ := box7 out1
            have fr : ∀ k, wc.frozen? ⟨(w.heap.size + 1), k, none⟩ = false := fun k => res1.frozen k
            have HB1 := Lib.hid hb1
            have HBL := Lib.hid bel1
            clear hb1 bel1 res1 out1
            go_wp2
            refine bodyPost_ret (by simp [results, Tryd.results21, go_sem, *]; rfl) rfl ?_
            have bel1 := HBL.out
            exact ⟨⟨code, ps, vs, er, tr, ticks, made⟩, A2, c2, B2, d2, rfl, .inr ⟨hl, .inr ⟨HTB.out.1 HQ.out, hok.out⟩, fun x hx ht => ((HD.out x hx ht).2).symm⟩, ((((((((HRR.out.below HB1.out).set_far (by show (w.heap.size + 1) < (w.heap.size + 1 + 1 + 1 + 1 + 1 + 1); omega) _).set_far (by show (w.heap.size + 1) < (w.heap.size + 1 + 1 + 1 + 1 + 1 + 1); omega) _).set_far (by show (w.heap.size + 1) < (w.heap.size + 1 + 1 + 1 + 1 + 1 + 1); omega) _).set_far (by show (w.heap.size + 1) < (w.heap.size + 1 + 1 + 1 + 1 + 1 + 1); omega) _).set_far (by show (w.heap.size + 1) < (w.heap.size + 1 + 1 + 1 + 1 + 1 + 1); omega) _).set_far (by show (w.heap.size + 1) < (w.heap.size + 1 + 1 + 1 + 1 + 1 + 1); omega) _).set_far (by show (w.heap.size + 1) < (w.heap.size + 1 + 1 + 1 + 1 + 1 + 1); omega) _).lower (by omega), ((((((((HRS.out.below HB1.out).set_far (by show (w.heap.size + 1) < (w.heap.size + 1 + 1 + 1 + 1 + 1 + 1); omega) _).set_far (by show (w.heap.size + 1) < (w.heap.size + 1 + 1 + 1 + 1 + 1 + 1); omega) _).set_far (by show (w.heap.size + 1) < (w.heap.size + 1 + 1 + 1 + 1 + 1 + 1); omega) _).set_far (by show (w.heap.size + 1) < (w.heap.size + 1 + 1 + 1 + 1 + 1 + 1); omega) _).set_far (by show (w.heap.size + 1) < (w.heap.size + 1 + 1 + 1 + 1 + 1 + 1); omega) _).set_far (by show (w.heap.size + 1) < (w.heap.size + 1 + 1 + 1 + 1 + 1 + 1); omega) _).set_far (by show (w.heap.size + 1) < (w.heap.size + 1 + 1 + 1 + 1 + 1 + 1); omega) _).lower (by omega), ((((((((HWR.out.below HB1.out).set_far (by show (w.heap.size + 1) < (w.heap.size + 1 + 1 + 1 + 1 + 1 + 1); omega) _).set_far (by show (w.heap.size + 1) < (w.heap.size + 1 + 1 + 1 + 1 + 1 + 1); omega) _).set_far (by show (w.heap.size + 1) < (w.heap.size + 1 + 1 + 1 + 1 + 1 + 1); omega) _).set_far (by show (w.heap.size + 1) < (w.heap.size + 1 + 1 + 1 + 1 + 1 + 1); omega) _).set_far (by show (w.heap.size + 1) < (w.heap.size + 1 + 1 + 1 + 1 + 1 + 1); omega) _).set_far (by show (w.heap.size + 1) < (w.heap.size + 1 + 1 + 1 + 1 + 1 + 1); omega) _).set_far (by show (w.heap.size + 1) < (w.heap.size + 1 + 1 + 1 + 1 + 1 + 1); omega) _).lower (by omega), ((((((((HWS.out.below HB1.out).set_far (by show (w.heap.size + 1) < (w.heap.size + 1 + 1 + 1 + 1 + 1 + 1); omega) _).set_far (by show (w.heap.size + 1) < (w.heap.size + 1 + 1 + 1 + 1 + 1 + 1); omega) _).set_far (by show (w.heap.size + 1) < (w.heap.size + 1 + 1 + 1 + 1 + 1 + 1); omega) _).set_far (by show (w.heap.size + 1) < (w.heap.size + 1 + 1 + 1 + 1 + 1 + 1); omega) _).set_far (by show (w.heap.size + 1) < (w.heap.size + 1 + 1 + 1 + 1 + 1 + 1); omega) _).set_far (by show (w.heap.size + 1) < (w.heap.size + 1 + 1 + 1 + 1 + 1 + 1); omega) _).set_far (by show (w.heap.size + 1) < (w.heap.size + 1 + 1 + 1 + 1 + 1 + 1); omega) _).lower (by omega), (by simp only; omega), (by simp only; omega), (((((((bel1).setCell (Nat.le_succ _) _).setCell (Nat.le_succ _) _).setCell (Nat.le_succ _) _).setCell (Nat.le_succ _) _).setCell (Nat.le_succ _) _).setCell (Nat.le_succ _) _).setCell (Nat.le_succ _) _⟩
        · have HQ := Lib.hid heq
          clear heq
          have hnb : (T == l) = false := beq_eq_false_iff_ne.2 HQ.out
          go_cut [84] (fun s wx => s = .bool true ∧ Below wz.heap.size wz wx)
          case first =>
            go_region_with (go_at_call 13; refine (itell_any A2 B2 c2 d2 ⟨code, ps, vs, er, tr, ticks, made⟩ _ _ _ HRR.out.drew HRS.out.drew hok.out hlen.out hTab.out (tab_one hTab.out)).mono ?_; rintro e w1 ⟨v1, rfl, hO1, hb1⟩; replace hb1 := bl_undrew hb1; obtain ⟨hc1, hf1⟩ := bcell hb1; rw [← HTT.out] at hO1; obtain ⟨A1, c1, rfl, hr1⟩ := own_rd hO1; have hcv1 := conv_all hr1 (c := c1); have hcb1 := conv_all (env_z.out.rd.below hb1) (c := c))
            all_goals (go_wp2_with fail; go_meet; exact ⟨rfl, hb1⟩)
          case rest =>
            obtain ⟨rfl, hb1⟩ := hcut
            have res1 := env_z.out.res.below hb1 env_z.out.res.lt
            have out1 := out_z.out.below hb1 out_z.out.lt
            have bel1 := env_z.out.bel.trans (hb1.mono env_z.out.bel.size)
            clear z0 z1 z2 z3 z4 z5 z6 x2 x3 hcb0
            obtain ⟨r0, r1, r2, r3, r4, r5, r6⟩ := box7 res1
            obtain ⟨z0, z1, z2, z3, z4, z5, z6⟩ := box7 out1
            have fr : ∀ k, wc.frozen? ⟨(w.heap.size + 1), k, none⟩ = false := fun k => res1.frozen k
            have HB1 := Lib.hid hb1
            have HBL := Lib.hid bel1
            clear hb1 bel1 res1 out1
            go_wp2
            refine bodyPost_ret (by simp [results, Tryd.results21, go_sem, *]; rfl) rfl ?_
            have bel1 := HBL.out
            exact rpH_zero (.inr ⟨hl, .inl rfl, fun x hx ht => by have h1 := (HD.out x hx ht).2; rw [h1] at ht; exact absurd (HTB.out.2 ht) HQ.out⟩) ((((((((bel1).setCell (Nat.le_succ _) _).setCell (Nat.le_succ _) _).setCell (Nat.le_succ _) _).setCell (Nat.le_succ _) _).setCell (Nat.le_succ _) _).setCell (Nat.le_succ _) _).setCell (Nat.le_succ _) _)
theorem ihear_any (A : Option Addr) (c : Nat) (l : List UInt8) (w : World) (lo : Nat) (hb : RdL encB 1 w lo A l) (hA : ∀ b o, A = some ⟨b, o, none⟩ → b < w.heap.size) (hcap : l.length ≤ c) (hcm : c ≤ maxLen) (hE : ErrV w) (hTab : Tab w) :
    Calls Tryd.prog 21 #[.slice A l.length c] w (RpH w l) := by
  by_cases hl : l.length ≤ 1000000
  · exact ihear_small A c l w lo hb hA hl hcap hcm hE hTab
  · have h1 : (1000000 : Int) < l.length := by omega
    have h2 : l.length ≤ 9223372036854775807 := by unfold maxLen at hcm; omega
    clear hcm hcap hE hTab
    go_enter Tryd.func21, Tryd.ntmps21
    go_wp2
    refine bodyPost_ret (by simp [results, Tryd.results21, go_sem]; rfl) rfl ?_
    exact rpH_zero (.inl ⟨by omega, rfl⟩) (below_new2 _ _ _)
end Go.Proofs.YtchlolfdinakiaaDoor
