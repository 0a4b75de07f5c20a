/- Copies of what came in. -/
import Derived.Test.YtcpjplkbmflglaaU2
namespace Go.Proofs.Ytcpjplkbmflglaa
open Go.RowKit
attribute [local go_sem] run_store_float

def WrN (w : World) (lo : Nat) (l : LN) : Prop := Wr w lo l.ra l.nd.refs.length 1 3 ∧ Wr w lo l.ka l.nd.kids.length 1 3 ∧ l.nd.kids.length ≤ l.kc
def WrNs (w : World) (lo : Nat) (A : Option Addr) (ls : List LN) : Prop := Wr w lo A ls.length 8 52 ∧ ∀ l ∈ ls, WrN w lo l
def WrF (w : World) (lo : Nat) (f : LF) : Prop := Wr w lo f.va f.vars.length 1 9 ∧ Wr w lo f.ua f.ups.length 2 60 ∧ WrNs w lo f.na f.ns
def WrFs (w : World) (lo : Nat) (A : Option Addr) (fs : List LF) : Prop := Wr w lo A fs.length 7 47 ∧ ∀ f ∈ fs, WrF w lo f
section
variable {w w' : World} {lo : Nat} {A : Option Addr} {l : LN} {f : LF} {ls : List LN} {fs : List LF}
theorem WrN.below (h : WrN w lo l) (hb : Below w.heap.size w w') : WrN w' lo l := ⟨h.1.below hb, h.2.1.below hb, h.2.2⟩
theorem WrNs.below (h : WrNs w lo A ls) (hb : Below w.heap.size w w') : WrNs w' lo A ls := ⟨h.1.below hb, fun l hl => (h.2 l hl).below hb⟩
theorem WrF.below (h : WrF w lo f) (hb : Below w.heap.size w w') : WrF w' lo f := ⟨h.1.below hb, h.2.1.below hb, h.2.2.below hb⟩
theorem WrFs.below (h : WrFs w lo A fs) (hb : Below w.heap.size w w') : WrFs w' lo A fs := ⟨h.1.below hb, fun f hf => (h.2 f hf).below hb⟩
theorem WrN.alloc (h : WrN w lo l) (o : Obj) : WrN (w.alloc o) lo l := h.below (below_new w o)
theorem WrNs.alloc (h : WrNs w lo A ls) (o : Obj) : WrNs (w.alloc o) lo A ls := h.below (below_new w o)
theorem WrF.alloc (h : WrF w lo f) (o : Obj) : WrF (w.alloc o) lo f := h.below (below_new w o)
theorem WrFs.alloc (h : WrFs w lo A fs) (o : Obj) : WrFs (w.alloc o) lo A fs := h.below (below_new w o)
theorem WrN.lower {lo' : Nat} (h : WrN w lo l) (hl : lo' ≤ lo) : WrN w lo' l := ⟨h.1.lower hl, h.2.1.lower hl, h.2.2⟩
theorem WrNs.lower {lo' : Nat} (h : WrNs w lo A ls) (hl : lo' ≤ lo) : WrNs w lo' A ls := ⟨h.1.lower hl, fun l h' => (h.2 l h').lower hl⟩
theorem WrF.lower {lo' : Nat} (h : WrF w lo f) (hl : lo' ≤ lo) : WrF w lo' f := ⟨h.1.lower hl, h.2.1.lower hl, h.2.2.lower hl⟩
variable {p : Addr} (u : Value)
theorem OkN.set_far (h : OkN w lo l) (hp : p.block < lo) : OkN (w.setCell p u) lo l := ⟨h.1.set_far hp u, h.2.set_far hp u⟩
theorem WrN.set_far (h : WrN w lo l) (hp : p.block < lo) : WrN (w.setCell p u) lo l := ⟨h.1.set_far hp u, h.2.1.set_far hp u, h.2.2⟩
theorem RdN.set_far (h : RdN w lo A ls) (hp : p.block < lo) : RdN (w.setCell p u) lo A ls := ⟨h.1.set_far hp u, fun l hl => (h.2 l hl).set_far u hp⟩
theorem WrNs.set_far (h : WrNs w lo A ls) (hp : p.block < lo) : WrNs (w.setCell p u) lo A ls := ⟨h.1.set_far hp u, fun l hl => (h.2 l hl).set_far u hp⟩
theorem OkF.set_far (h : OkF w lo f) (hp : p.block < lo) : OkF (w.setCell p u) lo f := ⟨h.1.set_far hp u, h.2.1.set_far hp u, h.2.2.set_far u hp⟩
theorem WrF.set_far (h : WrF w lo f) (hp : p.block < lo) : WrF (w.setCell p u) lo f := ⟨h.1.set_far hp u, h.2.1.set_far hp u, h.2.2.set_far u hp⟩
end
/-- What may be copied. -/
def capN (l : LN) : Prop := l.nd.refs.length ≤ 1048576 ∧ l.nd.kids.length ≤ 1048576
def capF (f : LF) : Prop := f.vars.length ≤ 1048576 ∧ f.ups.length ≤ 1048576 ∧ f.ns.length ≤ 1048576 ∧ ∀ l ∈ f.ns, capN l
theorem totW_mem {α : Type} (g : α → Nat) : ∀ (xs : List α) (x : α), x ∈ xs → g x ≤ totW g xs := by
  intro xs
  induction xs with
  | nil => intro x h; simp at h
  | cons y r ih =>
    intro x h
    simp only [totW]
    rcases List.mem_cons.1 h with rfl | h
    · omega
    · have := ih x h; omega
theorem cap_of {fs : List LF} (h : fs.length + totW wF fs ≤ 1048576) : ∀ f ∈ fs, capF f := fun f hf => by
  have h1 := totW_mem wF fs f hf
  have e1 : wF f = f.name.size + (f.vars.length + totS f.vars) + f.ups.length + (f.ns.length + totW wN f.ns) := rfl
  refine ⟨by omega, by omega, by omega, fun l hl => ?_⟩
  have h2 := totW_mem wN f.ns l hl
  have e2 : wN l = l.nd.str.size + l.nd.refs.length + l.nd.kids.length := rfl
  exact ⟨by omega, by omega⟩
/-- The last record of a row that grows. -/
theorem Full.push {α : Type} {enc : α → List Value} {sz : Nat} {cs : Array Value} {xs : List α} {x : α} (h : Full enc sz cs xs xs.length) (hlen : ∀ x, (enc x).length = sz) (hs : (xs.length + 1) * sz ≤ cs.size) : Full enc sz (putL cs (xs.length * sz) (enc x)) (xs ++ [x]) (xs ++ [x]).length := by
  rw [Nat.add_mul, Nat.one_mul] at hs
  have h' : Full enc sz cs (xs ++ [x]) xs.length := fun i y hi hy => by
    rw [List.getElem?_append_left hi] at hy
    exact h i y hi hy
  have h2 := h'.step (cs' := putL cs (xs.length * sz) (enc x)) (fun x => Nat.le_of_eq (hlen x)) (fun i hi => putL_old _ _ _ _ hi) (fun y hy j u hu => by
    rw [List.getElem?_append_right (Nat.le_refl _)] at hy
    simp at hy; subst hy
    exact putL_new _ _ _ (by rw [hlen]; exact hs) j u hu)
  simpa using h2
theorem rdS_at' {w : World} {lo : Nat} {A : Option Addr} {xs : List ByteArray} (h : RdL encS 1 w lo A xs) {k : Nat} {x : ByteArray} (hk : xs[k]? = some x) :
    ∃ b off, A = some ⟨b, off, none⟩ ∧ lo ≤ b ∧ b < w.heap.size ∧ w.cell? ⟨b, off + k, none⟩ = some (.string x) := by
  have hlt := (List.getElem?_eq_some_iff.1 hk).1
  obtain ⟨b, off, e, hlo, hb, hc⟩ := h (by omega)
  exact ⟨b, off, e, hlo, hb, by simpa using hc k x hk 0 _ rfl⟩
theorem info9 : (Try.prog.info? 9).map (fun i => (i.zero, i.size, i.bytes)) = some (some (Value.string ⟨#[]⟩), 1, 16) := by kernel_rfl
def tosS (w : World) (xs : List ByteArray) (e : Ending) (w' : World) : Prop := ∃ A c, e = .returned (.slice A xs.length c) ∧ RdL encS 1 w' w.heap.size A xs ∧ Wr w' w.heap.size A xs.length 1 9 ∧ Below w.heap.size w w'
theorem tos_any (A : Option Addr) (c : Nat) (xs : List ByteArray) (w : World) (lo : Nat) (h : RdL encS 1 w lo A xs) (hn : xs.length ≤ 1048576) :
    Calls Try.prog 63 #[.slice A xs.length c] w (tosS w xs) := by
  obtain ⟨i0, hi0, hz0, hz1, hz2⟩ := info_parts info9
  have hmk := fun (W : World) => run_make (P := Try.prog) W 43 9 i0 _ Try.underlying43 hi0 hz0 .i64 .i64 (xs.length : Int) (xs.length : Int) (by omega) (by omega) (by rw [hz2]; omega) (by omega)
  rw [hz1, Nat.mul_one, Int.toNat_natCast] at hmk
  have hcs : (madeCells (Value.cells (Value.string ⟨#[]⟩)) (xs.length)).size = xs.length * 1 := by simp [madeCells]
  generalize hc0 : madeCells (Value.cells (Value.string ⟨#[]⟩)) (xs.length) = cs0 at *
  clear hc0 hz0 hz1 hz2 hi0
  go_enter Try.func63, Try.ntmps63
  go_wp2
  go_loopw [4] (fun i wr => ∃ k : Nat, k ≤ xs.length ∧ i = .int .i64 k ∧ ∃ cs : Array Value, Blk wr w.heap.size 9 cs ∧ cs.size = xs.length * 1 ∧ Full encS 1 cs xs k ∧ Below w.heap.size w wr) (fun i _ => xs.length - (intOf i).toNat)
  case atStart => exact ⟨0, Nat.zero_le _, rfl, cs0, Blk.new _ _ _, hcs, Full.zero, below_new _ _⟩
  case round =>
    obtain ⟨k, hk, rfl, cs, hblk, hsz, hcs', hbel⟩ := hrel
    by_cases hlt : k < xs.length
    · obtain ⟨p, hpk⟩ : ∃ p, xs[k]? = some p := ⟨_, List.getElem?_eq_getElem hlt⟩
      obtain ⟨b, off, rfl, hlo, hb, c0⟩ := rdS_at' (h.below hbel) hpk
      have hgl := hblk.lt
      have H1 := Lib.hid h; have H2 := Lib.hid hblk; have H3 := Lib.hid hcs'; have H5 := Lib.hid hsz; have H6 := Lib.hid hpk
      clear h hblk hcs' hmk hsz hpk
      have hle : k * 1 + 1 ≤ cs.size := by have := H5.out; omega
      have cellEx : ∀ j, j < 1 → ∃ u, wr.cell? ⟨w.heap.size, k * 1 + j, none⟩ = some u := fun j hj => ⟨cs[k * 1 + j]'(by omega), by rw [H2.out.cell, Array.getElem?_eq_getElem]⟩
      obtain ⟨d0, hd0⟩ := cellEx 0 (by omega)
      have fz : ∀ j, wr.frozen? ⟨w.heap.size, j, none⟩ = false := fun j => H2.out.frozen j
      clear cellEx hle
      simp only [Nat.add_zero, Nat.mul_one] at hd0
      go_wp2
      refine ⟨⟨k + 1, by omega, by go_num, putL cs (k * 1) (encS p), ?_, by rw [putL_size]; exact H5.out, H3.out.put H6.out (fun _ => rfl) (Nat.le_of_eq H5.out.symm), (by (repeat (first | with_reducible assumption | with_reducible exact Below.refl _ _ | with_reducible refine Below.drew ?_ | with_reducible refine bl_drewN _ ?_ | ((with_reducible refine bl_alloc ?_ _ ?_); · (first | omega | (simp; done) | (simp; omega))) | ((with_reducible refine bl_set ?_ _ ?_); · (first | omega | (simp; done) | (simp; omega))))))⟩, by simp [intOf]; omega⟩
      rw [Nat.mul_one]; exact (H2.out).set_ _ _
    · have hkk : k = xs.length := by omega
      subst hkk
      clear hmk h
      go_wp2
      go_ret
      exact ⟨_, _, rfl, rd_of_blk hblk (Nat.le_refl _) hcs', fun _ => ⟨_, _, rfl, Nat.le_refl _, hblk, Nat.le_of_eq hsz.symm⟩, hbel⟩
theorem info3 : (Try.prog.info? 3).map (fun i => (i.zero, i.size, i.bytes)) = some (some (Value.int .i64 0), 1, 8) := by kernel_rfl
def toiS (w : World) (xs : List Int) (e : Ending) (w' : World) : Prop := ∃ A c, e = .returned (.slice A xs.length c) ∧ RdL encI 1 w' w.heap.size A xs ∧ Wr w' w.heap.size A xs.length 1 3 ∧ xs.length ≤ c ∧ Below w.heap.size w w'
theorem toi_any (A : Option Addr) (c : Nat) (xs : List Int) (w : World) (lo : Nat) (h : RdL encI 1 w lo A xs) (hn : xs.length ≤ 1048576) :
    Calls Try.prog 97 #[.slice A xs.length c] w (toiS w xs) := by
  obtain ⟨i0, hi0, hz0, hz1, hz2⟩ := info_parts info3
  have hmk := fun (W : World) => run_make (P := Try.prog) W 36 3 i0 _ Try.underlying36 hi0 hz0 .i64 .i64 (xs.length : Int) (xs.length : Int) (by omega) (by omega) (by rw [hz2]; omega) (by omega)
  rw [hz1, Nat.mul_one, Int.toNat_natCast] at hmk
  have hcs : (madeCells (Value.cells (Value.int .i64 0)) (xs.length)).size = xs.length * 1 := by simp [madeCells]
  generalize hc0 : madeCells (Value.cells (Value.int .i64 0)) (xs.length) = cs0 at *
  clear hc0 hz0 hz1 hz2 hi0
  go_enter Try.func97, Try.ntmps97
  go_wp2
  go_loopw [4] (fun i wr => ∃ k : Nat, k ≤ xs.length ∧ i = .int .i64 k ∧ ∃ cs : Array Value, Blk wr w.heap.size 3 cs ∧ cs.size = xs.length * 1 ∧ Full encI 1 cs xs k ∧ Below w.heap.size w wr) (fun i _ => xs.length - (intOf i).toNat)
  case atStart => exact ⟨0, Nat.zero_le _, rfl, cs0, Blk.new _ _ _, hcs, Full.zero, below_new _ _⟩
  case round =>
    obtain ⟨k, hk, rfl, cs, hblk, hsz, hcs', hbel⟩ := hrel
    by_cases hlt : k < xs.length
    · obtain ⟨p, hpk⟩ : ∃ p, xs[k]? = some p := ⟨_, List.getElem?_eq_getElem hlt⟩
      obtain ⟨b, off, rfl, hlo, hb, c0⟩ := rdI_at (h.below hbel) hpk
      have hgl := hblk.lt
      have H1 := Lib.hid h; have H2 := Lib.hid hblk; have H3 := Lib.hid hcs'; have H5 := Lib.hid hsz; have H6 := Lib.hid hpk
      clear h hblk hcs' hmk hsz hpk
      have hle : k * 1 + 1 ≤ cs.size := by have := H5.out; omega
      have cellEx : ∀ j, j < 1 → ∃ u, wr.cell? ⟨w.heap.size, k * 1 + j, none⟩ = some u := fun j hj => ⟨cs[k * 1 + j]'(by omega), by rw [H2.out.cell, Array.getElem?_eq_getElem]⟩
      obtain ⟨d0, hd0⟩ := cellEx 0 (by omega)
      have fz : ∀ j, wr.frozen? ⟨w.heap.size, j, none⟩ = false := fun j => H2.out.frozen j
      clear cellEx hle
      simp only [Nat.add_zero, Nat.mul_one] at hd0
      go_wp2
      refine ⟨⟨k + 1, by omega, by go_num, putL cs (k * 1) (encI p), ?_, by rw [putL_size]; exact H5.out, H3.out.put H6.out (fun _ => rfl) (Nat.le_of_eq H5.out.symm), (by (repeat (first | with_reducible assumption | with_reducible exact Below.refl _ _ | with_reducible refine Below.drew ?_ | with_reducible refine bl_drewN _ ?_ | ((with_reducible refine bl_alloc ?_ _ ?_); · (first | omega | (simp; done) | (simp; omega))) | ((with_reducible refine bl_set ?_ _ ?_); · (first | omega | (simp; done) | (simp; omega))))))⟩, by simp [intOf]; omega⟩
      rw [Nat.mul_one]; exact (H2.out).set_ _ _
    · have hkk : k = xs.length := by omega
      subst hkk
      clear hmk h
      go_wp2
      go_ret
      exact ⟨_, _, rfl, rd_of_blk hblk (Nat.le_refl _) hcs', fun _ => ⟨_, _, rfl, Nat.le_refl _, hblk, Nat.le_of_eq hsz.symm⟩, Nat.le_refl _, hbel⟩
theorem tou_any (p : Up) (w : World) : Calls Try.prog 80 #[.agg #[.bool p.loc, .int .i64 p.ix]] w fun e w' => e = .returned (.agg #[.bool p.loc, .int .i64 p.ix]) ∧ Below w.heap.size w w' := by
  go_enter Try.func80, Try.ntmps80
  go_wp2
  refine bodyPost_ret (by simp [results, Try.results80, go_sem, *]; rfl) rfl ?_
  exact ⟨rfl, (by (repeat (first | with_reducible assumption | with_reducible exact Below.refl _ _ | with_reducible refine Below.drew ?_ | with_reducible refine bl_drewN _ ?_ | ((with_reducible refine bl_alloc ?_ _ ?_); · (first | omega | (simp; done) | (simp; omega))) | ((with_reducible refine bl_set ?_ _ ?_); · (first | omega | (simp; done) | (simp; omega))))))⟩
theorem info60 : (Try.prog.info? 60).map (fun i => (i.zero, i.size, i.bytes)) = some (some (Value.agg #[.bool false, .int .i64 0]), 2, 16) := by kernel_rfl
def tousS (w : World) (xs : List Up) (e : Ending) (w' : World) : Prop := ∃ A c, e = .returned (.slice A xs.length c) ∧ RdL encU 2 w' w.heap.size A xs ∧ Wr w' w.heap.size A xs.length 2 60 ∧ Below w.heap.size w w'
theorem tous_any (A : Option Addr) (c : Nat) (xs : List Up) (w : World) (lo : Nat) (h : RdL encU 2 w lo A xs) (hn : xs.length ≤ 1048576) :
    Calls Try.prog 64 #[.slice A xs.length c] w (tousS w xs) := by
  obtain ⟨i0, hi0, hz0, hz1, hz2⟩ := info_parts info60
  have hmk := fun (W : World) => run_make (P := Try.prog) W 44 60 i0 _ Try.underlying44 hi0 hz0 .i64 .i64 (xs.length : Int) (xs.length : Int) (by omega) (by omega) (by rw [hz2]; omega) (by omega)
  rw [hz1, Int.toNat_natCast] at hmk
  have hcs : (madeCells (Value.cells (Value.agg #[.bool false, .int .i64 0])) (xs.length * 2)).size = xs.length * 2 := by simp [madeCells]
  generalize hc0 : madeCells (Value.cells (Value.agg #[.bool false, .int .i64 0])) (xs.length * 2) = cs0 at *
  clear hc0 hz0 hz1 hz2 hi0
  go_enter Try.func64, Try.ntmps64
  go_wp2
  go_loopw [4] (fun i wr => ∃ k : Nat, k ≤ xs.length ∧ i = .int .i64 k ∧ ∃ cs : Array Value, Blk wr w.heap.size 60 cs ∧ cs.size = xs.length * 2 ∧ Full encU 2 cs xs k ∧ Below w.heap.size w wr) (fun i _ => xs.length - (intOf i).toNat)
  case atStart => exact ⟨0, Nat.zero_le _, rfl, cs0, Blk.new _ _ _, hcs, Full.zero, below_new _ _⟩
  case round =>
    obtain ⟨k, hk, rfl, cs, hblk, hsz, hcs', hbel⟩ := hrel
    by_cases hlt : k < xs.length
    · obtain ⟨p, hpk⟩ : ∃ p, xs[k]? = some p := ⟨_, List.getElem?_eq_getElem hlt⟩
      obtain ⟨b, off, rfl, hlo, hb, c0, c1⟩ := rdU_at (h.below hbel) hpk
      have hgl := hblk.lt
      have H1 := Lib.hid h; have H2 := Lib.hid hblk; have H3 := Lib.hid hcs'; have H5 := Lib.hid hsz; have H6 := Lib.hid hpk
      clear h hblk hcs' hmk hsz hpk
      go_wp2_with fail
      refine (tou_any p _).mono ?_
      rintro e w1 ⟨rfl, hb1⟩
      have H7 := Lib.hid (H2.out.below hb1 hgl)
      have HB1 : Below w.heap.size w w1 := hbel.trans (hb1.mono hbel.size)
      have hle : k * 2 + 2 ≤ cs.size := by have := H5.out; omega
      have cellEx : ∀ j, j < 2 → ∃ u, w1.cell? ⟨w.heap.size, k * 2 + j, none⟩ = some u := fun j hj => ⟨cs[k * 2 + j]'(by omega), by rw [H7.out.cell, Array.getElem?_eq_getElem]⟩
      obtain ⟨d0, hd0⟩ := cellEx 0 (by omega)
      obtain ⟨d1, hd1⟩ := cellEx 1 (by omega)
      have fz : ∀ j, w1.frozen? ⟨w.heap.size, j, none⟩ = false := fun j => H7.out.frozen j
      clear cellEx hle c0 c1
      rw [Nat.add_zero] at hd0
      go_wp2
      refine ⟨⟨k + 1, by omega, by go_num, putL cs (k * 2) (encU p), ?_, by rw [putL_size]; exact H5.out, H3.out.put H6.out (fun _ => rfl) (Nat.le_of_eq H5.out.symm), (by (repeat (first | with_reducible assumption | with_reducible exact Below.refl _ _ | with_reducible refine Below.drew ?_ | with_reducible refine bl_drewN _ ?_ | ((with_reducible refine bl_alloc ?_ _ ?_); · (first | omega | (simp; done) | (simp; omega))) | ((with_reducible refine bl_set ?_ _ ?_); · (first | omega | (simp; done) | (simp; omega))))))⟩, by simp [intOf]; omega⟩
      exact ((H7.out).set_ _ _).set_ _ _
    · have hkk : k = xs.length := by omega
      subst hkk
      clear hmk h
      go_wp2
      go_ret
      exact ⟨_, _, rfl, rd_of_blk hblk (Nat.le_refl _) hcs', fun _ => ⟨_, _, rfl, Nat.le_refl _, hblk, Nat.le_of_eq hsz.symm⟩, hbel⟩
def tonS (w : World) (l : LN) (e : Ending) (w' : World) : Prop := ∃ l' : LN, e = .returned (.agg #[.int .i64 l'.nd.kind, .int .i64 l'.nd.line, .int .i64 l'.nd.op, .int .i64 l'.nd.num, .float .f64 l'.nd.flt, .string l'.nd.str, .slice l'.ra l'.nd.refs.length l'.rc, .slice l'.ka l'.nd.kids.length l'.kc]) ∧ l'.nd = l.nd ∧ OkN w' w.heap.size l' ∧ WrN w' w.heap.size l' ∧ Below w.heap.size w w'
theorem ton_any (l : LN) (w : World) (lo : Nat) (h : OkN w lo l) (hc : capN l) : Calls Try.prog 81 #[.agg #[.int .i64 l.nd.kind, .int .i64 l.nd.line, .int .i64 l.nd.op, .int .i64 l.nd.num, .float .f64 l.nd.flt, .string l.nd.str, .slice l.ra l.nd.refs.length l.rc, .slice l.ka l.nd.kids.length l.kc]] w (tonS w l) := by
  obtain ⟨h1, h2⟩ := h
  obtain ⟨k1, k2⟩ := hc
  go_enter Try.func81, Try.ntmps81
  go_wp2_with fail
  refine (toi_any _ _ l.nd.refs _ lo (h1.below (by (repeat (first | with_reducible assumption | with_reducible exact Below.refl _ _ | with_reducible refine Below.drew ?_ | with_reducible refine bl_drewN _ ?_ | ((with_reducible refine bl_alloc ?_ _ ?_); · (first | omega | (simp; done) | (simp; omega))) | ((with_reducible refine bl_set ?_ _ ?_); · (first | omega | (simp; done) | (simp; omega))))))) k1).mono ?_
  rintro e w1 ⟨A1, c1, rfl, g1, q1, -, hb1⟩
  obtain ⟨hc1, hf1⟩ := bcell hb1
  have hq1 := hb1.size
  try simp only [dN_size, dN_cell, dN_frozen] at hc1 hf1 hq1
  try simp only [World.size_alloc] at hq1
  try simp only [World.size_setCell] at hq1
  try simp only [World.size_alloc] at hq1
  have hz1_0 : w.heap.size < w1.heap.size := by omega
  have hz1_1 : w.heap.size + 1 < w1.heap.size := by omega
  have hz1_2 : w.heap.size + 1 + 1 < w1.heap.size := by omega
  have HB1 : Below w.heap.size w w1 := Below.trans (by (repeat (first | with_reducible assumption | with_reducible exact Below.refl _ _ | with_reducible refine Below.drew ?_ | with_reducible refine bl_drewN _ ?_ | ((with_reducible refine bl_alloc ?_ _ ?_); · (first | omega | (simp; done) | (simp; omega))) | ((with_reducible refine bl_set ?_ _ ?_); · (first | omega | (simp; done) | (simp; omega)))))) (hb1.mono (by (try simp) <;> omega))
  go_wp2_with fail
  refine (toi_any _ _ l.nd.kids _ lo (h2.below (by (repeat (first | with_reducible assumption | with_reducible exact Below.refl _ _ | with_reducible refine Below.drew ?_ | with_reducible refine bl_drewN _ ?_ | ((with_reducible refine bl_alloc ?_ _ ?_); · (first | omega | (simp; done) | (simp; omega))) | ((with_reducible refine bl_set ?_ _ ?_); · (first | omega | (simp; done) | (simp; omega))))))) k2).mono ?_
  rintro e w2 ⟨A2, c2, rfl, g2, q2, hcap2, hb2⟩
  obtain ⟨hc2, hf2⟩ := bcell hb2
  have hq2 := hb2.size
  try simp only [dN_size, dN_cell, dN_frozen] at hc2 hf2 hq2
  try simp only [World.size_alloc] at hq2
  try simp only [World.size_setCell] at hq2
  try simp only [World.size_alloc] at hq2
  have hz2_0 : w.heap.size < w2.heap.size := by omega
  have hz2_1 : w.heap.size + 1 < w2.heap.size := by omega
  have hz2_2 : w.heap.size + 1 + 1 < w2.heap.size := by omega
  have HB2 : Below w.heap.size w w2 := Below.trans (by (repeat (first | with_reducible assumption | with_reducible exact Below.refl _ _ | with_reducible refine Below.drew ?_ | with_reducible refine bl_drewN _ ?_ | ((with_reducible refine bl_alloc ?_ _ ?_); · (first | omega | (simp; done) | (simp; omega))) | ((with_reducible refine bl_set ?_ _ ?_); · (first | omega | (simp; done) | (simp; omega)))))) (hb2.mono (by (try simp) <;> omega))
  simp only [World.size_alloc] at g1 q1
  simp only [World.size_setCell] at g2 q2
  go_wp2
  refine bodyPost_ret (by simp [results, Try.results81, go_sem, *]; rfl) rfl ?_
  exact ⟨⟨l.nd, A1, c1, A2, c2⟩, rfl, rfl, ⟨(by (refine RdL.lower (lo := w.heap.size + 1 + 1 + 1) ?_ (by omega)); repeat (first | with_reducible exact g1 | ((with_reducible refine RdL.set_far ?_ ?_ _); rotate_left; · (first | (simp; done) | omega | (simp <;> omega))) | with_reducible refine RdL.alloc ?_ _ | with_reducible refine RdL.below ?_ hb2)), (by (refine RdL.lower (lo := w1.heap.size) ?_ (by omega)); repeat (first | with_reducible exact g2 | ((with_reducible refine RdL.set_far ?_ ?_ _); rotate_left; · (first | (simp; done) | omega | (simp <;> omega))) | with_reducible refine RdL.alloc ?_ _))⟩, ⟨(by (refine Wr.lower (lo := w.heap.size + 1 + 1 + 1) ?_ (by omega)); repeat (first | with_reducible exact q1 | ((with_reducible refine Wr.set_far ?_ ?_ _); rotate_left; · (first | (simp; done) | omega | (simp <;> omega))) | with_reducible refine Wr.alloc ?_ _ | with_reducible refine Wr.below ?_ hb2)), (by (refine Wr.lower (lo := w1.heap.size) ?_ (by omega)); repeat (first | with_reducible exact q2 | ((with_reducible refine Wr.set_far ?_ ?_ _); rotate_left; · (first | (simp; done) | omega | (simp <;> omega))) | with_reducible refine Wr.alloc ?_ _)), hcap2⟩, (by (repeat (first | with_reducible assumption | with_reducible exact Below.refl _ _ | with_reducible refine Below.drew ?_ | with_reducible refine bl_drewN _ ?_ | ((with_reducible refine bl_alloc ?_ _ ?_); · (first | omega | (simp; done) | (simp; omega))) | ((with_reducible refine bl_set ?_ _ ?_); · (first | omega | (simp; done) | (simp; omega))))))⟩
theorem info52 : (Try.prog.info? 52).map (fun i => (i.zero, i.size, i.bytes)) = some (some (Value.agg #[.int .i64 0, .int .i64 0, .int .i64 0, .int .i64 0, .float .f64 0, .string ⟨#[]⟩, .slice none 0 0, .slice none 0 0]), 8, 104) := by kernel_rfl
def tonsS (w : World) (xs : List LN) (e : Ending) (w' : World) : Prop := ∃ A c, ∃ ys : List LN, e = .returned (.slice A ys.length c) ∧ ys.map LN.nd = xs.map LN.nd ∧ RdN w' w.heap.size A ys ∧ WrNs w' w.heap.size A ys ∧ Below w.heap.size w w'
set_option maxHeartbeats 1000000 in
theorem tons_any (A : Option Addr) (c : Nat) (xs : List LN) (w : World) (lo : Nat) (h : RdN w lo A xs) (hcap : ∀ x ∈ xs, capN x) (hn : xs.length ≤ 1048576) :
    Calls Try.prog 65 #[.slice A xs.length c] w (tonsS w xs) := by
  obtain ⟨i0, hi0, hz0, hz1, hz2⟩ := info_parts info52
  have hmk := fun (W : World) => run_make (P := Try.prog) W 45 52 i0 _ Try.underlying45 hi0 hz0 .i64 .i64 (xs.length : Int) (xs.length : Int) (by omega) (by omega) (by rw [hz2]; omega) (by omega)
  rw [hz1, Int.toNat_natCast] at hmk
  have hcs : (madeCells (Value.cells (Value.agg #[.int .i64 0, .int .i64 0, .int .i64 0, .int .i64 0, .float .f64 0, .string ⟨#[]⟩, .slice none 0 0, .slice none 0 0])) (xs.length * 8)).size = xs.length * 8 := by simp [madeCells]
  generalize hc0 : madeCells (Value.cells (Value.agg #[.int .i64 0, .int .i64 0, .int .i64 0, .int .i64 0, .float .f64 0, .string ⟨#[]⟩, .slice none 0 0, .slice none 0 0])) (xs.length * 8) = cs0 at *
  clear hc0 hz0 hz1 hz2 hi0
  go_enter Try.func65, Try.ntmps65
  go_wp2
  go_loopw [4] (fun i wr => ∃ k : Nat, k ≤ xs.length ∧ i = .int .i64 k ∧ ∃ (cs : Array Value) (ys : List LN), Blk wr w.heap.size 52 cs ∧ cs.size = xs.length * 8 ∧ ys.length = k ∧ ys.map LN.nd = (xs.map LN.nd).take k ∧ Full encN 8 cs ys ys.length ∧ (∀ y ∈ ys, OkN wr (w.heap.size + 1) y ∧ WrN wr (w.heap.size + 1) y) ∧ Below w.heap.size w wr) (fun i _ => xs.length - (intOf i).toNat)
  case atStart => exact ⟨0, Nat.zero_le _, rfl, cs0, [], Blk.new _ _ _, hcs, rfl, rfl, Full.zero, by simp, below_new _ _⟩
  case round =>
    obtain ⟨k, hk, rfl, cs, ys, hblk, hsz, hyl, hym, hcs', hys, hbel⟩ := hrel
    by_cases hlt : k < xs.length
    · obtain ⟨p, hpk⟩ : ∃ p, xs[k]? = some p := ⟨_, List.getElem?_eq_getElem hlt⟩
      obtain ⟨b, off, rfl, hlo, hb, c0, c1, c2, c3, c4, c5, c6, c7, hok⟩ := rdN_at (h.below hbel) hpk
      have hgl := hblk.lt
      have HC := Lib.hid (hcap p (List.mem_of_getElem? hpk))
      have H1 := Lib.hid h; have H2 := Lib.hid hblk; have H3 := Lib.hid hcs'; have H5 := Lib.hid hsz; have H6 := Lib.hid hpk; have H8 := Lib.hid hyl; have H9 := Lib.hid hym; have H10 := Lib.hid hys; have H11 := Lib.hid hok
      clear h hblk hcs' hmk hsz hpk hyl hym hys hok hcap
      go_wp2_with fail
      refine (ton_any p _ _ H11.out HC.out).mono ?_
      rintro e w1 ⟨p', rfl, hpn, hpo, hpw, hb1⟩
      have H7 := Lib.hid (H2.out.below hb1 hgl)
      have HB1 : Below w.heap.size w w1 := hbel.trans (hb1.mono hbel.size)
      have G1 := Lib.hid hpn; have G2 := Lib.hid (hpo.lower (show w.heap.size + 1 ≤ wr.heap.size by omega)); have G3 := Lib.hid (hpw.lower (show w.heap.size + 1 ≤ wr.heap.size by omega))
      have G4 := Lib.hid (fun y hy => (⟨(H10.out y hy).1.below hb1, (H10.out y hy).2.below hb1⟩ : OkN w1 (w.heap.size + 1) y ∧ WrN w1 (w.heap.size + 1) y))
      have hle : k * 8 + 8 ≤ cs.size := by have := H5.out; omega
      have cellEx : ∀ j, j < 8 → ∃ u, w1.cell? ⟨w.heap.size, k * 8 + j, none⟩ = some u := fun j hj => ⟨cs[k * 8 + j]'(by omega), by rw [H7.out.cell, Array.getElem?_eq_getElem]⟩
      obtain ⟨d0, hd0⟩ := cellEx 0 (by omega)
      obtain ⟨d1, hd1⟩ := cellEx 1 (by omega)
      obtain ⟨d2, hd2⟩ := cellEx 2 (by omega)
      obtain ⟨d3, hd3⟩ := cellEx 3 (by omega)
      obtain ⟨d4, hd4⟩ := cellEx 4 (by omega)
      obtain ⟨d5, hd5⟩ := cellEx 5 (by omega)
      obtain ⟨d6, hd6⟩ := cellEx 6 (by omega)
      obtain ⟨d7, hd7⟩ := cellEx 7 (by omega)
      have fz : ∀ j, w1.frozen? ⟨w.heap.size, j, none⟩ = false := fun j => H7.out.frozen j
      clear cellEx hle c0 c1 c2 c3 c4 c5 c6 c7 hpn hpo hpw
      rw [Nat.add_zero] at hd0
      go_wp2
      have hyl := H8.out
      refine ⟨⟨k + 1, by omega, by go_num, putL cs (k * 8) (encN p'), ys ++ [p'], ?_, by rw [putL_size]; exact H5.out, by simp [hyl], ?_, ?_, ?_, (by (repeat (first | with_reducible assumption | with_reducible exact Below.refl _ _ | with_reducible refine Below.drew ?_ | with_reducible refine bl_drewN _ ?_ | ((with_reducible refine bl_alloc ?_ _ ?_); · (first | omega | (simp; done) | (simp; omega))) | ((with_reducible refine bl_set ?_ _ ?_); · (first | omega | (simp; done) | (simp; omega))))))⟩, by simp [intOf]; omega⟩
      · exact ((((((((H7.out).set_ _ _).set_ _ _).set_ _ _).set_ _ _).set_ _ _).set_ _ _).set_ _ _).set_ _ _
      · rw [List.map_append, H9.out, List.take_add_one, List.getElem?_map, H6.out]
        simp [G1.out]
      · have := H3.out.push (x := p') (fun _ => rfl) (by rw [hyl]; have := H5.out; omega)
        rw [hyl] at this
        exact this
      · intro y hy
        rcases List.mem_append.1 hy with hy | hy
        · exact ⟨by refine OkN.set_far _ ?_ (by simp) ; refine OkN.set_far _ ?_ (by simp) ; refine OkN.set_far _ ?_ (by simp) ; refine OkN.set_far _ ?_ (by simp) ; refine OkN.set_far _ ?_ (by simp) ; refine OkN.set_far _ ?_ (by simp) ; refine OkN.set_far _ ?_ (by simp) ; refine OkN.set_far _ ?_ (by simp); exact (G4.out y hy).1, by refine WrN.set_far _ ?_ (by simp) ; refine WrN.set_far _ ?_ (by simp) ; refine WrN.set_far _ ?_ (by simp) ; refine WrN.set_far _ ?_ (by simp) ; refine WrN.set_far _ ?_ (by simp) ; refine WrN.set_far _ ?_ (by simp) ; refine WrN.set_far _ ?_ (by simp) ; refine WrN.set_far _ ?_ (by simp); exact (G4.out y hy).2⟩
        · simp at hy; subst hy
          exact ⟨by refine OkN.set_far _ ?_ (by simp) ; refine OkN.set_far _ ?_ (by simp) ; refine OkN.set_far _ ?_ (by simp) ; refine OkN.set_far _ ?_ (by simp) ; refine OkN.set_far _ ?_ (by simp) ; refine OkN.set_far _ ?_ (by simp) ; refine OkN.set_far _ ?_ (by simp) ; refine OkN.set_far _ ?_ (by simp); exact G2.out, by refine WrN.set_far _ ?_ (by simp) ; refine WrN.set_far _ ?_ (by simp) ; refine WrN.set_far _ ?_ (by simp) ; refine WrN.set_far _ ?_ (by simp) ; refine WrN.set_far _ ?_ (by simp) ; refine WrN.set_far _ ?_ (by simp) ; refine WrN.set_far _ ?_ (by simp) ; refine WrN.set_far _ ?_ (by simp); exact G3.out⟩
    · have hkk : k = xs.length := by omega
      subst hkk
      clear hmk h
      rw [List.take_of_length_le (by simp)] at hym
      have HL := Lib.hid hyl
      rw [← hyl] at hsz
      clear hyl
      have HY := Lib.hid hym
      clear hym
      go_wp2
      go_ret
      exact ⟨_, _, ys, by rw [HL.out]; rfl, HY.out, ⟨rd_of_blk hblk (Nat.le_refl _) hcs', fun y hy => (hys y hy).1.lower (by omega)⟩, ⟨fun _ => ⟨_, _, rfl, Nat.le_refl _, hblk, Nat.le_of_eq hsz.symm⟩, fun y hy => (hys y hy).2.lower (by omega)⟩, hbel⟩
def tofS (w : World) (f : LF) (e : Ending) (w' : World) : Prop := ∃ f' : LF, e = .returned (.agg #[.string f'.name, .int .i64 f'.line, .int .i64 f'.params, .bool f'.rest, .slice f'.va f'.vars.length f'.vc, .slice f'.ua f'.ups.length f'.uc, .slice f'.na f'.ns.length f'.nc]) ∧ f'.fd = f.fd ∧ OkF w' w.heap.size f' ∧ WrF w' w.heap.size f' ∧ Below w.heap.size w w'
set_option maxHeartbeats 1000000 in
theorem tof_any (f : LF) (w : World) (lo : Nat) (h : OkF w lo f) (hc : capF f) : Calls Try.prog 43 #[.agg #[.string f.name, .int .i64 f.line, .int .i64 f.params, .bool f.rest, .slice f.va f.vars.length f.vc, .slice f.ua f.ups.length f.uc, .slice f.na f.ns.length f.nc]] w (tofS w f) := by
  obtain ⟨h1, h2, h3⟩ := h
  obtain ⟨k1, k2, k3, k4⟩ := hc
  have K4 := Lib.hid k4
  have H3 := Lib.hid h3
  clear k4 h3
  go_enter Try.func43, Try.ntmps43
  go_wp2_with fail
  refine (tos_any _ _ f.vars _ lo (h1.below (by (repeat (first | with_reducible assumption | with_reducible exact Below.refl _ _ | with_reducible refine Below.drew ?_ | with_reducible refine bl_drewN _ ?_ | ((with_reducible refine bl_alloc ?_ _ ?_); · (first | omega | (simp; done) | (simp; omega))) | ((with_reducible refine bl_set ?_ _ ?_); · (first | omega | (simp; done) | (simp; omega))))))) k1).mono ?_
  rintro e w1 ⟨A1, c1, rfl, g1, q1, hb1⟩
  obtain ⟨hc1, hf1⟩ := bcell hb1
  have hq1 := hb1.size
  try simp only [dN_size, dN_cell, dN_frozen] at hc1 hf1 hq1
  try simp only [World.size_alloc] at hq1
  try simp only [World.size_setCell] at hq1
  try simp only [World.size_alloc] at hq1
  have hz1_0 : w.heap.size < w1.heap.size := by omega
  have hz1_1 : w.heap.size + 1 < w1.heap.size := by omega
  have hz1_2 : w.heap.size + 1 + 1 < w1.heap.size := by omega
  have HB1 : Below w.heap.size w w1 := Below.trans (by (repeat (first | with_reducible assumption | with_reducible exact Below.refl _ _ | with_reducible refine Below.drew ?_ | with_reducible refine bl_drewN _ ?_ | ((with_reducible refine bl_alloc ?_ _ ?_); · (first | omega | (simp; done) | (simp; omega))) | ((with_reducible refine bl_set ?_ _ ?_); · (first | omega | (simp; done) | (simp; omega)))))) (hb1.mono (by (try simp) <;> omega))
  go_wp2_with fail
  refine (tous_any _ _ f.ups _ lo (h2.below (by (repeat (first | with_reducible assumption | with_reducible exact Below.refl _ _ | with_reducible refine Below.drew ?_ | with_reducible refine bl_drewN _ ?_ | ((with_reducible refine bl_alloc ?_ _ ?_); · (first | omega | (simp; done) | (simp; omega))) | ((with_reducible refine bl_set ?_ _ ?_); · (first | omega | (simp; done) | (simp; omega))))))) k2).mono ?_
  rintro e w2 ⟨A2, c2, rfl, g2, q2, hb2⟩
  obtain ⟨hc2, hf2⟩ := bcell hb2
  have hq2 := hb2.size
  try simp only [dN_size, dN_cell, dN_frozen] at hc2 hf2 hq2
  try simp only [World.size_alloc] at hq2
  try simp only [World.size_setCell] at hq2
  try simp only [World.size_alloc] at hq2
  have hz2_0 : w.heap.size < w2.heap.size := by omega
  have hz2_1 : w.heap.size + 1 < w2.heap.size := by omega
  have hz2_2 : w.heap.size + 1 + 1 < w2.heap.size := by omega
  have HB2 : Below w.heap.size w w2 := Below.trans (by (repeat (first | with_reducible assumption | with_reducible exact Below.refl _ _ | with_reducible refine Below.drew ?_ | with_reducible refine bl_drewN _ ?_ | ((with_reducible refine bl_alloc ?_ _ ?_); · (first | omega | (simp; done) | (simp; omega))) | ((with_reducible refine bl_set ?_ _ ?_); · (first | omega | (simp; done) | (simp; omega)))))) (hb2.mono (by (try simp) <;> omega))
  go_wp2_with fail
  refine (tons_any _ _ f.ns _ lo (H3.out.below (by (repeat (first | with_reducible assumption | with_reducible exact Below.refl _ _ | with_reducible refine Below.drew ?_ | with_reducible refine bl_drewN _ ?_ | ((with_reducible refine bl_alloc ?_ _ ?_); · (first | omega | (simp; done) | (simp; omega))) | ((with_reducible refine bl_set ?_ _ ?_); · (first | omega | (simp; done) | (simp; omega))))))) K4.out k3).mono ?_
  rintro e w3 ⟨A3, c3, ys, rfl, hm, g3, q3, hb3⟩
  obtain ⟨hc3, hf3⟩ := bcell hb3
  have hq3 := hb3.size
  try simp only [dN_size, dN_cell, dN_frozen] at hc3 hf3 hq3
  try simp only [World.size_alloc] at hq3
  try simp only [World.size_setCell] at hq3
  try simp only [World.size_alloc] at hq3
  have hz3_0 : w.heap.size < w3.heap.size := by omega
  have hz3_1 : w.heap.size + 1 < w3.heap.size := by omega
  have hz3_2 : w.heap.size + 1 + 1 < w3.heap.size := by omega
  have HB3 : Below w.heap.size w w3 := Below.trans (by (repeat (first | with_reducible assumption | with_reducible exact Below.refl _ _ | with_reducible refine Below.drew ?_ | with_reducible refine bl_drewN _ ?_ | ((with_reducible refine bl_alloc ?_ _ ?_); · (first | omega | (simp; done) | (simp; omega))) | ((with_reducible refine bl_set ?_ _ ?_); · (first | omega | (simp; done) | (simp; omega)))))) (hb3.mono (by (try simp) <;> omega))
  have HM := Lib.hid hm
  have G3 := Lib.hid g3; have Q3 := Lib.hid q3
  clear hm g3 q3
  simp only [World.size_alloc] at g1 q1
  simp only [World.size_setCell] at g2 q2
  go_wp2
  refine bodyPost_ret (by simp [results, Try.results43, go_sem, *]; rfl) rfl ?_
  have g3 := G3.out; have q3 := Q3.out
  simp only [World.size_setCell] at g3 q3
  refine ⟨⟨f.name, f.line, f.params, f.rest, f.vars, A1, c1, f.ups, A2, c2, ys, A3, c3⟩, rfl, by simp [LF.fd, HM.out], ⟨(by (refine RdL.lower (lo := w.heap.size + 1 + 1 + 1) ?_ (by omega)); repeat (first | with_reducible exact g1 | ((with_reducible refine RdL.set_far ?_ ?_ _); rotate_left; · (first | (simp; done) | omega | (simp <;> omega))) | with_reducible refine RdL.alloc ?_ _ | with_reducible refine RdL.below ?_ hb2 | with_reducible refine RdL.below ?_ hb3)), (by (refine RdL.lower (lo := w1.heap.size) ?_ (by omega)); repeat (first | with_reducible exact g2 | ((with_reducible refine RdL.set_far ?_ ?_ _); rotate_left; · (first | (simp; done) | omega | (simp <;> omega))) | with_reducible refine RdL.alloc ?_ _ | with_reducible refine RdL.below ?_ hb3)), ?_⟩, ⟨(by (refine Wr.lower (lo := w.heap.size + 1 + 1 + 1) ?_ (by omega)); repeat (first | with_reducible exact q1 | ((with_reducible refine Wr.set_far ?_ ?_ _); rotate_left; · (first | (simp; done) | omega | (simp <;> omega))) | with_reducible refine Wr.alloc ?_ _ | with_reducible refine Wr.below ?_ hb2 | with_reducible refine Wr.below ?_ hb3)), (by (refine Wr.lower (lo := w1.heap.size) ?_ (by omega)); repeat (first | with_reducible exact q2 | ((with_reducible refine Wr.set_far ?_ ?_ _); rotate_left; · (first | (simp; done) | omega | (simp <;> omega))) | with_reducible refine Wr.alloc ?_ _ | with_reducible refine Wr.below ?_ hb3)), ?_⟩, (by (repeat (first | with_reducible assumption | with_reducible exact Below.refl _ _ | with_reducible refine Below.drew ?_ | with_reducible refine bl_drewN _ ?_ | ((with_reducible refine bl_alloc ?_ _ ?_); · (first | omega | (simp; done) | (simp; omega))) | ((with_reducible refine bl_set ?_ _ ?_); · (first | omega | (simp; done) | (simp; omega))))))⟩
  · refine RdN.lower (lo := w2.heap.size) ?_ (by omega)
    repeat (first | with_reducible exact g3 | ((with_reducible refine RdN.set_far _ ?_ ?_); rotate_left; · (first | (simp; done) | omega | (simp <;> omega))))
  · refine WrNs.lower (lo := w2.heap.size) ?_ (by omega)
    repeat (first | with_reducible exact q3 | ((with_reducible refine WrNs.set_far _ ?_ ?_); rotate_left; · (first | (simp; done) | omega | (simp <;> omega))))
theorem info47 : (Try.prog.info? 47).map (fun i => (i.zero, i.size, i.bytes)) = some (some (Value.agg #[.string ⟨#[]⟩, .int .i64 0, .int .i64 0, .bool false, .slice none 0 0, .slice none 0 0, .slice none 0 0]), 7, 112) := by kernel_rfl
def tofsS (w : World) (xs : List LF) (e : Ending) (w' : World) : Prop := ∃ A c, ∃ ys : List LF, e = .returned (.slice A ys.length c) ∧ ys.map LF.fd = xs.map LF.fd ∧ RdF w' w.heap.size A ys ∧ WrFs w' w.heap.size A ys ∧ Below w.heap.size w w'
set_option maxHeartbeats 1000000 in
theorem tofs_any (A : Option Addr) (c : Nat) (xs : List LF) (w : World) (lo : Nat) (h : RdF w lo A xs) (hcap : ∀ x ∈ xs, capF x) (hn : xs.length ≤ 1048576) :
    Calls Try.prog 21 #[.slice A xs.length c] w (tofsS w xs) := by
  obtain ⟨i0, hi0, hz0, hz1, hz2⟩ := info_parts info47
  have hmk := fun (W : World) => run_make (P := Try.prog) W 29 47 i0 _ Try.underlying29 hi0 hz0 .i64 .i64 (xs.length : Int) (xs.length : Int) (by omega) (by omega) (by rw [hz2]; omega) (by omega)
  rw [hz1, Int.toNat_natCast] at hmk
  have hcs : (madeCells (Value.cells (Value.agg #[.string ⟨#[]⟩, .int .i64 0, .int .i64 0, .bool false, .slice none 0 0, .slice none 0 0, .slice none 0 0])) (xs.length * 7)).size = xs.length * 7 := by simp [madeCells]
  generalize hc0 : madeCells (Value.cells (Value.agg #[.string ⟨#[]⟩, .int .i64 0, .int .i64 0, .bool false, .slice none 0 0, .slice none 0 0, .slice none 0 0])) (xs.length * 7) = cs0 at *
  clear hc0 hz0 hz1 hz2 hi0
  go_enter Try.func21, Try.ntmps21
  go_wp2
  go_loopw [4] (fun i wr => ∃ k : Nat, k ≤ xs.length ∧ i = .int .i64 k ∧ ∃ (cs : Array Value) (ys : List LF), Blk wr w.heap.size 47 cs ∧ cs.size = xs.length * 7 ∧ ys.length = k ∧ ys.map LF.fd = (xs.map LF.fd).take k ∧ Full encF 7 cs ys ys.length ∧ (∀ y ∈ ys, OkF wr (w.heap.size + 1) y ∧ WrF wr (w.heap.size + 1) y) ∧ Below w.heap.size w wr) (fun i _ => xs.length - (intOf i).toNat)
  case atStart => exact ⟨0, Nat.zero_le _, rfl, cs0, [], Blk.new _ _ _, hcs, rfl, rfl, Full.zero, by simp, below_new _ _⟩
  case round =>
    obtain ⟨k, hk, rfl, cs, ys, hblk, hsz, hyl, hym, hcs', hys, hbel⟩ := hrel
    by_cases hlt : k < xs.length
    · obtain ⟨p, hpk⟩ : ∃ p, xs[k]? = some p := ⟨_, List.getElem?_eq_getElem hlt⟩
      obtain ⟨b, off, rfl, hlo, hb, c0, c1, c2, c3, c4, c5, c6, hok⟩ := rdF_at (h.below hbel) hpk
      have hgl := hblk.lt
      have HC := Lib.hid (hcap p (List.mem_of_getElem? hpk))
      have H1 := Lib.hid h; have H2 := Lib.hid hblk; have H3 := Lib.hid hcs'; have H5 := Lib.hid hsz; have H6 := Lib.hid hpk; have H8 := Lib.hid hyl; have H9 := Lib.hid hym; have H10 := Lib.hid hys; have H11 := Lib.hid hok
      clear h hblk hcs' hmk hsz hpk hyl hym hys hok hcap
      go_wp2_with fail
      refine (tof_any p _ _ H11.out HC.out).mono ?_
      rintro e w1 ⟨p', rfl, hpn, hpo, hpw, hb1⟩
      have H7 := Lib.hid (H2.out.below hb1 hgl)
      have HB1 : Below w.heap.size w w1 := hbel.trans (hb1.mono hbel.size)
      have G1 := Lib.hid hpn; have G2 := Lib.hid (hpo.lower (show w.heap.size + 1 ≤ wr.heap.size by omega)); have G3 := Lib.hid (hpw.lower (show w.heap.size + 1 ≤ wr.heap.size by omega))
      have G4 := Lib.hid (fun y hy => (⟨(H10.out y hy).1.below hb1, (H10.out y hy).2.below hb1⟩ : OkF w1 (w.heap.size + 1) y ∧ WrF w1 (w.heap.size + 1) y))
      have hle : k * 7 + 7 ≤ cs.size := by have := H5.out; omega
      have cellEx : ∀ j, j < 7 → ∃ u, w1.cell? ⟨w.heap.size, k * 7 + j, none⟩ = some u := fun j hj => ⟨cs[k * 7 + j]'(by omega), by rw [H7.out.cell, Array.getElem?_eq_getElem]⟩
      obtain ⟨d0, hd0⟩ := cellEx 0 (by omega)
      obtain ⟨d1, hd1⟩ := cellEx 1 (by omega)
      obtain ⟨d2, hd2⟩ := cellEx 2 (by omega)
      obtain ⟨d3, hd3⟩ := cellEx 3 (by omega)
      obtain ⟨d4, hd4⟩ := cellEx 4 (by omega)
      obtain ⟨d5, hd5⟩ := cellEx 5 (by omega)
      obtain ⟨d6, hd6⟩ := cellEx 6 (by omega)
      have fz : ∀ j, w1.frozen? ⟨w.heap.size, j, none⟩ = false := fun j => H7.out.frozen j
      clear cellEx hle c0 c1 c2 c3 c4 c5 c6 hpn hpo hpw
      rw [Nat.add_zero] at hd0
      go_wp2
      have hyl := H8.out
      refine ⟨⟨k + 1, by omega, by go_num, putL cs (k * 7) (encF p'), ys ++ [p'], ?_, by rw [putL_size]; exact H5.out, by simp [hyl], ?_, ?_, ?_, (by (repeat (first | with_reducible assumption | with_reducible exact Below.refl _ _ | with_reducible refine Below.drew ?_ | with_reducible refine bl_drewN _ ?_ | ((with_reducible refine bl_alloc ?_ _ ?_); · (first | omega | (simp; done) | (simp; omega))) | ((with_reducible refine bl_set ?_ _ ?_); · (first | omega | (simp; done) | (simp; omega))))))⟩, by simp [intOf]; omega⟩
      · exact (((((((H7.out).set_ _ _).set_ _ _).set_ _ _).set_ _ _).set_ _ _).set_ _ _).set_ _ _
      · rw [List.map_append, H9.out, List.take_add_one, List.getElem?_map, H6.out]
        simp [G1.out]
      · have := H3.out.push (x := p') (fun _ => rfl) (by rw [hyl]; have := H5.out; omega)
        rw [hyl] at this
        exact this
      · intro y hy
        rcases List.mem_append.1 hy with hy | hy
        · exact ⟨by refine OkF.set_far _ ?_ (by simp) ; refine OkF.set_far _ ?_ (by simp) ; refine OkF.set_far _ ?_ (by simp) ; refine OkF.set_far _ ?_ (by simp) ; refine OkF.set_far _ ?_ (by simp) ; refine OkF.set_far _ ?_ (by simp) ; refine OkF.set_far _ ?_ (by simp); exact (G4.out y hy).1, by refine WrF.set_far _ ?_ (by simp) ; refine WrF.set_far _ ?_ (by simp) ; refine WrF.set_far _ ?_ (by simp) ; refine WrF.set_far _ ?_ (by simp) ; refine WrF.set_far _ ?_ (by simp) ; refine WrF.set_far _ ?_ (by simp) ; refine WrF.set_far _ ?_ (by simp); exact (G4.out y hy).2⟩
        · simp at hy; subst hy
          exact ⟨by refine OkF.set_far _ ?_ (by simp) ; refine OkF.set_far _ ?_ (by simp) ; refine OkF.set_far _ ?_ (by simp) ; refine OkF.set_far _ ?_ (by simp) ; refine OkF.set_far _ ?_ (by simp) ; refine OkF.set_far _ ?_ (by simp) ; refine OkF.set_far _ ?_ (by simp); exact G2.out, by refine WrF.set_far _ ?_ (by simp) ; refine WrF.set_far _ ?_ (by simp) ; refine WrF.set_far _ ?_ (by simp) ; refine WrF.set_far _ ?_ (by simp) ; refine WrF.set_far _ ?_ (by simp) ; refine WrF.set_far _ ?_ (by simp) ; refine WrF.set_far _ ?_ (by simp); exact G3.out⟩
    · have hkk : k = xs.length := by omega
      subst hkk
      clear hmk h
      rw [List.take_of_length_le (by simp)] at hym
      have HL := Lib.hid hyl
      rw [← hyl] at hsz
      clear hyl
      have HY := Lib.hid hym
      clear hym
      go_wp2
      go_ret
      exact ⟨_, _, ys, by rw [HL.out]; rfl, HY.out, ⟨rd_of_blk hblk (Nat.le_refl _) hcs', fun y hy => (hys y hy).1.lower (by omega)⟩, ⟨fun _ => ⟨_, _, rfl, Nat.le_refl _, hblk, Nat.le_of_eq hsz.symm⟩, fun y hy => (hys y hy).2.lower (by omega)⟩, hbel⟩
def toUnS (w : World) (xs : List LF) (e : Ending) (w' : World) : Prop := ∃ A c, ∃ ys : List LF, e = .returned (.agg #[.slice A ys.length c]) ∧ ys.map LF.fd = xs.map LF.fd ∧ RdF w' w.heap.size A ys ∧ WrFs w' w.heap.size A ys ∧ Below w.heap.size w w'
theorem toun_any (A : Option Addr) (c : Nat) (xs : List LF) (w : World) (lo : Nat) (h : RdF w lo A xs) (hcap : ∀ x ∈ xs, capF x) (hn : xs.length ≤ 1048576) : Calls Try.prog 7 #[.agg #[.slice A xs.length c]] w (toUnS w xs) := by
  have HC := Lib.hid hcap
  have H := Lib.hid h
  clear hcap h
  go_enter Try.func7, Try.ntmps7
  go_wp2_with fail
  refine (tofs_any _ _ xs _ lo (H.out.below (by (repeat (first | with_reducible assumption | with_reducible exact Below.refl _ _ | with_reducible refine Below.drew ?_ | with_reducible refine bl_drewN _ ?_ | ((with_reducible refine bl_alloc ?_ _ ?_); · (first | omega | (simp; done) | (simp; omega))) | ((with_reducible refine bl_set ?_ _ ?_); · (first | omega | (simp; done) | (simp; omega))))))) HC.out hn).mono ?_
  rintro e w1 ⟨A1, c1, ys, rfl, hm, g1, q1, hb1⟩
  obtain ⟨hc1, hf1⟩ := bcell hb1
  have hq1 := hb1.size
  try simp only [dN_size, dN_cell, dN_frozen] at hc1 hf1 hq1
  try simp only [World.size_alloc] at hq1
  try simp only [World.size_setCell] at hq1
  try simp only [World.size_alloc] at hq1
  have hz1_0 : w.heap.size < w1.heap.size := by omega
  have hz1_1 : w.heap.size + 1 < w1.heap.size := by omega
  have hz1_2 : w.heap.size + 1 + 1 < w1.heap.size := by omega
  have HB1 : Below w.heap.size w w1 := Below.trans (by (repeat (first | with_reducible assumption | with_reducible exact Below.refl _ _ | with_reducible refine Below.drew ?_ | with_reducible refine bl_drewN _ ?_ | ((with_reducible refine bl_alloc ?_ _ ?_); · (first | omega | (simp; done) | (simp; omega))) | ((with_reducible refine bl_set ?_ _ ?_); · (first | omega | (simp; done) | (simp; omega)))))) (hb1.mono (by (try simp) <;> omega))
  have HM := Lib.hid hm
  have G1 := Lib.hid g1; have Q1 := Lib.hid q1
  clear hm g1 q1
  go_wp2
  refine bodyPost_ret (by simp [results, Try.results7, go_sem, *]; rfl) rfl ?_
  have g1 := G1.out; have q1 := Q1.out
  simp only [World.size_alloc] at g1 q1
  obtain ⟨g1a, g1b⟩ := g1
  obtain ⟨q1a, q1b⟩ := q1
  refine ⟨A1, c1, ys, rfl, HM.out, ?_, ?_, (by (repeat (first | with_reducible assumption | with_reducible exact Below.refl _ _ | with_reducible refine Below.drew ?_ | with_reducible refine bl_drewN _ ?_ | ((with_reducible refine bl_alloc ?_ _ ?_); · (first | omega | (simp; done) | (simp; omega))) | ((with_reducible refine bl_set ?_ _ ?_); · (first | omega | (simp; done) | (simp; omega))))))⟩
  · refine ⟨?_, fun y hy => ?_⟩
    · (refine RdL.lower (lo := w.heap.size + 1 + 1 + 1) ?_ (by omega)); repeat (first | with_reducible exact g1a | ((with_reducible refine RdL.set_far ?_ ?_ _); rotate_left; · (first | (simp; done) | omega | (simp <;> omega))) | with_reducible refine RdL.alloc ?_ _)
    · refine OkF.lower (lo := w.heap.size + 1 + 1 + 1) ?_ (by omega)
      repeat (first | with_reducible exact g1b y hy | ((with_reducible refine OkF.set_far _ ?_ ?_); rotate_left; · (first | (simp; done) | omega | (simp <;> omega))))
  · refine ⟨?_, fun y hy => ?_⟩
    · (refine Wr.lower (lo := w.heap.size + 1 + 1 + 1) ?_ (by omega)); repeat (first | with_reducible exact q1a | ((with_reducible refine Wr.set_far ?_ ?_ _); rotate_left; · (first | (simp; done) | omega | (simp <;> omega))) | with_reducible refine Wr.alloc ?_ _)
    · refine WrF.lower (lo := w.heap.size + 1 + 1 + 1) ?_ (by omega)
      repeat (first | with_reducible exact q1b y hy | ((with_reducible refine WrF.set_far _ ?_ ?_); rotate_left; · (first | (simp; done) | omega | (simp <;> omega))))
end Go.Proofs.Ytcpjplkbmflglaa
