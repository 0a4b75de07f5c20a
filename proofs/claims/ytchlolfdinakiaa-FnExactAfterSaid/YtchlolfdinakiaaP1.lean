/- Lists of pairs and tables: copy, comparison, size guard. -/
import Derived.Test.YtchlolfdinakiaaP0
import Derived.Test.YtchlolfdinakiaaS1
namespace Go.Proofs.Ytchlolfdinakiaa
open Go.RowKit
attribute [local go_sem] run_store_float

/-- A row of cells laid into an array. -/
def putL (cs : Array Value) (o : Nat) : List Value → Array Value
  | [] => cs
  | v :: r => putL (cs.setIfInBounds o v) (o + 1) r
theorem putL_size (l : List Value) : ∀ (cs : Array Value) (o : Nat), (putL cs o l).size = cs.size := by
  induction l with
  | nil => intro cs o; rfl
  | cons v r ih => intro cs o; unfold putL; rw [ih]; simp
theorem putL_old (l : List Value) : ∀ (cs : Array Value) (o i : Nat), i < o → (putL cs o l)[i]? = cs[i]? := by
  induction l with
  | nil => intro cs o i _; rfl
  | cons v r ih => intro cs o i h; unfold putL; rw [ih _ _ _ (by omega), Array.getElem?_setIfInBounds_ne (by omega)]
theorem putL_new (l : List Value) : ∀ (cs : Array Value) (o : Nat), o + l.length ≤ cs.size → ∀ j u, l[j]? = some u → (putL cs o l)[o + j]? = some u := by
  induction l with
  | nil => intro cs o _ j u h; simp at h
  | cons v r ih =>
    intro cs o hs j u h
    unfold putL
    simp only [List.length_cons] at hs
    cases j with
    | zero =>
      simp at h; subst h
      rw [putL_old _ _ _ _ (by omega)]
      have hlt : o < cs.size := by omega
      simp [hlt]
    | succ j =>
      have := ih (cs.setIfInBounds o v) (o + 1) (by simp; omega) j u (by simpa using h)
      rw [show o + (j + 1) = o + 1 + j from by omega]
      exact this
theorem Full.put {α : Type} {enc : α → List Value} {sz : Nat} {cs : Array Value} {xs : List α} {k : Nat} {x : α} (h : Full enc sz cs xs k) (hx : xs[k]? = some x) (hlen : ∀ x, (enc x).length = sz) (hs : cs.size = xs.length * sz) : Full enc sz (putL cs (k * sz) (enc x)) xs (k + 1) := by
  have hk := (List.getElem?_eq_some_iff.1 hx).1
  have hm := Nat.mul_le_mul_right sz (show k + 1 ≤ xs.length by omega)
  rw [Nat.add_mul, Nat.one_mul] at hm
  refine h.step (fun x => Nat.le_of_eq (hlen x)) (fun i hi => putL_old _ _ _ _ hi) (fun y hy j u hu => ?_)
  rw [hx] at hy; cases hy
  exact putL_new _ _ _ (by rw [hlen]; omega) j u hu

theorem info58 : (Try.prog.info? 58).map (fun i => (i.zero, i.size, i.bytes)) = some (some (.agg #[.int .i64 0, .int .i64 0, .float .f64 0, .string ⟨#[]⟩, .int .i64 0, .int .i64 0, .int .i64 0, .float .f64 0, .string ⟨#[]⟩, .int .i64 0, .int .i64 0]), 11, 104) := by kernel_rfl

def PsS (w : World) (ps : List Pr) (e : Ending) (w' : World) : Prop := ∃ A c, e = .returned (.slice A ps.length c) ∧ RdL encP 11 w' w.heap.size A ps ∧ Below w.heap.size w w'


theorem tops_any (A : Option Addr) (c : Nat) (ps : List Pr) (w : World) (lo : Nat) (h : RdL encP 11 w lo A ps) (hn : ps.length ≤ 1048576) :
    Calls Try.prog 68 #[.slice A ps.length c] w (PsS w ps) := by
  obtain ⟨i0, hi0, hz0, hz1, hz2⟩ := info_parts info58
  have hmk := fun (W : World) => run_make (P := Try.prog) W 51 58 i0 _ Try.underlying51 hi0 hz0 .i64 .i64 (ps.length : Int) (ps.length : Int) (by omega) (by omega) (by rw [hz2]; omega) (by omega)
  rw [hz1, Int.toNat_natCast] at hmk
  have hcs : (madeCells (Value.agg #[.int .i64 0, .int .i64 0, .float .f64 0, .string ⟨#[]⟩, .int .i64 0, .int .i64 0, .int .i64 0, .float .f64 0, .string ⟨#[]⟩, .int .i64 0, .int .i64 0]).cells (ps.length * 11)).size = ps.length * 11 := by simp [madeCells]
  generalize hc0 : madeCells (Value.agg #[.int .i64 0, .int .i64 0, .float .f64 0, .string ⟨#[]⟩, .int .i64 0, .int .i64 0, .int .i64 0, .float .f64 0, .string ⟨#[]⟩, .int .i64 0, .int .i64 0]).cells (ps.length * 11) = cs0 at *
  clear hc0 hz0 hz1 hz2 hi0
  go_enter Try.func68, Try.ntmps68
  go_wp2
  go_loopw [4] (fun i wr => ∃ k : Nat, k ≤ ps.length ∧ i = .int .i64 k ∧ ∃ cs : Array Value, Blk wr w.heap.size 58 cs ∧ cs.size = ps.length * 11 ∧ Full encP 11 cs ps k ∧ Below w.heap.size w wr) (fun i _ => ps.length - (intOf i).toNat)
  case atStart => exact ⟨0, Nat.zero_le _, rfl, cs0, Blk.new _ _ _, hcs, Full.zero, below_new _ _⟩
  case round =>
    obtain ⟨k, hk, rfl, cs, hblk, hsz, hcs', hbel⟩ := hrel
    by_cases hlt : k < ps.length
    · obtain ⟨p, hpk⟩ : ∃ p, ps[k]? = some p := ⟨_, List.getElem?_eq_getElem hlt⟩
      obtain ⟨b, off, rfl, hlo, hb, c0, c1, c2, c3, c4, c5, c6, c7, c8, c9, c10⟩ := rdP_at (h.below hbel) hpk
      have hgl := hblk.lt
      have H1 := Lib.hid h; have H2 := Lib.hid hblk; have H3 := Lib.hid hcs'; have H5 := Lib.hid hsz; have H6 := Lib.hid hpk
      clear h hblk hcs' hmk hsz hpk
      go_wp2_with fail
      refine (top_any p _).mono ?_
      rintro e w1 ⟨rfl, hb1⟩
      have H7 := Lib.hid (H2.out.below hb1 hgl)
      have HB1 : Below w.heap.size w w1 := hbel.trans (hb1.mono hbel.size)
      have hle : k * 11 + 11 ≤ cs.size := by have := H5.out; omega
      have cellEx : ∀ j, j < 11 → ∃ u, w1.cell? ⟨w.heap.size, k * 11 + j, none⟩ = some u := fun j hj => ⟨cs[k * 11 + j]'(by omega), by rw [H7.out.cell, Array.getElem?_eq_getElem]⟩
      obtain ⟨d0, hd0⟩ := cellEx 0 (by omega); obtain ⟨d1, hd1⟩ := cellEx 1 (by omega); obtain ⟨d2, hd2⟩ := cellEx 2 (by omega); obtain ⟨d3, hd3⟩ := cellEx 3 (by omega); obtain ⟨d4, hd4⟩ := cellEx 4 (by omega); obtain ⟨d5, hd5⟩ := cellEx 5 (by omega); obtain ⟨d6, hd6⟩ := cellEx 6 (by omega); obtain ⟨d7, hd7⟩ := cellEx 7 (by omega); obtain ⟨d8, hd8⟩ := cellEx 8 (by omega); obtain ⟨d9, hd9⟩ := cellEx 9 (by omega); obtain ⟨d10, hd10⟩ := cellEx 10 (by omega)
      have fz : ∀ j, w1.frozen? ⟨w.heap.size, j, none⟩ = false := fun j => H7.out.frozen j
      clear cellEx hle c0 c1 c2 c3 c4 c5 c6 c7 c8 c9 c10
      rw [Nat.add_zero] at hd0
      go_wp2
      refine ⟨⟨k + 1, by omega, by go_num, putL cs (k * 11) (encP p), ?_, by rw [putL_size]; exact H5.out, H3.out.put H6.out (fun _ => rfl) H5.out, by (repeat (first | with_reducible assumption | with_reducible exact Below.refl _ _ | with_reducible refine Below.drew ?_ | with_reducible refine bl_drewN _ ?_ | ((with_reducible refine bl_alloc ?_ _ ?_); · (first | omega | (simp; done) | (simp; omega))) | ((with_reducible refine bl_set ?_ _ ?_); · (first | omega | (simp; done) | (simp; omega)))))⟩, by simp [intOf]; omega⟩
      exact (((((((((((H7.out).set_ _ _).set_ _ _).set_ _ _).set_ _ _).set_ _ _).set_ _ _).set_ _ _).set_ _ _).set_ _ _).set_ _ _).set_ _ _
    · have hkk : k = ps.length := by omega
      subst hkk
      clear hmk h
      go_wp2
      go_ret
      exact ⟨_, _, rfl, rd_of_blk hblk (Nat.le_refl _) hcs', hbel⟩

theorem eqps_any (A A' : Option Addr) (c c' : Nat) (ps : List Pr) (w : World) (lo lo' : Nat) (h : RdL encP 11 w lo A ps) (h' : RdL encP 11 w lo' A' ps) (hn : ps.length ≤ maxLen) :
    Calls Try.prog 69 #[.slice A ps.length c, .slice A' ps.length c'] w fun e w' => e = .returned (.bool true) ∧ Below w.heap.size w w' := by
  unfold maxLen at hn
  go_enter Try.func69, Try.ntmps69
  go_wp2
  go_loopw [5] (fun i wr => ∃ k : Nat, k ≤ ps.length ∧ i = .int .i64 k ∧ Below w.heap.size w wr) (fun i _ => ps.length - (intOf i).toNat)
  case atStart => exact ⟨0, Nat.zero_le _, rfl, Below.refl _ _⟩
  case round =>
    obtain ⟨k, hk, rfl, hbel⟩ := hrel
    by_cases hlt : k < ps.length
    · obtain ⟨p, hpk⟩ : ∃ p, ps[k]? = some p := ⟨_, List.getElem?_eq_getElem hlt⟩
      obtain ⟨b, off, rfl, hlo, hb, c0, c1, c2, c3, c4, c5, c6, c7, c8, c9, c10⟩ := rdP_at (h.below hbel) hpk
      obtain ⟨b', off', rfl, hlo', hb', d0, d1, d2, d3, d4, d5, d6, d7, d8, d9, d10⟩ := rdP_at (h'.below hbel) hpk
      clear h h' hpk
      have k1 : (0 : Int) ≤ k := by omega
      have k2 : (k : Int) < ps.length := by omega
      go_wp2
      go_region_held3 (fun w' => w'.cell? ⟨b, off + k * 11, none⟩ = some (.int .i64 p.kk) ∧ w'.cell? ⟨b, off + k * 11 + 1, none⟩ = some (.int .i64 p.kn) ∧ w'.cell? ⟨b, off + k * 11 + 2, none⟩ = some (.float .f64 p.kf) ∧ w'.cell? ⟨b, off + k * 11 + 3, none⟩ = some (.string p.ks) ∧ w'.cell? ⟨b, off + k * 11 + 4, none⟩ = some (.int .i64 p.kr) ∧ w'.cell? ⟨b, off + k * 11 + 5, none⟩ = some (.int .i64 p.vk) ∧ w'.cell? ⟨b, off + k * 11 + 6, none⟩ = some (.int .i64 p.vn) ∧ w'.cell? ⟨b, off + k * 11 + 7, none⟩ = some (.float .f64 p.vf) ∧ w'.cell? ⟨b, off + k * 11 + 8, none⟩ = some (.string p.vs) ∧ w'.cell? ⟨b, off + k * 11 + 9, none⟩ = some (.int .i64 p.vr) ∧ w'.cell? ⟨b, off + k * 11 + 10, none⟩ = some (.int .i64 p.turn) ∧ w'.cell? ⟨b', off' + k * 11, none⟩ = some (.int .i64 p.kk) ∧ w'.cell? ⟨b', off' + k * 11 + 1, none⟩ = some (.int .i64 p.kn) ∧ w'.cell? ⟨b', off' + k * 11 + 2, none⟩ = some (.float .f64 p.kf) ∧ w'.cell? ⟨b', off' + k * 11 + 3, none⟩ = some (.string p.ks) ∧ w'.cell? ⟨b', off' + k * 11 + 4, none⟩ = some (.int .i64 p.kr) ∧ w'.cell? ⟨b', off' + k * 11 + 5, none⟩ = some (.int .i64 p.vk) ∧ w'.cell? ⟨b', off' + k * 11 + 6, none⟩ = some (.int .i64 p.vn) ∧ w'.cell? ⟨b', off' + k * 11 + 7, none⟩ = some (.float .f64 p.vf) ∧ w'.cell? ⟨b', off' + k * 11 + 8, none⟩ = some (.string p.vs) ∧ w'.cell? ⟨b', off' + k * 11 + 9, none⟩ = some (.int .i64 p.vr) ∧ w'.cell? ⟨b', off' + k * 11 + 10, none⟩ = some (.int .i64 p.turn)) (simp [go_sem, *]) ((go_at_call 72; refine (eqp_any p _).mono ?_; rintro e w1 ⟨rfl, hb1⟩; replace hb1 := bl_undrew hb1; obtain ⟨hc1, hf1⟩ := bcell hb1; have HB1 : Below w.heap.size w w1 := hbel.trans (hb1.mono hbel.size)))
      go_wp2
      exact ⟨⟨k + 1, by omega, by go_num, HB1⟩, by simp [intOf]; omega⟩
    · have hkk : k = ps.length := by omega
      subst hkk
      clear h h'
      go_wp2
      go_ret
      exact ⟨rfl, hbel⟩

def TS (w : World) (ps : List Pr) (tn : Int) (e : Ending) (w' : World) : Prop := ∃ A c, e = .returned (.agg #[.slice A ps.length c, .int .i64 tn]) ∧ RdL encP 11 w' w.heap.size A ps ∧ Below w.heap.size w w'
theorem tot_any (A : Option Addr) (c : Nat) (ps : List Pr) (tn : Int) (w : World) (lo : Nat) (h : RdL encP 11 w lo A ps) (hn : ps.length ≤ 1048576) :
    Calls Try.prog 30 #[.agg #[.slice A ps.length c, .int .i64 tn]] w (TS w ps tn) := by
  go_enter Try.func30, Try.ntmps30
  go_wp2_with fail
  refine (tops_any _ _ ps _ lo (h.below (by (repeat (first | with_reducible assumption | with_reducible exact Below.refl _ _ | with_reducible refine Below.drew ?_ | with_reducible refine bl_drewN _ ?_ | ((with_reducible refine bl_alloc ?_ _ ?_); · (first | omega | (simp; done) | (simp; omega))) | ((with_reducible refine bl_set ?_ _ ?_); · (first | omega | (simp; done) | (simp; omega))))))) hn).mono ?_
  rintro e w1 ⟨A1, c1, rfl, g1, hb1⟩
  obtain ⟨hc1, hf1⟩ := bcell hb1
  have hq1 := hb1.size
  try simp only [dN_size, dN_cell, dN_frozen] at hc1 hf1 hq1
  try simp only [World.size_alloc] at hq1
  try simp only [World.size_setCell] at hq1
  have hz1_0 : w.heap.size < w1.heap.size := by omega
  have hz1_1 : w.heap.size + 1 < w1.heap.size := by omega
  have hz1_2 : w.heap.size + 1 + 1 < w1.heap.size := by omega
  have HB1 : Below w.heap.size w w1 := Below.trans (by (repeat (first | with_reducible assumption | with_reducible exact Below.refl _ _ | with_reducible refine Below.drew ?_ | with_reducible refine bl_drewN _ ?_ | ((with_reducible refine bl_alloc ?_ _ ?_); · (first | omega | (simp; done) | (simp; omega))) | ((with_reducible refine bl_set ?_ _ ?_); · (first | omega | (simp; done) | (simp; omega)))))) (hb1.mono (by (try simp) <;> omega))
  clear hb1
  simp only [World.size_alloc] at g1
  go_wp2
  refine bodyPost_ret (by simp [results, Try.results30, go_sem, *]; rfl) rfl ?_
  exact ⟨_, _, rfl, by (refine RdL.lower (lo := w.heap.size + 1 + 1 + 1) ?_ (by omega); repeat (first | with_reducible exact g1 | ((with_reducible refine RdL.set_far ?_ ?_ _); rotate_left; · (first | (simp; done) | omega | (simp <;> omega))) | with_reducible refine RdL.alloc ?_ _)), by (repeat (first | with_reducible assumption | with_reducible exact Below.refl _ _ | with_reducible refine Below.drew ?_ | with_reducible refine bl_drewN _ ?_ | ((with_reducible refine bl_alloc ?_ _ ?_); · (first | omega | (simp; done) | (simp; omega))) | ((with_reducible refine bl_set ?_ _ ?_); · (first | omega | (simp; done) | (simp; omega)))))⟩
theorem eqt_any (A A' : Option Addr) (c c' : Nat) (ps : List Pr) (tn : Int) (w : World) (lo lo' : Nat) (h : RdL encP 11 w lo A ps) (h' : RdL encP 11 w lo' A' ps) (hn : ps.length ≤ maxLen) :
    Calls Try.prog 32 #[.agg #[.slice A ps.length c, .int .i64 tn], .agg #[.slice A' ps.length c', .int .i64 tn]] w fun e w' => e = .returned (.bool true) ∧ Below w.heap.size w w' := by
  go_enter Try.func32, Try.ntmps32
  go_wp2_with fail
  refine (eqps_any _ _ _ _ ps _ lo lo' (h.below (by (repeat (first | with_reducible assumption | with_reducible exact Below.refl _ _ | with_reducible refine Below.drew ?_ | with_reducible refine bl_drewN _ ?_ | ((with_reducible refine bl_alloc ?_ _ ?_); · (first | omega | (simp; done) | (simp; omega))) | ((with_reducible refine bl_set ?_ _ ?_); · (first | omega | (simp; done) | (simp; omega))))))) (h'.below (by (repeat (first | with_reducible assumption | with_reducible exact Below.refl _ _ | with_reducible refine Below.drew ?_ | with_reducible refine bl_drewN _ ?_ | ((with_reducible refine bl_alloc ?_ _ ?_); · (first | omega | (simp; done) | (simp; omega))) | ((with_reducible refine bl_set ?_ _ ?_); · (first | omega | (simp; done) | (simp; omega))))))) hn).mono ?_
  rintro e w1 ⟨rfl, hb1⟩
  obtain ⟨hc1, hf1⟩ := bcell hb1
  have hq1 := hb1.size
  try simp only [dN_size, dN_cell, dN_frozen] at hc1 hf1 hq1
  try simp only [World.size_alloc] at hq1
  try simp only [World.size_setCell] at hq1
  have hz1_0 : w.heap.size < w1.heap.size := by omega
  have hz1_1 : w.heap.size + 1 < w1.heap.size := by omega
  have HB1 : Below w.heap.size w w1 := Below.trans (by (repeat (first | with_reducible assumption | with_reducible exact Below.refl _ _ | with_reducible refine Below.drew ?_ | with_reducible refine bl_drewN _ ?_ | ((with_reducible refine bl_alloc ?_ _ ?_); · (first | omega | (simp; done) | (simp; omega))) | ((with_reducible refine bl_set ?_ _ ?_); · (first | omega | (simp; done) | (simp; omega)))))) (hb1.mono (by (try simp) <;> omega))
  clear hb1
  go_wp2
  go_ret
  exact ⟨rfl, HB1⟩
theorem szt_any (A : Option Addr) (c : Nat) (ps : List Pr) (tn left : Int) (w : World) (lo : Nat) (h : RdL encP 11 w lo A ps) (hx : ∀ p ∈ ps, fitP p) (hn : ps.length ≤ maxLen) (h0 : 0 ≤ left) (h1 : left ≤ 1048576) :
    Calls Try.prog 28 #[.agg #[.slice A ps.length c, .int .i64 tn], .int .i64 left] w fun e w' => e = .returned (.int .i64 (szPS ps left)) ∧ Below w.heap.size w w' := by
  by_cases hz : szPS ps left < 0
  · have hz' : szPS ps left = -1 := by unfold szPS at *; unfold negOr at *; split at hz <;> simp_all
    go_enter Try.func28, Try.ntmps28
    go_wp2_with fail
    refine (szps_any _ _ ps _ _ lo (h.below (by (repeat (first | with_reducible assumption | with_reducible exact Below.refl _ _ | with_reducible refine Below.drew ?_ | with_reducible refine bl_drewN _ ?_ | ((with_reducible refine bl_alloc ?_ _ ?_); · (first | omega | (simp; done) | (simp; omega))) | ((with_reducible refine bl_set ?_ _ ?_); · (first | omega | (simp; done) | (simp; omega))))))) hx hn h0 h1).mono ?_
    rintro e w1 ⟨rfl, hb1⟩
    obtain ⟨hc1, hf1⟩ := bcell hb1
    have hq1 := hb1.size
    try simp only [dN_size, dN_cell, dN_frozen] at hc1 hf1 hq1
    try simp only [World.size_alloc] at hq1
    try simp only [World.size_setCell] at hq1
    have hz1_0 : w.heap.size < w1.heap.size := by omega
    have HB1 : Below w.heap.size w w1 := Below.trans (by (repeat (first | with_reducible assumption | with_reducible exact Below.refl _ _ | with_reducible refine Below.drew ?_ | with_reducible refine bl_drewN _ ?_ | ((with_reducible refine bl_alloc ?_ _ ?_); · (first | omega | (simp; done) | (simp; omega))) | ((with_reducible refine bl_set ?_ _ ?_); · (first | omega | (simp; done) | (simp; omega)))))) (hb1.mono (by (try simp) <;> omega))
    clear hb1
    go_wp2
    go_ret
    exact ⟨by rw [hz']; rfl, HB1⟩
  · go_enter Try.func28, Try.ntmps28
    go_wp2_with fail
    refine (szps_any _ _ ps _ _ lo (h.below (by (repeat (first | with_reducible assumption | with_reducible exact Below.refl _ _ | with_reducible refine Below.drew ?_ | with_reducible refine bl_drewN _ ?_ | ((with_reducible refine bl_alloc ?_ _ ?_); · (first | omega | (simp; done) | (simp; omega))) | ((with_reducible refine bl_set ?_ _ ?_); · (first | omega | (simp; done) | (simp; omega))))))) hx hn h0 h1).mono ?_
    rintro e w1 ⟨rfl, hb1⟩
    obtain ⟨hc1, hf1⟩ := bcell hb1
    have hq1 := hb1.size
    try simp only [dN_size, dN_cell, dN_frozen] at hc1 hf1 hq1
    try simp only [World.size_alloc] at hq1
    try simp only [World.size_setCell] at hq1
    have hz1_0 : w.heap.size < w1.heap.size := by omega
    have HB1 : Below w.heap.size w w1 := Below.trans (by (repeat (first | with_reducible assumption | with_reducible exact Below.refl _ _ | with_reducible refine Below.drew ?_ | with_reducible refine bl_drewN _ ?_ | ((with_reducible refine bl_alloc ?_ _ ?_); · (first | omega | (simp; done) | (simp; omega))) | ((with_reducible refine bl_set ?_ _ ?_); · (first | omega | (simp; done) | (simp; omega)))))) (hb1.mono (by (try simp) <;> omega))
    clear hb1
    go_wp2
    go_ret
    exact ⟨rfl, HB1⟩
end Go.Proofs.Ytchlolfdinakiaa
