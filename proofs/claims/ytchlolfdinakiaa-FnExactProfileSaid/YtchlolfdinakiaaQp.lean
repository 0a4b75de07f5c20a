/- Profile of the reference. -/
import Derived.Test.YtchlolfdinakiaaQc
import Derived.Maps.AppendAt
import Derived.IntWalk
import Derived.OwnWalk
namespace Go.Proofs.Ytchlolfdinakiaa.Q
open Go.RowKit
attribute [local go_sem] run_store_float
theorem But.row {P : Nat → Prop} {w w' : World} {base : Nat} {e : TypeId} {size n : Nat} {v : Value} {xs : List Value} (h : But P w w') (hO : w.ownsRow base e size v n xs) (hp : ∀ g, v.ownBlock = some g → ¬ P g) : w'.ownsRow base e size v n xs := by
  refine ⟨hO.1, hO.2.imp id ?_⟩
  rintro ⟨g, cap, cur, rfl, hB, hg, r⟩
  exact ⟨g, cap, cur, rfl, hB, (h.block g (Array.getElem?_eq_some_iff.1 hg).1 (hp g rfl)).trans hg, r⟩
theorem But.of_grown {w w' : World} {row : Option Nat} (h : w.grownBy w' row) : But (fun k => row = some k) w w' :=
  ⟨h.os, h.tape, h.output, h.size, fun k hk hx => h.block k hk (fun e => hx e.symm)⟩
theorem row_blk_ne {w : World} {base : Nat} {e t : TypeId} {size n g : Nat} {v : Value} {xs : List Value} {cs : Array Value} (h : w.ownsRow base e size v n xs) (hb : Blk w g t cs) (hne : e ≠ t) : v.ownBlock ≠ some g := by
  rcases h.2 with ⟨rfl, -⟩ | ⟨g', cap, cur, rfl, -, hg, -⟩
  · simp [Value.ownBlock]
  · intro he
    have e1 : g' = g := by simpa [Value.ownBlock] using he
    subst e1
    unfold Blk at hb
    rw [hg] at hb
    injection hb with hb
    injection hb with _ hb
    exact hne hb
theorem flat_at {α : Type} (enc : α → List Value) (sz : Nat) (hlen : ∀ x, (enc x).length = sz) : ∀ (xs : List α) (i : Nat) (x : α), xs[i]? = some x → ∀ j u, (enc x)[j]? = some u → (xs.flatMap enc)[i * sz + j]? = some u
  | [], i, x, h => by simp at h
  | y :: r, 0, x, h => by
    intro j u hu
    simp at h
    subst h
    rw [List.flatMap_cons, Nat.zero_mul, Nat.zero_add, List.getElem?_append_left (List.getElem?_eq_some_iff.1 hu).1]
    exact hu
  | y :: r, i + 1, x, h => by
    intro j u hu
    rw [List.flatMap_cons, List.getElem?_append_right (by rw [hlen, Nat.add_mul]; omega), hlen]
    rw [show (i + 1) * sz + j - sz = i * sz + j by rw [Nat.add_mul]; omega]
    exact flat_at enc sz hlen r i x (by simpa using h) j u hu
theorem addr_addH (g k : Nat) : (⟨g, 0, none⟩ : Addr).add k = ⟨g, k, none⟩ := by
  by_cases h : k = 0
  · subst h; simp [Addr.add]
  · simp [Addr.add, h]
theorem ow_rd {α : Type} {enc : α → List Value} {sz B : Nat} {e : TypeId} {w : World} {v : Value} {xs : List α} (hlen : ∀ x, (enc x).length = sz) (h : w.ownsRow B e sz v xs.length (xs.flatMap enc)) :
    ∃ A c, v = .slice A xs.length c ∧ RdL enc sz w B A xs ∧ Wr w B A xs.length sz e := by
  rcases h.2 with ⟨rfl, e0⟩ | ⟨g, cap, cur, rfl, hB, hg, hnc, -, hs, -⟩
  · exact ⟨none, 0, by rw [e0], fun h0 => absurd h0 (by omega), fun h0 => absurd h0 (by omega)⟩
  · refine ⟨some ⟨g, 0, none⟩, cap, rfl, fun _ => ⟨g, 0, rfl, hB, (Array.getElem?_eq_some_iff.1 hg).1, fun i x hx j u hu => ?_⟩, fun _ => ⟨g, cur, rfl, hB, hg, by rw [hs]; exact Nat.mul_le_mul_right sz hnc⟩⟩
    have := World.ownsRow.cells h (g := g) rfl (i * sz + j) u (flat_at enc sz hlen xs i x hx j u hu)
    rw [addr_addH] at this
    rw [Nat.zero_add]
    exact this

/-- v holds these counts in a row of the call's own, from block B on. -/
def OwC (w : World) (B : Nat) (v : Value) (ps : List Ct) : Prop := w.ownsRow B 106 3 v ps.length (ps.flatMap encC)
theorem owC_push {w : World} {B : Nat} {v : Value} {ps : List Ct} {x : Ct} (h : w.ownsRow B 106 3 v (ps.length + 1) (ps.flatMap encC ++ [.int .i64 x.fn, .int .i64 x.line, .int .i64 x.hits])) : OwC w B v (ps ++ [x]) := by
  unfold OwC
  have e1 : (ps ++ [x]).length = ps.length + 1 := by simp
  have e2 : (ps ++ [x]).flatMap encC = ps.flatMap encC ++ [.int .i64 x.fn, .int .i64 x.line, .int .i64 x.hits] := by simp [encC]
  rw [e1, e2]; exact h
theorem own_in {w : World} {base : Nat} {e : TypeId} {size n : Nat} {v : Value} {xs : List Value} (h : w.ownsRow base e size v n xs) {g : Nat} (hg : v.ownBlock = some g) : base ≤ g ∧ g < w.heap.size := by
  rcases h.2 with ⟨rfl, -⟩ | ⟨g', cap, cur, rfl, hB, hh, -⟩
  · simp [Value.ownBlock] at hg
  · have e1 : g' = g := by simpa [Value.ownBlock] using hg
    subst e1
    exact ⟨hB, (Array.getElem?_eq_some_iff.1 hh).1⟩
theorem row_set {w : World} {base : Nat} {e : TypeId} {size n : Nat} {v : Value} {xs : List Value} (h : w.ownsRow base e size v n xs) {g : Nat} (hg : v.ownBlock ≠ some g) (i : Nat) (u : Value) : (w.setCell ⟨g, i, none⟩ u).ownsRow base e size v n xs :=
  ((But.refl (fun x => x = g) w).set rfl i u).row h fun _ hk e => hg (e ▸ hk)
theorem hnews_at (w : World) (cs : List Value) (g : Nat) (hg : w.heap.size = g) : ∀ j u, cs[j]? = some u → (w.alloc (.cells ⟨cs⟩ 106)).cell? ((⟨g, 0, none⟩ : Addr).add j) = some u := fun j u hj => by
  subst hg
  rw [addr_addH, (Blk.new w 106 ⟨cs⟩).cell j]; simpa using hj
theorem blk_next (w : World) {g : Nat} {t : TypeId} {cs : Array Value} (h : Blk w g t cs) (o : Obj) : Blk (w.alloc o) g t cs := h.alloc o
theorem bl_alloc2 {B : Nat} {a w : World} (h : Below B a w) (o o' : Obj) (hB : B ≤ w.heap.size) : Below B a ((w.alloc o).alloc o') := (h.alloc hB o).alloc (by simp; omega) o'
theorem box3 {w : World} {g : Nat} {t : TypeId} {a b c : Value} (hb : Blk w g t #[a, b, c]) : w.cell? ⟨g, 0, none⟩ = some a ∧ w.cell? ⟨g, 1, none⟩ = some b ∧ w.cell? ⟨g, 2, none⟩ = some c := ⟨hb.cell 0, hb.cell 1, hb.cell 2⟩
theorem info106 : (Try.prog.info? 106).map (fun i => (i.zero, i.size, i.bytes)) = some (some (.agg #[.int .i64 0, .int .i64 0, .int .i64 0]), 3, 24) := by kernel_rfl

def gtC (c : Ct) (fn line : Int) : Bool := decide (fn < c.fn) || (decide (c.fn = fn) && decide (line < c.line))
def eqC (c : Ct) (fn line : Int) : Bool := decide (c.fn = fn) && decide (c.line = line)
/-- One more hit, in a list that ascends. -/
def hitGo (fn line : Int) : Bool → List Ct → List Ct
  | put, [] => if put then [] else [⟨fn, line, 1⟩]
  | put, c :: r => if put = false ∧ gtC c fn line = true then ⟨fn, line, 1⟩ :: c :: hitGo fn line true r else if eqC c fn line then ⟨c.fn, c.line, c.hits + 1⟩ :: hitGo fn line true r else c :: hitGo fn line put r
theorem hit_ins {fn line : Int} {c : Ct} {r : List Ct} (h : gtC c fn line = true) : hitGo fn line false (c :: r) = ⟨fn, line, 1⟩ :: c :: hitGo fn line true r := by
  rw [hitGo, if_pos ⟨rfl, h⟩]
theorem hit_eq {fn line : Int} {put : Bool} {c : Ct} {r : List Ct} (h : gtC c fn line = false) (he : eqC c fn line = true) : hitGo fn line put (c :: r) = ⟨c.fn, c.line, c.hits + 1⟩ :: hitGo fn line true r := by
  rw [hitGo, if_neg (by simp [h]), if_pos he]
theorem hit_pass {fn line : Int} {put : Bool} {c : Ct} {r : List Ct} (h : put = true ∨ gtC c fn line = false) (he : eqC c fn line = false) : hitGo fn line put (c :: r) = c :: hitGo fn line put r := by
  rw [hitGo, if_neg (by rcases h with h | h <;> simp [h]), if_neg (by simp [he])]

set_option maxRecDepth 100000 in
set_option maxHeartbeats 4000000 in
theorem l5hit_any (A : Option Addr) (c : Nat) (ps : List Ct) (fn line : Int) (w : World) (lo : Nat) (h : RdL encC 3 w lo A ps) (hn : ps.length ≤ 1048576) (hh : ∀ x ∈ ps, 0 ≤ x.hits ∧ x.hits ≤ 1048576) :
    Calls Try.prog 74 #[.slice A ps.length c, .int .i64 fn, .int .i64 line] w fun e w' => ∃ v, e = .returned v ∧ OwC w' w.heap.size v (hitGo fn line false ps) ∧ Below w.heap.size w w' := by
  obtain ⟨i0, hi, hz0, hz1, hz2⟩ := info_parts info106
  go_enter Try.func74, Try.ntmps74
  go_wp2
  go_loopw [7, 8, 13] (fun o s i wr => ∃ (k : Nat) (acc : List Ct) (put : Bool) (v : Value), k ≤ ps.length ∧ i = .int .i64 k ∧ s = .bool put ∧ v = o ∧ OwC wr w.heap.size v acc ∧ hitGo fn line false ps = acc ++ hitGo fn line put (ps.drop k) ∧ acc.length ≤ k + put.toNat ∧ Below w.heap.size w wr) (fun _ _ i _ => ps.length - (intOf i).toNat)
  case atStart => exact ⟨0, [], false, _, Nat.zero_le _, rfl, rfl, rfl, World.ownsRow_nil _ _ _ _, by simp, by simp, Below.refl _ _⟩
  case round =>
    obtain ⟨k, acc, put, o, hk, rfl, rfl, rfl, hrow, hacc, hal, hbel⟩ := hrel
    by_cases hlt : k < ps.length
    · obtain ⟨p, hpk⟩ : ∃ p, ps[k]? = some p := ⟨_, List.getElem?_eq_getElem hlt⟩
      obtain ⟨b, off, rfl, hlo, hb, c0, c1, c2⟩ := rdC_at (h.below hbel) hpk
      have hdrop : ps.drop k = p :: ps.drop (k + 1) := by
        rw [List.drop_eq_getElem_cons hlt, (List.getElem?_eq_some_iff.1 hpk).2]
      have hph := hh p (List.mem_of_getElem? hpk)
      have k1 : (0 : Int) ≤ k := by omega
      have k2 : (k : Int) < ps.length := by omega
      have hwr := hbel.size
      clear h hpk hh
      obtain ⟨pf, pl, ph⟩ := p
      simp only at c0 c1 c2 hph
      rcases Int.lt_trichotomy fn pf with e1 | e1 | e1
      · have e2 : ¬ pf = fn := by omega
        cases put <;> simp only [Bool.toNat_false, Bool.toNat_true] at hal
        · have HN := Lib.hid (hnews_at (wr.alloc (.cells #[.int .i64 pf, .int .i64 pl, .int .i64 ph] 106)) [.int .i64 fn, .int .i64 line, .int .i64 1] (wr.heap.size + 1) (by simp))
          have HR := Lib.hid (World.ownsRow.alloc (World.ownsRow.alloc hrow (.cells #[.int .i64 pf, .int .i64 pl, .int .i64 ph] 106)) (.cells #[.int .i64 fn, .int .i64 line, .int .i64 1] 106))
          have HB := Lib.hid (blk_next (wr.alloc (.cells #[.int .i64 pf, .int .i64 pl, .int .i64 ph] 106)) (Blk.new wr 106 #[.int .i64 pf, .int .i64 pl, .int .i64 ph]) (.cells #[.int .i64 fn, .int .i64 line, .int .i64 1] 106))
          have HZ := Lib.hid hrow
          have HL := Lib.hid (bl_alloc2 hbel (.cells #[.int .i64 pf, .int .i64 pl, .int .i64 ph] 106) (.cells #[.int .i64 fn, .int .i64 line, .int .i64 1] 106) hbel.size)
          clear hrow hbel
          go_wp2_with (at_builtin; refine wpList_append_own_at _ rfl _ _ 68 rfl (w.heap.size) 106 i0 _ 3 24 Try.underlying68 hi hz0 hz1 hz2 rfl (by decide) _ _ _ rfl HR.out ⟨wr.heap.size + 1, 0, none⟩ 1 1 [.int .i64 fn, .int .i64 line, .int .i64 1] rfl rfl HN.out (by intro u' hu'; simp at hu'; rcases hu' with rfl | rfl | rfl <;> rfl) (by unfold maxLen; omega) (by omega) (by simp; omega) ?_; intro v2 w2 hown_w2 hgrow_w2 _ hat_w2; refine Hid.out ?_)
          refine Lib.hid ?_
          have hsz2 := hgrow_w2.size
          have hlt : ∀ g, o.ownBlock = some g → w.heap.size ≤ g ∧ g < wr.heap.size := fun g hg => own_in HZ.out hg
          have hk2 : But (fun k => o.ownBlock = some k) _ w2 := But.of_grown hgrow_w2
          have HB2 := Lib.hid (hk2.blk HB.out (fun e => by have := (hlt _ e).2; omega))
          have HL2 := Lib.hid (HL.out.trans (hk2.below (fun k hk => (hlt k hk).1) (by simp; omega)))
          have hrow2 : OwC w2 w.heap.size v2 (acc ++ [⟨fn, line, 1⟩]) := owC_push (x := ⟨fn, line, 1⟩) hown_w2
          have hne2 : v2.ownBlock ≠ some wr.heap.size := fun e => by
            rcases hat_w2 with h | h
            · rw [h] at e; have := (hlt _ e).2; omega
            · rw [h] at e; injection e with e; simp at e; omega
          have HZ2 := Lib.hid hrow2
          have HN2 := Lib.hid (hnews_at w2 [.int .i64 pf, .int .i64 pl, .int .i64 ph] _ rfl)
          have HR2 := Lib.hid (World.ownsRow.alloc hrow2 (.cells #[.int .i64 pf, .int .i64 pl, .int .i64 ph] 106))
          have hlen2 : (acc ++ [(⟨fn, line, 1⟩ : Ct)]).length = acc.length + 1 := by simp
          have HS := Lib.hid hsz2
          obtain ⟨x0, x1, x2⟩ := box3 HB2.out
          have hwz : w.heap.size ≤ w2.heap.size := HL2.out.size
          clear hk2 hown_w2 hgrow_w2 hat_w2 hrow2 hsz2 HR HN HB HZ HL
          simp only [hlen2] at HR2
          go_wp2_with (at_builtin; refine wpList_append_own_at _ rfl _ _ 68 rfl (w.heap.size) 106 i0 _ 3 24 Try.underlying68 hi hz0 hz1 hz2 rfl (by decide) _ _ _ rfl HR2.out ⟨w2.heap.size, 0, none⟩ 1 1 [.int .i64 pf, .int .i64 pl, .int .i64 ph] rfl rfl HN2.out (by intro u' hu'; simp at hu'; rcases hu' with rfl | rfl | rfl <;> rfl) (by unfold maxLen; omega) (by omega) (by simp; omega) ?_; intro v3 w3 hown_w3 hgrow_w3 _ hat_w3; refine Hid.out ?_)
          refine Lib.hid ?_
          have hlt2 : ∀ g, v2.ownBlock = some g → w.heap.size ≤ g := fun g hg => (own_in HZ2.out hg).1
          have hk3 : But (fun k => v2.ownBlock = some k) _ w3 := But.of_grown hgrow_w3
          have HL3 := Lib.hid (((HL2.out).alloc hwz (.cells #[.int .i64 pf, .int .i64 pl, .int .i64 ph] 106)).trans (hk3.below (fun k hk => hlt2 k hk) (by simp; omega)))
          have hrow3 : OwC w3 w.heap.size v3 ((acc ++ [⟨fn, line, 1⟩]) ++ [⟨pf, pl, ph⟩]) := owC_push (x := ⟨pf, pl, ph⟩) (by rw [hlen2]; exact hown_w3)
          have HR3 := Lib.hid hrow3
          clear hk3 hown_w3 hgrow_w3 hat_w3 hrow3 HR2 HN2 HB2 HZ2 HL2 hlt2 hlt x0 x1 x2
          go_wp2
          refine ⟨⟨k + 1, (acc ++ [⟨fn, line, 1⟩]) ++ [⟨pf, pl, ph⟩], true, _, by omega, by go_num, rfl, rfl, HR3.out, ?_, by simp; omega, HL3.out⟩, by simp [intOf]; omega⟩
          rw [hacc, hdrop, hit_ins (by simp [gtC, *])]
          simp
        · have HN := Lib.hid (hnews_at (wr.alloc (.cells #[.int .i64 pf, .int .i64 pl, .int .i64 ph] 106)) [.int .i64 pf, .int .i64 pl, .int .i64 ph] (wr.heap.size + 1) (by simp))
          have HR := Lib.hid (World.ownsRow.alloc (World.ownsRow.alloc hrow (.cells #[.int .i64 pf, .int .i64 pl, .int .i64 ph] 106)) (.cells #[.int .i64 pf, .int .i64 pl, .int .i64 ph] 106))
          have HZ := Lib.hid hrow
          have HL := Lib.hid (bl_alloc2 hbel (.cells #[.int .i64 pf, .int .i64 pl, .int .i64 ph] 106) (.cells #[.int .i64 pf, .int .i64 pl, .int .i64 ph] 106) hbel.size)
          clear hrow hbel
          go_wp2_with (at_builtin; refine wpList_append_own_at _ rfl _ _ 68 rfl (w.heap.size) 106 i0 _ 3 24 Try.underlying68 hi hz0 hz1 hz2 rfl (by decide) _ _ _ rfl HR.out ⟨wr.heap.size + 1, 0, none⟩ 1 1 [.int .i64 pf, .int .i64 pl, .int .i64 ph] rfl rfl HN.out (by intro u' hu'; simp at hu'; rcases hu' with rfl | rfl | rfl <;> rfl) (by unfold maxLen; omega) (by omega) (by simp; omega) ?_; intro v2 w2 hown_w2 hgrow_w2 _ hat_w2; refine Hid.out ?_)
          refine Lib.hid ?_
          have hlt : ∀ g, o.ownBlock = some g → w.heap.size ≤ g := fun g hg => (own_in HZ.out hg).1
          have hk2 : But (fun k => o.ownBlock = some k) _ w2 := But.of_grown hgrow_w2
          have HL2 := Lib.hid (HL.out.trans (hk2.below (fun k hk => hlt k hk) (by simp; omega)))
          have hrow2 : OwC w2 w.heap.size v2 (acc ++ [⟨pf, pl, ph⟩]) := owC_push (x := ⟨pf, pl, ph⟩) hown_w2
          have HR2 := Lib.hid hrow2
          clear hk2 hown_w2 hgrow_w2 hat_w2 hrow2 HR HN HZ HL hlt
          go_wp2
          refine ⟨⟨k + 1, acc ++ [⟨pf, pl, ph⟩], true, _, by omega, by go_num, rfl, rfl, HR2.out, ?_, by simp; omega, HL2.out⟩, by simp [intOf]; omega⟩
          rw [hacc, hdrop, hit_pass (.inl rfl) (by simp [eqC, *])]
          simp
      · subst e1
        rcases Int.lt_trichotomy line pl with f1 | f1 | f1
        · have f2 : ¬ pl = line := by omega
          cases put <;> simp only [Bool.toNat_false, Bool.toNat_true] at hal
          · have HN := Lib.hid (hnews_at (wr.alloc (.cells #[.int .i64 fn, .int .i64 pl, .int .i64 ph] 106)) [.int .i64 fn, .int .i64 line, .int .i64 1] (wr.heap.size + 1) (by simp))
            have HR := Lib.hid (World.ownsRow.alloc (World.ownsRow.alloc hrow (.cells #[.int .i64 fn, .int .i64 pl, .int .i64 ph] 106)) (.cells #[.int .i64 fn, .int .i64 line, .int .i64 1] 106))
            have HB := Lib.hid (blk_next (wr.alloc (.cells #[.int .i64 fn, .int .i64 pl, .int .i64 ph] 106)) (Blk.new wr 106 #[.int .i64 fn, .int .i64 pl, .int .i64 ph]) (.cells #[.int .i64 fn, .int .i64 line, .int .i64 1] 106))
            have HZ := Lib.hid hrow
            have HL := Lib.hid (bl_alloc2 hbel (.cells #[.int .i64 fn, .int .i64 pl, .int .i64 ph] 106) (.cells #[.int .i64 fn, .int .i64 line, .int .i64 1] 106) hbel.size)
            clear hrow hbel
            go_wp2_with (at_builtin; refine wpList_append_own_at _ rfl _ _ 68 rfl (w.heap.size) 106 i0 _ 3 24 Try.underlying68 hi hz0 hz1 hz2 rfl (by decide) _ _ _ rfl HR.out ⟨wr.heap.size + 1, 0, none⟩ 1 1 [.int .i64 fn, .int .i64 line, .int .i64 1] rfl rfl HN.out (by intro u' hu'; simp at hu'; rcases hu' with rfl | rfl | rfl <;> rfl) (by unfold maxLen; omega) (by omega) (by simp; omega) ?_; intro v2 w2 hown_w2 hgrow_w2 _ hat_w2; refine Hid.out ?_)
            refine Lib.hid ?_
            have hsz2 := hgrow_w2.size
            have hlt : ∀ g, o.ownBlock = some g → w.heap.size ≤ g ∧ g < wr.heap.size := fun g hg => own_in HZ.out hg
            have hk2 : But (fun k => o.ownBlock = some k) _ w2 := But.of_grown hgrow_w2
            have HB2 := Lib.hid (hk2.blk HB.out (fun e => by have := (hlt _ e).2; omega))
            have HL2 := Lib.hid (HL.out.trans (hk2.below (fun k hk => (hlt k hk).1) (by simp; omega)))
            have hrow2 : OwC w2 w.heap.size v2 (acc ++ [⟨fn, line, 1⟩]) := owC_push (x := ⟨fn, line, 1⟩) hown_w2
            have hne2 : v2.ownBlock ≠ some wr.heap.size := fun e => by
              rcases hat_w2 with h | h
              · rw [h] at e; have := (hlt _ e).2; omega
              · rw [h] at e; injection e with e; simp at e; omega
            have HZ2 := Lib.hid hrow2
            have HN2 := Lib.hid (hnews_at w2 [.int .i64 fn, .int .i64 pl, .int .i64 ph] _ rfl)
            have HR2 := Lib.hid (World.ownsRow.alloc hrow2 (.cells #[.int .i64 fn, .int .i64 pl, .int .i64 ph] 106))
            have hlen2 : (acc ++ [(⟨fn, line, 1⟩ : Ct)]).length = acc.length + 1 := by simp
            have HS := Lib.hid hsz2
            obtain ⟨x0, x1, x2⟩ := box3 HB2.out
            have hwz : w.heap.size ≤ w2.heap.size := HL2.out.size
            clear hk2 hown_w2 hgrow_w2 hat_w2 hrow2 hsz2 HR HN HB HZ HL
            simp only [hlen2] at HR2
            go_wp2_with (at_builtin; refine wpList_append_own_at _ rfl _ _ 68 rfl (w.heap.size) 106 i0 _ 3 24 Try.underlying68 hi hz0 hz1 hz2 rfl (by decide) _ _ _ rfl HR2.out ⟨w2.heap.size, 0, none⟩ 1 1 [.int .i64 fn, .int .i64 pl, .int .i64 ph] rfl rfl HN2.out (by intro u' hu'; simp at hu'; rcases hu' with rfl | rfl | rfl <;> rfl) (by unfold maxLen; omega) (by omega) (by simp; omega) ?_; intro v3 w3 hown_w3 hgrow_w3 _ hat_w3; refine Hid.out ?_)
            refine Lib.hid ?_
            have hlt2 : ∀ g, v2.ownBlock = some g → w.heap.size ≤ g := fun g hg => (own_in HZ2.out hg).1
            have hk3 : But (fun k => v2.ownBlock = some k) _ w3 := But.of_grown hgrow_w3
            have HL3 := Lib.hid (((HL2.out).alloc hwz (.cells #[.int .i64 fn, .int .i64 pl, .int .i64 ph] 106)).trans (hk3.below (fun k hk => hlt2 k hk) (by simp; omega)))
            have hrow3 : OwC w3 w.heap.size v3 ((acc ++ [⟨fn, line, 1⟩]) ++ [⟨fn, pl, ph⟩]) := owC_push (x := ⟨fn, pl, ph⟩) (by rw [hlen2]; exact hown_w3)
            have HR3 := Lib.hid hrow3
            clear hk3 hown_w3 hgrow_w3 hat_w3 hrow3 HR2 HN2 HB2 HZ2 HL2 hlt2 hlt x0 x1 x2
            go_wp2
            refine ⟨⟨k + 1, (acc ++ [⟨fn, line, 1⟩]) ++ [⟨fn, pl, ph⟩], true, _, by omega, by go_num, rfl, rfl, HR3.out, ?_, by simp; omega, HL3.out⟩, by simp [intOf]; omega⟩
            rw [hacc, hdrop, hit_ins (by simp [gtC, *])]
            simp
          · have HN := Lib.hid (hnews_at (wr.alloc (.cells #[.int .i64 fn, .int .i64 pl, .int .i64 ph] 106)) [.int .i64 fn, .int .i64 pl, .int .i64 ph] (wr.heap.size + 1) (by simp))
            have HR := Lib.hid (World.ownsRow.alloc (World.ownsRow.alloc hrow (.cells #[.int .i64 fn, .int .i64 pl, .int .i64 ph] 106)) (.cells #[.int .i64 fn, .int .i64 pl, .int .i64 ph] 106))
            have HZ := Lib.hid hrow
            have HL := Lib.hid (bl_alloc2 hbel (.cells #[.int .i64 fn, .int .i64 pl, .int .i64 ph] 106) (.cells #[.int .i64 fn, .int .i64 pl, .int .i64 ph] 106) hbel.size)
            clear hrow hbel
            go_wp2_with (at_builtin; refine wpList_append_own_at _ rfl _ _ 68 rfl (w.heap.size) 106 i0 _ 3 24 Try.underlying68 hi hz0 hz1 hz2 rfl (by decide) _ _ _ rfl HR.out ⟨wr.heap.size + 1, 0, none⟩ 1 1 [.int .i64 fn, .int .i64 pl, .int .i64 ph] rfl rfl HN.out (by intro u' hu'; simp at hu'; rcases hu' with rfl | rfl | rfl <;> rfl) (by unfold maxLen; omega) (by omega) (by simp; omega) ?_; intro v2 w2 hown_w2 hgrow_w2 _ hat_w2; refine Hid.out ?_)
            refine Lib.hid ?_
            have hlt : ∀ g, o.ownBlock = some g → w.heap.size ≤ g := fun g hg => (own_in HZ.out hg).1
            have hk2 : But (fun k => o.ownBlock = some k) _ w2 := But.of_grown hgrow_w2
            have HL2 := Lib.hid (HL.out.trans (hk2.below (fun k hk => hlt k hk) (by simp; omega)))
            have hrow2 : OwC w2 w.heap.size v2 (acc ++ [⟨fn, pl, ph⟩]) := owC_push (x := ⟨fn, pl, ph⟩) hown_w2
            have HR2 := Lib.hid hrow2
            clear hk2 hown_w2 hgrow_w2 hat_w2 hrow2 HR HN HZ HL hlt
            go_wp2
            refine ⟨⟨k + 1, acc ++ [⟨fn, pl, ph⟩], true, _, by omega, by go_num, rfl, rfl, HR2.out, ?_, by simp; omega, HL2.out⟩, by simp [intOf]; omega⟩
            rw [hacc, hdrop, hit_pass (.inl rfl) (by simp [eqC, *])]
            simp
        · subst f1
          cases put <;> simp only [Bool.toNat_false, Bool.toNat_true] at hal
          · have wh : IntKind.i64.wrap (ph + 1) = ph + 1 := IntWalk.i64_in _ (by omega)
            have HN := Lib.hid (hnews_at (wr.alloc (.cells #[.int .i64 fn, .int .i64 line, .int .i64 (ph + 1)] 106)) [.int .i64 fn, .int .i64 line, .int .i64 (ph + 1)] (wr.heap.size + 1) (by simp))
            have HR := Lib.hid (World.ownsRow.alloc (World.ownsRow.alloc hrow (.cells #[.int .i64 fn, .int .i64 line, .int .i64 (ph + 1)] 106)) (.cells #[.int .i64 fn, .int .i64 line, .int .i64 (ph + 1)] 106))
            have HZ := Lib.hid hrow
            have HL := Lib.hid (bl_alloc2 hbel (.cells #[.int .i64 fn, .int .i64 line, .int .i64 (ph + 1)] 106) (.cells #[.int .i64 fn, .int .i64 line, .int .i64 (ph + 1)] 106) hbel.size)
            clear hrow hbel
            go_wp2_with (at_builtin; refine wpList_append_own_at _ rfl _ _ 68 rfl (w.heap.size) 106 i0 _ 3 24 Try.underlying68 hi hz0 hz1 hz2 rfl (by decide) _ _ _ rfl HR.out ⟨wr.heap.size + 1, 0, none⟩ 1 1 [.int .i64 fn, .int .i64 line, .int .i64 (ph + 1)] rfl rfl HN.out (by intro u' hu'; simp at hu'; rcases hu' with rfl | rfl | rfl <;> rfl) (by unfold maxLen; omega) (by omega) (by simp; omega) ?_; intro v2 w2 hown_w2 hgrow_w2 _ hat_w2; refine Hid.out ?_)
            refine Lib.hid ?_
            have hlt : ∀ g, o.ownBlock = some g → w.heap.size ≤ g := fun g hg => (own_in HZ.out hg).1
            have hk2 : But (fun k => o.ownBlock = some k) _ w2 := But.of_grown hgrow_w2
            have HL2 := Lib.hid (HL.out.trans (hk2.below (fun k hk => hlt k hk) (by simp; omega)))
            have hrow2 : OwC w2 w.heap.size v2 (acc ++ [⟨fn, line, ph + 1⟩]) := owC_push (x := ⟨fn, line, ph + 1⟩) hown_w2
            have HR2 := Lib.hid hrow2
            clear hk2 hown_w2 hgrow_w2 hat_w2 hrow2 HR HN HZ HL hlt
            go_wp2
            refine ⟨⟨k + 1, acc ++ [⟨fn, line, ph + 1⟩], true, _, by omega, by go_num, rfl, rfl, HR2.out, ?_, by simp; omega, HL2.out⟩, by simp [intOf]; omega⟩
            rw [hacc, hdrop, hit_eq (by simp [gtC, *]) (by simp [eqC, *])]
            simp
          · have wh : IntKind.i64.wrap (ph + 1) = ph + 1 := IntWalk.i64_in _ (by omega)
            have HN := Lib.hid (hnews_at (wr.alloc (.cells #[.int .i64 fn, .int .i64 line, .int .i64 (ph + 1)] 106)) [.int .i64 fn, .int .i64 line, .int .i64 (ph + 1)] (wr.heap.size + 1) (by simp))
            have HR := Lib.hid (World.ownsRow.alloc (World.ownsRow.alloc hrow (.cells #[.int .i64 fn, .int .i64 line, .int .i64 (ph + 1)] 106)) (.cells #[.int .i64 fn, .int .i64 line, .int .i64 (ph + 1)] 106))
            have HZ := Lib.hid hrow
            have HL := Lib.hid (bl_alloc2 hbel (.cells #[.int .i64 fn, .int .i64 line, .int .i64 (ph + 1)] 106) (.cells #[.int .i64 fn, .int .i64 line, .int .i64 (ph + 1)] 106) hbel.size)
            clear hrow hbel
            go_wp2_with (at_builtin; refine wpList_append_own_at _ rfl _ _ 68 rfl (w.heap.size) 106 i0 _ 3 24 Try.underlying68 hi hz0 hz1 hz2 rfl (by decide) _ _ _ rfl HR.out ⟨wr.heap.size + 1, 0, none⟩ 1 1 [.int .i64 fn, .int .i64 line, .int .i64 (ph + 1)] rfl rfl HN.out (by intro u' hu'; simp at hu'; rcases hu' with rfl | rfl | rfl <;> rfl) (by unfold maxLen; omega) (by omega) (by simp; omega) ?_; intro v2 w2 hown_w2 hgrow_w2 _ hat_w2; refine Hid.out ?_)
            refine Lib.hid ?_
            have hlt : ∀ g, o.ownBlock = some g → w.heap.size ≤ g := fun g hg => (own_in HZ.out hg).1
            have hk2 : But (fun k => o.ownBlock = some k) _ w2 := But.of_grown hgrow_w2
            have HL2 := Lib.hid (HL.out.trans (hk2.below (fun k hk => hlt k hk) (by simp; omega)))
            have hrow2 : OwC w2 w.heap.size v2 (acc ++ [⟨fn, line, ph + 1⟩]) := owC_push (x := ⟨fn, line, ph + 1⟩) hown_w2
            have HR2 := Lib.hid hrow2
            clear hk2 hown_w2 hgrow_w2 hat_w2 hrow2 HR HN HZ HL hlt
            go_wp2
            refine ⟨⟨k + 1, acc ++ [⟨fn, line, ph + 1⟩], true, _, by omega, by go_num, rfl, rfl, HR2.out, ?_, by simp; omega, HL2.out⟩, by simp [intOf]; omega⟩
            rw [hacc, hdrop, hit_eq (by simp [gtC, *]) (by simp [eqC, *])]
            simp
        · have f2 : ¬ pl = line := by omega
          have f3 : ¬ line < pl := by omega
          cases put <;> simp only [Bool.toNat_false, Bool.toNat_true] at hal
          · have HN := Lib.hid (hnews_at (wr.alloc (.cells #[.int .i64 fn, .int .i64 pl, .int .i64 ph] 106)) [.int .i64 fn, .int .i64 pl, .int .i64 ph] (wr.heap.size + 1) (by simp))
            have HR := Lib.hid (World.ownsRow.alloc (World.ownsRow.alloc hrow (.cells #[.int .i64 fn, .int .i64 pl, .int .i64 ph] 106)) (.cells #[.int .i64 fn, .int .i64 pl, .int .i64 ph] 106))
            have HZ := Lib.hid hrow
            have HL := Lib.hid (bl_alloc2 hbel (.cells #[.int .i64 fn, .int .i64 pl, .int .i64 ph] 106) (.cells #[.int .i64 fn, .int .i64 pl, .int .i64 ph] 106) hbel.size)
            clear hrow hbel
            go_wp2_with (at_builtin; refine wpList_append_own_at _ rfl _ _ 68 rfl (w.heap.size) 106 i0 _ 3 24 Try.underlying68 hi hz0 hz1 hz2 rfl (by decide) _ _ _ rfl HR.out ⟨wr.heap.size + 1, 0, none⟩ 1 1 [.int .i64 fn, .int .i64 pl, .int .i64 ph] rfl rfl HN.out (by intro u' hu'; simp at hu'; rcases hu' with rfl | rfl | rfl <;> rfl) (by unfold maxLen; omega) (by omega) (by simp; omega) ?_; intro v2 w2 hown_w2 hgrow_w2 _ hat_w2; refine Hid.out ?_)
            refine Lib.hid ?_
            have hlt : ∀ g, o.ownBlock = some g → w.heap.size ≤ g := fun g hg => (own_in HZ.out hg).1
            have hk2 : But (fun k => o.ownBlock = some k) _ w2 := But.of_grown hgrow_w2
            have HL2 := Lib.hid (HL.out.trans (hk2.below (fun k hk => hlt k hk) (by simp; omega)))
            have hrow2 : OwC w2 w.heap.size v2 (acc ++ [⟨fn, pl, ph⟩]) := owC_push (x := ⟨fn, pl, ph⟩) hown_w2
            have HR2 := Lib.hid hrow2
            clear hk2 hown_w2 hgrow_w2 hat_w2 hrow2 HR HN HZ HL hlt
            go_wp2
            refine ⟨⟨k + 1, acc ++ [⟨fn, pl, ph⟩], false, _, by omega, by go_num, rfl, rfl, HR2.out, ?_, by simp; omega, HL2.out⟩, by simp [intOf]; omega⟩
            rw [hacc, hdrop, hit_pass (.inr (by simp [gtC, *])) (by simp [eqC, *])]
            simp
          · have HN := Lib.hid (hnews_at (wr.alloc (.cells #[.int .i64 fn, .int .i64 pl, .int .i64 ph] 106)) [.int .i64 fn, .int .i64 pl, .int .i64 ph] (wr.heap.size + 1) (by simp))
            have HR := Lib.hid (World.ownsRow.alloc (World.ownsRow.alloc hrow (.cells #[.int .i64 fn, .int .i64 pl, .int .i64 ph] 106)) (.cells #[.int .i64 fn, .int .i64 pl, .int .i64 ph] 106))
            have HZ := Lib.hid hrow
            have HL := Lib.hid (bl_alloc2 hbel (.cells #[.int .i64 fn, .int .i64 pl, .int .i64 ph] 106) (.cells #[.int .i64 fn, .int .i64 pl, .int .i64 ph] 106) hbel.size)
            clear hrow hbel
            go_wp2_with (at_builtin; refine wpList_append_own_at _ rfl _ _ 68 rfl (w.heap.size) 106 i0 _ 3 24 Try.underlying68 hi hz0 hz1 hz2 rfl (by decide) _ _ _ rfl HR.out ⟨wr.heap.size + 1, 0, none⟩ 1 1 [.int .i64 fn, .int .i64 pl, .int .i64 ph] rfl rfl HN.out (by intro u' hu'; simp at hu'; rcases hu' with rfl | rfl | rfl <;> rfl) (by unfold maxLen; omega) (by omega) (by simp; omega) ?_; intro v2 w2 hown_w2 hgrow_w2 _ hat_w2; refine Hid.out ?_)
            refine Lib.hid ?_
            have hlt : ∀ g, o.ownBlock = some g → w.heap.size ≤ g := fun g hg => (own_in HZ.out hg).1
            have hk2 : But (fun k => o.ownBlock = some k) _ w2 := But.of_grown hgrow_w2
            have HL2 := Lib.hid (HL.out.trans (hk2.below (fun k hk => hlt k hk) (by simp; omega)))
            have hrow2 : OwC w2 w.heap.size v2 (acc ++ [⟨fn, pl, ph⟩]) := owC_push (x := ⟨fn, pl, ph⟩) hown_w2
            have HR2 := Lib.hid hrow2
            clear hk2 hown_w2 hgrow_w2 hat_w2 hrow2 HR HN HZ HL hlt
            go_wp2
            refine ⟨⟨k + 1, acc ++ [⟨fn, pl, ph⟩], true, _, by omega, by go_num, rfl, rfl, HR2.out, ?_, by simp; omega, HL2.out⟩, by simp [intOf]; omega⟩
            rw [hacc, hdrop, hit_pass (.inl rfl) (by simp [eqC, *])]
            simp
      · have e2 : ¬ pf = fn := by omega
        have e3 : ¬ fn < pf := by omega
        cases put <;> simp only [Bool.toNat_false, Bool.toNat_true] at hal
        · have HN := Lib.hid (hnews_at (wr.alloc (.cells #[.int .i64 pf, .int .i64 pl, .int .i64 ph] 106)) [.int .i64 pf, .int .i64 pl, .int .i64 ph] (wr.heap.size + 1) (by simp))
          have HR := Lib.hid (World.ownsRow.alloc (World.ownsRow.alloc hrow (.cells #[.int .i64 pf, .int .i64 pl, .int .i64 ph] 106)) (.cells #[.int .i64 pf, .int .i64 pl, .int .i64 ph] 106))
          have HZ := Lib.hid hrow
          have HL := Lib.hid (bl_alloc2 hbel (.cells #[.int .i64 pf, .int .i64 pl, .int .i64 ph] 106) (.cells #[.int .i64 pf, .int .i64 pl, .int .i64 ph] 106) hbel.size)
          clear hrow hbel
          go_wp2_with (at_builtin; refine wpList_append_own_at _ rfl _ _ 68 rfl (w.heap.size) 106 i0 _ 3 24 Try.underlying68 hi hz0 hz1 hz2 rfl (by decide) _ _ _ rfl HR.out ⟨wr.heap.size + 1, 0, none⟩ 1 1 [.int .i64 pf, .int .i64 pl, .int .i64 ph] rfl rfl HN.out (by intro u' hu'; simp at hu'; rcases hu' with rfl | rfl | rfl <;> rfl) (by unfold maxLen; omega) (by omega) (by simp; omega) ?_; intro v2 w2 hown_w2 hgrow_w2 _ hat_w2; refine Hid.out ?_)
          refine Lib.hid ?_
          have hlt : ∀ g, o.ownBlock = some g → w.heap.size ≤ g := fun g hg => (own_in HZ.out hg).1
          have hk2 : But (fun k => o.ownBlock = some k) _ w2 := But.of_grown hgrow_w2
          have HL2 := Lib.hid (HL.out.trans (hk2.below (fun k hk => hlt k hk) (by simp; omega)))
          have hrow2 : OwC w2 w.heap.size v2 (acc ++ [⟨pf, pl, ph⟩]) := owC_push (x := ⟨pf, pl, ph⟩) hown_w2
          have HR2 := Lib.hid hrow2
          clear hk2 hown_w2 hgrow_w2 hat_w2 hrow2 HR HN HZ HL hlt
          go_wp2
          refine ⟨⟨k + 1, acc ++ [⟨pf, pl, ph⟩], false, _, by omega, by go_num, rfl, rfl, HR2.out, ?_, by simp; omega, HL2.out⟩, by simp [intOf]; omega⟩
          rw [hacc, hdrop, hit_pass (.inr (by simp [gtC, *])) (by simp [eqC, *])]
          simp
        · have HN := Lib.hid (hnews_at (wr.alloc (.cells #[.int .i64 pf, .int .i64 pl, .int .i64 ph] 106)) [.int .i64 pf, .int .i64 pl, .int .i64 ph] (wr.heap.size + 1) (by simp))
          have HR := Lib.hid (World.ownsRow.alloc (World.ownsRow.alloc hrow (.cells #[.int .i64 pf, .int .i64 pl, .int .i64 ph] 106)) (.cells #[.int .i64 pf, .int .i64 pl, .int .i64 ph] 106))
          have HZ := Lib.hid hrow
          have HL := Lib.hid (bl_alloc2 hbel (.cells #[.int .i64 pf, .int .i64 pl, .int .i64 ph] 106) (.cells #[.int .i64 pf, .int .i64 pl, .int .i64 ph] 106) hbel.size)
          clear hrow hbel
          go_wp2_with (at_builtin; refine wpList_append_own_at _ rfl _ _ 68 rfl (w.heap.size) 106 i0 _ 3 24 Try.underlying68 hi hz0 hz1 hz2 rfl (by decide) _ _ _ rfl HR.out ⟨wr.heap.size + 1, 0, none⟩ 1 1 [.int .i64 pf, .int .i64 pl, .int .i64 ph] rfl rfl HN.out (by intro u' hu'; simp at hu'; rcases hu' with rfl | rfl | rfl <;> rfl) (by unfold maxLen; omega) (by omega) (by simp; omega) ?_; intro v2 w2 hown_w2 hgrow_w2 _ hat_w2; refine Hid.out ?_)
          refine Lib.hid ?_
          have hlt : ∀ g, o.ownBlock = some g → w.heap.size ≤ g := fun g hg => (own_in HZ.out hg).1
          have hk2 : But (fun k => o.ownBlock = some k) _ w2 := But.of_grown hgrow_w2
          have HL2 := Lib.hid (HL.out.trans (hk2.below (fun k hk => hlt k hk) (by simp; omega)))
          have hrow2 : OwC w2 w.heap.size v2 (acc ++ [⟨pf, pl, ph⟩]) := owC_push (x := ⟨pf, pl, ph⟩) hown_w2
          have HR2 := Lib.hid hrow2
          clear hk2 hown_w2 hgrow_w2 hat_w2 hrow2 HR HN HZ HL hlt
          go_wp2
          refine ⟨⟨k + 1, acc ++ [⟨pf, pl, ph⟩], true, _, by omega, by go_num, rfl, rfl, HR2.out, ?_, by simp; omega, HL2.out⟩, by simp [intOf]; omega⟩
          rw [hacc, hdrop, hit_pass (.inl rfl) (by simp [eqC, *])]
          simp
    · have hkk : k = ps.length := by omega
      subst hkk
      clear h
      rw [List.drop_length] at hacc
      cases put <;> simp only [Bool.toNat_false, Bool.toNat_true] at hal
      · have HN := Lib.hid (hnews_at wr [.int .i64 fn, .int .i64 line, .int .i64 1] _ rfl)
        have HR := Lib.hid (World.ownsRow.alloc hrow (.cells #[.int .i64 fn, .int .i64 line, .int .i64 1] 106))
        have HZ := Lib.hid hrow
        have HL := Lib.hid (hbel.alloc hbel.size (.cells #[.int .i64 fn, .int .i64 line, .int .i64 1] 106))
        have hwr := hbel.size
        clear hrow hbel
        go_wp2_with (at_builtin; refine wpList_append_own_at _ rfl _ _ 68 rfl (w.heap.size) 106 i0 _ 3 24 Try.underlying68 hi hz0 hz1 hz2 rfl (by decide) _ _ _ rfl HR.out ⟨wr.heap.size, 0, none⟩ 1 1 [.int .i64 fn, .int .i64 line, .int .i64 1] rfl rfl HN.out (by intro u' hu'; simp at hu'; rcases hu' with rfl | rfl | rfl <;> rfl) (by unfold maxLen; omega) (by omega) (by simp; omega) ?_; intro v2 w2 hown_w2 hgrow_w2 _ hat_w2; refine Hid.out ?_)
        refine Lib.hid ?_
        have hlt : ∀ g, o.ownBlock = some g → w.heap.size ≤ g := fun g hg => (own_in HZ.out hg).1
        have hk2 : But (fun k => o.ownBlock = some k) _ w2 := But.of_grown hgrow_w2
        have HL2 := Lib.hid (HL.out.trans (hk2.below (fun k hk => hlt k hk) (by simp; omega)))
        have hrow2 : OwC w2 w.heap.size v2 (acc ++ [⟨fn, line, 1⟩]) := owC_push (x := ⟨fn, line, 1⟩) hown_w2
        have HR2 := Lib.hid hrow2
        clear hk2 hown_w2 hgrow_w2 hat_w2 hrow2 HR HN HZ HL hlt
        go_wp2
        go_ret
        refine ⟨_, rfl, ?_, HL2.out⟩
        rw [hacc]
        exact HR2.out
      · go_wp2
        go_ret
        refine ⟨_, rfl, ?_, hbel⟩
        rw [hacc]
        simpa [hitGo] using hrow
end Go.Proofs.Ytchlolfdinakiaa.Q
