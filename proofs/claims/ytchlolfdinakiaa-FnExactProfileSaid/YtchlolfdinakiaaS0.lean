/- Words for slices: a slice that reads as a list of records; a block that is known whole. -/
import Derived.Test.YtchlolfdinakiaaV3
import Derived.Laws.MakeOwn
import Derived.LoopTactic
import Derived.Deep.Draws
import Derived.Laws.Rows
namespace Go.Proofs.Ytchlolfdinakiaa
open Go.RowKit

/-- The slice at address A reads as the records xs, each of sz cells; nothing is said of the address where xs is empty. 'lo': from this block on. -/
def RdL {α : Type} (enc : α → List Value) (sz : Nat) (w : World) (lo : Nat) (A : Option Addr) (xs : List α) : Prop :=
  0 < xs.length → ∃ b off, A = some ⟨b, off, none⟩ ∧ lo ≤ b ∧ b < w.heap.size ∧ ∀ i x, xs[i]? = some x → ∀ j u, (enc x)[j]? = some u → w.cell? ⟨b, off + i * sz + j, none⟩ = some u

section
variable {α : Type} {enc : α → List Value} {sz lo : Nat} {w w' : World} {A : Option Addr} {xs : List α}
theorem RdL.keep (h : RdL enc sz w lo A xs) (hs : w.heap.size ≤ w'.heap.size) (hk : ∀ b o, b < w.heap.size → w'.cell? ⟨b, o, none⟩ = w.cell? ⟨b, o, none⟩) : RdL enc sz w' lo A xs := fun h0 => by
  obtain ⟨b, off, e, hlo, hb, hc⟩ := h h0
  exact ⟨b, off, e, hlo, by omega, fun i x hx j u hu => (hk b _ hb).trans (hc i x hx j u hu)⟩
theorem RdL.below (h : RdL enc sz w lo A xs) (hb : Below w.heap.size w w') : RdL enc sz w' lo A xs := h.keep hb.size fun b o hlt => hb.cell (p := ⟨b, o, none⟩) hlt
theorem RdL.alloc (h : RdL enc sz w lo A xs) (o : Obj) : RdL enc sz (w.alloc o) lo A xs := h.below ((Below.refl _ _).alloc (Nat.le_refl _) o)
theorem RdL.drew (h : RdL enc sz w lo A xs) : RdL enc sz w.drew lo A xs := h
theorem RdL.drewN (h : RdL enc sz w lo A xs) (n : Nat) : RdL enc sz (w.drewN n) lo A xs := h
/-- Below a number that lies above the slice's block nothing has turned. -/
theorem RdL.below_lt {B : Nat} (h : RdL enc sz w lo A xs) (hb : Below B w w') (hB : ∀ b off, A = some ⟨b, off, none⟩ → b < B) : RdL enc sz w' lo A xs := fun h0 => by
  obtain ⟨b, off, e, hlo, hlt, hc⟩ := h h0
  have hbB := hB b off e
  exact ⟨b, off, e, hlo, Nat.lt_of_lt_of_le hlt hb.size, fun i x hx j u hu => (hb.cell (p := ⟨b, _, none⟩) hbB).trans (hc i x hx j u hu)⟩
theorem RdL.nil : RdL enc sz w lo A ([] : List α) := fun h => absurd h (by simp)
theorem RdL.lower {lo' : Nat} (h : RdL enc sz w lo A xs) (hl : lo' ≤ lo) : RdL enc sz w lo' A xs := fun h0 => by
  obtain ⟨b, off, e, hlo, r⟩ := h h0
  exact ⟨b, off, e, by omega, r⟩
theorem RdL.at_ (h : RdL enc sz w lo A xs) {k : Nat} (hk : k < xs.length) : ∃ b off, A = some ⟨b, off, none⟩ ∧ lo ≤ b ∧ b < w.heap.size ∧ ∀ j u, (enc xs[k])[j]? = some u → w.cell? ⟨b, off + k * sz + j, none⟩ = some u := by
  obtain ⟨b, off, e, hlo, hb, hc⟩ := h (by omega)
  exact ⟨b, off, e, hlo, hb, fun j u hu => hc k _ (List.getElem?_eq_getElem hk) j u hu⟩
end

/-- A block known whole. -/
def Blk (w : World) (g : Nat) (t : TypeId) (cs : Array Value) : Prop := w.heap[g]? = some (.cells cs t (0, 0))

section
variable {w w' : World} {g : Nat} {t : TypeId} {cs : Array Value}
theorem Blk.lt (h : Blk w g t cs) : g < w.heap.size := by
  unfold Blk at h
  exact (Array.getElem?_eq_some_iff.1 h).1
theorem Blk.cell (h : Blk w g t cs) (i : Nat) : w.cell? ⟨g, i, none⟩ = cs[i]? := cell_of_row w g i cs t (0, 0) h
theorem Blk.frozen (h : Blk w g t cs) (i : Nat) : w.frozen? ⟨g, i, none⟩ = false := by
  unfold Blk at h
  simp [World.frozen?, h]
theorem Blk.new (w : World) (t : TypeId) (cs : Array Value) : Blk (w.alloc (.cells cs t)) w.heap.size t cs := by
  unfold Blk World.alloc
  simp
theorem Blk.alloc (h : Blk w g t cs) (o : Obj) : Blk (w.alloc o) g t cs := (Below.heap_alloc w o g h.lt).trans h
theorem Blk.set_ (h : Blk w g t cs) (i : Nat) (u : Value) : Blk (w.setCell ⟨g, i, none⟩ u) g t (cs.setIfInBounds i u) := by
  unfold Blk at h ⊢
  simp [World.setCell, Array.getElem?_modify, h]
theorem Blk.far (h : Blk w g t cs) {p : Addr} (hp : g ≠ p.block) (u : Value) : Blk (w.setCell p u) g t cs := (Below.heap_setCell w p u g hp).trans h
theorem Blk.below {B : Nat} (h : Blk w g t cs) (hb : Below B w w') (hg : g < B) : Blk w' g t cs := (hb.block g hg).trans h
end

theorem cut_toNat (i : Nat) : ((i : Int)).toNat = i := Int.toNat_natCast i

def encS (s : ByteArray) : List Value := [.string s]
theorem rdS_at {w : World} {lo : Nat} {A : Option Addr} {xs : List ByteArray} (h : RdL encS 1 w lo A xs) {k : Nat} (hk : k < xs.length) :
    ∃ b off, A = some ⟨b, off, none⟩ ∧ lo ≤ b ∧ b < w.heap.size ∧ w.cell? ⟨b, off + k, none⟩ = some (.string xs[k]) := by
  obtain ⟨b, off, e, hlo, hb, hc⟩ := h.at_ hk
  exact ⟨b, off, e, hlo, hb, by simpa using hc 0 (.string xs[k]) rfl⟩

/-- What the strings weigh. -/
def totS : List ByteArray → Nat
  | [] => 0
  | s :: r => s.size + totS r
theorem totS_take (xs : List ByteArray) (k : Nat) (hk : k < xs.length) : totS (xs.take (k + 1)) = totS (xs.take k) + xs[k].size := by
  induction xs generalizing k with
  | nil => simp at hk
  | cons x r ih =>
    cases k with
    | zero => simp [totS]
    | succ k => simp only [List.take_succ_cons, totS, List.getElem_cons_succ]; rw [ih k (by simpa using hk)]; omega
theorem totS_le (xs : List ByteArray) (k : Nat) : totS (xs.take k) ≤ totS xs := by
  induction xs generalizing k with
  | nil => simp
  | cons x r ih => cases k with
    | zero => simp [totS]
    | succ k => simp only [List.take_succ_cons, totS]; have := ih k; omega
def negOr (t : Int) : Int := if t < 0 then -1 else t
def szS (xs : List ByteArray) (left : Int) : Int := negOr (left - xs.length - totS xs)

theorem szs_any (A : Option Addr) (c : Nat) (xs : List ByteArray) (left : Int) (w : World) (lo : Nat) (h : RdL encS 1 w lo A xs) (hx : ∀ s ∈ xs, s.size ≤ maxLen) (hn : xs.length ≤ maxLen) (h0 : 0 ≤ left) (h1 : left ≤ 1048576) :
    Calls Try.prog 47 #[.slice A xs.length c, .int .i64 left] w fun e w' => e = .returned (.int .i64 (szS xs left)) ∧ w = w' := by
  unfold maxLen at hx hn
  by_cases hl : left - xs.length < 0
  · go_enter Try.func47, Try.ntmps47
    go_wp2
    go_ret
    refine ⟨?_, rfl⟩
    unfold szS negOr
    rw [if_pos (by omega)]; rfl
  · go_enter Try.func47, Try.ntmps47
    go_wp2
    go_loop [1, 5] (fun l i => ∃ k : Nat, k ≤ xs.length ∧ i = .int .i64 k ∧ l = .int .i64 (left - xs.length - totS (xs.take k)) ∧ 0 ≤ left - xs.length - totS (xs.take k)) (fun _ i => xs.length - (intOf i).toNat)
    case atStart => exact ⟨0, Nat.zero_le _, rfl, by simp [totS], by simp [totS]; omega⟩
    case round =>
      obtain ⟨k, hk, rfl, rfl, hp⟩ := hrel
      by_cases hlt : k < xs.length
      · obtain ⟨b, off, rfl, hlo, hb, hc⟩ := rdS_at h hlt
        have hsz := hx _ (List.getElem_mem hlt)
        have ht := Lib.hid (totS_take xs k hlt)
        have hle := totS_le xs (k + 1)
        clear hx h
        go_wp2
        · go_ret
          have ht' := ht.out
          refine ⟨?_, rfl⟩
          unfold szS negOr
          rw [if_pos (by omega)]; rfl
        · have ht' := ht.out
          refine ⟨⟨k + 1, by omega, by go_num, ?_, by omega⟩, by simp [intOf]; omega⟩
          rw [ht']; push_cast; go_num
      · have hkk : k = xs.length := by omega
        subst hkk
        clear hx h
        rw [List.take_length] at hp
        go_wp2
        go_ret
        refine ⟨?_, rfl⟩
        unfold szS negOr
        rw [if_neg (by omega)]; rfl

end Go.Proofs.Ytchlolfdinakiaa
