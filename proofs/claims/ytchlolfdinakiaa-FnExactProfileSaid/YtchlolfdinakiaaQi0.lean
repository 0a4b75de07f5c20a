/- Counts in a map: tally, what the map holds, what has been taken out of it. -/
import Derived.Test.YtchlolfdinakiaaQz
import Derived.Maps.OwnSet
namespace Go.Proofs.Ytchlolfdinakiaa.Q
open Go.RowKit Go.Maps
open Go.Maps (Keyed)
/-- How many records of lines there are at a place. -/
def tally (f l : Int) : List Rc → Int
  | [] => 0
  | x :: r => (if x.kind = 1 ∧ x.fn = f ∧ x.line = l then 1 else 0) + tally f l r
theorem tally_app (f l : Int) : ∀ (a b : List Rc), tally f l (a ++ b) = tally f l a + tally f l b
  | [], b => by simp [tally]
  | x :: a, b => by simp only [List.cons_append, tally, tally_app f l a b]; omega
theorem tally_bd (f l : Int) : ∀ (a : List Rc), 0 ≤ tally f l a ∧ tally f l a ≤ a.length
  | [] => by simp [tally]
  | x :: a => by have := tally_bd f l a; simp only [tally, List.length_cons]; split <;> omega
theorem tally_step (f l : Int) (rs : List Rc) (k : Nat) (x : Rc) (h : rs[k]? = some x) : tally f l (rs.take (k + 1)) = tally f l (rs.take k) + (if x.kind = 1 ∧ x.fn = f ∧ x.line = l then 1 else 0) := by
  rw [List.take_add_one, h, tally_app]
  simp [tally]
/-- D holds just these counts. -/
structure Cnt {H : Type} (D : DataW H) (rs : List Rc) : Prop where
  has : ∀ f l, i64 f → i64 l → Maps.has D (kf f l) = decide (0 < tally f l rs)
  at_ : ∀ f l, i64 f → i64 l → D.atKey (kf f l) (.lit (.int .i64 0)) = .lit (.int .i64 (tally f l rs))
theorem kf_inj {f l f' l' : Int} (hf : i64 f) (hl : i64 l) (hf' : i64 f') (hl' : i64 l') (h : kf f l = kf f' l') : f = f' ∧ l = l' := by
  have h1 := key104 hf hl
  have h2 := key104 hf' hl'
  rw [← h] at h2
  have := law104.inj h1 h2
  simpa using this
theorem cnt_step {H : Type} {D : DataW H} {rs : List Rc} {k : Nat} {x : Rc} (hm : IsMap D) (h : Cnt D (rs.take k)) (hx : rs[k]? = some x) (hk : x.kind = 1) (hf : i64 x.fn) (hl : i64 x.line) :
    Cnt (D.put (kf x.fn x.line) (.lit (.int .i64 (tally x.fn x.line (rs.take k) + 1)))) (rs.take (k + 1)) := by
  have hkl : WideAt.IsKeyLit (kf x.fn x.line) := law104.key (key104 hf hl)
  have b0 := fun f l => tally_bd f l (rs.take k)
  refine ⟨fun f l i j => ?_, fun f l i j => ?_⟩
  · rw [tally_step f l rs k x hx]
    by_cases e : kf f l = kf x.fn x.line
    · obtain ⟨rfl, rfl⟩ := kf_inj i j hf hl e
      rw [has_put_same hm hkl]
      have := b0 x.fn x.line
      simp [hk]; omega
    · rw [has_put_other e, h.has f l i j]
      have : ¬ (x.kind = 1 ∧ x.fn = f ∧ x.line = l) := fun hh => e (by rw [hh.2.1, hh.2.2])
      rw [if_neg this]; simp
  · rw [tally_step f l rs k x hx]
    by_cases e : kf f l = kf x.fn x.line
    · obtain ⟨rfl, rfl⟩ := kf_inj i j hf hl e
      rw [atKey_put_same hm hkl]
      simp [hk]
    · rw [atKey_put_other e, h.at_ f l i j]
      have : ¬ (x.kind = 1 ∧ x.fn = f ∧ x.line = l) := fun hh => e (by rw [hh.2.1, hh.2.2])
      rw [if_neg this]; simp
theorem cnt_stay {H : Type} {D : DataW H} {rs : List Rc} {k : Nat} {x : Rc} (h : Cnt D (rs.take k)) (hx : rs[k]? = some x) (hk : ¬ x.kind = 1) : Cnt D (rs.take (k + 1)) := by
  refine ⟨fun f l i j => ?_, fun f l i j => ?_⟩
  · rw [tally_step f l rs k x hx, if_neg (fun hh => hk hh.1), h.has f l i j]; simp
  · rw [tally_step f l rs k x hx, if_neg (fun hh => hk hh.1), h.at_ f l i j]; simp
theorem ranges_of {H : Type} {P : Program} {k : TypeId} {R : Value → Option (DataW H × List MemPlace)} {w w' : World} {b r n : Nat} {D : DataW H} {left : Lit → Bool} {cnt : Nat} (h : w.ranges P k R b r n D left cnt)
    (h1 : w'.heap[b]? = w.heap[b]?) (h2 : w'.heap[r]? = w.heap[r]?) : w'.ranges P k R b r n D left cnt := by
  obtain ⟨es, clock, since, seen, c0, a1, a2, a3, a4, a5, a6⟩ := h
  exact ⟨es, clock, since, seen, c0, h1.trans a1, a2, a3, a4, h2.trans a5, a6⟩
theorem ranges_lt {H : Type} {P : Program} {k : TypeId} {R : Value → Option (DataW H × List MemPlace)} {w : World} {b r n : Nat} {D : DataW H} {left : Lit → Bool} {cnt : Nat} (h : w.ranges P k R b r n D left cnt) : b < w.heap.size ∧ r < w.heap.size := by
  obtain ⟨es, clock, since, seen, c0, a1, a2, a3, a4, a5, a6⟩ := h
  exact ⟨(Array.getElem?_eq_some_iff.1 a1).1, (Array.getElem?_eq_some_iff.1 a5).1⟩
/-- What has been taken out of the map. -/
structure Done {H : Type} (acc : List Ct) (D : DataW H) (left : Lit → Bool) : Prop where
  each : ∀ x ∈ acc, i64 x.fn ∧ i64 x.line ∧ left (kf x.fn x.line) = false ∧ Maps.has D (kf x.fn x.line) = true ∧ D.atKey (kf x.fn x.line) (.lit (.int .i64 0)) = .lit (.int .i64 x.hits)
  once : acc.Pairwise fun a b => ¬ (a.fn = b.fn ∧ a.line = b.line)
  all : ∀ f l, i64 f → i64 l → Maps.has D (kf f l) = true → left (kf f l) = false → ∃ x ∈ acc, x.fn = f ∧ x.line = l
theorem Done.start {H : Type} (D : DataW H) : Done [] D (Maps.has D) := ⟨by simp, List.Pairwise.nil, fun f l _ _ h1 h2 => by rw [h1] at h2; cases h2⟩
theorem Done.step {H : Type} {acc : List Ct} {D : DataW H} {left : Lit → Bool} (h : Done acc D left) {f l n : Int} (hf : i64 f) (hl : i64 l) (hlx : left (kf f l) = true) (hat : ∀ z, D.atKey (kf f l) z = .lit (.int .i64 n)) :
    Done (acc ++ [⟨f, l, n⟩]) D (fun z => left z && !z.sameKey (kf f l)) := by
  have hkl : WideAt.IsKeyLit (kf f l) := law104.key (key104 hf hl)
  refine ⟨fun x hx => ?_, ?_, fun f' l' i j hh hn => ?_⟩
  · rcases List.mem_append.1 hx with hx | hx
    · obtain ⟨a1, a2, a3, a4, a5⟩ := h.each x hx
      exact ⟨a1, a2, by simp [a3], a4, a5⟩
    · rw [List.mem_singleton.1 hx]
      exact ⟨hf, hl, by simp [WideAt.sameKey_self hkl], has_true_of_atKey hat, hat _⟩
  · rw [List.pairwise_append]
    refine ⟨h.once, by simp, fun a ha b hb => ?_⟩
    rw [List.mem_singleton.1 hb]
    rintro ⟨e1, e2⟩
    simp only at e1 e2
    have := (h.each a ha).2.2.1
    rw [e1, e2, hlx] at this
    cases this
  · simp only [Bool.and_eq_false_iff, Bool.not_eq_false'] at hn
    rcases hn with hn | hn
    · obtain ⟨x, hx, e⟩ := h.all f' l' i j hh hn
      exact ⟨x, List.mem_append_left _ hx, e⟩
    · have e : kf f' l' = kf f l := by
        by_cases e : kf f' l' = kf f l
        · exact e
        · rw [sameKey_ne e] at hn; cases hn
      obtain ⟨rfl, rfl⟩ := kf_inj i j hf hl e
      exact ⟨⟨f', l', n⟩, by simp, rfl, rfl⟩
end Go.Proofs.Ytchlolfdinakiaa.Q
